/-
  hash.Hex and the statements' own hex, walked: two signs a byte.
-/
import Derived.Test.YtmgnigofilkfmaaHashSum
import Derived.Test.YtmgnigofilkfmaaShaRuns
namespace Go.Proofs.Ytmgnigofilkfmaa
set_option maxRecDepth 100000
open Go Go.RowKit
def signs : List UInt8 := [48, 49, 50, 51, 52, 53, 54, 55, 56, 57, 97, 98, 99, 100, 101, 102]
theorem u8_lt (b : UInt8) : b.toNat < 256 := b.toNat_lt
theorem sign_at (j : Nat) (h : j < 16) : ub signs j = hexChar j := by
  have : ∀ j : Fin 16, ub signs j.val = hexChar j.val := by decide
  exact this ⟨j, h⟩
theorem bin_shr4 {P : Program} {w : World} (t : TypeId) (b : UInt8) : (binOp .shr t (.int .u8 (u8i b)) (.int .u64 4)).run P w = .ok (.int .u8 ((b.toNat / 16 : Nat) : Int)) w := by
  have h2 : min (4 : Int).toNat IntKind.u8.bits = 4 := by rfl
  have e : (u8i b).fdiv (2 ^ 4) = ((b.toNat / 16 : Nat) : Int) := by
    unfold u8i
    rw [Int.fdiv_eq_ediv_of_nonneg _ (by decide)]
    omega
  simp only [binOp, Op.shift, if_neg (show ¬ (4 : Int) < 0 by decide), h2, e, Sem.run_pure]
theorem bits15 : ∀ n : Fin 256, bits .and .u8 (n.val : Int) 15 = ((n.val % 16 : Nat) : Int) := by decide +kernel
theorem bin_and15 {P : Program} {w : World} (t : TypeId) (b : UInt8) : (binOp .and t (.int .u8 (u8i b)) (.int .u8 15)).run P w = .ok (.int .u8 ((b.toNat % 16 : Nat) : Int)) w := by
  have h := bits15 ⟨b.toNat, b.toNat_lt⟩
  dsimp only at h
  unfold u8i
  rw [binOp_and, intBits_and, h]
  rfl
theorem bin_inc8 {P : Program} {w : World} {n : Nat} (t : TypeId) (h : n < 255) : (binOp .add t (.int .u8 (n : Int)) (.int .u8 1)).run P w = .ok (.int .u8 ((n + 1 : Nat) : Int)) w := by
  have e : IntKind.u8.wrap ((n : Int) + 1) = ((n + 1 : Nat) : Int) := by rw [IntKind.wrap_u8]; omega
  simp [binOp, Op.intArith, e]
theorem bin_adds {P : Program} {w : World} (t : TypeId) (L M : List UInt8) (h : L.length + M.length ≤ 9223372036854775807) : (binOp .add t (.string (str L)) (.string (str M))).run P w = .ok (.string (str (L ++ M))) w := by
  have e : str L ++ str M = str (L ++ M) := by
    apply ByteArray.ext
    simp [str]
  have h2 := run_string_add_sum (P := P) w (str L) (str M) (by rw [str_size, str_size]; exact h)
  rw [e] at h2
  simpa [binOp] using h2
theorem Runs.index {P : Program} {o : Oper} {ρ : Operand → Value} {w : World} {G : Value → World → Prop} {t : TypeId} {x i : Operand} {u v r : Value} (ho : o.op = .index t x i) (hx : ρ x = u) (hi : ρ i = v) (hr : (Instr.index t u v).run P w = .ok r w) (h : G r w) : Runs P o ρ w G := by
  refine Runs.of_run (r := r) (w' := w) ?_ h
  unfold execOp
  simp only [ho, hx, hi, Sem.run_bind, hr, Result.andThen_ok, Sem.run_pure]
theorem run_sign {w : World} (j : Nat) (h : j < 16) : (Instr.index 9 (.string (str signs)) (.int .u8 (j : Int))).run Try.prog w = .ok (.int .u8 (u8i (hexChar j))) w := by
  rw [← sign_at j h]
  have h1 : (str signs)[j]? = some (ub signs j) := by
    have hs : j < (str signs).size := by rw [str_size]; exact h
    rw [getElem?_pos (str signs) j hs]
    congr 1
    show signs.toArray[j]'(show j < signs.toArray.size from h) = _
    rw [List.getElem_toArray]
    have h2 : j < signs.length := h
    simp [ub, h2]
  have h0 : (0 : Int) ≤ (j : Int) := by omega
  simp [Instr.index, asIntOf, run_underlying Try.underlying9, h0, h1, u8i]
theorem run_sign_cut {w : World} (j : Nat) (h : j < 16) : (Instr.sliceAt 9 (.string (str signs)) (some (.int .u8 (j : Int))) (some (.int .u8 ((j + 1 : Nat) : Int))) none).run Try.prog w = .ok (.string (str [hexChar j])) w := by
  rw [run_sliceAt_string _ _ _ _ _ _ Try.underlying9, run_slice_string (P := Try.prog) (w := w) 9 (str signs) .u8 .u8 _ _ Try.underlying9 (by omega) (by omega) (by rw [str_size]; show _ ≤ ((16 : Nat) : Int); omega)]
  have e : (str signs).extract ((j : Nat) : Int).toNat (((j + 1 : Nat) : Int)).toNat = str [hexChar j] := by
    rw [← sign_at j h, Int.toNat_natCast, Int.toNat_natCast]
    have : ∀ j : Fin 16, (str signs).extract j.val (j.val + 1) = str [ub signs j.val] := by decide +kernel
    exact this ⟨j, h⟩
  rw [e]
theorem hexOf_succ (L : List UInt8) (k : Nat) (h : k < L.length) : hexOf (L.take (k + 1)) = hexOf (L.take k) ++ [hexChar ((ub L k).toNat / 16), hexChar ((ub L k).toNat % 16)] := by
  unfold hexOf
  rw [List.take_succ_eq_append_getElem h, List.flatMap_append]
  have e : L[k] = ub L k := by simp [ub, h]
  simp [e]
theorem hexOf_length (L : List UInt8) : (hexOf L).length = 2 * L.length := by
  induction L with
  | nil => rfl
  | cons x L ih =>
    have e : hexOf (x :: L) = [hexChar (x.toNat / 16), hexChar (x.toNat % 16)] ++ hexOf L := rfl
    rw [e, List.length_append, ih]
    simp
    omega
set_option maxHeartbeats 2000000 in
theorem hhex_any (A : Option Addr) (n c : Nat) (L : List UInt8) (w : World) (hr : RB w A n c L) (hn : n ≤ 70368744177664) :
    Calls Try.prog 17 #[.slice A n c] w fun e w' => e = .returned (.string (str (hexOf L))) ∧ Ext w w' := by
  have hln := hr.len
  have Hn := Lib.hid hln
  clear hln
  go_enter Try.func17, Try.ntmps17
  go_wp2_with fail
  go_loopw [3, 8] (fun v i wr => ∃ (k d : Nat) (B : Option Addr), k ≤ n ∧ i = .int .i64 k ∧ v = .slice B (2 * k) d ∧ OB wr w.heap.size B (2 * k) d (hexOf (L.take k)) ∧ Ext w wr) (fun _ i _ => n - (intOf i).toNat)
  case atStart => exact ⟨0, 0, none, by omega, rfl, rfl, OB.none_ _ _, Ext.refl _⟩
  case round =>
    obtain ⟨k, d, B, hk, rfl, rfl, own, hEr⟩ := hrel
    by_cases hlt : k < n
    · obtain ⟨ad, rfl, hc⟩ := hr.cells (by omega)
      go_upto_region 4 with (fail)
      refine seq_ext (n := 3) (by kernel_rfl) [.is (.pointer (some (ad.add (k)))), .is (.int .u8 (u8i (ub L (k)))), .is (.int .u8 (u8i (ub L (k))))] rfl ⟨?_, ?_, ?_, trivial⟩ ?_
      · refine stepE rfl fun sdn sa sw sE sd sk => ?_
        have h6 : sa.eval (.tmp 6) = .slice (some ad) (n) (c) := sk.old 6 rfl
        have h8 : sa.eval (.tmp 8) = .int .i64 (((k : Nat) : Int)) := sk.old 8 rfl
        exact Runs.idx rfl h6 h8 (run_idx_sl1 Try.underlying22 inf22_eq inf22_size (k) (by omega) (by omega)) ⟨Ext.refl _, rfl⟩
      · refine stepE rfl fun sdn sa sw sE sd sk => ?_
        have h10 : sa.eval (.tmp 10) = .pointer (some (ad.add (k))) := sk.fact 0 10 rfl (sd 0 rfl)
        exact Runs.load rfl h10 (run_load1 Try.underlying5 rfl (cell_at hc (hEr.trans sE) (by omega))) ⟨Ext.refl _, rfl⟩
      · refine stepE rfl fun sdn sa sw sE sd sk => ?_
        have h11 : sa.eval (.tmp 11) = .int .u8 (u8i (ub L (k))) := sk.fact 1 11 rfl (sd 1 rfl)
        exact Runs.assign rfl h11 ⟨Ext.refl _, rfl⟩
      intro vals W1 hE hv
      have e0 : vals 0 = .pointer (some (ad.add (k))) := hv 0 (by omega) 10 rfl
      have e1 : vals 1 = .int .u8 (u8i (ub L (k))) := hv 1 (by omega) 11 rfl
      have e2 : vals 2 = .int .u8 (u8i (ub L (k))) := hv 2 (by omega) 5 rfl
      simp only [putAll, Act.put, List.take_succ_cons, List.take_zero, List.drop_succ_cons, List.drop_zero, List.drop_nil, List.take_nil, Nat.reduceAdd, List.setIfInBounds_toArray, List.set_cons_succ, List.set_cons_zero, e0, e1, e2]
      clear hv e0 e1 e2
      have hE1 := hEr.trans hE
      have own1 := own.ext hE
      clear hE
      go_upto_region 5 with (fail)
      refine par_ext (n := 8) (by kernel_rfl) [.is (.slice (B) (2 * k) (d)), .is (.int .u8 (u8i (ub L k))), .is (.int .u8 (((ub L k).toNat / 16 : Nat) : Int)), .is (.int .u8 (u8i (hexChar ((ub L k).toNat / 16)))), .is (.int .u8 (u8i (ub L k))), .is (.int .u8 (((ub L k).toNat % 16 : Nat) : Int)), .is (.int .u8 (u8i (hexChar ((ub L k).toNat % 16)))), .rb ([(hexChar ((ub L k).toNat / 16)), (hexChar ((ub L k).toNat % 16))])] rfl ⟨?_, ?_, ?_, ?_, ?_, ?_, ?_, ?_, trivial⟩ ?_
      · refine stepE rfl fun sdn sa sw sE sd sk => ?_
        have h3 : sa.eval (.tmp 3) = .slice (B) (2 * k) (d) := sk.old 3 rfl
        exact Runs.move rfl h3 ⟨Ext.refl _, rfl⟩
      · refine stepE rfl fun sdn sa sw sE sd sk => ?_
        have h5 : sa.eval (.tmp 5) = .int .u8 (u8i (ub L k)) := sk.old 5 rfl
        exact Runs.move rfl h5 ⟨Ext.refl _, rfl⟩
      · refine stepE rfl fun sdn sa sw sE sd sk => ?_
        have h13 : sa.eval (.tmp 13) = .int .u8 (u8i (ub L k)) := sk.fact 1 13 rfl (sd 1 rfl)
        exact Runs.bin rfl h13 rfl (by rfl) (bin_shr4 _ _) ⟨Ext.refl _, rfl⟩
      · refine stepE rfl fun sdn sa sw sE sd sk => ?_
        have h14 : sa.eval (.tmp 14) = .int .u8 (((ub L k).toNat / 16 : Nat) : Int) := sk.fact 2 14 rfl (sd 2 rfl)
        exact Runs.index rfl rfl h14 (run_sign _ (by have := u8_lt (ub L k); omega)) ⟨Ext.refl _, rfl⟩
      · refine stepE rfl fun sdn sa sw sE sd sk => ?_
        have h5 : sa.eval (.tmp 5) = .int .u8 (u8i (ub L k)) := sk.old 5 rfl
        exact Runs.move rfl h5 ⟨Ext.refl _, rfl⟩
      · refine stepE rfl fun sdn sa sw sE sd sk => ?_
        have h16 : sa.eval (.tmp 16) = .int .u8 (u8i (ub L k)) := sk.fact 4 16 rfl (sd 4 rfl)
        exact Runs.bin rfl h16 rfl (by rfl) (bin_and15 _ _) ⟨Ext.refl _, rfl⟩
      · refine stepE rfl fun sdn sa sw sE sd sk => ?_
        have h17 : sa.eval (.tmp 17) = .int .u8 (((ub L k).toNat % 16 : Nat) : Int) := sk.fact 5 17 rfl (sd 5 rfl)
        exact Runs.index rfl rfl h17 (run_sign _ (by have := u8_lt (ub L k); omega)) ⟨Ext.refl _, rfl⟩
      · refine stepE rfl fun sdn sa sw sE sd sk => ?_
        have h15 : sa.eval (.tmp 15) = .int .u8 (u8i (hexChar ((ub L k).toNat / 16))) := sk.fact 3 15 rfl (sd 3 rfl)
        have h18 : sa.eval (.tmp 18) = .int .u8 (u8i (hexChar ((ub L k).toNat % 16))) := sk.fact 6 18 rfl (sd 6 rfl)
        exact Runs.lit2 rfl h15 h18 (fun w1 e1 o1 => ⟨e1, _, _, _, rfl, o1.rb⟩)
      intro vals W2 hE hv
      have e0 : vals 0 = .slice (B) (2 * k) (d) := hv 0 (by omega) 12 rfl
      have e1 : vals 1 = .int .u8 (u8i (ub L k)) := hv 1 (by omega) 13 rfl
      have e2 : vals 2 = .int .u8 (((ub L k).toNat / 16 : Nat) : Int) := hv 2 (by omega) 14 rfl
      have e3 : vals 3 = .int .u8 (u8i (hexChar ((ub L k).toNat / 16))) := hv 3 (by omega) 15 rfl
      have e4 : vals 4 = .int .u8 (u8i (ub L k)) := hv 4 (by omega) 16 rfl
      have e5 : vals 5 = .int .u8 (((ub L k).toNat % 16 : Nat) : Int) := hv 5 (by omega) 17 rfl
      have e6 : vals 6 = .int .u8 (u8i (hexChar ((ub L k).toNat % 16))) := hv 6 (by omega) 18 rfl
      obtain ⟨A19, n19, c19, e7, r19⟩ := hv 7 (by omega) 19 rfl
      simp only [putAll, Act.put, List.take_succ_cons, List.take_zero, List.drop_succ_cons, List.drop_zero, List.drop_nil, List.take_nil, Nat.reduceAdd, List.setIfInBounds_toArray, List.set_cons_succ, List.set_cons_zero, e0, e1, e2, e3, e4, e5, e6, e7]
      clear hv e0 e1 e2 e3 e4 e5 e6 e7
      obtain rfl : n19 = 2 := r19.len.symm
      go_wp2_with (refine app_own (N := 2 * k + 2) (LM := hexOf (L.take (k + 1))) rfl rfl rfl rfl (hE1.trans hE) (own1.ext hE) r19 rfl (hexOf_succ L k (by rw [Hn.out]; exact hlt)).symm (by omega) ?_; intro A3 c3 W3 own3 hE3)
      go_roundw
      case rel => exact ⟨k + 1, c3, A3, by omega, by go_num, rfl, own3, hE3⟩
      case measure => simp [intOf]; omega
    · obtain rfl : k = n := by omega
      rw [List.take_of_length_le (by rw [Hn.out]; exact Nat.le_refl _)] at own
      have s1 := run_str own.rb
      go_wp2_with fail
      go_ret
      exact ⟨rfl, hEr⟩
set_option maxHeartbeats 2000000 in
theorem lhex_any (A : Option Addr) (n c : Nat) (L : List UInt8) (w : World) (hr : RB w A n c L) (hn : n ≤ 70368744177664) :
    Calls Try.prog 23 #[.slice A n c] w fun e w' => e = .returned (.string (str (hexOf L))) ∧ Ext w w' := by
  have hln := hr.len
  have Hn := Lib.hid hln
  clear hln
  go_enter Try.func23, Try.ntmps23
  go_wp2_with fail
  go_loopw [3, 4] (fun v i wr => ∃ (k : Nat), k ≤ n ∧ i = .int .i64 k ∧ v = .string (str (hexOf (L.take k))) ∧ Ext w wr) (fun _ i _ => n - (intOf i).toNat)
  case atStart => exact ⟨0, by omega, rfl, rfl, Ext.refl _⟩
  case round =>
    obtain ⟨k, hk, rfl, rfl, hEr⟩ := hrel
    by_cases hlt : k < n
    · obtain ⟨ad, rfl, hc⟩ := hr.cells (by omega)
      have hl2 : (hexOf (L.take k)).length ≤ 2 * n := by
        rw [hexOf_length, List.length_take]
        omega
      go_upto_region 5 with (fail)
      refine par_ext (n := 27) (by kernel_rfl) [.is (.string (str (hexOf (L.take k)))), .is (.slice (some ad) (n) (c)), .is (.int .i64 (((k : Nat) : Int))), .is (.pointer (some (ad.add (k)))), .is (.int .u8 (u8i (ub L (k)))), .is (.int .u8 (((ub L (k)).toNat / 16 : Nat) : Int)), .is (.slice (some ad) (n) (c)), .is (.int .i64 (((k : Nat) : Int))), .is (.pointer (some (ad.add (k)))), .is (.int .u8 (u8i (ub L (k)))), .is (.int .u8 (((ub L (k)).toNat / 16 : Nat) : Int)), .is (.int .u8 (((ub L (k)).toNat / 16 + 1 : Nat) : Int)), .is (.string (str ([hexChar ((ub L (k)).toNat / 16)]))), .is (.string (str ((hexOf (L.take k)) ++ [hexChar ((ub L (k)).toNat / 16)]))), .is (.slice (some ad) (n) (c)), .is (.int .i64 (((k : Nat) : Int))), .is (.pointer (some (ad.add (k)))), .is (.int .u8 (u8i (ub L (k)))), .is (.int .u8 (((ub L (k)).toNat % 16 : Nat) : Int)), .is (.slice (some ad) (n) (c)), .is (.int .i64 (((k : Nat) : Int))), .is (.pointer (some (ad.add (k)))), .is (.int .u8 (u8i (ub L (k)))), .is (.int .u8 (((ub L (k)).toNat % 16 : Nat) : Int)), .is (.int .u8 (((ub L (k)).toNat % 16 + 1 : Nat) : Int)), .is (.string (str ([hexChar ((ub L (k)).toNat % 16)]))), .is (.string (str (((hexOf (L.take k)) ++ [hexChar ((ub L (k)).toNat / 16)]) ++ [hexChar ((ub L (k)).toNat % 16)])))] rfl ⟨?_, ?_, ?_, ?_, ?_, ?_, ?_, ?_, ?_, ?_, ?_, ?_, ?_, ?_, ?_, ?_, ?_, ?_, ?_, ?_, ?_, ?_, ?_, ?_, ?_, ?_, ?_, trivial⟩ ?_
      · refine stepE rfl fun sdn sa sw sE sd sk => ?_
        have h3 : sa.eval (.tmp 3) = .string (str (hexOf (L.take k))) := sk.old 3 rfl
        exact Runs.move rfl h3 ⟨Ext.refl _, rfl⟩
      · refine stepE rfl fun sdn sa sw sE sd sk => ?_
        have h0 : sa.eval (.tmp 0) = .slice (some ad) (n) (c) := sk.old 0 rfl
        exact Runs.move rfl h0 ⟨Ext.refl _, rfl⟩
      · refine stepE rfl fun sdn sa sw sE sd sk => ?_
        have h4 : sa.eval (.tmp 4) = .int .i64 (((k : Nat) : Int)) := sk.old 4 rfl
        exact Runs.move rfl h4 ⟨Ext.refl _, rfl⟩
      · refine stepE rfl fun sdn sa sw sE sd sk => ?_
        have h12 : sa.eval (.tmp 12) = .slice (some ad) (n) (c) := sk.fact 1 12 rfl (sd 1 rfl)
        have h13 : sa.eval (.tmp 13) = .int .i64 (((k : Nat) : Int)) := sk.fact 2 13 rfl (sd 2 rfl)
        exact Runs.idx rfl h12 h13 (run_idx_sl1 Try.underlying22 inf22_eq inf22_size (k) (by omega) (by omega)) ⟨Ext.refl _, rfl⟩
      · refine stepE rfl fun sdn sa sw sE sd sk => ?_
        have h14 : sa.eval (.tmp 14) = .pointer (some (ad.add (k))) := sk.fact 3 14 rfl (sd 3 rfl)
        exact Runs.load rfl h14 (run_load1 Try.underlying5 rfl (cell_at hc (hEr.trans sE) (by omega))) ⟨Ext.refl _, rfl⟩
      · refine stepE rfl fun sdn sa sw sE sd sk => ?_
        have h15 : sa.eval (.tmp 15) = .int .u8 (u8i (ub L (k))) := sk.fact 4 15 rfl (sd 4 rfl)
        exact Runs.bin rfl h15 rfl (by rfl) (bin_shr4 _ _) ⟨Ext.refl _, rfl⟩
      · refine stepE rfl fun sdn sa sw sE sd sk => ?_
        have h0 : sa.eval (.tmp 0) = .slice (some ad) (n) (c) := sk.old 0 rfl
        exact Runs.move rfl h0 ⟨Ext.refl _, rfl⟩
      · refine stepE rfl fun sdn sa sw sE sd sk => ?_
        have h4 : sa.eval (.tmp 4) = .int .i64 (((k : Nat) : Int)) := sk.old 4 rfl
        exact Runs.move rfl h4 ⟨Ext.refl _, rfl⟩
      · refine stepE rfl fun sdn sa sw sE sd sk => ?_
        have h17 : sa.eval (.tmp 17) = .slice (some ad) (n) (c) := sk.fact 6 17 rfl (sd 6 rfl)
        have h18 : sa.eval (.tmp 18) = .int .i64 (((k : Nat) : Int)) := sk.fact 7 18 rfl (sd 7 rfl)
        exact Runs.idx rfl h17 h18 (run_idx_sl1 Try.underlying22 inf22_eq inf22_size (k) (by omega) (by omega)) ⟨Ext.refl _, rfl⟩
      · refine stepE rfl fun sdn sa sw sE sd sk => ?_
        have h19 : sa.eval (.tmp 19) = .pointer (some (ad.add (k))) := sk.fact 8 19 rfl (sd 8 rfl)
        exact Runs.load rfl h19 (run_load1 Try.underlying5 rfl (cell_at hc (hEr.trans sE) (by omega))) ⟨Ext.refl _, rfl⟩
      · refine stepE rfl fun sdn sa sw sE sd sk => ?_
        have h20 : sa.eval (.tmp 20) = .int .u8 (u8i (ub L (k))) := sk.fact 9 20 rfl (sd 9 rfl)
        exact Runs.bin rfl h20 rfl (by rfl) (bin_shr4 _ _) ⟨Ext.refl _, rfl⟩
      · refine stepE rfl fun sdn sa sw sE sd sk => ?_
        have h21 : sa.eval (.tmp 21) = .int .u8 (((ub L (k)).toNat / 16 : Nat) : Int) := sk.fact 10 21 rfl (sd 10 rfl)
        exact Runs.bin rfl h21 rfl (by rfl) (bin_inc8 _ (by have := u8_lt (ub L k); omega)) ⟨Ext.refl _, rfl⟩
      · refine stepE rfl fun sdn sa sw sE sd sk => ?_
        have h16 : sa.eval (.tmp 16) = .int .u8 (((ub L (k)).toNat / 16 : Nat) : Int) := sk.fact 5 16 rfl (sd 5 rfl)
        have h22 : sa.eval (.tmp 22) = .int .u8 (((ub L (k)).toNat / 16 + 1 : Nat) : Int) := sk.fact 11 22 rfl (sd 11 rfl)
        exact Runs.slice rfl rfl (by simp only [Option.map_some, Option.map_none, h16, h22]; exact run_sign_cut _ (by have := u8_lt (ub L k); omega)) ⟨Ext.refl _, rfl⟩
      · refine stepE rfl fun sdn sa sw sE sd sk => ?_
        have h11 : sa.eval (.tmp 11) = .string (str (hexOf (L.take k))) := sk.fact 0 11 rfl (sd 0 rfl)
        have h23 : sa.eval (.tmp 23) = .string (str ([hexChar ((ub L (k)).toNat / 16)])) := sk.fact 12 23 rfl (sd 12 rfl)
        exact Runs.bin rfl h11 h23 (by rfl) (bin_adds _ _ _ (by simp only [List.length_append, List.length_cons, List.length_nil]; omega)) ⟨Ext.refl _, rfl⟩
      · refine stepE rfl fun sdn sa sw sE sd sk => ?_
        have h0 : sa.eval (.tmp 0) = .slice (some ad) (n) (c) := sk.old 0 rfl
        exact Runs.move rfl h0 ⟨Ext.refl _, rfl⟩
      · refine stepE rfl fun sdn sa sw sE sd sk => ?_
        have h4 : sa.eval (.tmp 4) = .int .i64 (((k : Nat) : Int)) := sk.old 4 rfl
        exact Runs.move rfl h4 ⟨Ext.refl _, rfl⟩
      · refine stepE rfl fun sdn sa sw sE sd sk => ?_
        have h25 : sa.eval (.tmp 25) = .slice (some ad) (n) (c) := sk.fact 14 25 rfl (sd 14 rfl)
        have h26 : sa.eval (.tmp 26) = .int .i64 (((k : Nat) : Int)) := sk.fact 15 26 rfl (sd 15 rfl)
        exact Runs.idx rfl h25 h26 (run_idx_sl1 Try.underlying22 inf22_eq inf22_size (k) (by omega) (by omega)) ⟨Ext.refl _, rfl⟩
      · refine stepE rfl fun sdn sa sw sE sd sk => ?_
        have h27 : sa.eval (.tmp 27) = .pointer (some (ad.add (k))) := sk.fact 16 27 rfl (sd 16 rfl)
        exact Runs.load rfl h27 (run_load1 Try.underlying5 rfl (cell_at hc (hEr.trans sE) (by omega))) ⟨Ext.refl _, rfl⟩
      · refine stepE rfl fun sdn sa sw sE sd sk => ?_
        have h28 : sa.eval (.tmp 28) = .int .u8 (u8i (ub L (k))) := sk.fact 17 28 rfl (sd 17 rfl)
        exact Runs.bin rfl h28 rfl (by rfl) (bin_and15 _ _) ⟨Ext.refl _, rfl⟩
      · refine stepE rfl fun sdn sa sw sE sd sk => ?_
        have h0 : sa.eval (.tmp 0) = .slice (some ad) (n) (c) := sk.old 0 rfl
        exact Runs.move rfl h0 ⟨Ext.refl _, rfl⟩
      · refine stepE rfl fun sdn sa sw sE sd sk => ?_
        have h4 : sa.eval (.tmp 4) = .int .i64 (((k : Nat) : Int)) := sk.old 4 rfl
        exact Runs.move rfl h4 ⟨Ext.refl _, rfl⟩
      · refine stepE rfl fun sdn sa sw sE sd sk => ?_
        have h30 : sa.eval (.tmp 30) = .slice (some ad) (n) (c) := sk.fact 19 30 rfl (sd 19 rfl)
        have h31 : sa.eval (.tmp 31) = .int .i64 (((k : Nat) : Int)) := sk.fact 20 31 rfl (sd 20 rfl)
        exact Runs.idx rfl h30 h31 (run_idx_sl1 Try.underlying22 inf22_eq inf22_size (k) (by omega) (by omega)) ⟨Ext.refl _, rfl⟩
      · refine stepE rfl fun sdn sa sw sE sd sk => ?_
        have h32 : sa.eval (.tmp 32) = .pointer (some (ad.add (k))) := sk.fact 21 32 rfl (sd 21 rfl)
        exact Runs.load rfl h32 (run_load1 Try.underlying5 rfl (cell_at hc (hEr.trans sE) (by omega))) ⟨Ext.refl _, rfl⟩
      · refine stepE rfl fun sdn sa sw sE sd sk => ?_
        have h33 : sa.eval (.tmp 33) = .int .u8 (u8i (ub L (k))) := sk.fact 22 33 rfl (sd 22 rfl)
        exact Runs.bin rfl h33 rfl (by rfl) (bin_and15 _ _) ⟨Ext.refl _, rfl⟩
      · refine stepE rfl fun sdn sa sw sE sd sk => ?_
        have h34 : sa.eval (.tmp 34) = .int .u8 (((ub L (k)).toNat % 16 : Nat) : Int) := sk.fact 23 34 rfl (sd 23 rfl)
        exact Runs.bin rfl h34 rfl (by rfl) (bin_inc8 _ (by have := u8_lt (ub L k); omega)) ⟨Ext.refl _, rfl⟩
      · refine stepE rfl fun sdn sa sw sE sd sk => ?_
        have h29 : sa.eval (.tmp 29) = .int .u8 (((ub L (k)).toNat % 16 : Nat) : Int) := sk.fact 18 29 rfl (sd 18 rfl)
        have h35 : sa.eval (.tmp 35) = .int .u8 (((ub L (k)).toNat % 16 + 1 : Nat) : Int) := sk.fact 24 35 rfl (sd 24 rfl)
        exact Runs.slice rfl rfl (by simp only [Option.map_some, Option.map_none, h29, h35]; exact run_sign_cut _ (by have := u8_lt (ub L k); omega)) ⟨Ext.refl _, rfl⟩
      · refine stepE rfl fun sdn sa sw sE sd sk => ?_
        have h24 : sa.eval (.tmp 24) = .string (str ((hexOf (L.take k)) ++ [hexChar ((ub L (k)).toNat / 16)])) := sk.fact 13 24 rfl (sd 13 rfl)
        have h36 : sa.eval (.tmp 36) = .string (str ([hexChar ((ub L (k)).toNat % 16)])) := sk.fact 25 36 rfl (sd 25 rfl)
        exact Runs.bin rfl h24 h36 (by rfl) (bin_adds _ _ _ (by simp only [List.length_append, List.length_cons, List.length_nil]; omega)) ⟨Ext.refl _, rfl⟩
      intro vals W1 hE hv
      have e0 : vals 0 = .string (str (hexOf (L.take k))) := hv 0 (by omega) 11 rfl
      have e1 : vals 1 = .slice (some ad) (n) (c) := hv 1 (by omega) 12 rfl
      have e2 : vals 2 = .int .i64 (((k : Nat) : Int)) := hv 2 (by omega) 13 rfl
      have e3 : vals 3 = .pointer (some (ad.add (k))) := hv 3 (by omega) 14 rfl
      have e4 : vals 4 = .int .u8 (u8i (ub L (k))) := hv 4 (by omega) 15 rfl
      have e5 : vals 5 = .int .u8 (((ub L (k)).toNat / 16 : Nat) : Int) := hv 5 (by omega) 16 rfl
      have e6 : vals 6 = .slice (some ad) (n) (c) := hv 6 (by omega) 17 rfl
      have e7 : vals 7 = .int .i64 (((k : Nat) : Int)) := hv 7 (by omega) 18 rfl
      have e8 : vals 8 = .pointer (some (ad.add (k))) := hv 8 (by omega) 19 rfl
      have e9 : vals 9 = .int .u8 (u8i (ub L (k))) := hv 9 (by omega) 20 rfl
      have e10 : vals 10 = .int .u8 (((ub L (k)).toNat / 16 : Nat) : Int) := hv 10 (by omega) 21 rfl
      have e11 : vals 11 = .int .u8 (((ub L (k)).toNat / 16 + 1 : Nat) : Int) := hv 11 (by omega) 22 rfl
      have e12 : vals 12 = .string (str ([hexChar ((ub L (k)).toNat / 16)])) := hv 12 (by omega) 23 rfl
      have e13 : vals 13 = .string (str ((hexOf (L.take k)) ++ [hexChar ((ub L (k)).toNat / 16)])) := hv 13 (by omega) 24 rfl
      have e14 : vals 14 = .slice (some ad) (n) (c) := hv 14 (by omega) 25 rfl
      have e15 : vals 15 = .int .i64 (((k : Nat) : Int)) := hv 15 (by omega) 26 rfl
      have e16 : vals 16 = .pointer (some (ad.add (k))) := hv 16 (by omega) 27 rfl
      have e17 : vals 17 = .int .u8 (u8i (ub L (k))) := hv 17 (by omega) 28 rfl
      have e18 : vals 18 = .int .u8 (((ub L (k)).toNat % 16 : Nat) : Int) := hv 18 (by omega) 29 rfl
      have e19 : vals 19 = .slice (some ad) (n) (c) := hv 19 (by omega) 30 rfl
      have e20 : vals 20 = .int .i64 (((k : Nat) : Int)) := hv 20 (by omega) 31 rfl
      have e21 : vals 21 = .pointer (some (ad.add (k))) := hv 21 (by omega) 32 rfl
      have e22 : vals 22 = .int .u8 (u8i (ub L (k))) := hv 22 (by omega) 33 rfl
      have e23 : vals 23 = .int .u8 (((ub L (k)).toNat % 16 : Nat) : Int) := hv 23 (by omega) 34 rfl
      have e24 : vals 24 = .int .u8 (((ub L (k)).toNat % 16 + 1 : Nat) : Int) := hv 24 (by omega) 35 rfl
      have e25 : vals 25 = .string (str ([hexChar ((ub L (k)).toNat % 16)])) := hv 25 (by omega) 36 rfl
      have e26 : vals 26 = .string (str (((hexOf (L.take k)) ++ [hexChar ((ub L (k)).toNat / 16)]) ++ [hexChar ((ub L (k)).toNat % 16)])) := hv 26 (by omega) 37 rfl
      simp only [putAll, Act.put, List.take_succ_cons, List.take_zero, List.drop_succ_cons, List.drop_zero, List.drop_nil, List.take_nil, Nat.reduceAdd, List.setIfInBounds_toArray, List.set_cons_succ, List.set_cons_zero, e0, e1, e2, e3, e4, e5, e6, e7, e8, e9, e10, e11, e12, e13, e14, e15, e16, e17, e18, e19, e20, e21, e22, e23, e24, e25, e26]
      clear hv e0 e1 e2 e3 e4 e5 e6 e7 e8 e9 e10 e11 e12 e13 e14 e15 e16 e17 e18 e19 e20 e21 e22 e23 e24 e25 e26
      have e5 : hexOf (L.take k) ++ [hexChar ((ub L k).toNat / 16)] ++ [hexChar ((ub L k).toNat % 16)] = hexOf (L.take (k + 1)) := by
        rw [hexOf_succ L k (by rw [Hn.out]; exact hlt), List.append_assoc]
        rfl
      rw [e5]
      go_wp2_with fail
      go_roundw
      case rel => exact ⟨k + 1, by omega, by go_num, rfl, hEr.trans hE⟩
      case measure => simp [intOf]; omega
    · obtain rfl : k = n := by omega
      rw [List.take_of_length_le (by rw [Hn.out]; exact Nat.le_refl _)]
      go_wp2_with fail
      go_ret
      exact ⟨rfl, hEr⟩
end Go.Proofs.Ytmgnigofilkfmaa

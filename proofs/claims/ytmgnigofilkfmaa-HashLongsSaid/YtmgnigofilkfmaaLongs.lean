/-
  law2.HashLongs, walked.
-/
import Derived.Test.YtmgnigofilkfmaaGiven
import Derived.Test.YtmgnigofilkfmaaCopy
namespace Go.Proofs.Ytmgnigofilkfmaa
set_option maxRecDepth 100000
open Go Go.RowKit
/-- the first k bytes are c, the others 0 -/
def fillL (c : UInt8) (m k : Nat) : List UInt8 := List.replicate k c ++ List.replicate (m - k) 0
theorem fillL_succ {c : UInt8} {m k : Nat} (h : k < m) : (fillL c m k).set k c = fillL c m (k + 1) := by
  unfold fillL
  rw [List.set_append_right _ _ (by simp), List.length_replicate, Nat.sub_self, show m - k = (m - (k + 1)) + 1 by omega, List.replicate_succ, List.set_cons_zero, List.replicate_succ', List.append_assoc]
  rfl
set_option maxHeartbeats 4000000 in
theorem longs_law (n : Int) (c : UInt8) (w : World) (hn0 : -9223372036854775808 ≤ n) (hn1 : n ≤ 9223372036854775807) :
    Calls Try.prog 4 #[.int .i64 n, .int .u8 (u8i c)] w fun e w' => e = .returned (.bool true) ∧ Ext w w' := by
  obtain ⟨m, hm⟩ : ∃ m : Nat, within n 0 5000 = m := ⟨_, (Int.toNat_of_nonneg (within_in n 0 5000 (by omega)).1).symm⟩
  have hm2 := (within_in n 0 5000 (by omega)).2
  rw [hm] at hm2
  have Hm := Lib.hid hm
  clear hm
  go_enter Try.func4, Try.ntmps4
  go_wp2_with fail
  have hw := within_any n 0 5000 w hn0 hn1 (by omega) (by omega) (by omega)
  rw [Hm.out] at hw
  refine hw.mono ?_
  rintro e w1 ⟨rfl, rfl⟩
  clear hw
  go_wp2_with (refine make_law (k := m) rfl rfl rfl rfl (by omega) ?_; intro w2 own hE2)
  obtain ⟨g, hg⟩ : ∃ g, g = w.heap.size := ⟨_, rfl⟩
  rw [← hg] at own ⊢
  have hg2 : w.heap.size ≤ g := by omega
  clear hg
  go_loopw [6] (fun i wr => ∃ k : Nat, k ≤ m ∧ i = .int .i64 k ∧ OB wr w.heap.size (some ⟨g, 0, none⟩) m m (fillL c m k) ∧ Ext w wr) (fun i _ => m - (intOf i).toNat)
  case atStart => exact ⟨0, by omega, rfl, own.base (by omega), hE2⟩
  case round =>
    clear own hE2
    obtain ⟨k, hk, rfl, own, hEr⟩ := hrel
    by_cases hlt : k < m
    · have y1 := own.cell hlt
      have y2 := own.frozen k
      go_wp2_with fail
      go_roundw
      case rel =>
        have h2 := (own.set k c).1
        rw [fillL_succ hlt] at h2
        exact ⟨k + 1, by omega, by go_num, h2, hEr.then_grown (own.set k c).2 (by intro j hj; cases hj; exact hg2)⟩
      case measure => simp [intOf]; omega
    · obtain rfl : k = m := by omega
      have ef : fillL c k k = List.replicate k c := by simp [fillL]
      rw [ef] at own
      have rx := own.rb
      go_upto_region 6 with (fail)
      refine par_ext (n := 11) (by kernel_rfl) [.is (.slice (some ⟨g, 0, none⟩) (k) (k)), .rb (sha (List.replicate k c)), .is (.string (str (sha (List.replicate k c)))), .is (.slice (some ⟨g, 0, none⟩) (k) (k)), .rb (sha (List.replicate k c)), .is (.string (str (sha (List.replicate k c)))), .is (.bool (true)), .is (.bool (true)), .is (.bool (true)), .is (.bool (true)), .is (.bool (true))] rfl ⟨?_, ?_, ?_, ?_, ?_, ?_, ?_, ?_, ?_, ?_, ?_, trivial⟩ ?_
      · refine stepE rfl fun sdn sa sw sE sd sk => ?_
        have h5 : sa.eval (.tmp 5) = .slice (some ⟨g, 0, none⟩) (k) (k) := sk.old 5 rfl
        exact Runs.move rfl h5 ⟨Ext.refl _, rfl⟩
      · refine stepE rfl fun sdn sa sw sE sd sk => ?_
        have h20 : sa.eval (.tmp 20) = .slice (some ⟨g, 0, none⟩) (k) (k) := sk.fact 0 20 rfl (sd 0 rfl)
        refine Runs.call (f := 16) (vs := [.slice (some ⟨g, 0, none⟩) (k) (k)]) rfl rfl rfl (by simp only [List.map_toArray, List.map_cons, List.map_nil, h20] <;> rfl) (ent16 _ _) ((hsum_any _ k k _ sw (rx.ext sE) (by omega)).mono ?_); rintro e w' ⟨A', c', rfl, own, hx⟩; exact ⟨_, rfl, hx, A', 32, c', rfl, own.rb⟩
      · refine stepE rfl fun sdn sa sw sE sd sk => ?_
        obtain ⟨A21, n21, c21, h21, r21⟩ := sk.fact 1 21 rfl (sd 1 rfl)
        exact Runs.conv rfl h21 (run_str r21) ⟨Ext.refl _, rfl⟩
      · refine stepE rfl fun sdn sa sw sE sd sk => ?_
        have h5 : sa.eval (.tmp 5) = .slice (some ⟨g, 0, none⟩) (k) (k) := sk.old 5 rfl
        exact Runs.move rfl h5 ⟨Ext.refl _, rfl⟩
      · refine stepE rfl fun sdn sa sw sE sd sk => ?_
        have h23 : sa.eval (.tmp 23) = .slice (some ⟨g, 0, none⟩) (k) (k) := sk.fact 3 23 rfl (sd 3 rfl)
        refine Runs.call (f := 20) (vs := [.slice (some ⟨g, 0, none⟩) (k) (k)]) rfl rfl rfl (by simp only [List.map_toArray, List.map_cons, List.map_nil, h23] <;> rfl) (ent20 _ _) ((sum_any _ k k _ sw (rx.ext sE) (by omega)).mono ?_); rintro e w' ⟨A', c', rfl, own, hx⟩; exact ⟨_, rfl, hx, A', 32, c', rfl, own.rb⟩
      · refine stepE rfl fun sdn sa sw sE sd sk => ?_
        obtain ⟨A24, n24, c24, h24, r24⟩ := sk.fact 4 24 rfl (sd 4 rfl)
        exact Runs.conv rfl h24 (run_str r24) ⟨Ext.refl _, rfl⟩
      · refine stepE rfl fun sdn sa sw sE sd sk => ?_
        have h22 : sa.eval (.tmp 22) = .string (str (sha (List.replicate k c))) := sk.fact 2 22 rfl (sd 2 rfl)
        have h25 : sa.eval (.tmp 25) = .string (str (sha (List.replicate k c))) := sk.fact 5 25 rfl (sd 5 rfl)
        exact Runs.bin rfl h22 h25 (by rfl) (bin_eqs _ _ _) ⟨Ext.refl _, congrArg Value.bool (by simp)⟩
      · refine stepE rfl fun sdn sa sw sE sd sk => ?_
        have h26 : sa.eval (.tmp 26) = .bool (true) := sk.fact 6 26 rfl (sd 6 rfl)
        exact Runs.move rfl h26 ⟨Ext.refl _, rfl⟩
      · refine stepY (j := 7) (d := 27) (b := true) rfl rfl rfl (fun v w h => h) fun sdn sa sw sE sd sk => ?_
        refine Runs.call (f := 18) (vs := []) rfl rfl rfl (by simp only [List.map_toArray, List.map_cons, List.map_nil] <;> rfl) (ent18 _ _) ((known2_any sw).mono ?_); rintro e w' ⟨rfl, hx⟩; exact ⟨_, rfl, hx, rfl⟩
      · refine stepE rfl fun sdn sa sw sE sd sk => ?_
        have h27 : sa.eval (.tmp 27) = .bool (true) := sk.fact 7 27 rfl (sd 7 rfl)
        have h28 : sa.eval (.tmp 28) = .bool (true) := sk.fact 8 28 rfl (sd 8 rfl)
        exact Runs.pick rfl h27 ⟨Ext.refl _, by first | exact h28 | simpa using h28⟩
      · refine stepE rfl fun sdn sa sw sE sd sk => ?_
        have h29 : sa.eval (.tmp 29) = .bool (true) := sk.fact 9 29 rfl (sd 9 rfl)
        exact Runs.assign rfl h29 ⟨Ext.refl _, rfl⟩
      intro vals W1 hE hv
      have e0 : vals 0 = .slice (some ⟨g, 0, none⟩) (k) (k) := hv 0 (by omega) 20 rfl
      obtain ⟨A21, n21, c21, e1, r21⟩ := hv 1 (by omega) 21 rfl
      have e2 : vals 2 = .string (str (sha (List.replicate k c))) := hv 2 (by omega) 22 rfl
      have e3 : vals 3 = .slice (some ⟨g, 0, none⟩) (k) (k) := hv 3 (by omega) 23 rfl
      obtain ⟨A24, n24, c24, e4, r24⟩ := hv 4 (by omega) 24 rfl
      have e5 : vals 5 = .string (str (sha (List.replicate k c))) := hv 5 (by omega) 25 rfl
      have e6 : vals 6 = .bool (true) := hv 6 (by omega) 26 rfl
      have e7 : vals 7 = .bool (true) := hv 7 (by omega) 27 rfl
      have e8 : vals 8 = .bool (true) := hv 8 (by omega) 28 rfl
      have e9 : vals 9 = .bool (true) := hv 9 (by omega) 29 rfl
      have e10 : vals 10 = .bool (true) := hv 10 (by omega) 4 rfl
      simp only [putAll, Act.put, List.take_succ_cons, List.take_zero, List.drop_succ_cons, List.drop_zero, List.drop_nil, List.take_nil, Nat.reduceAdd, List.setIfInBounds_toArray, List.set_cons_succ, List.set_cons_zero, e0, e1, e2, e3, e4, e5, e6, e7, e8, e9, e10]
      clear hv e0 e1 e2 e3 e4 e5 e6 e7 e8 e9 e10
      go_wp2_with fail
      go_ret
      exact ⟨rfl, hEr.trans hE⟩
end Go.Proofs.Ytmgnigofilkfmaa

/-
  keep.Seed and law4.known, walked.
-/
import Derived.Test.YtmgnigofilkfmaaOnce3
import Derived.Test.YtmgnigofilkfmaaKeep
import Derived.Test.YtmgnigofilkfmaaRef2Tag
import Derived.Lib.SlBytesConst
namespace Go.Proofs.Ytmgnigofilkfmaa
set_option maxRecDepth 100000
open Go Go.RowKit
def seedL (key : Int) : List UInt8 := tagged 99 [UInt8.ofNat ((within key 0 1000).toNat % 5)]
set_option maxHeartbeats 1000000 in
theorem seed_any (key : Int) (w : World) (h0 : -9223372036854775808 ≤ key) (h1 : key ≤ 9223372036854775807) :
    Calls Try.prog 27 #[.int .i64 key] w fun e w' => ∃ A' c', e = .returned (.slice A' 32 c') ∧ OB w' w.heap.size A' 32 c' (seedL key) ∧ Ext w w' := by
  obtain ⟨k, hk⟩ : ∃ k : Nat, within key 0 1000 = k := ⟨_, (Int.toNat_of_nonneg (within_in key 0 1000 (by omega)).1).symm⟩
  have hwi := within_any key 0 1000 w h0 h1 (by omega) (by omega) (by omega)
  have hs : seedL key = tagged 99 [UInt8.ofNat (k % 5)] := by unfold seedL; rw [hk]; rfl
  rw [hk] at hwi
  rw [hs]
  have Hwi := Lib.hid hwi
  clear hwi hs hk
  go_enter Try.func27, Try.ntmps27
  go_wp2_with fail
  refine Hwi.out.mono ?_
  rintro e w1 ⟨rfl, rfl⟩
  have e1 : (k : Int) % 5 = u8i (UInt8.ofNat (k % 5)) := by
    unfold u8i
    rw [UInt8.toNat_ofNat']
    omega
  have r1 := RB.lit w [UInt8.ofNat (k % 5)] (n := 1) rfl (small_maxLen (by decide))
  have hE1 := Ext.new w (.cells (bv [UInt8.ofNat (k % 5)]).toArray 5)
  have r2 := RBB.of1 r1 22
  have hE2 := Ext.new (w.alloc (.cells (bv [UInt8.ofNat (k % 5)]).toArray 5)) (.cells #[.slice (some ⟨w.heap.size, 0, none⟩) 1 1] 22)
  have hta := rtagged_any 99 _ 1 1 _ _ r2 (by simp)
  have e99 : u8i 99 = 99 := rfl
  rw [e99, World.size_alloc] at hta
  have Hta := Lib.hid hta
  clear hta
  go_wp2_with fail
  refine Hta.out.mono ?_
  rintro e w3 ⟨A3, c3, rfl, own3, hE3⟩
  go_wp2_with fail
  go_ret
  exact ⟨A3, c3, rfl, own3.base (hE1.trans hE2).size, (hE1.trans hE2).trans hE3⟩
set_option maxHeartbeats 4000000 in
theorem known4_any (w : World) : Calls Try.prog 40 #[] w fun e w' => e = .returned (.bool true) ∧ Ext w w' := by
  go_enter Try.func40, Try.ntmps40
  go_wp2_with fail
  refine (seed_any 1 w (by omega) (by omega)).mono ?_
  rintro e w1 ⟨A1, c1, rfl, own1, hE1⟩
  obtain ⟨S, hS⟩ : ∃ S, S = seedL 1 := ⟨_, rfl⟩
  rw [← hS] at own1
  clear hS
  have rS1 := own1.rb
  have es : (#[.int .u8 109] : Array Value).size = 1 := rfl
  have s0 := Lib.run_convert_bytes_const (P := Try.prog) w1 22 5 #[.int .u8 109] 1 1 Try.underlying22 Try.underlying5
  rw [es] at s0
  obtain ⟨w2, hw2⟩ : ∃ w2, w2 = w1.alloc (.cells #[.int .u8 109] 5 (1, 1 + 1)) := ⟨_, rfl⟩
  have rM2 : RB w2 (some ⟨w1.heap.size, 0, none⟩) 1 1 [109] := by rw [hw2]; exact RB.litM w1 [109] (1, 1 + 1) (n := 1) rfl (small_maxLen (by decide))
  have hE2 : Ext w1 w2 := by rw [hw2]; exact Ext.new w1 _
  rw [← hw2] at s0
  have s1 := Lib.run_convert_bytes_const (P := Try.prog) w2 22 5 #[.int .u8 109] 1 1 Try.underlying22 Try.underlying5
  rw [es] at s1
  obtain ⟨w3, hw3⟩ : ∃ w3, w3 = w2.alloc (.cells #[.int .u8 109] 5 (1, 1 + 1)) := ⟨_, rfl⟩
  have rM3 : RB w3 (some ⟨w2.heap.size, 0, none⟩) 1 1 [109] := by rw [hw3]; exact RB.litM w2 [109] (1, 1 + 1) (n := 1) rfl (small_maxLen (by decide))
  have hE3 : Ext w2 w3 := by rw [hw3]; exact Ext.new w2 _
  rw [← hw3] at s1
  clear hw2 hw3
  go_wp2_with fail
  refine (sign_any A1 _ 32 c1 1 1 S [109] 3 w3 ((rS1.ext hE2).ext hE3) (by omega) rM3 (by omega)).mono ?_
  rintro e w4 ⟨P4, d4, rfl, own4, hE4⟩
  clear s0 s1
  have rb4 := own4.rbb
  have hrs := root_sign [109] S 3
  have rM4 := (rM2.ext hE3).ext hE4
  go_wp2_with fail
  refine (root_any _ P4 1 1 64 d4 [109] _ w4 rM4 (by omega) rb4).mono ?_
  rintro e w5 ⟨h1, _, hE5⟩
  obtain ⟨A7, c7, rfl, own5⟩ := h1 hrs.1
  rw [hrs.2] at own5
  clear h1 hrs
  have r5 := own5.rb
  have s2 := Lib.run_convert_bytes_const (P := Try.prog) w5 22 5 #[.int .u8 109] 1 1 Try.underlying22 Try.underlying5
  rw [es] at s2
  obtain ⟨w6, hw6⟩ : ∃ w6, w6 = w5.alloc (.cells #[.int .u8 109] 5 (1, 1 + 1)) := ⟨_, rfl⟩
  have rM6 : RB w6 (some ⟨w5.heap.size, 0, none⟩) 1 1 [109] := by rw [hw6]; exact RB.litM w5 [109] (1, 1 + 1) (n := 1) rfl (small_maxLen (by decide))
  have hE6 : Ext w5 w6 := by rw [hw6]; exact Ext.new w5 _
  rw [← hw6] at s2
  clear hw6
  go_wp2_with fail
  refine (root_any _ none 1 1 0 0 [109] [] w6 rM6 (by omega) (RBB.nil_ _)).mono ?_
  rintro e w7 ⟨_, h2, hE7⟩
  obtain rfl := h2 (fun h => by have := h.1; simp at this)
  clear h2 s2 es
  have r7 := (r5.ext hE6).ext hE7
  have hE17 := (((hE2.trans hE3).trans hE4).trans hE5).trans (hE6.trans hE7)
  have rS := rS1.ext hE17
  go_upto_region 4 with (fail)
  refine par_ext (n := 19) (by kernel_rfl) [.is (.bool (true)), .is (.bool (true)), .is (.slice (A7) (32) (c7)), .is (.int .i64 ((32 : Nat))), .is (.bool (true)), .is (.bool (true)), .is (.bool (true)), .is (.slice (A7) (32) (c7)), .is (.string (str (publicL S 3))), .is (.slice (A1) (32) (c1)), .rb (publicL S 3), .is (.string (str (publicL S 3))), .is (.bool (true)), .is (.bool (true)), .is (.bool (true)), .is (.bool (false)), .is (.bool (true)), .is (.bool (true)), .is (.bool (true))] rfl ⟨?_, ?_, ?_, ?_, ?_, ?_, ?_, ?_, ?_, ?_, ?_, ?_, ?_, ?_, ?_, ?_, ?_, ?_, ?_, trivial⟩ ?_
  · refine stepE rfl fun sdn sa sw sE sd sk => ?_
    have h3 : sa.eval (.tmp 3) = .bool (true) := sk.old 3 rfl
    exact Runs.move rfl h3 ⟨Ext.refl _, rfl⟩
  · refine stepE rfl fun sdn sa sw sE sd sk => ?_
    have h23 : sa.eval (.tmp 23) = .bool (true) := sk.fact 0 23 rfl (sd 0 rfl)
    exact Runs.move rfl h23 ⟨Ext.refl _, rfl⟩
  · refine stepY (j := 1) (d := 24) (b := true) rfl rfl rfl (fun v w h => h) fun sdn sa sw sE sd sk => ?_
    have h2 : sa.eval (.tmp 2) = .slice (A7) (32) (c7) := sk.old 2 rfl
    exact Runs.move rfl h2 ⟨Ext.refl _, rfl⟩
  · refine stepY (j := 1) (d := 24) (b := true) rfl rfl rfl (fun v w h => h) fun sdn sa sw sE sd sk => ?_
    have h25 : sa.eval (.tmp 25) = .slice (A7) (32) (c7) := sk.fact 2 25 rfl (sd 2 rfl)
    exact Runs.len Try.underlying22 rfl h25 ⟨Ext.refl _, rfl⟩
  · refine stepY (j := 1) (d := 24) (b := true) rfl rfl rfl (fun v w h => h) fun sdn sa sw sE sd sk => ?_
    have h26 : sa.eval (.tmp 26) = .int .i64 ((32 : Nat)) := sk.fact 3 26 rfl (sd 3 rfl)
    exact Runs.bin rfl h26 rfl (by rfl) (bin_eql _ _ _ _) ⟨Ext.refl _, congrArg Value.bool (decide_eq_true rfl)⟩
  · refine stepE rfl fun sdn sa sw sE sd sk => ?_
    have h24 : sa.eval (.tmp 24) = .bool (true) := sk.fact 1 24 rfl (sd 1 rfl)
    have h27 : sa.eval (.tmp 27) = .bool (true) := sk.fact 4 27 rfl (sd 4 rfl)
    exact Runs.pick rfl h24 ⟨Ext.refl _, by first | exact h27 | simpa using h27⟩
  · refine stepE rfl fun sdn sa sw sE sd sk => ?_
    have h28 : sa.eval (.tmp 28) = .bool (true) := sk.fact 5 28 rfl (sd 5 rfl)
    exact Runs.move rfl h28 ⟨Ext.refl _, rfl⟩
  · refine stepY (j := 6) (d := 29) (b := true) rfl rfl rfl (fun v w h => h) fun sdn sa sw sE sd sk => ?_
    have h2 : sa.eval (.tmp 2) = .slice (A7) (32) (c7) := sk.old 2 rfl
    exact Runs.move rfl h2 ⟨Ext.refl _, rfl⟩
  · refine stepY (j := 6) (d := 29) (b := true) rfl rfl rfl (fun v w h => h) fun sdn sa sw sE sd sk => ?_
    have h30 : sa.eval (.tmp 30) = .slice (A7) (32) (c7) := sk.fact 7 30 rfl (sd 7 rfl)
    exact Runs.conv rfl h30 (run_str (r7.ext sE)) ⟨Ext.refl _, rfl⟩
  · refine stepY (j := 6) (d := 29) (b := true) rfl rfl rfl (fun v w h => h) fun sdn sa sw sE sd sk => ?_
    have h1 : sa.eval (.tmp 1) = .slice (A1) (32) (c1) := sk.old 1 rfl
    exact Runs.move rfl h1 ⟨Ext.refl _, rfl⟩
  · refine stepY (j := 6) (d := 29) (b := true) rfl rfl rfl (fun v w h => h) fun sdn sa sw sE sd sk => ?_
    have h32 : sa.eval (.tmp 32) = .slice (A1) (32) (c1) := sk.fact 9 32 rfl (sd 9 rfl)
    refine Runs.call (f := 38) (vs := [.slice (A1) (32) (c1), .int .i64 ((3 : Int))]) rfl rfl rfl (by simp only [List.map_toArray, List.map_cons, List.map_nil, h32] <;> rfl) (ent38 _ _) ((public_any _ _ _ _ 3 sw (rS.ext sE) (by omega)).mono ?_); rintro e w' ⟨A', c', rfl, own, hx⟩; exact ⟨_, rfl, hx, A', 32, c', rfl, own.rb⟩
  · refine stepY (j := 6) (d := 29) (b := true) rfl rfl rfl (fun v w h => h) fun sdn sa sw sE sd sk => ?_
    obtain ⟨A33, n33, c33, h33, r33⟩ := sk.fact 10 33 rfl (sd 10 rfl)
    exact Runs.conv rfl h33 (run_str r33) ⟨Ext.refl _, rfl⟩
  · refine stepY (j := 6) (d := 29) (b := true) rfl rfl rfl (fun v w h => h) fun sdn sa sw sE sd sk => ?_
    have h31 : sa.eval (.tmp 31) = .string (str (publicL S 3)) := sk.fact 8 31 rfl (sd 8 rfl)
    have h34 : sa.eval (.tmp 34) = .string (str (publicL S 3)) := sk.fact 11 34 rfl (sd 11 rfl)
    exact Runs.bin rfl h31 h34 (by rfl) (bin_eqs _ _ _) ⟨Ext.refl _, congrArg Value.bool (by simp)⟩
  · refine stepE rfl fun sdn sa sw sE sd sk => ?_
    have h29 : sa.eval (.tmp 29) = .bool (true) := sk.fact 6 29 rfl (sd 6 rfl)
    have h35 : sa.eval (.tmp 35) = .bool (true) := sk.fact 12 35 rfl (sd 12 rfl)
    exact Runs.pick rfl h29 ⟨Ext.refl _, by first | exact h35 | simpa using h35⟩
  · refine stepE rfl fun sdn sa sw sE sd sk => ?_
    have h36 : sa.eval (.tmp 36) = .bool (true) := sk.fact 13 36 rfl (sd 13 rfl)
    exact Runs.move rfl h36 ⟨Ext.refl _, rfl⟩
  · refine stepY (j := 14) (d := 37) (b := true) rfl rfl rfl (fun v w h => h) fun sdn sa sw sE sd sk => ?_
    have h5 : sa.eval (.tmp 5) = .bool (false) := sk.old 5 rfl
    exact Runs.move rfl h5 ⟨Ext.refl _, rfl⟩
  · refine stepY (j := 14) (d := 37) (b := true) rfl rfl rfl (fun v w h => h) fun sdn sa sw sE sd sk => ?_
    have h38 : sa.eval (.tmp 38) = .bool (false) := sk.fact 15 38 rfl (sd 15 rfl)
    exact Runs.un rfl h38 (by rfl) ⟨Ext.refl _, rfl⟩
  · refine stepE rfl fun sdn sa sw sE sd sk => ?_
    have h37 : sa.eval (.tmp 37) = .bool (true) := sk.fact 14 37 rfl (sd 14 rfl)
    have h39 : sa.eval (.tmp 39) = .bool (true) := sk.fact 16 39 rfl (sd 16 rfl)
    exact Runs.pick rfl h37 ⟨Ext.refl _, by first | exact h39 | simpa using h39⟩
  · refine stepE rfl fun sdn sa sw sE sd sk => ?_
    have h40 : sa.eval (.tmp 40) = .bool (true) := sk.fact 17 40 rfl (sd 17 rfl)
    exact Runs.assign rfl h40 ⟨Ext.refl _, rfl⟩
  intro vals W9 hE hv
  have e0 : vals 0 = .bool (true) := hv 0 (by omega) 23 rfl
  have e1 : vals 1 = .bool (true) := hv 1 (by omega) 24 rfl
  have e2 : vals 2 = .slice (A7) (32) (c7) := hv 2 (by omega) 25 rfl
  have e3 : vals 3 = .int .i64 ((32 : Nat)) := hv 3 (by omega) 26 rfl
  have e4 : vals 4 = .bool (true) := hv 4 (by omega) 27 rfl
  have e5 : vals 5 = .bool (true) := hv 5 (by omega) 28 rfl
  have e6 : vals 6 = .bool (true) := hv 6 (by omega) 29 rfl
  have e7 : vals 7 = .slice (A7) (32) (c7) := hv 7 (by omega) 30 rfl
  have e8 : vals 8 = .string (str (publicL S 3)) := hv 8 (by omega) 31 rfl
  have e9 : vals 9 = .slice (A1) (32) (c1) := hv 9 (by omega) 32 rfl
  obtain ⟨A33, n33, c33, e10, r33⟩ := hv 10 (by omega) 33 rfl
  have e11 : vals 11 = .string (str (publicL S 3)) := hv 11 (by omega) 34 rfl
  have e12 : vals 12 = .bool (true) := hv 12 (by omega) 35 rfl
  have e13 : vals 13 = .bool (true) := hv 13 (by omega) 36 rfl
  have e14 : vals 14 = .bool (true) := hv 14 (by omega) 37 rfl
  have e15 : vals 15 = .bool (false) := hv 15 (by omega) 38 rfl
  have e16 : vals 16 = .bool (true) := hv 16 (by omega) 39 rfl
  have e17 : vals 17 = .bool (true) := hv 17 (by omega) 40 rfl
  have e18 : vals 18 = .bool (true) := hv 18 (by omega) 0 rfl
  simp only [putAll, Act.put, List.take_succ_cons, List.take_zero, List.drop_succ_cons, List.drop_zero, List.drop_nil, List.take_nil, Nat.reduceAdd, List.setIfInBounds_toArray, List.set_cons_succ, List.set_cons_zero, e0, e1, e2, e3, e4, e5, e6, e7, e8, e9, e10, e11, e12, e13, e14, e15, e16, e17, e18]
  clear hv e0 e1 e2 e3 e4 e5 e6 e7 e8 e9 e10 e11 e12 e13 e14 e15 e16 e17 e18
  go_wp2_with fail
  go_ret
  exact ⟨rfl, (hE1.trans hE17).trans hE⟩
end Go.Proofs.Ytmgnigofilkfmaa

/-
  law2.HashTells, walked.
-/
import Derived.Test.YtmgnigofilkfmaaKnown2
import Derived.Test.YtmgnigofilkfmaaHashTag
import Derived.Test.YtmgnigofilkfmaaRef2Tag
import Derived.Test.YtmgnigofilkfmaaBook
import Derived.Test.YtmgnigofilkfmaaParts
import Derived.Test.YtmgnigofilkfmaaBools
import Derived.Test.YtmgnigofilkfmaaKeep
namespace Go.Proofs.Ytmgnigofilkfmaa
set_option maxRecDepth 100000
open Go Go.RowKit
set_option maxHeartbeats 4000000 in
theorem tells_law (A B : Option Addr) (n c m d : Nat) (L M : List UInt8) (t : UInt8) (w : World) (hr : RB w A n c L) (hs : RB w B m d M) :
    Calls Try.prog 7 #[.slice A n c, .slice B m d, .int .u8 (u8i t)] w fun e w' => e = .returned (.bool true) ∧ Ext w w' := by
  go_enter Try.func7, Try.ntmps7
  have hc1 := cut_any A n c 1000 L w hr (by omega)
  have hc2 := cut_any B m d 300 M w hs (by omega)
  have e1000 : ((1000 : Nat) : Int) = 1000 := rfl
  have e300 : ((300 : Nat) : Int) = 300 := rfl
  rw [e1000] at hc1
  rw [e300] at hc2
  go_wp2_with fail
  refine hc1.mono ?_
  rintro e w1 ⟨⟨rfl, rL⟩, rfl⟩
  go_wp2_with fail
  refine hc2.mono ?_
  rintro e w1 ⟨⟨rfl, rM⟩, rfl⟩
  clear hc1 hc2 e1000 e300 hr hs
  have hn1 : min n 1000 ≤ 1000 := by omega
  have hm1 : min m 300 ≤ 300 := by omega
  generalize min n 1000 = n at *
  generalize L.take 1000 = L at *
  generalize min m 300 = m at *
  generalize M.take 300 = M at *
  have hL := rL.len
  have hM := rM.len
  have HL := Lib.hid hL
  have HM := Lib.hid hM
  clear hL hM
  have hro := roomy_any A n c L 165 w rL (by omega)
  have e165 : u8i 165 = 165 := rfl
  rw [e165] at hro
  go_wp2_with fail
  refine hro.mono ?_
  rintro e w2 ⟨g, rfl, own, hE2⟩
  have rfull := own.rb
  have rL := rL.ext hE2
  have rM := rM.ext hE2
  have rcut := rfull.take (k := n) (by omega)
  rw [List.take_left' HL.out] at rcut
  clear hro own
  have hL := HL.out
  have hM := HM.out
  go_upto_region 3 with (fail)
  refine par_ext (n := 57) (by kernel_rfl) [.is (.slice (some ⟨g, 0, none⟩) (n + 80) (n + 80)), .is (.slice (A) (n) (c)), .is (.int .i64 ((n : Nat))), .is (.slice (some ⟨g, 0, none⟩) (n) (n + 80)), .rb (sha (L)), .is (.string (str (sha (L)))), .is (.slice (A) (n) (c)), .rb (sha (L)), .is (.string (str (sha (L)))), .is (.bool (true)), .is (.bool (true)), .is (.int .u8 (u8i (t))), .is (.slice (A) (n) (c)), .is (.slice (B) (m) (d)), .rbb ([L, M]), .rb (tagged (t) ([L, M]).flatten), .is (.string (str (tagged (t) ([L, M]).flatten))), .is (.int .u8 (u8i (t))), .is (.slice (A) (n) (c)), .is (.slice (B) (m) (d)), .rbb ([L, M]), .rb (tagged (t) ([L, M]).flatten), .is (.string (str (tagged (t) ([L, M]).flatten))), .is (.bool (true)), .is (.bool (true)), .is (.bool (true)), .is (.slice (B) (m) (d)), .is (.string (str (hexOf M))), .is (.slice (B) (m) (d)), .is (.string (str (hexOf M))), .is (.bool (true)), .is (.bool (true)), .is (.bool (true)), .is (.slice (A) (n) (c)), .is (.slice (B) (m) (d)), .is (.bool (decide (L = M))), .is (.slice (A) (n) (c)), .is (.string (str (L))), .is (.slice (B) (m) (d)), .is (.string (str (M))), .is (.bool (decide (L = M))), .is (.bool (true)), .is (.bool (true)), .is (.bool (true)), .is (.slice (A) (n) (c)), .is (.slice (A) (n) (c)), .is (.bool (true)), .is (.bool (true)), .is (.bool (true)), .is (.slice (some ⟨g, 0, none⟩) (n + 80) (n + 80)), .is (.slice (A) (n) (c)), .is (.bool (true)), .is (.bool (true)), .is (.bool (true)), .is (.bool (true)), .is (.bool (true)), .is (.bool (true))] rfl ⟨?_, ?_, ?_, ?_, ?_, ?_, ?_, ?_, ?_, ?_, ?_, ?_, ?_, ?_, ?_, ?_, ?_, ?_, ?_, ?_, ?_, ?_, ?_, ?_, ?_, ?_, ?_, ?_, ?_, ?_, ?_, ?_, ?_, ?_, ?_, ?_, ?_, ?_, ?_, ?_, ?_, ?_, ?_, ?_, ?_, ?_, ?_, ?_, ?_, ?_, ?_, ?_, ?_, ?_, ?_, ?_, ?_, trivial⟩ ?_
  · refine stepE rfl fun sdn sa sw sE sd sk => ?_
    have h7 : sa.eval (.tmp 7) = .slice (some ⟨g, 0, none⟩) (n + 80) (n + 80) := sk.old 7 rfl
    exact Runs.move rfl h7 ⟨Ext.refl _, rfl⟩
  · refine stepE rfl fun sdn sa sw sE sd sk => ?_
    have h0 : sa.eval (.tmp 0) = .slice (A) (n) (c) := sk.old 0 rfl
    exact Runs.move rfl h0 ⟨Ext.refl _, rfl⟩
  · refine stepE rfl fun sdn sa sw sE sd sk => ?_
    have h15 : sa.eval (.tmp 15) = .slice (A) (n) (c) := sk.fact 1 15 rfl (sd 1 rfl)
    exact Runs.len Try.underlying22 rfl h15 ⟨Ext.refl _, rfl⟩
  · refine stepE rfl fun sdn sa sw sE sd sk => ?_
    have h14 : sa.eval (.tmp 14) = .slice (some ⟨g, 0, none⟩) (n + 80) (n + 80) := sk.fact 0 14 rfl (sd 0 rfl)
    have h16 : sa.eval (.tmp 16) = .int .i64 ((n : Nat)) := sk.fact 2 16 rfl (sd 2 rfl)
    exact Runs.slice rfl h14 (by simp only [Option.map_some, Option.map_none, h16]; exact run_cut_h Try.underlying22 inf22_eq (n) (by first | rfl | omega) (by omega)) ⟨Ext.refl _, rfl⟩
  · refine stepE rfl fun sdn sa sw sE sd sk => ?_
    have h17 : sa.eval (.tmp 17) = .slice (some ⟨g, 0, none⟩) (n) (n + 80) := sk.fact 3 17 rfl (sd 3 rfl)
    refine Runs.call (f := 16) (vs := [.slice (some ⟨g, 0, none⟩) (n) (n + 80)]) rfl rfl rfl (by simp only [List.map_toArray, List.map_cons, List.map_nil, h17] <;> rfl) (ent16 _ _) ((hsum_any (some ⟨g, 0, none⟩) n (n + 80) _ sw (rcut.ext sE) (by omega)).mono ?_); rintro e w' ⟨A', c', rfl, own, hx⟩; exact ⟨_, rfl, hx, A', 32, c', rfl, own.rb⟩
  · refine stepE rfl fun sdn sa sw sE sd sk => ?_
    obtain ⟨A18, n18, c18, h18, r18⟩ := sk.fact 4 18 rfl (sd 4 rfl)
    exact Runs.conv rfl h18 (run_str r18) ⟨Ext.refl _, rfl⟩
  · refine stepE rfl fun sdn sa sw sE sd sk => ?_
    have h0 : sa.eval (.tmp 0) = .slice (A) (n) (c) := sk.old 0 rfl
    exact Runs.move rfl h0 ⟨Ext.refl _, rfl⟩
  · refine stepE rfl fun sdn sa sw sE sd sk => ?_
    have h20 : sa.eval (.tmp 20) = .slice (A) (n) (c) := sk.fact 6 20 rfl (sd 6 rfl)
    refine Runs.call (f := 20) (vs := [.slice (A) (n) (c)]) rfl rfl rfl (by simp only [List.map_toArray, List.map_cons, List.map_nil, h20] <;> rfl) (ent20 _ _) ((sum_any A n c _ sw (rL.ext sE) (by omega)).mono ?_); rintro e w' ⟨A', c', rfl, own, hx⟩; exact ⟨_, rfl, hx, A', 32, c', rfl, own.rb⟩
  · refine stepE rfl fun sdn sa sw sE sd sk => ?_
    obtain ⟨A21, n21, c21, h21, r21⟩ := sk.fact 7 21 rfl (sd 7 rfl)
    exact Runs.conv rfl h21 (run_str r21) ⟨Ext.refl _, rfl⟩
  · refine stepE rfl fun sdn sa sw sE sd sk => ?_
    have h19 : sa.eval (.tmp 19) = .string (str (sha (L))) := sk.fact 5 19 rfl (sd 5 rfl)
    have h22 : sa.eval (.tmp 22) = .string (str (sha (L))) := sk.fact 8 22 rfl (sd 8 rfl)
    exact Runs.bin rfl h19 h22 (by rfl) (bin_eqs _ _ _) ⟨Ext.refl _, congrArg Value.bool (by simp)⟩
  · refine stepE rfl fun sdn sa sw sE sd sk => ?_
    have h23 : sa.eval (.tmp 23) = .bool (true) := sk.fact 9 23 rfl (sd 9 rfl)
    exact Runs.move rfl h23 ⟨Ext.refl _, rfl⟩
  · refine stepY (j := 10) (d := 24) (b := true) rfl rfl rfl (fun v w h => h) fun sdn sa sw sE sd sk => ?_
    have h2 : sa.eval (.tmp 2) = .int .u8 (u8i (t)) := sk.old 2 rfl
    exact Runs.move rfl h2 ⟨Ext.refl _, rfl⟩
  · refine stepY (j := 10) (d := 24) (b := true) rfl rfl rfl (fun v w h => h) fun sdn sa sw sE sd sk => ?_
    have h0 : sa.eval (.tmp 0) = .slice (A) (n) (c) := sk.old 0 rfl
    exact Runs.move rfl h0 ⟨Ext.refl _, rfl⟩
  · refine stepY (j := 10) (d := 24) (b := true) rfl rfl rfl (fun v w h => h) fun sdn sa sw sE sd sk => ?_
    have h1 : sa.eval (.tmp 1) = .slice (B) (m) (d) := sk.old 1 rfl
    exact Runs.move rfl h1 ⟨Ext.refl _, rfl⟩
  · refine stepY (j := 10) (d := 24) (b := true) rfl rfl rfl (fun v w h => h) fun sdn sa sw sE sd sk => ?_
    have h26 : sa.eval (.tmp 26) = .slice (A) (n) (c) := sk.fact 12 26 rfl (sd 12 rfl)
    have h27 : sa.eval (.tmp 27) = .slice (B) (m) (d) := sk.fact 13 27 rfl (sd 13 rfl)
    exact Runs.ss2 rfl h26 h27 (rL.ext sE) (rM.ext sE) (fun w1 e1 b1 => ⟨e1, _, _, _, rfl, b1⟩)
  · refine stepY (j := 10) (d := 24) (b := true) rfl rfl rfl (fun v w h => h) fun sdn sa sw sE sd sk => ?_
    have h25 : sa.eval (.tmp 25) = .int .u8 (u8i (t)) := sk.fact 11 25 rfl (sd 11 rfl)
    obtain ⟨A28, n28, c28, h28, r28⟩ := sk.fact 14 28 rfl (sd 14 rfl)
    refine Runs.call (f := 21) (vs := [.int .u8 (u8i (t)), .slice (A28) (n28) (c28)]) rfl rfl rfl (by simp only [List.map_toArray, List.map_cons, List.map_nil, h25, h28] <;> rfl) (ent21 _ _) ((htagged_any (t) A28 n28 c28 ([L, M]) sw (r28) (by simp only [List.flatten_cons, List.flatten_nil, List.length_append, List.length_nil, hL, hM]; omega)).mono ?_); rintro e w' ⟨A', c', rfl, own, hx⟩; exact ⟨_, rfl, hx, A', 32, c', rfl, own.rb⟩
  · refine stepY (j := 10) (d := 24) (b := true) rfl rfl rfl (fun v w h => h) fun sdn sa sw sE sd sk => ?_
    obtain ⟨A29, n29, c29, h29, r29⟩ := sk.fact 15 29 rfl (sd 15 rfl)
    exact Runs.conv rfl h29 (run_str r29) ⟨Ext.refl _, rfl⟩
  · refine stepY (j := 10) (d := 24) (b := true) rfl rfl rfl (fun v w h => h) fun sdn sa sw sE sd sk => ?_
    have h2 : sa.eval (.tmp 2) = .int .u8 (u8i (t)) := sk.old 2 rfl
    exact Runs.move rfl h2 ⟨Ext.refl _, rfl⟩
  · refine stepY (j := 10) (d := 24) (b := true) rfl rfl rfl (fun v w h => h) fun sdn sa sw sE sd sk => ?_
    have h0 : sa.eval (.tmp 0) = .slice (A) (n) (c) := sk.old 0 rfl
    exact Runs.move rfl h0 ⟨Ext.refl _, rfl⟩
  · refine stepY (j := 10) (d := 24) (b := true) rfl rfl rfl (fun v w h => h) fun sdn sa sw sE sd sk => ?_
    have h1 : sa.eval (.tmp 1) = .slice (B) (m) (d) := sk.old 1 rfl
    exact Runs.move rfl h1 ⟨Ext.refl _, rfl⟩
  · refine stepY (j := 10) (d := 24) (b := true) rfl rfl rfl (fun v w h => h) fun sdn sa sw sE sd sk => ?_
    have h32 : sa.eval (.tmp 32) = .slice (A) (n) (c) := sk.fact 18 32 rfl (sd 18 rfl)
    have h33 : sa.eval (.tmp 33) = .slice (B) (m) (d) := sk.fact 19 33 rfl (sd 19 rfl)
    exact Runs.ss2 rfl h32 h33 (rL.ext sE) (rM.ext sE) (fun w1 e1 b1 => ⟨e1, _, _, _, rfl, b1⟩)
  · refine stepY (j := 10) (d := 24) (b := true) rfl rfl rfl (fun v w h => h) fun sdn sa sw sE sd sk => ?_
    have h31 : sa.eval (.tmp 31) = .int .u8 (u8i (t)) := sk.fact 17 31 rfl (sd 17 rfl)
    obtain ⟨A34, n34, c34, h34, r34⟩ := sk.fact 20 34 rfl (sd 20 rfl)
    refine Runs.call (f := 22) (vs := [.int .u8 (u8i (t)), .slice (A34) (n34) (c34)]) rfl rfl rfl (by simp only [List.map_toArray, List.map_cons, List.map_nil, h31, h34] <;> rfl) (ent22 _ _) ((rtagged_any (t) A34 n34 c34 ([L, M]) sw (r34) (by simp only [List.flatten_cons, List.flatten_nil, List.length_append, List.length_nil, hL, hM]; omega)).mono ?_); rintro e w' ⟨A', c', rfl, own, hx⟩; exact ⟨_, rfl, hx, A', 32, c', rfl, own.rb⟩
  · refine stepY (j := 10) (d := 24) (b := true) rfl rfl rfl (fun v w h => h) fun sdn sa sw sE sd sk => ?_
    obtain ⟨A35, n35, c35, h35, r35⟩ := sk.fact 21 35 rfl (sd 21 rfl)
    exact Runs.conv rfl h35 (run_str r35) ⟨Ext.refl _, rfl⟩
  · refine stepY (j := 10) (d := 24) (b := true) rfl rfl rfl (fun v w h => h) fun sdn sa sw sE sd sk => ?_
    have h30 : sa.eval (.tmp 30) = .string (str (tagged (t) ([L, M]).flatten)) := sk.fact 16 30 rfl (sd 16 rfl)
    have h36 : sa.eval (.tmp 36) = .string (str (tagged (t) ([L, M]).flatten)) := sk.fact 22 36 rfl (sd 22 rfl)
    exact Runs.bin rfl h30 h36 (by rfl) (bin_eqs _ _ _) ⟨Ext.refl _, congrArg Value.bool (by simp)⟩
  · refine stepE rfl fun sdn sa sw sE sd sk => ?_
    have h24 : sa.eval (.tmp 24) = .bool (true) := sk.fact 10 24 rfl (sd 10 rfl)
    have h37 : sa.eval (.tmp 37) = .bool (true) := sk.fact 23 37 rfl (sd 23 rfl)
    exact Runs.pick rfl h24 ⟨Ext.refl _, by first | exact h37 | simpa using h37⟩
  · refine stepE rfl fun sdn sa sw sE sd sk => ?_
    have h38 : sa.eval (.tmp 38) = .bool (true) := sk.fact 24 38 rfl (sd 24 rfl)
    exact Runs.move rfl h38 ⟨Ext.refl _, rfl⟩
  · refine stepY (j := 25) (d := 39) (b := true) rfl rfl rfl (fun v w h => h) fun sdn sa sw sE sd sk => ?_
    have h1 : sa.eval (.tmp 1) = .slice (B) (m) (d) := sk.old 1 rfl
    exact Runs.move rfl h1 ⟨Ext.refl _, rfl⟩
  · refine stepY (j := 25) (d := 39) (b := true) rfl rfl rfl (fun v w h => h) fun sdn sa sw sE sd sk => ?_
    have h40 : sa.eval (.tmp 40) = .slice (B) (m) (d) := sk.fact 26 40 rfl (sd 26 rfl)
    refine Runs.call (f := 17) (vs := [.slice (B) (m) (d)]) rfl rfl rfl (by simp only [List.map_toArray, List.map_cons, List.map_nil, h40] <;> rfl) (ent17 _ _) ((hhex_any B m d _ sw (rM.ext sE) (by omega)).mono ?_); rintro e w' ⟨rfl, hx⟩; exact ⟨_, rfl, hx, rfl⟩
  · refine stepY (j := 25) (d := 39) (b := true) rfl rfl rfl (fun v w h => h) fun sdn sa sw sE sd sk => ?_
    have h1 : sa.eval (.tmp 1) = .slice (B) (m) (d) := sk.old 1 rfl
    exact Runs.move rfl h1 ⟨Ext.refl _, rfl⟩
  · refine stepY (j := 25) (d := 39) (b := true) rfl rfl rfl (fun v w h => h) fun sdn sa sw sE sd sk => ?_
    have h42 : sa.eval (.tmp 42) = .slice (B) (m) (d) := sk.fact 28 42 rfl (sd 28 rfl)
    refine Runs.call (f := 23) (vs := [.slice (B) (m) (d)]) rfl rfl rfl (by simp only [List.map_toArray, List.map_cons, List.map_nil, h42] <;> rfl) (ent23 _ _) ((lhex_any B m d _ sw (rM.ext sE) (by omega)).mono ?_); rintro e w' ⟨rfl, hx⟩; exact ⟨_, rfl, hx, rfl⟩
  · refine stepY (j := 25) (d := 39) (b := true) rfl rfl rfl (fun v w h => h) fun sdn sa sw sE sd sk => ?_
    have h41 : sa.eval (.tmp 41) = .string (str (hexOf M)) := sk.fact 27 41 rfl (sd 27 rfl)
    have h43 : sa.eval (.tmp 43) = .string (str (hexOf M)) := sk.fact 29 43 rfl (sd 29 rfl)
    exact Runs.bin rfl h41 h43 (by rfl) (bin_eqs _ _ _) ⟨Ext.refl _, congrArg Value.bool (by simp)⟩
  · refine stepE rfl fun sdn sa sw sE sd sk => ?_
    have h39 : sa.eval (.tmp 39) = .bool (true) := sk.fact 25 39 rfl (sd 25 rfl)
    have h44 : sa.eval (.tmp 44) = .bool (true) := sk.fact 30 44 rfl (sd 30 rfl)
    exact Runs.pick rfl h39 ⟨Ext.refl _, by first | exact h44 | simpa using h44⟩
  · refine stepE rfl fun sdn sa sw sE sd sk => ?_
    have h45 : sa.eval (.tmp 45) = .bool (true) := sk.fact 31 45 rfl (sd 31 rfl)
    exact Runs.move rfl h45 ⟨Ext.refl _, rfl⟩
  · refine stepY (j := 32) (d := 46) (b := true) rfl rfl rfl (fun v w h => h) fun sdn sa sw sE sd sk => ?_
    have h0 : sa.eval (.tmp 0) = .slice (A) (n) (c) := sk.old 0 rfl
    exact Runs.move rfl h0 ⟨Ext.refl _, rfl⟩
  · refine stepY (j := 32) (d := 46) (b := true) rfl rfl rfl (fun v w h => h) fun sdn sa sw sE sd sk => ?_
    have h1 : sa.eval (.tmp 1) = .slice (B) (m) (d) := sk.old 1 rfl
    exact Runs.move rfl h1 ⟨Ext.refl _, rfl⟩
  · refine stepY (j := 32) (d := 46) (b := true) rfl rfl rfl (fun v w h => h) fun sdn sa sw sE sd sk => ?_
    have h47 : sa.eval (.tmp 47) = .slice (A) (n) (c) := sk.fact 33 47 rfl (sd 33 rfl)
    have h48 : sa.eval (.tmp 48) = .slice (B) (m) (d) := sk.fact 34 48 rfl (sd 34 rfl)
    refine Runs.call (f := 25) (vs := [.slice (A) (n) (c), .slice (B) (m) (d)]) rfl rfl rfl (by simp only [List.map_toArray, List.map_cons, List.map_nil, h47, h48] <;> rfl) (ent25 _ _) ((hsame_any _ _ _ _ _ _ _ _ sw (rL.ext sE) (rM.ext sE)).mono ?_); rintro e w' ⟨rfl, rfl⟩; exact ⟨_, rfl, Ext.refl _, rfl⟩
  · refine stepY (j := 32) (d := 46) (b := true) rfl rfl rfl (fun v w h => h) fun sdn sa sw sE sd sk => ?_
    have h0 : sa.eval (.tmp 0) = .slice (A) (n) (c) := sk.old 0 rfl
    exact Runs.move rfl h0 ⟨Ext.refl _, rfl⟩
  · refine stepY (j := 32) (d := 46) (b := true) rfl rfl rfl (fun v w h => h) fun sdn sa sw sE sd sk => ?_
    have h50 : sa.eval (.tmp 50) = .slice (A) (n) (c) := sk.fact 36 50 rfl (sd 36 rfl)
    exact Runs.conv rfl h50 (run_str (rL.ext sE)) ⟨Ext.refl _, rfl⟩
  · refine stepY (j := 32) (d := 46) (b := true) rfl rfl rfl (fun v w h => h) fun sdn sa sw sE sd sk => ?_
    have h1 : sa.eval (.tmp 1) = .slice (B) (m) (d) := sk.old 1 rfl
    exact Runs.move rfl h1 ⟨Ext.refl _, rfl⟩
  · refine stepY (j := 32) (d := 46) (b := true) rfl rfl rfl (fun v w h => h) fun sdn sa sw sE sd sk => ?_
    have h52 : sa.eval (.tmp 52) = .slice (B) (m) (d) := sk.fact 38 52 rfl (sd 38 rfl)
    exact Runs.conv rfl h52 (run_str (rM.ext sE)) ⟨Ext.refl _, rfl⟩
  · refine stepY (j := 32) (d := 46) (b := true) rfl rfl rfl (fun v w h => h) fun sdn sa sw sE sd sk => ?_
    have h51 : sa.eval (.tmp 51) = .string (str (L)) := sk.fact 37 51 rfl (sd 37 rfl)
    have h53 : sa.eval (.tmp 53) = .string (str (M)) := sk.fact 39 53 rfl (sd 39 rfl)
    exact Runs.bin rfl h51 h53 (by rfl) (bin_eqs _ _ _) ⟨Ext.refl _, rfl⟩
  · refine stepY (j := 32) (d := 46) (b := true) rfl rfl rfl (fun v w h => h) fun sdn sa sw sE sd sk => ?_
    have h49 : sa.eval (.tmp 49) = .bool (decide (L = M)) := sk.fact 35 49 rfl (sd 35 rfl)
    have h54 : sa.eval (.tmp 54) = .bool (decide (L = M)) := sk.fact 40 54 rfl (sd 40 rfl)
    exact Runs.bin rfl h49 h54 (by rfl) (bin_eqb _ _) ⟨Ext.refl _, congrArg Value.bool (by simp)⟩
  · refine stepE rfl fun sdn sa sw sE sd sk => ?_
    have h46 : sa.eval (.tmp 46) = .bool (true) := sk.fact 32 46 rfl (sd 32 rfl)
    have h55 : sa.eval (.tmp 55) = .bool (true) := sk.fact 41 55 rfl (sd 41 rfl)
    exact Runs.pick rfl h46 ⟨Ext.refl _, by first | exact h55 | simpa using h55⟩
  · refine stepE rfl fun sdn sa sw sE sd sk => ?_
    have h56 : sa.eval (.tmp 56) = .bool (true) := sk.fact 42 56 rfl (sd 42 rfl)
    exact Runs.move rfl h56 ⟨Ext.refl _, rfl⟩
  · refine stepY (j := 43) (d := 57) (b := true) rfl rfl rfl (fun v w h => h) fun sdn sa sw sE sd sk => ?_
    have h0 : sa.eval (.tmp 0) = .slice (A) (n) (c) := sk.old 0 rfl
    exact Runs.move rfl h0 ⟨Ext.refl _, rfl⟩
  · refine stepY (j := 43) (d := 57) (b := true) rfl rfl rfl (fun v w h => h) fun sdn sa sw sE sd sk => ?_
    have h0 : sa.eval (.tmp 0) = .slice (A) (n) (c) := sk.old 0 rfl
    exact Runs.move rfl h0 ⟨Ext.refl _, rfl⟩
  · refine stepY (j := 43) (d := 57) (b := true) rfl rfl rfl (fun v w h => h) fun sdn sa sw sE sd sk => ?_
    have h58 : sa.eval (.tmp 58) = .slice (A) (n) (c) := sk.fact 44 58 rfl (sd 44 rfl)
    have h59 : sa.eval (.tmp 59) = .slice (A) (n) (c) := sk.fact 45 59 rfl (sd 45 rfl)
    refine Runs.call (f := 25) (vs := [.slice (A) (n) (c), .slice (A) (n) (c)]) rfl rfl rfl (by simp only [List.map_toArray, List.map_cons, List.map_nil, h58, h59] <;> rfl) (ent25 _ _) ((hsame_any _ _ _ _ _ _ _ _ sw (rL.ext sE) (rL.ext sE)).mono ?_); rintro e w' ⟨rfl, rfl⟩; exact ⟨_, rfl, Ext.refl _, congrArg Value.bool (by simp)⟩
  · refine stepE rfl fun sdn sa sw sE sd sk => ?_
    have h57 : sa.eval (.tmp 57) = .bool (true) := sk.fact 43 57 rfl (sd 43 rfl)
    have h60 : sa.eval (.tmp 60) = .bool (true) := sk.fact 46 60 rfl (sd 46 rfl)
    exact Runs.pick rfl h57 ⟨Ext.refl _, by first | exact h60 | simpa using h60⟩
  · refine stepE rfl fun sdn sa sw sE sd sk => ?_
    have h61 : sa.eval (.tmp 61) = .bool (true) := sk.fact 47 61 rfl (sd 47 rfl)
    exact Runs.move rfl h61 ⟨Ext.refl _, rfl⟩
  · refine stepY (j := 48) (d := 62) (b := true) rfl rfl rfl (fun v w h => h) fun sdn sa sw sE sd sk => ?_
    have h7 : sa.eval (.tmp 7) = .slice (some ⟨g, 0, none⟩) (n + 80) (n + 80) := sk.old 7 rfl
    exact Runs.move rfl h7 ⟨Ext.refl _, rfl⟩
  · refine stepY (j := 48) (d := 62) (b := true) rfl rfl rfl (fun v w h => h) fun sdn sa sw sE sd sk => ?_
    have h0 : sa.eval (.tmp 0) = .slice (A) (n) (c) := sk.old 0 rfl
    exact Runs.move rfl h0 ⟨Ext.refl _, rfl⟩
  · refine stepY (j := 48) (d := 62) (b := true) rfl rfl rfl (fun v w h => h) fun sdn sa sw sE sd sk => ?_
    have h63 : sa.eval (.tmp 63) = .slice (some ⟨g, 0, none⟩) (n + 80) (n + 80) := sk.fact 49 63 rfl (sd 49 rfl)
    have h64 : sa.eval (.tmp 64) = .slice (A) (n) (c) := sk.fact 50 64 rfl (sd 50 rfl)
    refine Runs.call (f := 26) (vs := [.slice (some ⟨g, 0, none⟩) (n + 80) (n + 80), .slice (A) (n) (c), .int .u8 (u8i 165)]) rfl rfl rfl (by simp only [List.map_toArray, List.map_cons, List.map_nil, h63, h64] <;> rfl) (ent26 _ _) ((intact_any _ _ _ _ _ L 165 sw (rfull.ext sE) (rL.ext sE)).mono ?_); rintro e w' ⟨rfl, hx⟩; exact ⟨_, rfl, hx, rfl⟩
  · refine stepE rfl fun sdn sa sw sE sd sk => ?_
    have h62 : sa.eval (.tmp 62) = .bool (true) := sk.fact 48 62 rfl (sd 48 rfl)
    have h65 : sa.eval (.tmp 65) = .bool (true) := sk.fact 51 65 rfl (sd 51 rfl)
    exact Runs.pick rfl h62 ⟨Ext.refl _, by first | exact h65 | simpa using h65⟩
  · refine stepE rfl fun sdn sa sw sE sd sk => ?_
    have h66 : sa.eval (.tmp 66) = .bool (true) := sk.fact 52 66 rfl (sd 52 rfl)
    exact Runs.move rfl h66 ⟨Ext.refl _, rfl⟩
  · refine stepY (j := 53) (d := 67) (b := true) rfl rfl rfl (fun v w h => h) fun sdn sa sw sE sd sk => ?_
    refine Runs.call (f := 18) (vs := []) rfl rfl rfl (by simp only [List.map_toArray, List.map_cons, List.map_nil] <;> rfl) (ent18 _ _) ((known2_any sw).mono ?_); rintro e w' ⟨rfl, hx⟩; exact ⟨_, rfl, hx, rfl⟩
  · refine stepE rfl fun sdn sa sw sE sd sk => ?_
    have h67 : sa.eval (.tmp 67) = .bool (true) := sk.fact 53 67 rfl (sd 53 rfl)
    have h68 : sa.eval (.tmp 68) = .bool (true) := sk.fact 54 68 rfl (sd 54 rfl)
    exact Runs.pick rfl h67 ⟨Ext.refl _, by first | exact h68 | simpa using h68⟩
  · refine stepE rfl fun sdn sa sw sE sd sk => ?_
    have h69 : sa.eval (.tmp 69) = .bool (true) := sk.fact 55 69 rfl (sd 55 rfl)
    exact Runs.assign rfl h69 ⟨Ext.refl _, rfl⟩
  intro vals W1 hE hv
  have e0 : vals 0 = .slice (some ⟨g, 0, none⟩) (n + 80) (n + 80) := hv 0 (by omega) 14 rfl
  have e1 : vals 1 = .slice (A) (n) (c) := hv 1 (by omega) 15 rfl
  have e2 : vals 2 = .int .i64 ((n : Nat)) := hv 2 (by omega) 16 rfl
  have e3 : vals 3 = .slice (some ⟨g, 0, none⟩) (n) (n + 80) := hv 3 (by omega) 17 rfl
  obtain ⟨A18, n18, c18, e4, r18⟩ := hv 4 (by omega) 18 rfl
  have e5 : vals 5 = .string (str (sha (L))) := hv 5 (by omega) 19 rfl
  have e6 : vals 6 = .slice (A) (n) (c) := hv 6 (by omega) 20 rfl
  obtain ⟨A21, n21, c21, e7, r21⟩ := hv 7 (by omega) 21 rfl
  have e8 : vals 8 = .string (str (sha (L))) := hv 8 (by omega) 22 rfl
  have e9 : vals 9 = .bool (true) := hv 9 (by omega) 23 rfl
  have e10 : vals 10 = .bool (true) := hv 10 (by omega) 24 rfl
  have e11 : vals 11 = .int .u8 (u8i (t)) := hv 11 (by omega) 25 rfl
  have e12 : vals 12 = .slice (A) (n) (c) := hv 12 (by omega) 26 rfl
  have e13 : vals 13 = .slice (B) (m) (d) := hv 13 (by omega) 27 rfl
  obtain ⟨A28, n28, c28, e14, r28⟩ := hv 14 (by omega) 28 rfl
  obtain ⟨A29, n29, c29, e15, r29⟩ := hv 15 (by omega) 29 rfl
  have e16 : vals 16 = .string (str (tagged (t) ([L, M]).flatten)) := hv 16 (by omega) 30 rfl
  have e17 : vals 17 = .int .u8 (u8i (t)) := hv 17 (by omega) 31 rfl
  have e18 : vals 18 = .slice (A) (n) (c) := hv 18 (by omega) 32 rfl
  have e19 : vals 19 = .slice (B) (m) (d) := hv 19 (by omega) 33 rfl
  obtain ⟨A34, n34, c34, e20, r34⟩ := hv 20 (by omega) 34 rfl
  obtain ⟨A35, n35, c35, e21, r35⟩ := hv 21 (by omega) 35 rfl
  have e22 : vals 22 = .string (str (tagged (t) ([L, M]).flatten)) := hv 22 (by omega) 36 rfl
  have e23 : vals 23 = .bool (true) := hv 23 (by omega) 37 rfl
  have e24 : vals 24 = .bool (true) := hv 24 (by omega) 38 rfl
  have e25 : vals 25 = .bool (true) := hv 25 (by omega) 39 rfl
  have e26 : vals 26 = .slice (B) (m) (d) := hv 26 (by omega) 40 rfl
  have e27 : vals 27 = .string (str (hexOf M)) := hv 27 (by omega) 41 rfl
  have e28 : vals 28 = .slice (B) (m) (d) := hv 28 (by omega) 42 rfl
  have e29 : vals 29 = .string (str (hexOf M)) := hv 29 (by omega) 43 rfl
  have e30 : vals 30 = .bool (true) := hv 30 (by omega) 44 rfl
  have e31 : vals 31 = .bool (true) := hv 31 (by omega) 45 rfl
  have e32 : vals 32 = .bool (true) := hv 32 (by omega) 46 rfl
  have e33 : vals 33 = .slice (A) (n) (c) := hv 33 (by omega) 47 rfl
  have e34 : vals 34 = .slice (B) (m) (d) := hv 34 (by omega) 48 rfl
  have e35 : vals 35 = .bool (decide (L = M)) := hv 35 (by omega) 49 rfl
  have e36 : vals 36 = .slice (A) (n) (c) := hv 36 (by omega) 50 rfl
  have e37 : vals 37 = .string (str (L)) := hv 37 (by omega) 51 rfl
  have e38 : vals 38 = .slice (B) (m) (d) := hv 38 (by omega) 52 rfl
  have e39 : vals 39 = .string (str (M)) := hv 39 (by omega) 53 rfl
  have e40 : vals 40 = .bool (decide (L = M)) := hv 40 (by omega) 54 rfl
  have e41 : vals 41 = .bool (true) := hv 41 (by omega) 55 rfl
  have e42 : vals 42 = .bool (true) := hv 42 (by omega) 56 rfl
  have e43 : vals 43 = .bool (true) := hv 43 (by omega) 57 rfl
  have e44 : vals 44 = .slice (A) (n) (c) := hv 44 (by omega) 58 rfl
  have e45 : vals 45 = .slice (A) (n) (c) := hv 45 (by omega) 59 rfl
  have e46 : vals 46 = .bool (true) := hv 46 (by omega) 60 rfl
  have e47 : vals 47 = .bool (true) := hv 47 (by omega) 61 rfl
  have e48 : vals 48 = .bool (true) := hv 48 (by omega) 62 rfl
  have e49 : vals 49 = .slice (some ⟨g, 0, none⟩) (n + 80) (n + 80) := hv 49 (by omega) 63 rfl
  have e50 : vals 50 = .slice (A) (n) (c) := hv 50 (by omega) 64 rfl
  have e51 : vals 51 = .bool (true) := hv 51 (by omega) 65 rfl
  have e52 : vals 52 = .bool (true) := hv 52 (by omega) 66 rfl
  have e53 : vals 53 = .bool (true) := hv 53 (by omega) 67 rfl
  have e54 : vals 54 = .bool (true) := hv 54 (by omega) 68 rfl
  have e55 : vals 55 = .bool (true) := hv 55 (by omega) 69 rfl
  have e56 : vals 56 = .bool (true) := hv 56 (by omega) 6 rfl
  simp only [putAll, Act.put, List.take_succ_cons, List.take_zero, List.drop_succ_cons, List.drop_zero, List.drop_nil, List.take_nil, Nat.reduceAdd, List.setIfInBounds_toArray, List.set_cons_succ, List.set_cons_zero, e0, e1, e2, e3, e4, e5, e6, e7, e8, e9, e10, e11, e12, e13, e14, e15, e16, e17, e18, e19, e20, e21, e22, e23, e24, e25, e26, e27, e28, e29, e30, e31, e32, e33, e34, e35, e36, e37, e38, e39, e40, e41, e42, e43, e44, e45, e46, e47, e48, e49, e50, e51, e52, e53, e54, e55, e56]
  clear hv e0 e1 e2 e3 e4 e5 e6 e7 e8 e9 e10 e11 e12 e13 e14 e15 e16 e17 e18 e19 e20 e21 e22 e23 e24 e25 e26 e27 e28 e29 e30 e31 e32 e33 e34 e35 e36 e37 e38 e39 e40 e41 e42 e43 e44 e45 e46 e47 e48 e49 e50 e51 e52 e53 e54 e55 e56
  go_wp2_with fail
  go_ret
  exact ⟨rfl, hE2.trans hE⟩
end Go.Proofs.Ytmgnigofilkfmaa

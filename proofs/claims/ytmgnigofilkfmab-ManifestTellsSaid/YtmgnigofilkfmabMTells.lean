/-
  law9.ManifestTells, walked.
-/
import Derived.Test.YtmgnigofilkfmabTells9
import Derived.Test.YtmgnigofilkfmabBook
import Derived.Test.YtmgnigofilkfmabKnown9
namespace Go.Proofs.Ytmgnigofilkfmab
set_option maxRecDepth 100000
open Go Go.RowKit
theorem run_conv_bytes2 (w : World) (s : List UInt8) (hs : s.length ≤ maxLen) : ∃ c w', (convert 9 22 (.string (str s))).run Try.prog w = .ok (.slice (some ⟨w.heap.size, 0, none⟩) s.length c) w' ∧ RB w' (some ⟨w.heap.size, 0, none⟩) s.length c s ∧ Ext w w' := by
  have h := Lib.run_convert_string_bytes (P := Try.prog) w 9 22 5 (str s) Try.underlying9 Try.underlying22 Try.underlying5
  have hz : (str s).size = s.length := str_size s
  rw [hz] at h
  refine ⟨_, _, h, ⟨rfl, grownCap_ge _ _ _ _, grownCap_le_maxLen _ _ _ _ hs, fun hn => ⟨_, rfl, fun j hj => ?_⟩⟩, ⟨rfl, rfl, rfl, by rw [Lib.bytesWorld_size]; omega, fun k hk => Lib.bytesWorld_at_old w _ _ k hk⟩⟩
  rw [add_plain, Lib.bytesWorld_cell w _ _ j (by rw [hz]; exact hj)]
  rfl
theorem bitvec_u8 (x : UInt8) : BitVec.ofInt (IntKind.u8).bits (x.toNat : Int) = x.toBitVec := by
  apply BitVec.eq_of_toNat_eq
  have := x.toNat_lt
  simp [IntKind.bits]
theorem bits_xor8 (x y : UInt8) : bits .xor .u8 (u8i x) (u8i y) = u8i (x ^^^ y) := by
  have h1 : BitVec.ofInt (IntKind.u8).bits (u8i x) = x.toBitVec := bitvec_u8 x
  have h2 : BitVec.ofInt (IntKind.u8).bits (u8i y) = y.toBitVec := bitvec_u8 y
  unfold bits
  simp only [h1, h2]
  have h3 := (x ^^^ y).toNat_lt
  show IntKind.u8.wrap ((x ^^^ y).toNat : Int) = u8i (x ^^^ y)
  rw [IntKind.wrap_u8]
  unfold u8i
  omega
set_option maxHeartbeats 4000000 in
theorem mtells_law (m : Man) (F N B : Option Addr) (nf cf nn cn nb cb : Nat) (L : List UInt8) (a v f at' : Int) (t : UInt8) (w : World) (hml : m.name.length ≤ maxLen) (hF : RB w F nf cf m.fw) (hN : RB w N nn cn m.notes) (hb : RB w B nb cb L) (hnb : nb ≤ 140737488351232)
    (ha0 : -9223372036854775808 ≤ a) (ha1 : a ≤ 9223372036854775807) (hv0 : -9223372036854775808 ≤ v) (hv1 : v ≤ 9223372036854775807) (hf0 : -9223372036854775808 ≤ f) (hf1 : f ≤ 9223372036854775807) (ht0 : -9223372036854775808 ≤ at') (ht1 : at' ≤ 9223372036854775807) :
    Calls Try.prog 8 #[manV m F nf cf N nn cn, .slice B nb cb, .int .i64 a, .int .i64 v, .int .i64 f, .int .i64 at', .int .u8 (u8i t)] w fun e w' => e = .returned (.bool true) ∧ Ext w w' := by
  unfold manV
  go_enter Try.func8, Try.ntmps8
  go_upto_region 1 with (fail)
  obtain ⟨w1, hw1⟩ : ∃ w1, w1 = w.alloc (.cells #[.string (str m.name), .int .u32 (u32i m.ver), .slice F nf cf, .slice N nn cn] 27) := ⟨_, rfl⟩
  have hB1 : Blk w1 w.heap.size 27 #[.string (str m.name), .int .u32 (u32i m.ver), .slice F nf cf, .slice N nn cn] := by rw [hw1]; exact Blk.new w _ _
  have hE1 : Ext w w1 := by rw [hw1]; exact Ext.new w _
  rw [← hw1]
  clear hw1
  have rF1 := hF.ext hE1
  have rN1 := hN.ext hE1
  refine par_ext (n := 12) (by kernel_rfl) [.is (.pointer (some ⟨w.heap.size, 0, none⟩)), .is (.string (str (m.name))), .rb (m.name), .rb (m.name.take 40), .is (.string (str (m.name.take 40))), .is (.pointer (some ⟨w.heap.size, 2, none⟩)), .is (.slice (F) (nf) (cf)), .rb (m.fw.take 50), .is (.pointer (some ⟨w.heap.size, 3, none⟩)), .is (.slice (N) (nn) (cn)), .rb (m.notes.take 100), .is (.pointer (some ⟨w.heap.size, 0, none⟩))] rfl ⟨?_, ?_, ?_, ?_, ?_, ?_, ?_, ?_, ?_, ?_, ?_, ?_, trivial⟩ ?_
  · refine stepE rfl fun sdn sa sw sE sd sk => ?_
    have h7 : sa.eval (.tmp 7) = .pointer (some ⟨w.heap.size, 0, none⟩) := sk.old 7 rfl
    refine Runs.of_run (r := .pointer (some ⟨w.heap.size, 0, none⟩)) (w' := sw) ?_ ⟨Ext.refl _, rfl⟩
    unfold execOp
    simp only [h7]
    go_simp
  · refine stepE rfl fun sdn sa sw sE sd sk => ?_
    have h17 : sa.eval (.tmp 17) = .pointer (some ⟨w.heap.size, 0, none⟩) := sk.fact 0 17 rfl (sd 0 rfl)
    exact Runs.load rfl h17 (run_load1 Try.underlying9 rfl ((hB1.ext sE).cell (i := 0) rfl)) ⟨Ext.refl _, rfl⟩
  · refine stepE rfl fun sdn sa sw sE sd sk => ?_
    have h18 : sa.eval (.tmp 18) = .string (str (m.name)) := sk.fact 1 18 rfl (sd 1 rfl)
    obtain ⟨c9, w9, hr9, h91, h92⟩ := run_conv_bytes2 sw m.name hml; exact Runs.conv1 rfl h18 hr9 ⟨h92, _, _, _, rfl, h91⟩
  · refine stepE rfl fun sdn sa sw sE sd sk => ?_
    obtain ⟨A19, n19, c19, h19, r19⟩ := sk.fact 2 19 rfl (sd 2 rfl)
    refine Runs.call (f := 18) (vs := [.slice (A19) (n19) (c19), .int .i64 ((40 : Nat) : Int)]) rfl rfl rfl (by simp only [List.map_toArray, List.map_cons, List.map_nil, h19] <;> rfl) (ent18 _ _) ((cut_any _ _ _ 40 _ sw r19 (by omega)).mono ?_); rintro e w' ⟨⟨rfl, rb⟩, rfl⟩; exact ⟨_, rfl, Ext.refl _, _, _, _, rfl, rb⟩
  · refine stepE rfl fun sdn sa sw sE sd sk => ?_
    obtain ⟨A20, n20, c20, h20, r20⟩ := sk.fact 3 20 rfl (sd 3 rfl)
    exact Runs.conv rfl h20 (run_str r20) ⟨Ext.refl _, rfl⟩
  · refine stepE rfl fun sdn sa sw sE sd sk => ?_
    have h7 : sa.eval (.tmp 7) = .pointer (some ⟨w.heap.size, 0, none⟩) := sk.old 7 rfl
    refine Runs.of_run (r := .pointer (some ⟨w.heap.size, 2, none⟩)) (w' := sw) ?_ ⟨Ext.refl _, rfl⟩
    unfold execOp
    simp only [h7]
    go_simp
  · refine stepE rfl fun sdn sa sw sE sd sk => ?_
    have h22 : sa.eval (.tmp 22) = .pointer (some ⟨w.heap.size, 2, none⟩) := sk.fact 5 22 rfl (sd 5 rfl)
    exact Runs.load rfl h22 (run_load1 Try.underlying22 rfl ((hB1.ext sE).cell (i := 2) rfl)) ⟨Ext.refl _, rfl⟩
  · refine stepE rfl fun sdn sa sw sE sd sk => ?_
    have h23 : sa.eval (.tmp 23) = .slice (F) (nf) (cf) := sk.fact 6 23 rfl (sd 6 rfl)
    refine Runs.call (f := 18) (vs := [.slice (F) (nf) (cf), .int .i64 ((50 : Nat) : Int)]) rfl rfl rfl (by simp only [List.map_toArray, List.map_cons, List.map_nil, h23] <;> rfl) (ent18 _ _) ((cut_any _ _ _ 50 _ sw (rF1.ext sE) (by omega)).mono ?_); rintro e w' ⟨⟨rfl, rb⟩, rfl⟩; exact ⟨_, rfl, Ext.refl _, _, _, _, rfl, rb⟩
  · refine stepE rfl fun sdn sa sw sE sd sk => ?_
    have h7 : sa.eval (.tmp 7) = .pointer (some ⟨w.heap.size, 0, none⟩) := sk.old 7 rfl
    refine Runs.of_run (r := .pointer (some ⟨w.heap.size, 3, none⟩)) (w' := sw) ?_ ⟨Ext.refl _, rfl⟩
    unfold execOp
    simp only [h7]
    go_simp
  · refine stepE rfl fun sdn sa sw sE sd sk => ?_
    have h25 : sa.eval (.tmp 25) = .pointer (some ⟨w.heap.size, 3, none⟩) := sk.fact 8 25 rfl (sd 8 rfl)
    exact Runs.load rfl h25 (run_load1 Try.underlying22 rfl ((hB1.ext sE).cell (i := 3) rfl)) ⟨Ext.refl _, rfl⟩
  · refine stepE rfl fun sdn sa sw sE sd sk => ?_
    have h26 : sa.eval (.tmp 26) = .slice (N) (nn) (cn) := sk.fact 9 26 rfl (sd 9 rfl)
    refine Runs.call (f := 18) (vs := [.slice (N) (nn) (cn), .int .i64 ((100 : Nat) : Int)]) rfl rfl rfl (by simp only [List.map_toArray, List.map_cons, List.map_nil, h26] <;> rfl) (ent18 _ _) ((cut_any _ _ _ 100 _ sw (rN1.ext sE) (by omega)).mono ?_); rintro e w' ⟨⟨rfl, rb⟩, rfl⟩; exact ⟨_, rfl, Ext.refl _, _, _, _, rfl, rb⟩
  · refine stepE rfl fun sdn sa sw sE sd sk => ?_
    have h7 : sa.eval (.tmp 7) = .pointer (some ⟨w.heap.size, 0, none⟩) := sk.old 7 rfl
    refine Runs.of_run (r := .pointer (some ⟨w.heap.size, 0, none⟩)) (w' := sw) ?_ ⟨Ext.refl _, rfl⟩
    unfold execOp
    simp only [h7]
    go_simp
  intro vals W1 hE hv
  have e0 : vals 0 = .pointer (some ⟨w.heap.size, 0, none⟩) := hv 0 (by omega) 17 rfl
  have e1 : vals 1 = .string (str (m.name)) := hv 1 (by omega) 18 rfl
  obtain ⟨A19, n19, c19, e2, r19⟩ := hv 2 (by omega) 19 rfl
  obtain ⟨A20, n20, c20, e3, r20⟩ := hv 3 (by omega) 20 rfl
  have e4 : vals 4 = .string (str (m.name.take 40)) := hv 4 (by omega) 21 rfl
  have e5 : vals 5 = .pointer (some ⟨w.heap.size, 2, none⟩) := hv 5 (by omega) 22 rfl
  have e6 : vals 6 = .slice (F) (nf) (cf) := hv 6 (by omega) 23 rfl
  obtain ⟨A24, n24, c24, e7, r24⟩ := hv 7 (by omega) 24 rfl
  have e8 : vals 8 = .pointer (some ⟨w.heap.size, 3, none⟩) := hv 8 (by omega) 25 rfl
  have e9 : vals 9 = .slice (N) (nn) (cn) := hv 9 (by omega) 26 rfl
  obtain ⟨A27, n27, c27, e10, r27⟩ := hv 10 (by omega) 27 rfl
  have e11 : vals 11 = .pointer (some ⟨w.heap.size, 0, none⟩) := hv 11 (by omega) 28 rfl
  simp only [putAll, Act.put, List.take_succ_cons, List.take_zero, List.drop_succ_cons, List.drop_zero, List.drop_nil, List.take_nil, Nat.reduceAdd, List.setIfInBounds_toArray, List.set_cons_succ, List.set_cons_zero, e0, e1, e2, e3, e4, e5, e6, e7, e8, e9, e10, e11]
  clear hv e0 e1 e2 e3 e4 e5 e6 e7 e8 e9 e10 e11
  have hB2 := hB1.ext hE
  have z0 := hB2.frozen 0
  have z2 := hB2.frozen 2
  have z3 := hB2.frozen 3
  have y0 := hB2.cell (i := 0) rfl
  have y2 := hB2.cell (i := 2) rfl
  have y3 := hB2.cell (i := 3) rfl
  go_upto_region 2 with (fail)
  obtain ⟨w3, hw3⟩ : ∃ w3, w3 = ((W1.setCell ⟨w.heap.size, 0, none⟩ (.string (str (m.name.take 40)))).setCell ⟨w.heap.size, 2, none⟩ (.slice A24 n24 c24)).setCell ⟨w.heap.size, 3, none⟩ (.slice A27 n27 c27) := ⟨_, rfl⟩
  have g3 : W1.grownBy w3 (some w.heap.size) := by rw [hw3]; exact ((grownBy_setCell W1 ⟨w.heap.size, 0, none⟩ _).trans (grownBy_setCell _ ⟨w.heap.size, 2, none⟩ _)).trans (grownBy_setCell _ ⟨w.heap.size, 3, none⟩ _)
  have hB3 : Blk w3 w.heap.size 27 #[.string (str (m.name.take 40)), .int .u32 (u32i m.ver), .slice A24 n24 c24, .slice A27 n27 c27] := by rw [hw3]; exact ((hB2.set 0 _).set 2 _).set 3 _
  have rF3 := r24.grown g3 (r24.apart hB2 (man_no _ _ _ _ _ _ _ _))
  have rN3 := r27.grown g3 (r27.apart hB2 (man_no _ _ _ _ _ _ _ _))
  have hE3 : Ext w w3 := (hE1.trans hE).then_grown g3 (by intro k hk; cases hk; exact Nat.le_refl _)
  rw [← hw3]
  clear hw3 g3 hB2 z0 z2 z3 y0 y2 y3 r19 r20 r24 r27 hB1 rF1 rN1 hE1 hE hF hN
  obtain ⟨k1, hk1⟩ : ∃ k1, k1 = kman a v f := ⟨_, rfl⟩
  have hkr : rightM k1 = true := by rw [hk1]; exact kman_right a v f
  have hit := item_any a v f w3 ha0 ha1 hv0 hv1 hf0 hf1
  rw [← hk1] at hit
  have Hk1 := Lib.hid hk1
  have Hkr := Lib.hid hkr
  clear hk1 hkr
  go_wp2_with fail
  refine hit.mono ?_
  rintro e w4 ⟨X0, k, d, rfl, own, hE4⟩
  clear hit
  have hkl := own.len
  rw [enc_length] at hkl
  have hsm := right_is Hkr.out
  have hk9 : 41 ≤ k ∧ k ≤ 125 := by
    have h1 := hsm.1.1
    have h2 := hsm.1.2.1
    have h3 := hsm.2.2.1
    have h4 := hsm.2.2.2
    omega
  have hk90 := hk9.1
  have hk91 := hk9.2
  clear hkl hsm hk9
  obtain ⟨ad, rfl, _⟩ := own.rb.cells (by omega)
  obtain ⟨g, rfl⟩ := own.plain
  obtain ⟨X, hX⟩ : ∃ X, X = encM k1 := ⟨_, rfl⟩
  rw [← hX] at own
  clear hX
  have hgw : w3.heap.size ≤ g := own.ge
  have hwi := within_any at' 0 ((k : Int) - 1) w4 ht0 ht1 (by omega) (by omega) (by omega)
  have hwin := within_in at' 0 ((k : Int) - 1) (by omega)
  obtain ⟨p, hp⟩ : ∃ p : Nat, within at' 0 ((k : Int) - 1) = p := ⟨_, (Int.toNat_of_nonneg hwin.1).symm⟩
  rw [hp] at hwi hwin
  have hpk : p < k := by have := hwin.2; omega
  clear hwin hp
  have Hwi := Lib.hid hwi
  clear hwi
  go_wp2_with fail
  refine Hwi.out.mono ?_
  rintro e w5 ⟨rfl, rfl⟩
  have y1 := own.cell hpk
  have y2 := own.frozen p
  have y3 := bits_xor8 (ub X p) t
  have hB4 := hB3.ext hE4
  have hS := own.set p (ub X p ^^^ t)
  go_upto_region 4 with (fail)
  obtain ⟨w5, hw5⟩ : ∃ w5, w5 = w4.setCell ⟨g, p, none⟩ (.int .u8 (u8i (ub X p ^^^ t))) := ⟨_, rfl⟩
  rw [← hw5] at hS ⊢
  obtain ⟨own5, g5⟩ := hS
  have rX5 := own5.rb
  have hE5 : Ext w3 w5 := hE4.then_grown g5 (by intro j hj; cases hj; exact hgw)
  have hE05 := hE3.trans hE5
  have hB5 := hB3.ext hE5
  have rF5 := rF3.ext hE5
  have rN5 := rN3.ext hE5
  have rb5 := hb.ext hE05
  clear hw5 y1 y2 y3 own own5 g5 hB4 hE4 hB3 rF3 rN3 hE5 hE3 hb
  have hro := roomy_any B nb cb L 165 w5 rb5 (by omega)
  have e165 : u8i 165 = 165 := rfl
  rw [e165] at hro
  go_wp2_with fail
  refine hro.mono ?_
  rintro e w6 ⟨g2, rfl, own6, hE6⟩
  clear hro
  have rfull := own6.rb
  have rb6 := rb5.ext hE6
  have hl6 := rb6.len
  have rcut := rfull.take (k := nb) (by omega)
  rw [List.take_left' hl6] at rcut
  have hB6 := hB5.ext hE6
  have y0 := hB6.cell (i := 0) rfl
  have y1 := hB6.cell (i := 1) rfl
  have y2 := hB6.cell (i := 2) rfl
  have y3 := hB6.cell (i := 3) rfl
  clear hl6 own6
  go_wp2_with fail
  refine (same9_any ⟨m.name.take 40, m.ver, m.fw.take 50, m.notes.take 100⟩ A24 A27 n24 c24 n27 c27 w6 (rF5.ext hE6) (rN5.ext hE6) (by rw [List.length_take]; omega)).mono ?_
  rintro e w7 ⟨rfl, hE7⟩
  clear y0 y1 y2 y3
  have hkm := kman_any a v f w7 ha0 ha1 hv0 hv1 hf0 hf1
  rw [← Hk1.out] at hkm
  go_wp2_with fail
  refine hkm.mono ?_
  rintro e w8 ⟨F8, nf8, cf8, N8, nn8, cn8, rfl, rF8, rN8, hE8⟩
  clear hkm
  go_wp2_with fail
  refine (same9_any k1 F8 N8 nf8 cf8 nn8 cn8 w8 rF8 rN8 (Nat.le_trans (right_is Hkr.out).1.2.1 (by omega))).mono ?_
  rintro e w9 ⟨rfl, hE9⟩
  have hE69 := (hE7.trans hE8).trans hE9
  have rX9 := (rX5.ext hE6).ext hE69
  unfold manV
  go_wp2_with fail
  refine (reads9_any _ k d _ w9 rX9 (by omega)).mono ?_
  rintro e w10 ⟨rfl, hE10⟩
  have hE610 := hE69.trans hE10
  have rc10 := rcut.ext hE610
  go_wp2_with fail
  refine (reads9_any _ nb (nb + 80) L w10 rc10 (by omega)).mono ?_
  rintro e w11 ⟨rfl, hE11⟩
  have hE611 := hE610.trans hE11
  have hin := intact_any _ B nb cb (nb + 80) L 165 w11 (rfull.ext hE611) (rb6.ext hE611)
  rw [e165] at hin
  go_wp2_with fail
  refine hin.mono ?_
  rintro e w12 ⟨rfl, hE12⟩
  clear hin
  go_wp2_with fail
  refine (known9_any w12).mono ?_
  rintro e w13 ⟨rfl, hE13⟩
  go_wp2_with fail
  go_ret
  exact ⟨rfl, hE05.trans (hE6.trans (hE611.trans (hE12.trans hE13)))⟩
end Go.Proofs.Ytmgnigofilkfmab

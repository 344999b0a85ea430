/-
  The reference's Num and Bytes, walked. Package manifest, walked: name, Right, Encode. manifest.Encode, walked. A region whose calls turn one object of the call's own, one behind the other, with other operations between in any order. Plain theorems.
-/
import Derived.Test.YtkndgpjamijbbaaGreatLawNumbers22Q19
import Derived.Test.YtkndgpjamijbbaaGreatLawNumbers22Q10
namespace Go.Proofs.YtkndgpjamijbbaaGreat
set_option maxRecDepth 100000
open Go Go.RowKit
set_option maxHeartbeats 1000000 in
theorem r1num_any (w0 w : World) (A : Option Addr) (n c : Nat) (L : List UInt8) (x : UInt32) (hE0 : Ext w0 w) (own : OB w w0.heap.size A n c L) (hn : n ≤ 70368744177664) :
    Calls Tryz.prog 79 #[.slice A n c, .int .u32 (u32i x)] w fun e w' => ∃ A' c', e = .returned (.slice A' (n + 4) c') ∧ OB w' w0.heap.size A' (n + 4) c' (L ++ beBytes x 4) ∧ Ext w0 w' := by
  go_enter Tryz.func79, Tryz.ntmps79
  go_upto_region 1 with (fail)
  refine seq_ext (n := 13) (by kernel_rfl) [.is (.slice (A) (n) (c)), .is (.int .u32 (u32i (x))), .is (.int .u32 (u32i (shr x 24))), .is (.int .u8 (u8i ((shr x 24)).toUInt8)), .is (.int .u32 (u32i (x))), .is (.int .u32 (u32i (shr x 16))), .is (.int .u8 (u8i ((shr x 16)).toUInt8)), .is (.int .u32 (u32i (x))), .is (.int .u32 (u32i (shr x 8))), .is (.int .u8 (u8i ((shr x 8)).toUInt8)), .is (.int .u32 (u32i (x))), .is (.int .u8 (u8i (x).toUInt8)), .rb ([((shr x 24)).toUInt8, ((shr x 16)).toUInt8, ((shr x 8)).toUInt8, (x).toUInt8])] rfl ⟨?_, ?_, ?_, ?_, ?_, ?_, ?_, ?_, ?_, ?_, ?_, ?_, ?_, trivial⟩ ?_
  · refine stepE rfl fun sdn sa sw sE sd sk => ?_
    have h0 : sa.eval (.tmp 0) = .slice (A) (n) (c) := sk.old 0 rfl
    exact Runs.move rfl h0 ⟨Ext.refl _, rfl⟩
  · refine stepE rfl fun sdn sa sw sE sd sk => ?_
    have h1 : sa.eval (.tmp 1) = .int .u32 (u32i (x)) := sk.old 1 rfl
    exact Runs.move rfl h1 ⟨Ext.refl _, rfl⟩
  · refine stepE rfl fun sdn sa sw sE sd sk => ?_
    have h6 : sa.eval (.tmp 6) = .int .u32 (u32i (x)) := sk.fact 1 6 rfl (sd 1 rfl)
    exact Runs.bin rfl h6 rfl (eqGuard_bin rfl) (bin_shr32 _ _ 24 _) ⟨Ext.refl _, rfl⟩
  · refine stepE rfl fun sdn sa sw sE sd sk => ?_
    have h7 : sa.eval (.tmp 7) = .int .u32 (u32i (shr x 24)) := sk.fact 2 7 rfl (sd 2 rfl)
    exact Runs.conv rfl h7 (conv_u32_u8 Tryz.underlying56 Tryz.underlying5 _) ⟨Ext.refl _, rfl⟩
  · refine stepE rfl fun sdn sa sw sE sd sk => ?_
    have h1 : sa.eval (.tmp 1) = .int .u32 (u32i (x)) := sk.old 1 rfl
    exact Runs.move rfl h1 ⟨Ext.refl _, rfl⟩
  · refine stepE rfl fun sdn sa sw sE sd sk => ?_
    have h9 : sa.eval (.tmp 9) = .int .u32 (u32i (x)) := sk.fact 4 9 rfl (sd 4 rfl)
    exact Runs.bin rfl h9 rfl (eqGuard_bin rfl) (bin_shr32 _ _ 16 _) ⟨Ext.refl _, rfl⟩
  · refine stepE rfl fun sdn sa sw sE sd sk => ?_
    have h10 : sa.eval (.tmp 10) = .int .u32 (u32i (shr x 16)) := sk.fact 5 10 rfl (sd 5 rfl)
    exact Runs.conv rfl h10 (conv_u32_u8 Tryz.underlying56 Tryz.underlying5 _) ⟨Ext.refl _, rfl⟩
  · refine stepE rfl fun sdn sa sw sE sd sk => ?_
    have h1 : sa.eval (.tmp 1) = .int .u32 (u32i (x)) := sk.old 1 rfl
    exact Runs.move rfl h1 ⟨Ext.refl _, rfl⟩
  · refine stepE rfl fun sdn sa sw sE sd sk => ?_
    have h12 : sa.eval (.tmp 12) = .int .u32 (u32i (x)) := sk.fact 7 12 rfl (sd 7 rfl)
    exact Runs.bin rfl h12 rfl (eqGuard_bin rfl) (bin_shr32 _ _ 8 _) ⟨Ext.refl _, rfl⟩
  · refine stepE rfl fun sdn sa sw sE sd sk => ?_
    have h13 : sa.eval (.tmp 13) = .int .u32 (u32i (shr x 8)) := sk.fact 8 13 rfl (sd 8 rfl)
    exact Runs.conv rfl h13 (conv_u32_u8 Tryz.underlying56 Tryz.underlying5 _) ⟨Ext.refl _, rfl⟩
  · refine stepE rfl fun sdn sa sw sE sd sk => ?_
    have h1 : sa.eval (.tmp 1) = .int .u32 (u32i (x)) := sk.old 1 rfl
    exact Runs.move rfl h1 ⟨Ext.refl _, rfl⟩
  · refine stepE rfl fun sdn sa sw sE sd sk => ?_
    have h15 : sa.eval (.tmp 15) = .int .u32 (u32i (x)) := sk.fact 10 15 rfl (sd 10 rfl)
    exact Runs.conv rfl h15 (conv_u32_u8 Tryz.underlying56 Tryz.underlying5 _) ⟨Ext.refl _, rfl⟩
  · refine stepE rfl fun sdn sa sw sE sd sk => ?_
    have h8 : sa.eval (.tmp 8) = .int .u8 (u8i ((shr x 24)).toUInt8) := sk.fact 3 8 rfl (sd 3 rfl)
    have h11 : sa.eval (.tmp 11) = .int .u8 (u8i ((shr x 16)).toUInt8) := sk.fact 6 11 rfl (sd 6 rfl)
    have h14 : sa.eval (.tmp 14) = .int .u8 (u8i ((shr x 8)).toUInt8) := sk.fact 9 14 rfl (sd 9 rfl)
    have h16 : sa.eval (.tmp 16) = .int .u8 (u8i (x).toUInt8) := sk.fact 11 16 rfl (sd 11 rfl)
    exact Runs.lit4 rfl h8 h11 h14 h16 (fun w1 e1 o1 => ⟨e1, _, _, _, rfl, o1.rb⟩)
  intro vals W1 hE hv
  have e0 : vals 0 = .slice (A) (n) (c) := hv 0 (by omega) 5 rfl
  have e1 : vals 1 = .int .u32 (u32i (x)) := hv 1 (by omega) 6 rfl
  have e2 : vals 2 = .int .u32 (u32i (shr x 24)) := hv 2 (by omega) 7 rfl
  have e3 : vals 3 = .int .u8 (u8i ((shr x 24)).toUInt8) := hv 3 (by omega) 8 rfl
  have e4 : vals 4 = .int .u32 (u32i (x)) := hv 4 (by omega) 9 rfl
  have e5 : vals 5 = .int .u32 (u32i (shr x 16)) := hv 5 (by omega) 10 rfl
  have e6 : vals 6 = .int .u8 (u8i ((shr x 16)).toUInt8) := hv 6 (by omega) 11 rfl
  have e7 : vals 7 = .int .u32 (u32i (x)) := hv 7 (by omega) 12 rfl
  have e8 : vals 8 = .int .u32 (u32i (shr x 8)) := hv 8 (by omega) 13 rfl
  have e9 : vals 9 = .int .u8 (u8i ((shr x 8)).toUInt8) := hv 9 (by omega) 14 rfl
  have e10 : vals 10 = .int .u32 (u32i (x)) := hv 10 (by omega) 15 rfl
  have e11 : vals 11 = .int .u8 (u8i (x).toUInt8) := hv 11 (by omega) 16 rfl
  obtain ⟨A17, n17, c17, e12, r17⟩ := hv 12 (by omega) 17 rfl
  simp only [putAll, Act.put, List.take_succ_cons, List.take_zero, List.drop_succ_cons, List.drop_zero, List.drop_nil, List.take_nil, Nat.reduceAdd, List.setIfInBounds_toArray, List.set_cons_succ, List.set_cons_zero, e0, e1, e2, e3, e4, e5, e6, e7, e8, e9, e10, e11, e12]
  clear hv e0 e1 e2 e3 e4 e5 e6 e7 e8 e9 e10 e11 e12
  go_wp2_with (refine app_own (N := n + 4) (LM := L ++ beBytes x 4) rfl rfl rfl rfl (hE0.trans hE) (own.ext hE) r17 (by rw [← r17.len]; rfl) (by rw [beBytes4, shr_zero]) (by omega) ?_; intro A3 c3 W3 own3 hE3)
  go_ret
  exact ⟨A3, c3, rfl, own3, hE3⟩
set_option maxHeartbeats 1000000 in
theorem r1bytes_any (w0 w : World) (A : Option Addr) (n c : Nat) (L : List UInt8) (B : Option Addr) (m d : Nat) (M : List UInt8) (hE0 : Ext w0 w) (own : OB w w0.heap.size A n c L) (hr : RB w B m d M) (hdis : 0 < m → blk B ≠ blk A) (hn : n ≤ 70368744177664) (hm : m < 65536) :
    Calls Tryz.prog 80 #[.slice A n c, .slice B m d] w fun e w' => ∃ A' c', e = .returned (.slice A' (n + (2 + m)) c') ∧ OB w' w0.heap.size A' (n + (2 + m)) c' (L ++ (be2 m ++ M)) ∧ Ext w0 w' := by
  go_enter Tryz.func80, Tryz.ntmps80
  go_upto_region 1 with (fail)
  refine seq_ext (n := 9) (by kernel_rfl) [.is (.slice (A) (n) (c)), .is (.slice (B) (m) (d)), .is (.int .i64 ((m : Nat))), .is (.int .i64 (((m / 2 ^ 8 : Nat) : Int))), .is (.int .u8 (u8i (UInt8.ofNat (m / 2 ^ 8)))), .is (.slice (B) (m) (d)), .is (.int .i64 ((m : Nat))), .is (.int .u8 (u8i (UInt8.ofNat (m)))), .rb ([(UInt8.ofNat (m / 2 ^ 8)), (UInt8.ofNat (m))])] rfl ⟨?_, ?_, ?_, ?_, ?_, ?_, ?_, ?_, ?_, trivial⟩ ?_
  · refine stepE rfl fun sdn sa sw sE sd sk => ?_
    have h0 : sa.eval (.tmp 0) = .slice (A) (n) (c) := sk.old 0 rfl
    exact Runs.move rfl h0 ⟨Ext.refl _, rfl⟩
  · refine stepE rfl fun sdn sa sw sE sd sk => ?_
    have h1 : sa.eval (.tmp 1) = .slice (B) (m) (d) := sk.old 1 rfl
    exact Runs.move rfl h1 ⟨Ext.refl _, rfl⟩
  · refine stepE rfl fun sdn sa sw sE sd sk => ?_
    have h6 : sa.eval (.tmp 6) = .slice (B) (m) (d) := sk.fact 1 6 rfl (sd 1 rfl)
    exact Runs.len Tryz.underlying26 rfl h6 ⟨Ext.refl _, rfl⟩
  · refine stepE rfl fun sdn sa sw sE sd sk => ?_
    have h7 : sa.eval (.tmp 7) = .int .i64 ((m : Nat)) := sk.fact 2 7 rfl (sd 2 rfl)
    exact Runs.bin rfl h7 rfl (eqGuard_bin rfl) (bin_shri64 _ _ m 8 (by omega)) ⟨Ext.refl _, rfl⟩
  · refine stepE rfl fun sdn sa sw sE sd sk => ?_
    have h8 : sa.eval (.tmp 8) = .int .i64 (((m / 2 ^ 8 : Nat) : Int)) := sk.fact 3 8 rfl (sd 3 rfl)
    exact Runs.conv rfl h8 (conv_i64_u8 Tryz.underlying3 Tryz.underlying5 (m / 2 ^ 8)) ⟨Ext.refl _, rfl⟩
  · refine stepE rfl fun sdn sa sw sE sd sk => ?_
    have h1 : sa.eval (.tmp 1) = .slice (B) (m) (d) := sk.old 1 rfl
    exact Runs.move rfl h1 ⟨Ext.refl _, rfl⟩
  · refine stepE rfl fun sdn sa sw sE sd sk => ?_
    have h10 : sa.eval (.tmp 10) = .slice (B) (m) (d) := sk.fact 5 10 rfl (sd 5 rfl)
    exact Runs.len Tryz.underlying26 rfl h10 ⟨Ext.refl _, rfl⟩
  · refine stepE rfl fun sdn sa sw sE sd sk => ?_
    have h11 : sa.eval (.tmp 11) = .int .i64 ((m : Nat)) := sk.fact 6 11 rfl (sd 6 rfl)
    exact Runs.conv rfl h11 (conv_i64_u8 Tryz.underlying3 Tryz.underlying5 (m)) ⟨Ext.refl _, rfl⟩
  · refine stepE rfl fun sdn sa sw sE sd sk => ?_
    have h9 : sa.eval (.tmp 9) = .int .u8 (u8i (UInt8.ofNat (m / 2 ^ 8))) := sk.fact 4 9 rfl (sd 4 rfl)
    have h12 : sa.eval (.tmp 12) = .int .u8 (u8i (UInt8.ofNat (m))) := sk.fact 7 12 rfl (sd 7 rfl)
    exact Runs.lit2 rfl h9 h12 (fun w1 e1 o1 => ⟨e1, _, _, _, rfl, o1.rb⟩)
  intro vals W1 hE hv
  have e0 : vals 0 = .slice (A) (n) (c) := hv 0 (by omega) 5 rfl
  have e1 : vals 1 = .slice (B) (m) (d) := hv 1 (by omega) 6 rfl
  have e2 : vals 2 = .int .i64 ((m : Nat)) := hv 2 (by omega) 7 rfl
  have e3 : vals 3 = .int .i64 (((m / 2 ^ 8 : Nat) : Int)) := hv 3 (by omega) 8 rfl
  have e4 : vals 4 = .int .u8 (u8i (UInt8.ofNat (m / 2 ^ 8))) := hv 4 (by omega) 9 rfl
  have e5 : vals 5 = .slice (B) (m) (d) := hv 5 (by omega) 10 rfl
  have e6 : vals 6 = .int .i64 ((m : Nat)) := hv 6 (by omega) 11 rfl
  have e7 : vals 7 = .int .u8 (u8i (UInt8.ofNat (m))) := hv 7 (by omega) 12 rfl
  obtain ⟨A13, n13, c13, e8, r13⟩ := hv 8 (by omega) 13 rfl
  simp only [putAll, Act.put, List.take_succ_cons, List.take_zero, List.drop_succ_cons, List.drop_zero, List.drop_nil, List.take_nil, Nat.reduceAdd, List.setIfInBounds_toArray, List.set_cons_succ, List.set_cons_zero, e0, e1, e2, e3, e4, e5, e6, e7, e8]
  clear hv e0 e1 e2 e3 e4 e5 e6 e7 e8
  go_wp2_with (first | (refine app_to (N := n + 2) (LM := L ++ be2 m) rfl rfl rfl rfl (own.ext hE) r13 (by rw [← r13.len]; rfl) (by rw [be2_small m hm]) (by omega) (hE0.trans hE).size ?_; intro A3 c3 W3 own3 g3 h3 s3; have hE3 : Ext w0 W3 := (own.ext hE).step (hE0.trans hE) g3; have hr3 := (hr.ext hE).grown g3 hdis) | (refine app_own (N := n + (2 + m)) (LM := L ++ (be2 m ++ M)) rfl rfl rfl rfl hE3 own3 hr3 (by omega) (by simp [List.append_assoc]) (by omega) ?_; intro A4 c4 W4 own4 hE4))
  go_ret
  exact ⟨A4, c4, rfl, own4, hE4⟩
set_option maxHeartbeats 1000000 in
theorem r1bytes_full (w : World) (A : Addr) (n : Nat) (L : List UInt8) (B : Option Addr) (m d : Nat) (M : List UInt8) (hA : RB w (some A) n n L) (hr : RB w B m d M) (hn : n ≤ 70368744177664) (hm : m < 65536) :
    Calls Tryz.prog 80 #[.slice (some A) n n, .slice B m d] w fun e w' => ∃ A' c', e = .returned (.slice A' (n + (2 + m)) c') ∧ OB w' w.heap.size A' (n + (2 + m)) c' (L ++ (be2 m ++ M)) ∧ Ext w w' := by
  obtain ⟨c, hc⟩ : ∃ c, c = n := ⟨_, rfl⟩
  have own := hA
  rw [← hc] at own
  have Hc := Lib.hid hc
  obtain ⟨c', hc'⟩ : ∃ A', A' = some A := ⟨_, rfl⟩
  clear hc'
  go_enter Tryz.func80, Tryz.ntmps80
  go_upto_region 1 with (fail)
  refine seq_ext (n := 9) (by kernel_rfl) [.is (.slice (some A) (n) (n)), .is (.slice (B) (m) (d)), .is (.int .i64 ((m : Nat))), .is (.int .i64 (((m / 2 ^ 8 : Nat) : Int))), .is (.int .u8 (u8i (UInt8.ofNat (m / 2 ^ 8)))), .is (.slice (B) (m) (d)), .is (.int .i64 ((m : Nat))), .is (.int .u8 (u8i (UInt8.ofNat (m)))), .rb ([(UInt8.ofNat (m / 2 ^ 8)), (UInt8.ofNat (m))]), .is (.slice (some A) (n) (n)), .is (.slice (B) (m) (d)), .is (.int .i64 ((m : Nat))), .is (.int .i64 (((m / 2 ^ 8 : Nat) : Int))), .is (.int .u8 (u8i (UInt8.ofNat (m / 2 ^ 8)))), .is (.slice (B) (m) (d)), .is (.int .i64 ((m : Nat))), .is (.int .u8 (u8i (UInt8.ofNat (m)))), .rb ([(UInt8.ofNat (m / 2 ^ 8)), (UInt8.ofNat (m))])] rfl ⟨?_, ?_, ?_, ?_, ?_, ?_, ?_, ?_, ?_, trivial⟩ ?_
  · refine stepE rfl fun sdn sa sw sE sd sk => ?_
    have h0 : sa.eval (.tmp 0) = .slice (some A) (n) (n) := sk.old 0 rfl
    exact Runs.move rfl h0 ⟨Ext.refl _, rfl⟩
  · refine stepE rfl fun sdn sa sw sE sd sk => ?_
    have h1 : sa.eval (.tmp 1) = .slice (B) (m) (d) := sk.old 1 rfl
    exact Runs.move rfl h1 ⟨Ext.refl _, rfl⟩
  · refine stepE rfl fun sdn sa sw sE sd sk => ?_
    have h6 : sa.eval (.tmp 6) = .slice (B) (m) (d) := sk.fact 1 6 rfl (sd 1 rfl)
    exact Runs.len Tryz.underlying26 rfl h6 ⟨Ext.refl _, rfl⟩
  · refine stepE rfl fun sdn sa sw sE sd sk => ?_
    have h7 : sa.eval (.tmp 7) = .int .i64 ((m : Nat)) := sk.fact 2 7 rfl (sd 2 rfl)
    exact Runs.bin rfl h7 rfl (eqGuard_bin rfl) (bin_shri64 _ _ m 8 (by omega)) ⟨Ext.refl _, rfl⟩
  · refine stepE rfl fun sdn sa sw sE sd sk => ?_
    have h8 : sa.eval (.tmp 8) = .int .i64 (((m / 2 ^ 8 : Nat) : Int)) := sk.fact 3 8 rfl (sd 3 rfl)
    exact Runs.conv rfl h8 (conv_i64_u8 Tryz.underlying3 Tryz.underlying5 (m / 2 ^ 8)) ⟨Ext.refl _, rfl⟩
  · refine stepE rfl fun sdn sa sw sE sd sk => ?_
    have h1 : sa.eval (.tmp 1) = .slice (B) (m) (d) := sk.old 1 rfl
    exact Runs.move rfl h1 ⟨Ext.refl _, rfl⟩
  · refine stepE rfl fun sdn sa sw sE sd sk => ?_
    have h10 : sa.eval (.tmp 10) = .slice (B) (m) (d) := sk.fact 5 10 rfl (sd 5 rfl)
    exact Runs.len Tryz.underlying26 rfl h10 ⟨Ext.refl _, rfl⟩
  · refine stepE rfl fun sdn sa sw sE sd sk => ?_
    have h11 : sa.eval (.tmp 11) = .int .i64 ((m : Nat)) := sk.fact 6 11 rfl (sd 6 rfl)
    exact Runs.conv rfl h11 (conv_i64_u8 Tryz.underlying3 Tryz.underlying5 (m)) ⟨Ext.refl _, rfl⟩
  · refine stepE rfl fun sdn sa sw sE sd sk => ?_
    have h9 : sa.eval (.tmp 9) = .int .u8 (u8i (UInt8.ofNat (m / 2 ^ 8))) := sk.fact 4 9 rfl (sd 4 rfl)
    have h12 : sa.eval (.tmp 12) = .int .u8 (u8i (UInt8.ofNat (m))) := sk.fact 7 12 rfl (sd 7 rfl)
    exact Runs.lit2 rfl h9 h12 (fun w1 e1 o1 => ⟨e1, _, _, _, rfl, o1.rb⟩)
  intro vals W1 hE hv
  have e0 : vals 0 = .slice (some A) (n) (n) := hv 0 (by omega) 5 rfl
  have e1 : vals 1 = .slice (B) (m) (d) := hv 1 (by omega) 6 rfl
  have e2 : vals 2 = .int .i64 ((m : Nat)) := hv 2 (by omega) 7 rfl
  have e3 : vals 3 = .int .i64 (((m / 2 ^ 8 : Nat) : Int)) := hv 3 (by omega) 8 rfl
  have e4 : vals 4 = .int .u8 (u8i (UInt8.ofNat (m / 2 ^ 8))) := hv 4 (by omega) 9 rfl
  have e5 : vals 5 = .slice (B) (m) (d) := hv 5 (by omega) 10 rfl
  have e6 : vals 6 = .int .i64 ((m : Nat)) := hv 6 (by omega) 11 rfl
  have e7 : vals 7 = .int .u8 (u8i (UInt8.ofNat (m))) := hv 7 (by omega) 12 rfl
  obtain ⟨A13, n13, c13, e8, r13⟩ := hv 8 (by omega) 13 rfl
  simp only [putAll, Act.put, List.take_succ_cons, List.take_zero, List.drop_succ_cons, List.drop_zero, List.drop_nil, List.take_nil, Nat.reduceAdd, List.setIfInBounds_toArray, List.set_cons_succ, List.set_cons_zero, e0, e1, e2, e3, e4, e5, e6, e7, e8]
  clear hv e0 e1 e2 e3 e4 e5 e6 e7 e8
  go_wp2_with (first | (refine app_full rfl rfl rfl rfl (hA.ext hE) r13 (by have := r13.len; simp at this; omega) (by have := r13.len; simp at this; omega) ?_; intro A3 c3 W3 own3 hE3; have h2 : n13 = 2 := (by rw [← r13.len]; rfl); subst h2; have hE3' := hE.trans hE3; have own3' := own3.base hE.size) | (refine app_own (N := n + (2 + m)) (LM := L ++ (be2 m ++ M)) rfl rfl rfl rfl hE3' own3' (hr.ext hE3') (by omega) (by rw [be2_small m hm, List.append_assoc]) (by omega) ?_; intro A4 c4 W4 own4 hE4))
  go_ret
  exact ⟨A4, c4, rfl, own4, hE4⟩
theorem r1num_to {N : Nat} {X : List UInt8} (w0 w : World) (A : Option Addr) (n c : Nat) (L : List UInt8) (x : UInt32) (hE0 : Ext w0 w) (own : OB w w0.heap.size A n c L) (hn : n ≤ 70368744177664) (hN : n + 4 = N) (hX : L ++ beBytes x 4 = X) :
    Calls Tryz.prog 79 #[.slice A n c, .int .u32 (u32i x)] w fun e w' => ∃ A' c', e = .returned (.slice A' N c') ∧ OB w' w0.heap.size A' N c' X ∧ Ext w0 w' := by
  subst hN
  subst hX
  exact r1num_any w0 w A n c L x hE0 own hn
theorem r1bytes_to {N : Nat} {X : List UInt8} (w0 w : World) (A : Option Addr) (n c : Nat) (L : List UInt8) (B : Option Addr) (m d : Nat) (M : List UInt8) (hE0 : Ext w0 w) (own : OB w w0.heap.size A n c L) (hr : RB w B m d M) (hdis : 0 < m → blk B ≠ blk A) (hn : n ≤ 70368744177664) (hm : m < 65536) (hN : n + (2 + m) = N) (hX : L ++ (be2 m ++ M) = X) :
    Calls Tryz.prog 80 #[.slice A n c, .slice B m d] w fun e w' => ∃ A' c', e = .returned (.slice A' N c') ∧ OB w' w0.heap.size A' N c' X ∧ Ext w0 w' := by
  subst hN
  subst hX
  exact r1bytes_any w0 w A n c L B m d M hE0 own hr hdis hn hm
end Go.Proofs.YtkndgpjamijbbaaGreat
namespace Go.Proofs.YtkndgpjamijbbaaGreat
set_option maxRecDepth 100000
open Go Go.RowKit
theorem run_index_str {P : Program} {w : World} {t : TypeId} {k : IntKind} (ht : P.underlying t = some .string) (L : List UInt8) (j : Nat) (h : j < L.length) : (Instr.index t (.string (str L)) (.int k (j : Int))).run P w = .ok (.int .u8 (u8i (ub L j))) w := by
  have h1 : (str L)[j]? = some (ub L j) := by
    have hs : j < (str L).size := by rw [str_size]; exact h
    rw [getElem?_pos (str L) j hs]
    congr 1
    show L.toArray[j]'(by simpa using h) = _
    rw [List.getElem_toArray]
    simp [ub, h]
  simp [Instr.index, asIntOf, run_underlying ht, h1, u8i]
theorem all_take_succ (s : List UInt8) (k : Nat) (hk : k < s.length) : (s.take (k + 1)).all letter = ((s.take k).all letter && letter (ub s k)) := by
  rw [take_snoc_ub s k hk]
  simp
theorem all_no {s : List UInt8} {k : Nat} (hk : k < s.length) (h : letter (ub s k) = false) : s.all letter = false := by
  rw [List.all_eq_false]
  refine ⟨s[k], List.getElem_mem hk, ?_⟩
  have e : ub s k = s[k] := by simp [ub, hk]
  rw [← e, h]
  simp
theorem letter_lo {c : UInt8} (h : decide (u8i c < 97) = true) : letter c = false := by
  rw [decide_eq_true_iff] at h
  simp [letter]
  omega
theorem letter_hi {c : UInt8} (h : decide (122 < u8i c) = true) : letter c = false := by
  rw [decide_eq_true_iff] at h
  simp [letter]
  omega
theorem letter_yes {c : UInt8} (h1 : decide (u8i c < 97) = false) (h2 : decide (122 < u8i c) = false) : letter c = true := by
  rw [decide_eq_false_iff_not] at h1 h2
  simp [letter]
  omega
set_option maxHeartbeats 1000000 in
theorem name_any (s : List UInt8) (w : World) (hs : s.length ≤ 9223372036854775807) :
    Calls Tryz.prog 96 #[.string (str s)] w fun e w' => e = .returned (.bool (nameOK s)) ∧ w = w' := by
  have hsz : (str s).size = s.length := str_size s
  by_cases h1 : s.length < 1
  · have hno : nameOK s = false := by simp [nameOK]; omega
    have d1 : decide ((s.length : Int) < 1) = true := by simp; omega
    rw [hno]
    go_enter Tryz.func96, Tryz.ntmps96
    go_wp2_with fail
    go_ret
    exact ⟨rfl, rfl⟩
  · have d1 : decide ((s.length : Int) < 1) = false := by simp; omega
    by_cases h2 : 20 < s.length
    · have hno : nameOK s = false := by simp [nameOK]; omega
      have d2 : decide (20 < (s.length : Int)) = true := by simp; omega
      rw [hno]
      go_enter Tryz.func96, Tryz.ntmps96
      go_wp2_with fail
      go_ret
      exact ⟨rfl, rfl⟩
    · have d2 : decide (20 < (s.length : Int)) = false := by simp; omega
      have hall : nameOK s = s.all letter := by
        have a1 : decide (1 ≤ s.length) = true := by simp; omega
        have a2 : decide (s.length ≤ 20) = true := by simp; omega
        simp [nameOK, a1, a2]
      rw [hall]
      clear hall
      go_enter Tryz.func96, Tryz.ntmps96
      go_wp2_with fail
      go_loop [14] (fun i => ∃ k : Nat, k ≤ s.length ∧ i = .int .i64 k ∧ (s.take k).all letter = true) (fun i => s.length - (intOf i).toNat)
      case atStart => exact ⟨0, Nat.zero_le _, rfl, rfl⟩
      case round =>
        obtain ⟨k, hk, rfl, hall⟩ := hrel
        have Hall := Lib.hid hall
        clear hall
        by_cases hlt : k < s.length
        · have e1 := fun w' : World => run_index_str (P := Tryz.prog) (w := w') (k := .i64) Tryz.underlying9 s k hlt
          by_cases a1 : decide (u8i (ub s k) < 97) = true
          · go_wp2_with fail
            go_ret
            exact ⟨by rw [all_no hlt (letter_lo a1)]; rfl, rfl⟩
          · have a1' : decide (u8i (ub s k) < 97) = false := by simpa using a1
            clear a1
            by_cases a2 : decide (122 < u8i (ub s k)) = true
            · go_wp2_with fail
              go_ret
              exact ⟨by rw [all_no hlt (letter_hi a2)]; rfl, rfl⟩
            · have a2' : decide (122 < u8i (ub s k)) = false := by simpa using a2
              clear a2
              go_wp2_with fail
              go_round
              case rel => exact ⟨k + 1, by omega, by go_num, by rw [all_take_succ s k hlt, Hall.out, letter_yes a1' a2']; rfl⟩
              case measure => simp [intOf]; omega
        · obtain rfl : k = s.length := by omega
          have hall := Hall.out
          rw [List.take_length] at hall
          have Hall2 := Lib.hid hall
          clear hall
          go_wp2_with fail
          go_ret
          exact ⟨by rw [Hall2.out]; rfl, rfl⟩
/-- a manifest's value, as it is handed on -/
def manV (m : Man) (F : Option Addr) (nf cf : Nat) (N : Option Addr) (nn cn : Nat) : Value := .agg #[.string (str m.name), .int .u32 (u32i m.ver), .slice F nf cf, .slice N nn cn]
set_option maxHeartbeats 1000000 in
theorem right_any (m : Man) (F N : Option Addr) (nf cf nn cn : Nat) (w : World) (hs : m.name.length ≤ 9223372036854775807) (hf : m.fw.length = nf) (hn : m.notes.length = nn) :
    Calls Tryz.prog 77 #[manV m F nf cf N nn cn] w fun e w' => e = .returned (.bool (rightM m)) ∧ Ext w w' := by
  have hR : rightM m = (nameOK m.name && decide (0 < u32i m.ver) && decide (nf = 32) && decide (nn ≤ 64)) := by rw [← hf, ← hn]; rfl
  rw [hR]
  clear hR hf hn
  unfold manV
  cases h1 : nameOK m.name with
  | false =>
    go_enter Tryz.func77, Tryz.ntmps77
    go_wp2_with fail
    refine (name_any m.name _ hs).mono ?_
    rintro e w1 ⟨rfl, rfl⟩
    rw [h1]
    go_wp2_with fail
    go_ret
    exact ⟨rfl, Ext.new w _⟩
  | true =>
    cases h2 : decide (0 < u32i m.ver) with
    | false =>
      go_enter Tryz.func77, Tryz.ntmps77
      go_wp2_with fail
      refine (name_any m.name _ hs).mono ?_
      rintro e w1 ⟨rfl, rfl⟩
      rw [h1]
      go_wp2_with fail
      go_ret
      exact ⟨rfl, Ext.new w _⟩
    | true =>
      by_cases h3 : nf = 32
      · subst h3
        by_cases h4 : nn ≤ 64
        · have d4 : decide ((nn : Int) ≤ 64) = true := by simp; omega
          rw [decide_eq_true h4]
          go_enter Tryz.func77, Tryz.ntmps77
          go_wp2_with fail
          refine (name_any m.name _ hs).mono ?_
          rintro e w1 ⟨rfl, rfl⟩
          rw [h1]
          go_wp2_with fail
          go_ret
          exact ⟨rfl, Ext.new w _⟩
        · have d4 : decide ((nn : Int) ≤ 64) = false := by simp; omega
          rw [decide_eq_false h4]
          go_enter Tryz.func77, Tryz.ntmps77
          go_wp2_with fail
          refine (name_any m.name _ hs).mono ?_
          rintro e w1 ⟨rfl, rfl⟩
          rw [h1]
          go_wp2_with fail
          go_ret
          exact ⟨rfl, Ext.new w _⟩
      · have d3 : ((nf : Int) == 32) = false := by rw [beq_eq_false_iff_ne]; omega
        rw [decide_eq_false h3]
        go_enter Tryz.func77, Tryz.ntmps77
        go_wp2_with fail
        refine (name_any m.name _ hs).mono ?_
        rintro e w1 ⟨rfl, rfl⟩
        rw [h1]
        go_wp2_with fail
        go_ret
        exact ⟨rfl, Ext.new w _⟩
end Go.Proofs.YtkndgpjamijbbaaGreat
namespace Go.Proofs.YtkndgpjamijbbaaGreat
set_option maxRecDepth 100000
open Go Go.RowKit
theorem run_conv_bytes (w : World) (s : List UInt8) (hs : s.length ≤ 1000000) : ∃ c w', (convert 9 26 (.string (str s))).run Tryz.prog w = .ok (.slice (some ⟨w.heap.size, 0, none⟩) s.length c) w' ∧ RB w' (some ⟨w.heap.size, 0, none⟩) s.length c s ∧ Ext w w' ∧ w'.heap.size = w.heap.size + 1 := by
  have h := Lib.run_convert_string_bytes (P := Tryz.prog) w 9 26 5 (str s) Tryz.underlying9 Tryz.underlying26 Tryz.underlying5
  have hz : (str s).size = s.length := str_size s
  rw [hz] at h
  refine ⟨_, _, h, ⟨rfl, grownCap_ge _ _ _ _, grownCap_le_maxLen _ _ _ _ (small_maxLen hs), fun hn => ⟨_, rfl, fun j hj => ?_⟩⟩, ⟨rfl, rfl, rfl, by rw [Lib.bytesWorld_size]; omega, fun k hk => Lib.bytesWorld_at_old w _ _ k hk⟩, Lib.bytesWorld_size _ _ _⟩
  rw [add_plain, Lib.bytesWorld_cell w _ _ j (by rw [hz]; exact hj)]
  rfl
theorem Blk.chg {w w' : World} {g : Nat} {t : TypeId} {cs : Array Value} {p : Nat} {A : Option Addr} (h : Blk w g t cs) (k : Chg w w' p A) (h1 : g ≠ p) (h2 : blk A ≠ some g) : Blk w' g t cs := (k.block g h.lt h1 h2).trans h
theorem right_small {m : Man} (h : rightM m = true) : m.name.length ≤ 20 ∧ m.fw.length = 32 ∧ m.notes.length ≤ 64 := by
  simp only [rightM, nameOK, Bool.and_eq_true, decide_eq_true_eq] at h
  omega
end Go.Proofs.YtkndgpjamijbbaaGreat
namespace Go.Proofs.YtkndgpjamijbbaaGreat
set_option maxRecDepth 100000
open Go Go.RowKit
/-- so many of the chain's calls have been made; S tells what holds then -/
def ChainSt (cs : List Nat) (S : Nat → World → Prop) (done : Nat → Bool) (w : World) : Prop := ∃ k, k ≤ cs.length ∧ (∀ j c, cs[j]? = some c → (done c = true ↔ j < k)) ∧ S k w
def JC (w wI : World) (q : Nat) (cs : List Nat) (S : Nat → World → Prop) (done : Nat → Bool) (w' : World) : Prop :=
  w.grownBy w' (some q) ∧ Ext wI w' ∧ ChainSt cs S done w'
def StaysQ (q : Nat) (m : MP Ext) : Prop := ∀ u w w', w.grownBy w' (some q) → m.p u w → m.p u w'
def StaysQL (q : Nat) : List (MP Ext) → Prop
  | [] => True
  | m :: l => StaysQ q m ∧ StaysQL q l
theorem StaysQL.at_ {q : Nat} {F : List (MP Ext)} : ∀ {j : Nat} {m : MP Ext}, StaysQL q F → F[j]? = some m → StaysQ q m := by
  induction F with
  | nil => intro j m _ h; simp at h
  | cons x l ih =>
    intro j m h hj
    cases j with
    | zero =>
      simp only [List.getElem?_cons_zero, Option.some.injEq] at hj
      subst hj
      exact h.1
    | succ j => exact ih (j := j) h.2 (by simpa only [List.getElem?_cons_succ] using hj)
theorem staysq_is (q : Nat) (v : Value) : StaysQ q (MP.is v) := fun _ _ _ _ h => h
/-- a byte slice that reads as L, apart from block q -/
def MP.rbn (q : Nat) (L : List UInt8) : MP Ext := ⟨fun u w => ∃ B n c, u = .slice B n c ∧ RB w B n c L ∧ (0 < n → blk B ≠ some q), fun _ _ _ e ⟨B, n, c, h1, h2, h3⟩ => ⟨B, n, c, h1, h2.ext e, h3⟩⟩
theorem staysq_rbn (q : Nat) (L : List UInt8) : StaysQ q (MP.rbn q L) := by
  rintro u w w' g ⟨B, n, c, h1, h2, h3⟩
  exact ⟨B, n, c, h1, h2.grown g h3, h3⟩
/-- a new block that holds these cells, apart from block q -/
def MP.blkn (q : Nat) (t : TypeId) (cs : Array Value) (b : Nat) : MP Ext := ⟨fun u w => ∃ g, u = .pointer (some ⟨g, 0, none⟩) ∧ Blk w g t cs ∧ g ≠ q ∧ b ≤ g, fun _ _ _ e ⟨g, h1, h2, h3, h4⟩ => ⟨g, h1, h2.ext e, h3, h4⟩⟩
theorem staysq_blkn (q : Nat) (t : TypeId) (cs : Array Value) (b : Nat) : StaysQ q (MP.blkn q t cs b) := by
  rintro u w w' g ⟨k, h1, h2, h3, h4⟩
  exact ⟨k, h1, h2.grown g (by intro e; cases e; exact h3 rfl), h3, h4⟩
section
variable {ops : Array Oper} {H : List Tmp} {F : List (MP Ext)} {a0 : Act} {w0 wI : World} {q : Nat} {cs : List Nat} {S : Nat → World → Prop} {i : Nat} {o : Oper}
theorem stepEC (ho : o.guard = none) (hic : cs.contains i = false) (hS : ∀ k w w', Ext w w' → S k w → S k w') (h : ∀ (done : Nat → Bool) (a : Act) (w : World), w0.grownBy w (some q) → Ext wI w → (∀ j, (depsOf o).contains j = true → done j = true) → Known ops H F a0 done a w →
    Runs Tryz.prog o a.eval w fun v w' => Ext w w' ∧ factAt F i v w') : StepOK Tryz.prog ops H F (JC w0 wI q cs S) a0 i o := by
  intro done a w hJ _ hd hk
  rw [if_pos (by simp [Region.wanted, ho])]
  obtain ⟨k, h1, h2, h3⟩ := hJ.2.2
  refine (h done a w hJ.1 hJ.2.1 (deps_done hd) hk).mono fun v w' hg => ⟨fun j _ u hu => factAt_keep hg.1 j u hu, ⟨hJ.1.trans (hg.1.grownBy _), hJ.2.1.trans hg.1, k, h1, fun j c hj => ?_, hS k w w' hg.1 h3⟩, hg.2⟩
  have hne : c ≠ i := by
    rintro rfl
    have := List.contains_iff_mem.2 (List.mem_of_getElem? hj)
    rw [this] at hic
    cases hic
  unfold setDone
  rw [if_neg hne]
  exact h2 j c hj
theorem stepCC {j : Nat} (ho : o.guard = none) (hj : cs[j]? = some i) (hnd : cs.Nodup) (hprev : j = 0 ∨ ∃ p, cs[j - 1]? = some p ∧ (depsOf o).contains p = true) (hst : StaysQL q F) (hq : wI.heap.size ≤ q)
    (h : ∀ (done : Nat → Bool) (a : Act) (w : World), w0.grownBy w (some q) → Ext wI w → S j w → (∀ j, (depsOf o).contains j = true → done j = true) → Known ops H F a0 done a w →
      Runs Tryz.prog o a.eval w fun v w' => w.grownBy w' (some q) ∧ S (j + 1) w' ∧ factAt F i v w') : StepOK Tryz.prog ops H F (JC w0 wI q cs S) a0 i o := by
  intro done a w hJ hnot hd hk
  rw [if_pos (by simp [Region.wanted, ho])]
  obtain ⟨k, h1, h2, h3⟩ := hJ.2.2
  have hd' := deps_done hd
  have hkj : k = j := by
    have ha : ¬ j < k := fun hlt => by
      have := (h2 j i hj).2 hlt
      rw [hnot] at this
      cases this
    have hjl : j < cs.length := by
      rcases Nat.lt_or_ge j cs.length with hl | hl
      · exact hl
      · rw [List.getElem?_eq_none hl] at hj; cases hj
    rcases hprev with h0 | ⟨p, hp, hdep⟩
    · omega
    · have := (h2 (j - 1) p hp).1 (hd' p hdep)
      omega
  subst hkj
  refine (h done a w hJ.1 hJ.2.1 h3 hd' hk).mono fun v w' hg => ⟨fun x _ u hu => ?_, ⟨hJ.1.trans hg.1, hJ.2.1.then_grown hg.1 (by intro k hk; cases hk; exact hq), k + 1, ?_, fun x c hx => ?_, hg.2.1⟩, hg.2.2⟩
  · unfold factAt at hu ⊢
    cases hm : F[x]? with
    | none => trivial
    | some mm => rw [hm] at hu; exact hst.at_ hm u w w' hg.1 hu
  · rcases Nat.lt_or_ge k cs.length with hl | hl
    · omega
    · rw [List.getElem?_eq_none hl] at hj; cases hj
  · unfold setDone
    by_cases hci : c = i
    · subst hci
      have hxk : x = k := by
        rcases Nat.lt_or_ge x cs.length with hl | hl
        · exact (List.getElem?_inj hl hnd).1 (hx.trans hj.symm)
        · rw [List.getElem?_eq_none hl] at hx; cases hx
      rw [if_pos rfl, hxk]
      simp
    · rw [if_neg hci, h2 x c hx]
      have hne : x ≠ k := fun e => by
        subst e
        rw [hj] at hx
        cases hx
        exact hci rfl
      omega
end
theorem par_chain {ops : Array Oper} {id n : Nat} {a : Act} {w wI : World} {Q : Exit → Act → World → Prop} {q : Nat} (cs : List Nat) (S : Nat → World → Prop) (hE : Ext wI w) (h0 : S 0 w.drew)
    (hB : parB ops n = true) (F : List (MP Ext))
    (hsz : (dsts ops).all (fun t => decide (t < a.tmps.size)) = true) (hcs : cs.all (fun c => decide (c < n)) = true)
    (steps : StepsOK Tryz.prog ops ((ops.toList.take n).filterMap (·.dst)) F (JC w wI q cs S) a 0 (ops.toList.take n))
    (fin : ∀ (vals : Nat → Value) (w' : World), w.grownBy w' (some q) → Ext wI w' → S cs.length w' → (∀ j, j < n → ∀ d, dstAt ops j = some d → factAt F j (vals j) w') → wpList Tryz.prog ops Q (ops.toList.drop n) (putAll a 0 (ops.toList.take n) vals) w') :
    (Code.region id ops true).wp Tryz.prog Q a w := by
  refine par_region (R := Ext) (by kernel_rfl) hB F (JC w wI q cs S) ⟨(Ext.refl w).drew.grownBy _, hE.drew, 0, Nat.zero_le _, fun j c _ => by simp, h0⟩ (fun t ht => by simpa using List.all_eq_true.1 hsz t ht) steps (fun vals w' h1 h2 => ?_)
    (fun d d' w h hj => ⟨hj.1, hj.2.1, by
      obtain ⟨k, h1, h2, h3⟩ := hj.2.2
      exact ⟨k, h1, fun j c hc => by rw [← h c]; exact h2 j c hc, h3⟩⟩)
  obtain ⟨k, k1, k2, k3⟩ := h1.2.2
  have hkl : k = cs.length := by
    rcases Nat.lt_or_ge k cs.length with hl | hl
    · have h5 : cs[k]? = some cs[k] := List.getElem?_eq_getElem hl
      have h6 : cs[k] < n := by simpa using List.all_eq_true.1 hcs cs[k] (List.getElem_mem hl)
      have h7 := (k2 k _ h5).1 (by simpa using h6)
      omega
    · omega
  rw [hkl] at k3
  exact fin vals w' h1.1 h1.2.1 k3 h2
end Go.Proofs.YtkndgpjamijbbaaGreat

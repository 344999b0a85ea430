/-
  keep.Item and law9.known, walked.
-/
import Derived.Test.YtmgnigofilkfmabKeep2
namespace Go.Proofs.Ytmgnigofilkfmab
set_option maxRecDepth 100000
open Go Go.RowKit
set_option maxHeartbeats 1000000 in
theorem item_any (a v f : Int) (w : World) (ha0 : -9223372036854775808 ≤ a) (ha1 : a ≤ 9223372036854775807) (hv0 : -9223372036854775808 ≤ v) (hv1 : v ≤ 9223372036854775807) (hf0 : -9223372036854775808 ≤ f) (hf1 : f ≤ 9223372036854775807) :
    Calls Try.prog 15 #[.int .i64 a, .int .i64 v, .int .i64 f] w fun e w' => ∃ A k c, e = .returned (.slice A k c) ∧ OB w' w.heap.size A k c (encM (kman a v f)) ∧ Ext w w' := by
  have hk := kman_any a v f w ha0 ha1 hv0 hv1 hf0 hf1
  have hr := kman_right a v f
  generalize kman a v f = m at hk hr ⊢
  obtain ⟨h1, h2, h3⟩ := right_small hr
  have H1 := Lib.hid h1
  have H2 := Lib.hid h2
  have H3 := Lib.hid h3
  clear h1 h2 h3 hr
  go_enter Try.func15, Try.ntmps15
  go_wp2_with fail
  refine hk.mono ?_
  rintro e w1 ⟨F, nf, cf, N, nn, cn, rfl, hF, hN, hE1⟩
  have hnf : nf = 32 := by rw [← hF.len]; exact H2.out
  have hnn : nn ≤ 64 := by rw [← hN.len]; exact H3.out
  subst hnf
  unfold manV
  go_wp2_with fail
  refine (renc_any m F N 32 cf nn cn w1 hF hN (by have := H1.out; omega) (by omega) (by omega)).mono ?_
  rintro e w2 ⟨A, k, c, rfl, own, hE2⟩
  go_wp2_with fail
  go_ret
  exact ⟨A, k, c, rfl, own.base hE1.size, hE1.trans hE2⟩
theorem kman_known : kman 0 1 2 = ⟨[112, 117, 109, 112], 2, khash 2, [2]⟩ := rfl
set_option maxHeartbeats 1000000 in
theorem known9_any (w : World) : Calls Try.prog 20 #[] w fun e w' => e = .returned (.bool true) ∧ Ext w w' := by
  have hk := kman_any 0 1 2 w (by omega) (by omega) (by omega) (by omega) (by omega) (by omega)
  have hr := kman_right 0 1 2
  rw [kman_known] at hk hr
  have hH : (khash 2).length = 32 := tagged_length _ _
  generalize khash 2 = H at hk hr hH
  have Hr := Lib.hid hr
  have HH := Lib.hid hH
  clear hr hH
  go_enter Try.func20, Try.ntmps20
  go_wp2_with fail
  refine hk.mono ?_
  rintro e w1 ⟨F, nf, cf, N, nn, cn, rfl, hF, hN, hE1⟩
  unfold manV
  go_wp2_with fail
  obtain ⟨w2, hw2⟩ : ∃ w2, w2 = w1.alloc (.cells #[.string (str [112, 117, 109, 112]), .int .u32 (u32i 2), .slice F nf cf, .slice N nn cn] 27) := ⟨_, rfl⟩
  have hB : Blk w2 w1.heap.size 27 #[.string (str [112, 117, 109, 112]), .int .u32 (u32i 2), .slice F nf cf, .slice N nn cn] := by rw [hw2]; exact Blk.new w1 _ _
  have hE2 : Ext w1 w2 := by rw [hw2]; exact Ext.new w1 _
  rw [← hw2]
  clear hw2
  refine (menc_yes ⟨[112, 117, 109, 112], 2, H, [2]⟩ F N nf cf nn cn w2 (hF.ext hE2) (hN.ext hE2) Hr.out).mono ?_
  rintro e w3 ⟨B, k, d, rfl, own3, hE3⟩
  have hk46 : k = 46 := by
    rw [← own3.len, enc_length, HH.out]
    rfl
  subst hk46
  go_wp2_with fail
  refine (mdec_any B 46 d _ w3 own3.rb (by omega)).mono ?_
  rintro e w4 ⟨h1, _, hE4⟩
  obtain ⟨F2, nf2, cf2, N2, nn2, cn2, rfl, hF2, hN2⟩ := h1 (dec_enc Hr.out)
  rw [dec_man Hr.out] at hF2 hN2 ⊢
  clear h1
  have hB4 := (hB.ext hE3).ext hE4
  unfold manV
  go_upto_region 4 with (fail)
  obtain ⟨w5, hw5⟩ : ∃ w5, w5 = w4.alloc (.cells #[.string (str [112, 117, 109, 112]), .int .u32 (u32i 2), .slice F2 nf2 cf2, .slice N2 nn2 cn2] 27) := ⟨_, rfl⟩
  have hB5 : Blk w5 w4.heap.size 27 #[.string (str [112, 117, 109, 112]), .int .u32 (u32i 2), .slice F2 nf2 cf2, .slice N2 nn2 cn2] := by rw [hw5]; exact Blk.new w4 _ _
  have hE5 : Ext w4 w5 := by rw [hw5]; exact Ext.new w4 _
  rw [← hw5]
  clear hw5
  have hB6 := hB4.ext hE5
  have hlt := hB4.lt
  have y0 := hB6.cell (i := 0) rfl
  have z0 := hB6.frozen 0
  go_upto_region 5 with (fail)
  obtain ⟨w6, hw6⟩ : ∃ w6, w6 = w5.setCell ⟨w1.heap.size, 0, none⟩ (.string ⟨#[80, 117, 109, 112]⟩) := ⟨_, rfl⟩
  have hB7 : Blk w6 w1.heap.size 27 #[.string (str [80, 117, 109, 112]), .int .u32 (u32i 2), .slice F nf cf, .slice N nn cn] := by rw [hw6]; exact hB6.set 0 _
  have hB8 : Blk w6 w4.heap.size 27 #[.string (str [112, 117, 109, 112]), .int .u32 (u32i 2), .slice F2 nf2 cf2, .slice N2 nn2 cn2] := by rw [hw6]; exact hB5.far (by show w4.heap.size ≠ w1.heap.size; omega) _
  have hE6 : Ext w w6 := by rw [hw6]; exact (hE1.trans (hE2.trans (hE3.trans (hE4.trans hE5)))).set hE1.size _
  rw [← hw6]
  clear hw6 y0 z0
  have y0 := hB7.cell (i := 0) rfl
  have y1 := hB7.cell (i := 1) rfl
  have y2 := hB7.cell (i := 2) rfl
  have y3 := hB7.cell (i := 3) rfl
  have y4 := hB8.cell (i := 0) rfl
  have y5 := hB8.cell (i := 1) rfl
  have y6 := hB8.cell (i := 2) rfl
  have y7 := hB8.cell (i := 3) rfl
  have hu : u32i 2 = 2 := rfl
  have ht : (str [112, 117, 109, 112]).toList = [112, 117, 109, 112] := str_toList _
  go_wp2_with fail
  have hno : rightM ⟨[80, 117, 109, 112], 2, H, [2]⟩ = false := rfl
  refine (right_any ⟨[80, 117, 109, 112], 2, H, [2]⟩ F N nf cf nn cn w6 (by simp) hF.len hN.len).mono ?_
  rintro e w7 ⟨rfl, hE7⟩
  rw [hno]
  go_wp2_with fail
  go_ret
  exact ⟨rfl, hE6.trans hE7⟩
end Go.Proofs.Ytmgnigofilkfmab

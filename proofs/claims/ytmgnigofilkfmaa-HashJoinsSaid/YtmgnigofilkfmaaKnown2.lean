/-
  law2.known, walked: the two runs that the document tells.
-/
import Derived.Test.YtmgnigofilkfmaaHashHex
import Derived.Test.YtmgnigofilkfmaaOwn
import Derived.Lib.SlBytesConst
namespace Go.Proofs.Ytmgnigofilkfmaa
set_option maxRecDepth 100000
open Go Go.RowKit
theorem known_abc : str (hexOf (sha [97, 98, 99])) = ⟨#[98, 97, 55, 56, 49, 54, 98, 102, 56, 102, 48, 49, 99, 102, 101, 97, 52, 49, 52, 49, 52, 48, 100, 101, 53, 100, 97, 101, 50, 50, 50, 51, 98, 48, 48, 51, 54, 49, 97, 51, 57, 54, 49, 55, 55, 97, 57, 99, 98, 52, 49, 48, 102, 102, 54, 49, 102, 50, 48, 48, 49, 53, 97, 100]⟩ := by
  rw [sha_abc]
  decide +kernel
theorem known_nil : (str (hexOf (sha []))).extract 0 8 = ⟨#[101, 51, 98, 48, 99, 52, 52, 50]⟩ := by
  have h : (str (hexOf (sha []))).extract 0 8 = str ((hexOf (sha [])).take 8) := by
    apply ByteArray.ext
    simp [str]
  rw [h, sha_empty]
  decide +kernel
set_option maxHeartbeats 2000000 in
theorem known2_any (w : World) : Calls Try.prog 18 #[] w fun e w' => e = .returned (.bool true) ∧ Ext w w' := by
  obtain ⟨E, hE⟩ : ∃ E, E = hexOf (sha [97, 98, 99]) := ⟨_, rfl⟩
  obtain ⟨D, hD⟩ : ∃ D, D = hexOf (sha []) := ⟨_, rfl⟩
  have hE1 : str E = ⟨#[98, 97, 55, 56, 49, 54, 98, 102, 56, 102, 48, 49, 99, 102, 101, 97, 52, 49, 52, 49, 52, 48, 100, 101, 53, 100, 97, 101, 50, 50, 50, 51, 98, 48, 48, 51, 54, 49, 97, 51, 57, 54, 49, 55, 55, 97, 57, 99, 98, 52, 49, 48, 102, 102, 54, 49, 102, 50, 48, 48, 49, 53, 97, 100]⟩ := by rw [hE]; exact known_abc
  have hD1 : (str D).size = 64 := by rw [hD, str_size, hexOf_length, sha_length]
  have hD2 : (str D).extract 0 8 = ⟨#[101, 51, 98, 48, 99, 52, 52, 50]⟩ := by rw [hD]; exact known_nil
  have HE := Lib.hid hE
  have HD := Lib.hid hD
  have HE1 := Lib.hid hE1
  have HD1 := Lib.hid hD1
  have HD2 := Lib.hid hD2
  clear hE hD hE1 hD1 hD2
  go_enter Try.func18, Try.ntmps18
  have hE0 := Ext.new w (.cells (bv [97, 98, 99]).toArray 5 (3, 3 + 1))
  have r0 := RB.litM w [97, 98, 99] (3, 3 + 1) (n := 3) rfl (small_maxLen (by decide))
  have s0 := Lib.run_convert_bytes_const (P := Try.prog) w 22 5 #[.int .u8 97, .int .u8 98, .int .u8 99] 3 3 Try.underlying22 Try.underlying5
  have es : (#[.int .u8 97, .int .u8 98, .int .u8 99] : Array Value).size = 3 := rfl
  rw [es] at s0
  go_wp2_with fail
  refine (hsum_any _ 3 3 [97, 98, 99] _ r0 (by omega)).mono ?_
  rintro e w2 ⟨A2, c2, rfl, own2, hE2⟩
  have r2 := own2.rb
  go_wp2_with fail
  refine (hhex_any A2 32 c2 _ w2 r2 (by omega)).mono ?_
  rintro e w3 ⟨rfl, hE3⟩
  rw [← HE.out, HE1.out]
  go_wp2_with fail
  refine (hsum_any none 0 0 [] w3 (RB.nil_ w3) (by omega)).mono ?_
  rintro e w4 ⟨A4, c4, rfl, own4, hE4⟩
  have r4 := own4.rb
  go_wp2_with fail
  refine (hhex_any A4 32 c4 _ w4 r4 (by omega)).mono ?_
  rintro e w5 ⟨rfl, hE5⟩
  rw [← HD.out]
  go_wp2_with fail
  refine (hsum_any none 0 0 [] w5 (RB.nil_ w5) (by omega)).mono ?_
  rintro e w6 ⟨A6, c6, rfl, own6, hE6⟩
  have r6 := own6.rb
  go_wp2_with fail
  refine (hhex_any A6 32 c6 _ w6 r6 (by omega)).mono ?_
  rintro e w7 ⟨rfl, hE7⟩
  rw [← HD.out]
  have hd1 := HD1.out
  have hd2 := HD2.out
  go_wp2_with fail
  go_ret
  exact ⟨rfl, hE0.trans (hE2.trans (hE3.trans (hE4.trans (hE5.trans (hE6.trans hE7)))))⟩
end Go.Proofs.Ytmgnigofilkfmaa

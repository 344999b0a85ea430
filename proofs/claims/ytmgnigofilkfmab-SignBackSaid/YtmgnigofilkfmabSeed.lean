/-
  keep.Seed, walked.
-/
import Derived.Test.YtmgnigofilkfmabOnceG
import Derived.Test.YtmgnigofilkfmabKeep
import Derived.Test.YtmgnigofilkfmabRef2Tag
import Derived.Lib.SlBytesConst
namespace Go.Proofs.Ytmgnigofilkfmab
set_option maxRecDepth 100000
open Go Go.RowKit
def seedL (key : Int) : List UInt8 := tagged 99 [UInt8.ofNat ((within key 0 1000).toNat % 5)]
set_option maxHeartbeats 1000000 in
theorem seed_any (key : Int) (w : World) (h0 : -9223372036854775808 ≤ key) (h1 : key ≤ 9223372036854775807) :
    Calls Try.prog 30 #[.int .i64 key] w fun e w' => ∃ A' c', e = .returned (.slice A' 32 c') ∧ OB w' w.heap.size A' 32 c' (seedL key) ∧ Ext w w' := by
  obtain ⟨k, hk⟩ : ∃ k : Nat, within key 0 1000 = k := ⟨_, (Int.toNat_of_nonneg (within_in key 0 1000 (by omega)).1).symm⟩
  have hwi := within_any key 0 1000 w h0 h1 (by omega) (by omega) (by omega)
  have hs : seedL key = tagged 99 [UInt8.ofNat (k % 5)] := by unfold seedL; rw [hk]; rfl
  rw [hk] at hwi
  rw [hs]
  have Hwi := Lib.hid hwi
  clear hwi hs hk
  go_enter Try.func30, Try.ntmps30
  go_wp2_with fail
  refine Hwi.out.mono ?_
  rintro e w1 ⟨rfl, rfl⟩
  have e1 : (k : Int) % 5 = u8i (UInt8.ofNat (k % 5)) := by
    unfold u8i
    rw [UInt8.toNat_ofNat']
    omega
  have r1 := RB.lit w [UInt8.ofNat (k % 5)] (n := 1) rfl (small_maxLen (by decide))
  have hE1 := Ext.new w (.cells (bv [UInt8.ofNat (k % 5)]).toArray 5)
  have r2 := RBB.of1 r1 22
  have hE2 := Ext.new (w.alloc (.cells (bv [UInt8.ofNat (k % 5)]).toArray 5)) (.cells #[.slice (some ⟨w.heap.size, 0, none⟩) 1 1] 22)
  have hta := rtagged_any 99 _ 1 1 _ _ r2 (by simp)
  have e99 : u8i 99 = 99 := rfl
  rw [e99, World.size_alloc] at hta
  have Hta := Lib.hid hta
  clear hta
  go_wp2_with fail
  refine Hta.out.mono ?_
  rintro e w3 ⟨A3, c3, rfl, own3, hE3⟩
  go_wp2_with fail
  go_ret
  exact ⟨A3, c3, rfl, own3.base (hE1.trans hE2).size, (hE1.trans hE2).trans hE3⟩
end Go.Proofs.Ytmgnigofilkfmab

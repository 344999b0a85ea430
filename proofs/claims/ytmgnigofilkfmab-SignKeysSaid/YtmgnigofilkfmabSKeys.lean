/-
  law5.SignKeys, walked.
-/
import Derived.Test.YtmgnigofilkfmabKnown5
namespace Go.Proofs.Ytmgnigofilkfmab
set_option maxRecDepth 100000
open Go Go.RowKit
def KeysI (w : World) (i : Value) (wr : World) : Prop := ∃ j : Nat, j ≤ 4 ∧ i = .int .i64 ((5 * j : Nat) : Int) ∧ Ext w wr
set_option maxHeartbeats 4000000 in
theorem skeys_law (B : Option Addr) (m e' : Nat) (Q : List UInt8) (key : Int) (w : World) (hq : RB w B m e' Q) (hk0 : -9223372036854775808 ≤ key) (hk1 : key ≤ 9223372036854775807) :
    Calls Try.prog 9 #[.int .i64 key, .slice B m e'] w fun e w' => e = .returned (.bool true) ∧ Ext w w' := by
  have hsd := seed_any key w hk0 hk1
  have Hsd := Lib.hid hsd
  clear hsd
  go_enter Try.func9, Try.ntmps9
  go_wp2_with fail
  refine Hsd.out.mono ?_
  rintro e w1 ⟨A1, c1, rfl, own1, hE1⟩
  clear Hsd
  generalize seedL key = S at *
  have rS1 := own1.rb
  have e60 : ((60 : Nat) : Int) = 60 := rfl
  have hc1 := cut_any B m e' 60 Q w1 (hq.ext hE1) (by omega)
  rw [e60] at hc1
  go_wp2_with fail
  refine hc1.mono ?_
  rintro e w2 ⟨⟨rfl, rM⟩, rfl⟩
  clear hc1 hq e60
  have hm1 : min m 60 ≤ 60 := by omega
  generalize min m 60 = m at *
  generalize Q.take 60 = M at *
  go_wp2_with fail
  refine (spublic_any A1 c1 S _ rS1).mono ?_
  rintro e w3 ⟨A3, c3, rfl, own3, hE3⟩
  have rS := rS1.ext hE3
  have rP := own3.rb
  have rM := rM.ext hE3
  have hE13 := hE1.trans hE3
  clear own1 own3 rS1 hE1 hE3
  go_wp2_with fail
  go_loopw [7] (fun i wr => KeysI w3 i wr) (fun i _ => 20 - (intOf i).toNat)
  case atStart => exact ⟨0, by omega, rfl, Ext.refl _⟩
  case round =>
    obtain ⟨j, hj, rfl, hEr⟩ := hrel
    by_cases hlt : j < 4
    · have hk : 5 * j < 16 := by omega
      have hki : ((5 * j : Nat) : Int) < 16 := by omega
      have hsg := ssign_any A1 B c1 m e' (5 * j) S M wr (rS.ext hEr) (rM.ext hEr) (by omega) hk
      have hv := verB_own S M (5 * j) hk
      have Hv := Lib.hid hv
      have Hsg := Lib.hid hsg
      clear hsg hv
      go_wp2_with fail
      refine Hsg.out.mono ?_
      rintro e w5 ⟨P, d, Q', d', rfl, rPs, rQs, hE5⟩
      clear Hsg
      have hE6 := Ext.new w5 (.cells #[.int .i64 ((5 * j : Nat) : Int), .slice P 64 d, .slice Q' 4 d'] 52)
      have hEr6 := (hEr.trans hE5).trans hE6
      have hsv := sverify_any B A3 P Q' m e' 32 c3 64 d 4 d' ((5 * j : Nat) : Int) (ownP S) M _ _ _ (rP.ext hEr6) (rM.ext hEr6) (by omega) (rPs.ext hE6) (rQs.ext hE6)
      rw [Hv.out] at hsv
      have Hsv := Lib.hid hsv
      clear hsv Hv
      go_wp2_with fail
      refine Hsv.out.mono ?_
      rintro e w7 ⟨rfl, hE7⟩
      go_wp2_with fail
      go_roundw
      case rel => exact ⟨j + 1, by omega, by go_num, hEr6.trans hE7⟩
      case measure => simp [intOf]; omega
    · obtain rfl : j = 4 := by omega
      go_wp2_with fail
      refine (known5_any wr).mono ?_
      rintro e w8 ⟨rfl, hE8⟩
      go_wp2_with fail
      go_ret
      exact ⟨rfl, (hE13.trans hEr).trans hE8⟩
end Go.Proofs.Ytmgnigofilkfmab

/-
  The reference's Tagged, walked: the SHA-256 of the tag and all parts.
-/
import Derived.Test.YthggfbpdhkpkjaaLawMany10Q8
import Derived.Test.YthggfbpdhkpkjaaLawMany10Q5
namespace Go.Proofs.Ythggfbpdhkpkjaa
set_option maxRecDepth 100000
open Go Go.RowKit
set_option maxHeartbeats 1000000 in
theorem rtagged_any (t : UInt8) (A : Option Addr) (n c : Nat) (Ls : List (List UInt8)) (w : World) (hr : RBB w A n c Ls) (hn : Ls.flatten.length ≤ 140737488355199) :
    Calls Try.prog 84 #[.int .u8 (u8i t), .slice A n c] w fun e w' => ∃ A' c', e = .returned (.slice A' 32 c') ∧ OB w' w.heap.size A' 32 c' (tagged t Ls.flatten) ∧ Ext w w' := by
  have hln := hr.len
  have hroom := hr.room
  have hcap := hr.cap
  unfold maxLen at hcap
  have Hn := Lib.hid hln
  clear hln
  go_enter Try.func84, Try.ntmps84
  go_wp2_with fail
  go_loopw [5, 6] (fun v i wr => ∃ (k q d : Nat) (B : Option Addr), k ≤ n ∧ i = .int .i64 k ∧ v = .slice B q d ∧ OB wr w.heap.size B q d (t :: (Ls.take k).flatten) ∧ Ext w wr) (fun _ i _ => n - (intOf i).toNat)
  case atStart => exact ⟨0, 1, 1, _, by omega, rfl, rfl, OB.lit w [t] rfl (small_maxLen (by decide)), Ext.new w _⟩
  case round =>
    obtain ⟨k, q, d, B, hk, rfl, rfl, own, hEr⟩ := hrel
    by_cases hlt : k < n
    · obtain ⟨ad, rfl, hc⟩ := hr.cells (by omega)
      obtain ⟨B1, m1, d1, hcell, hrb⟩ := hc k hlt
      have hcell' := hEr.cell hcell
      have hrb' := hrb.ext hEr
      have hlq : q + m1 ≤ 140737488355328 := by
        have h1 := own.len
        have h2 := hrb.len
        have h3 := flatten_step_le Ls k (by rw [Hn.out]; exact hlt)
        simp only [List.length_cons] at h1
        omega
      clear hc hcell
      go_wp2_with (refine app_own (N := q + m1) (LM := t :: (Ls.take (k + 1)).flatten) rfl rfl rfl rfl hEr own hrb' rfl (by rw [flatten_take_succ Ls k (by rw [Hn.out]; exact hlt)]; rfl) hlq ?_; intro A3 c3 W3 own3 hE3)
      go_roundw
      case rel => exact ⟨k + 1, _, c3, A3, by omega, by go_num, rfl, own3, hE3⟩
      case measure => simp [intOf]; omega
    · obtain rfl : k = n := by omega
      rw [List.take_of_length_le (by rw [Hn.out]; exact Nat.le_refl _)] at own
      have hq : q ≤ 140737488355200 := by
        have h1 := own.len
        simp only [List.length_cons] at h1
        omega
      go_wp2_with fail
      refine (sum_any B q d _ wr own.rb hq).mono ?_
      rintro e W4 ⟨A4, c4, rfl, own4, hE4⟩
      go_wp2_with fail
      go_ret
      exact ⟨A4, c4, rfl, own4.base hEr.size, hEr.trans hE4⟩
end Go.Proofs.Ythggfbpdhkpkjaa

/-
  The statements' helpers, walked: Within, Cut, Sized.
-/
import Derived.Test.YtmgnigofilkfmaaClone
namespace Go.Proofs.Ytmgnigofilkfmaa
set_option maxRecDepth 100000
open Go Go.RowKit
def within (x lo hi : Int) : Int := if lo ≤ x ∧ x ≤ hi then x else lo + x % (hi - lo + 1)
theorem within_in (x lo hi : Int) (h : lo ≤ hi) : lo ≤ within x lo hi ∧ within x lo hi ≤ hi := by
  unfold within
  by_cases hx : lo ≤ x ∧ x ≤ hi
  · rw [if_pos hx]; exact hx
  · rw [if_neg hx]
    have h1 := Int.emod_nonneg x (b := hi - lo + 1) (by omega)
    have h2 := Int.emod_lt_of_pos x (b := hi - lo + 1) (by omega)
    omega
theorem tmod_is (x d : Int) (hd : 0 < d) : x % d = (if 0 ≤ x.tmod d then x.tmod d else x.tmod d + d) ∧ -d < x.tmod d ∧ x.tmod d < d := by
  have h1 := Int.tmod_lt_of_pos x hd
  have h2 : -d < x.tmod d := by
    have h3 := Int.tmod_lt_of_pos (-x) hd
    rw [Int.neg_tmod] at h3
    omega
  refine ⟨?_, h2, h1⟩
  have e := Int.mul_tdiv_add_tmod x d
  have e2 : x % d = x.tmod d % d := by
    conv => lhs; rw [← e]
    rw [Int.mul_add_emod_self_left]
  rw [e2]
  by_cases h : 0 ≤ x.tmod d
  · rw [if_pos h, Int.emod_eq_of_lt h h1]
  · rw [if_neg h, ← Int.add_emod_right, Int.emod_eq_of_lt (by omega) (by omega)]
theorem within_fin {x lo hi r : Int} (h0 : 0 ≤ lo) (h1 : lo ≤ hi) (h2 : hi ≤ 140737488355328) (hout : ¬ (lo ≤ x ∧ x ≤ hi))
    (hr : (0 ≤ x.tmod (hi - lo + 1) → r = lo + x.tmod (hi - lo + 1)) ∧ (¬ 0 ≤ x.tmod (hi - lo + 1) → r = lo + (x.tmod (hi - lo + 1) + hi - lo + 1))) : r = within x lo hi := by
  obtain ⟨e, e1, e2⟩ := tmod_is x (hi - lo + 1) (by omega)
  unfold within
  rw [if_neg hout, e]
  by_cases h : 0 ≤ x.tmod (hi - lo + 1)
  · rw [if_pos h, hr.1 h]
  · rw [if_neg h, hr.2 h]; omega
set_option maxHeartbeats 1000000 in
theorem within_any (x lo hi : Int) (w : World) (hx0 : -9223372036854775808 ≤ x) (hx1 : x ≤ 9223372036854775807) (h0 : 0 ≤ lo) (h1 : lo ≤ hi) (h2 : hi ≤ 140737488355328) :
    Calls Try.prog 19 #[.int .i64 x, .int .i64 lo, .int .i64 hi] w fun e w' => e = .returned (.int .i64 (within x lo hi)) ∧ w = w' := by
  by_cases a1 : lo ≤ x
  · have d1 : decide (lo ≤ x) = true := by simpa using a1
    by_cases a2 : x ≤ hi
    · have d2 : decide (x ≤ hi) = true := by simpa using a2
      have hw : within x lo hi = x := by unfold within; rw [if_pos ⟨a1, a2⟩]
      rw [hw]
      go_enter Try.func19, Try.ntmps19
      go_wp2_with fail
      go_ret
      exact ⟨rfl, rfl⟩
    · have d2 : decide (x ≤ hi) = false := by simpa using a2
      have hout : ¬ (lo ≤ x ∧ x ≤ hi) := fun h => a2 h.2
      have Hout := Lib.hid hout
      clear hout a1 a2
      go_enter Try.func19, Try.ntmps19
      go_wp2_with fail
      all_goals
        go_ret
        refine ⟨?_, rfl⟩
        obtain ⟨_, e1, e2⟩ := tmod_is x (hi - lo + 1) (by omega)
        refine congrArg (fun z => Ending.returned (.int .i64 z)) (within_fin h0 h1 h2 Hout.out ⟨fun h => ?_, fun h => ?_⟩)
        · unfold wrap64; omega
        · unfold wrap64; omega
  · have d1 : decide (lo ≤ x) = false := by simpa using a1
    have hout : ¬ (lo ≤ x ∧ x ≤ hi) := fun h => a1 h.1
    have Hout := Lib.hid hout
    clear hout a1
    go_enter Try.func19, Try.ntmps19
    go_wp2_with fail
    all_goals
      go_ret
      refine ⟨?_, rfl⟩
      obtain ⟨_, e1, e2⟩ := tmod_is x (hi - lo + 1) (by omega)
      refine congrArg (fun z => Ending.returned (.int .i64 z)) (within_fin h0 h1 h2 Hout.out ⟨fun h => ?_, fun h => ?_⟩)
      · unfold wrap64; omega
      · unfold wrap64; omega
set_option maxHeartbeats 1000000 in
theorem cut_any (A : Option Addr) (n c k : Nat) (L : List UInt8) (w : World) (hr : RB w A n c L) (hk : k ≤ 140737488355328) :
    Calls Try.prog 15 #[.slice A n c, .int .i64 k] w fun e w' => (e = .returned (.slice A (min n k) c) ∧ RB w A (min n k) c (L.take k)) ∧ w = w' := by
  have hn : n ≤ 9223372036854775807 := by have h1 := hr.room; have h2 := hr.cap; unfold maxLen at h2; omega
  by_cases hlt : k < n
  · have d1 : decide ((k : Int) < (n : Int)) = true := by simpa using hlt
    have hc := hr.room
    go_enter Try.func15, Try.ntmps15
    go_wp2_with fail
    go_ret
    refine ⟨⟨by rw [Nat.min_eq_right (by omega)]; rfl, ?_⟩, rfl⟩
    have h1 := hr.cut (i := 0) (j := k) (c' := c) (A' := A) (by omega) (by omega) rfl (fun _ => by cases A <;> simp [Addr.add])
    rw [Nat.min_eq_right (by omega)]
    simpa using h1
  · have d1 : decide ((k : Int) < (n : Int)) = false := by simpa using hlt
    go_enter Try.func15, Try.ntmps15
    go_wp2_with fail
    go_ret
    have hl := hr.len
    rw [Nat.min_eq_left (by omega), List.take_of_length_le (by omega)]
    exact ⟨⟨rfl, hr⟩, rfl⟩
end Go.Proofs.Ytmgnigofilkfmaa

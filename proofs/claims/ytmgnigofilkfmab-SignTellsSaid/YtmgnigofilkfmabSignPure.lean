/-
  Owners' trees in plain words: levels, paths, and where a path leads. Plain theorems.
-/
import Derived.Test.YtmgnigofilkfmabRootU
namespace Go.Proofs.Ytmgnigofilkfmab
set_option maxRecDepth 100000
open Go Go.RowKit
def nodeV (a b : List UInt8) : List UInt8 := tagged 14 (a ++ b)
def upL (Ls : List (List UInt8)) : List (List UInt8) := (List.range (Ls.length / 2)).map fun i => nodeV (lb Ls (2 * i)) (lb Ls (2 * i + 1))
def leavesL (S : List UInt8) : List (List UInt8) := (List.range 16).map fun k => publicL S ((k : Nat) : Int)
def lev (S : List UInt8) : Nat → List (List UInt8)
  | 0 => leavesL S
  | h + 1 => upL (lev S h)
def ownP (S : List UInt8) : List UInt8 := lb (lev S 4) 0
def pathB (S : List UInt8) (k h : Nat) : List UInt8 := lb (lev S h) (k / 2 ^ h + 1 - 2 * (k / 2 ^ h % 2))
def pathL (S : List UInt8) (k : Nat) : List (List UInt8) := (List.range 4).map (pathB S k)
def climbB (k h : Nat) (t o : List UInt8) : List UInt8 := if k / 2 ^ h % 2 = 0 then nodeV t o else nodeV o t
def climb (k : Nat) (t : List UInt8) (path : List (List UInt8)) : Nat → List UInt8
  | 0 => t
  | h + 1 => climbB k h (climb k t path h) (lb path h)
theorem nodeV_length (a b : List UInt8) : (nodeV a b).length = 32 := tagged_length _ _
theorem upL_length (Ls : List (List UInt8)) : (upL Ls).length = Ls.length / 2 := by simp [upL]
theorem lev_length (S : List UInt8) (h : Nat) : (lev S h).length = 16 / 2 ^ h := by
  induction h with
  | zero => simp [lev, leavesL]
  | succ h ih =>
    show (upL (lev S h)).length = _
    rw [upL_length, ih, Nat.div_div_eq_div_mul]
    rfl
theorem lb_upL (Ls : List (List UInt8)) {i : Nat} (h : i < Ls.length / 2) : lb (upL Ls) i = nodeV (lb Ls (2 * i)) (lb Ls (2 * i + 1)) := by
  unfold upL
  rw [lb_range _ h]
theorem publicL_length (S : List UInt8) (k : Int) : (publicL S k).length = 32 := tagged_length _ _
theorem lb_lev_length (S : List UInt8) (h i : Nat) (hi : i < 16 / 2 ^ h) : (lb (lev S h) i).length = 32 := by
  cases h with
  | zero =>
    show (lb (leavesL S) i).length = 32
    unfold leavesL
    rw [lb_range _ (by simpa using hi)]
    exact publicL_length _ _
  | succ h =>
    show (lb (upL (lev S h)) i).length = 32
    have h2 : i < (lev S h).length / 2 := by
      rw [lev_length, Nat.div_div_eq_div_mul]
      exact hi
    rw [lb_upL _ h2]
    exact nodeV_length _ _
theorem ownP_length (S : List UInt8) : (ownP S).length = 32 := lb_lev_length S 4 0 (by decide)
theorem step_lt {k h : Nat} (hk : k < 16) (hh : h < 4) : k / 2 ^ h + 1 - 2 * (k / 2 ^ h % 2) < 16 / 2 ^ h ∧ k / 2 ^ (h + 1) < 16 / 2 ^ h / 2 ∧ k / 2 ^ (h + 1) = k / 2 ^ h / 2 := by
  have h3 : k / 2 ^ (h + 1) = k / 2 ^ h / 2 := by rw [Nat.pow_succ, Nat.div_div_eq_div_mul]
  refine ⟨?_, ?_, h3⟩
  · obtain rfl | rfl | rfl | rfl : h = 0 ∨ h = 1 ∨ h = 2 ∨ h = 3 := by omega
    all_goals simp only [Nat.reducePow, Nat.reduceDiv, Nat.div_one]; omega
  · obtain rfl | rfl | rfl | rfl : h = 0 ∨ h = 1 ∨ h = 2 ∨ h = 3 := by omega
    all_goals simp only [Nat.reducePow, Nat.reduceAdd, Nat.reduceDiv, Nat.div_one]; omega
theorem climb_path (S : List UInt8) (k : Nat) (hk : k < 16) : ∀ h, h ≤ 4 → climb k (publicL S ((k : Nat) : Int)) (pathL S k) h = lb (lev S h) (k / 2 ^ h) := by
  intro h
  induction h with
  | zero =>
    intro _
    show publicL S ((k : Nat) : Int) = lb (leavesL S) (k / 1)
    unfold leavesL
    rw [Nat.div_one, lb_range _ hk]
  | succ h ih =>
    intro hh
    have h1 := step_lt hk (h := h) (by omega)
    show climbB k h (climb k _ (pathL S k) h) (lb (pathL S k) h) = lb (upL (lev S h)) (k / 2 ^ (h + 1))
    rw [ih (by omega), lb_upL _ (by rw [lev_length]; exact h1.2.1), h1.2.2]
    unfold pathL
    rw [lb_range _ (by omega)]
    unfold climbB pathB
    generalize k / 2 ^ h = q
    by_cases h0 : q % 2 = 0
    · rw [if_pos h0, h0, show q + 1 - 2 * 0 = 2 * (q / 2) + 1 from by omega]
      congr 2
      omega
    · have h2 : q % 2 = 1 := by omega
      rw [if_neg h0, h2, show q + 1 - 2 * 1 = 2 * (q / 2) from by omega]
      congr 2
      omega
theorem climb_own (S : List UInt8) (k : Nat) (hk : k < 16) : climb k (publicL S ((k : Nat) : Int)) (pathL S k) 4 = ownP S := by
  rw [climb_path S k hk 4 (by omega), show k / 2 ^ 4 = 0 from Nat.div_eq_of_lt hk]
  rfl
end Go.Proofs.Ytmgnigofilkfmab

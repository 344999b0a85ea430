/-
  The plain law of law11's known: the two keys differ, the cosignature verifies, it counts once.
-/
import Derived.Test.YthggfbpdhkpkjaaLawPol11Q31
import Derived.Test.YthggfbpdhkpkjaaLawPol11Q35
namespace Go.Proofs.Ythggfbpdhkpkjaa
set_option maxRecDepth 100000
open Go Go.RowKit
theorem seedL_small (k : Nat) (hk : k < 5) : seedL ((k : Nat) : Int) = tagged 99 [UInt8.ofNat k] := by
  have h : k = 0 ∨ k = 1 ∨ k = 2 ∨ k = 3 ∨ k = 4 := by omega
  rcases h with rfl | rfl | rfl | rfl | rfl <;> rfl
def seeds (n : Nat) : List (List UInt8) := (List.range n).map fun i => seedL ((i : Nat) : Int)
def keys (n : Nat) : List (List UInt8) := (List.range n).map fun j => ownP (lb (seeds n) j)
theorem lb_keys {n i : Nat} (h : i < n) : lb (keys n) i = ownP (seedL ((i : Nat) : Int)) := by
  unfold keys
  rw [lb_range _ h]
  unfold seeds
  rw [lb_range _ h]
theorem keys_ne {j k : Nat} (hk : k < 4) (hj : j < k) : ownP (seedL ((j : Nat) : Int)) ≠ ownP (seedL ((k : Nat) : Int)) := by
  rw [seedL_small j (by omega), seedL_small k (by omega)]
  have h : (j = 0 ∧ k = 1) ∨ (j = 0 ∧ k = 2) ∨ (j = 1 ∧ k = 2) ∨ (j = 0 ∧ k = 3) ∨ (j = 1 ∧ k = 3) ∨ (j = 2 ∧ k = 3) := by omega
  rcases h with ⟨rfl, rfl⟩ | ⟨rfl, rfl⟩ | ⟨rfl, rfl⟩ | ⟨rfl, rfl⟩ | ⟨rfl, rfl⟩ | ⟨rfl, rfl⟩
  · exact own_ne_01
  · exact own_ne_02
  · exact own_ne_12
  · exact own_ne_03
  · exact own_ne_13
  · exact own_ne_23
theorem keys_ok {n : Nat} (hn : n ≤ 4) : okW (keys n) n := by
  intro i hi
  refine ⟨by rw [lb_keys hi]; exact ownP_length _, fun j hj => ?_⟩
  rw [lb_keys hi, lb_keys (by omega)]
  exact keys_ne (by omega) hj
theorem keys_length (n : Nat) : (keys n).length = n := by simp [keys]
/-- the policies of the first n owners that may be -/
theorem keys_pol {n : Nat} (h1 : 1 ≤ n) (hn : n ≤ 4) (q : Int) (x : Int) : polB (khash x) (keys n) q = decide (1 ≤ q ∧ q ≤ (n : Int)) := by
  by_cases h : 1 ≤ q ∧ q ≤ (n : Int)
  · rw [decide_eq_true h]
    exact polB_yes ⟨khash_length _, by rw [keys_length]; exact h1, by rw [keys_length]; exact hn, h.1, by rw [keys_length]; exact h.2⟩ (by rw [keys_length]; exact keys_ok hn)
  · rw [decide_eq_false h]
    refine polB_no fun h' => h ⟨h'.2.2.2.1, ?_⟩
    have := h'.2.2.2.2
    rwa [keys_length] at this
theorem cos_own {n j k : Nat} (hj : j < n) (hn : n ≤ 4) {q x y : Int} {R : List UInt8} (hq : 1 ≤ q ∧ q ≤ (n : Int)) (hc : rightC x R = true) (hk : k < 16) :
    cosB (khash y) (keys n) q x R (j : Int) (k : Int) (sigP (seedL ((j : Nat) : Int)) (bodyC cosignL x R) k) (pathL (seedL ((j : Nat) : Int)) k) = true := by
  unfold cosB
  rw [keys_pol (by omega) hn, decide_eq_true hq, hc, keys_length, decide_eq_true (by omega : (0 : Int) ≤ (j : Int) ∧ (j : Int) < (n : Int))]
  show verB (lb (keys n) j) _ _ _ _ = true
  rw [lb_keys hj]
  exact verB_own _ _ _ hk
theorem cnt_two {v : CSig → Bool} {g : CSig} (hv : v g = true) (hw : g.wn = 1) : cntL v [g, g] = 1 := by
  simp [cntL, seenL, b2i, hv, hw]
/-- a slice of two like cosignatures in a block of its own -/
theorem RCS.two {w : World} {b : Nat} {P Q : Option Addr} {np cp nq cq : Nat} {x k : Int} {PS QS : List (List UInt8)} {t : TypeId}
    (hB : Blk w b t #[.int .i64 x, .int .i64 k, .slice P np cp, .slice Q nq cq, .int .i64 x, .int .i64 k, .slice P np cp, .slice Q nq cq]) (rP : RBB w P np cp PS) (rQ : RBB w Q nq cq QS) :
    RCS w (some ⟨b, 0, none⟩) 2 2 [⟨x, k, PS, QS⟩, ⟨x, k, PS, QS⟩] := by
  refine ⟨rfl, Nat.le_refl _, small_maxLen (by decide), fun _ => ⟨_, rfl, fun j hj => ?_⟩⟩
  have h : j = 0 ∨ j = 1 := by omega
  rcases h with rfl | rfl
  · exact ⟨P, np, cp, Q, nq, cq, hB.cell (i := 0) rfl, hB.cell (i := 1) rfl, hB.cell (i := 2) rfl, hB.cell (i := 3) rfl, rP, rQ⟩
  · exact ⟨P, np, cp, Q, nq, cq, hB.cell (i := 4) rfl, hB.cell (i := 5) rfl, hB.cell (i := 6) rfl, hB.cell (i := 7) rfl, rP, rQ⟩
theorem RCS.one {w : World} {b : Nat} {P Q : Option Addr} {np cp nq cq : Nat} {x k : Int} {PS QS : List (List UInt8)} {t : TypeId}
    (hB : Blk w b t #[.int .i64 x, .int .i64 k, .slice P np cp, .slice Q nq cq]) (rP : RBB w P np cp PS) (rQ : RBB w Q nq cq QS) :
    RCS w (some ⟨b, 0, none⟩) 1 1 [⟨x, k, PS, QS⟩] := by
  refine ⟨rfl, Nat.le_refl _, small_maxLen (by decide), fun _ => ⟨_, rfl, fun j hj => ?_⟩⟩
  obtain rfl : j = 0 := by omega
  exact ⟨P, np, cp, Q, nq, cq, hB.cell (i := 0) rfl, hB.cell (i := 1) rfl, hB.cell (i := 2) rfl, hB.cell (i := 3) rfl, rP, rQ⟩
end Go.Proofs.Ythggfbpdhkpkjaa

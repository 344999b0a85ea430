/-
  once.Root and ref4.Root in one sentence, for any list.
-/
import Derived.Test.YtmgnigofilkfmabRoot4
namespace Go.Proofs.Ytmgnigofilkfmab
set_option maxRecDepth 100000
open Go Go.RowKit
open Classical in
noncomputable def rootB (Ls : List (List UInt8)) : Bool := decide (rootOK Ls)
open Classical in
noncomputable def rootW (M : List UInt8) (Ls : List (List UInt8)) : List UInt8 := if rootOK Ls then rootV M Ls else []
theorem rootB_pos {Ls : List (List UInt8)} (h : rootOK Ls) : rootB Ls = true := by unfold rootB; simp [h]
theorem rootB_neg {Ls : List (List UInt8)} (h : ¬ rootOK Ls) : rootB Ls = false := by unfold rootB; simp [h]
theorem rootW_pos {M : List UInt8} {Ls : List (List UInt8)} (h : rootOK Ls) : rootW M Ls = rootV M Ls := by unfold rootW; simp [h]
theorem rootW_neg {M : List UInt8} {Ls : List (List UInt8)} (h : ¬ rootOK Ls) : rootW M Ls = [] := by unfold rootW; simp [h]
theorem root_uni (B A : Option Addr) (m d n c : Nat) (M : List UInt8) (Ls : List (List UInt8)) (w : World) (hm : RB w B m d M) (hmn : m ≤ 140737488355000) (hr : RBB w A n c Ls) :
    Calls Try.prog 72 #[.slice B m d, .slice A n c] w fun e w' => ∃ A' n' c', e = .returned (.tuple #[.slice A' n' c', .bool (rootB Ls)]) ∧ RB w' A' n' c' (rootW M Ls) ∧ Ext w w' := by
  refine (root_any B A m d n c M Ls w hm hmn hr).mono ?_
  rintro e w' ⟨h1, h2, hE⟩
  by_cases h : rootOK Ls
  · obtain ⟨A', c', rfl, own⟩ := h1 h
    refine ⟨A', 32, c', by rw [rootB_pos h], by rw [rootW_pos h]; exact own.rb, hE⟩
  · refine ⟨none, 0, 0, by rw [h2 h, rootB_neg h], by rw [rootW_neg h]; exact RB.nil_ _, hE⟩
theorem r4root_uni (B A : Option Addr) (m d n c : Nat) (M : List UInt8) (Ls : List (List UInt8)) (w : World) (hm : RB w B m d M) (hmn : m ≤ 140737488355000) (hr : RBB w A n c Ls) :
    Calls Try.prog 78 #[.slice B m d, .slice A n c] w fun e w' => ∃ A' n' c', e = .returned (.tuple #[.slice A' n' c', .bool (rootB Ls)]) ∧ RB w' A' n' c' (rootW M Ls) ∧ Ext w w' := by
  refine (r4root_any B A m d n c M Ls w hm hmn hr).mono ?_
  rintro e w' ⟨h1, h2, hE⟩
  by_cases h : rootOK Ls
  · obtain ⟨A', c', rfl, own⟩ := h1 h
    refine ⟨A', 32, c', by rw [rootB_pos h], by rw [rootW_pos h]; exact own.rb, hE⟩
  · refine ⟨none, 0, 0, by rw [h2 h, rootB_neg h], by rw [rootW_neg h]; exact RB.nil_ _, hE⟩
theorem RBB.take {w : World} {A : Option Addr} {n c : Nat} {Ls : List (List UInt8)} (h : RBB w A n c Ls) {k : Nat} (hk : k ≤ n) : RBB w A k c (Ls.take k) :=
  ⟨by rw [List.length_take, h.len]; omega, Nat.le_trans hk h.room, h.cap, fun h0 => by
    obtain ⟨ad, ha, hc⟩ := h.cells (by omega)
    refine ⟨ad, ha, fun j hj => ?_⟩
    obtain ⟨B, m, d, h1, h2⟩ := hc j (by omega)
    refine ⟨B, m, d, h1, ?_⟩
    have e : lb (Ls.take k) j = lb Ls j := by unfold lb; simp [List.getElem?_take, hj]
    rw [e]
    exact h2⟩
theorem bin_rem7 {P : Program} {w : World} (t : TypeId) (x : Int) (h0 : -9223372036854775808 ≤ x) (h1 : x ≤ 9223372036854775807) : (binOp .rem t (.int .i64 x) (.int .i64 7)).run P w = .ok (.int .i64 (x.tmod 7)) w := by
  have h2 := Int.tmod_lt_of_pos x (b := 7) (by omega)
  have h3 : -7 < x.tmod 7 := by
    have h3 := Int.tmod_lt_of_pos (-x) (b := 7) (by omega)
    rw [Int.neg_tmod] at h3
    omega
  have e : IntKind.i64.wrap (x.tmod 7) = x.tmod 7 := i64_wrap_id (by omega) (by omega)
  simp [binOp, Op.intArith, Op.intDiv, e]
end Go.Proofs.Ytmgnigofilkfmab

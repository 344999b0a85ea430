/-
  slices.Clone and bytes.Equal, walked; and the cutting of byte slices.
-/
import Derived.Test.YtmgnigofilkfmaaLists
namespace Go.Proofs.Ytmgnigofilkfmaa
set_option maxRecDepth 100000
open Go Go.RowKit
theorem RB.empty {w : World} {n c : Nat} {L : List UInt8} (h : RB w none n c L) : n = 0 ∧ L = [] := by
  have h1 := h.len
  rcases Nat.eq_zero_or_pos n with h0 | h0
  · subst h0
    exact ⟨rfl, List.eq_nil_of_length_eq_zero h1⟩
  · obtain ⟨ad, h2, _⟩ := h.cells h0
    cases h2
set_option maxHeartbeats 400000 in
theorem clone_any (A : Option Addr) (n c : Nat) (L : List UInt8) (w : World) (hr : RB w A n c L) (hn : n ≤ 140737488355328) :
    Calls Try.prog 45 #[.slice A n c] w fun e w' => ∃ B d, e = .returned (.slice B n d) ∧ OB w' w.heap.size B n d L ∧ Ext w w' := by
  go_enter Try.func45, Try.ntmps45
  rcases A with _ | A
  · go_wp2_with fail
    go_ret
    obtain ⟨h1, h2⟩ := hr.empty
    subst h1 h2
    exact ⟨none, 0, rfl, OB.none_ _ _, Ext.refl _⟩
  · have own0 := OB.lit w [] rfl (Nat.zero_le _)
    have hr0 := hr.ext (Ext.new w (.cells #[] 5))
    go_wp2_with (refine app_own (N := n) (LM := L) rfl rfl rfl rfl (Ext.new w _) own0 hr0 (by omega) rfl hn ?_; intro B d w1 hown1 hE1)
    go_ret
    exact ⟨B, d, rfl, hown1, hE1⟩
set_option maxHeartbeats 400000 in
theorem equal_any (A B : Option Addr) (n c m d : Nat) (L M : List UInt8) (w : World) (hr : RB w A n c L) (hs : RB w B m d M) :
    Calls Try.prog 50 #[.slice A n c, .slice B m d] w fun e w' => e = .returned (.bool (decide (L = M))) ∧ w = w' := by
  have h1 := run_str hr
  have h2 := run_str hs
  go_enter Try.func50, Try.ntmps50
  go_wp2_with fail
  go_ret
  refine ⟨?_, rfl⟩
  rw [str_toList, str_toList, beq_dec]
  rfl
end Go.Proofs.Ytmgnigofilkfmaa

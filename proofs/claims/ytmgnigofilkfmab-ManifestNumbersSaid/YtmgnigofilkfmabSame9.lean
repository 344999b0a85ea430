/-
  ref9.Same, walked.
-/
import Derived.Test.YtmgnigofilkfmabKnown9
namespace Go.Proofs.Ytmgnigofilkfmab
set_option maxRecDepth 100000
open Go Go.RowKit
def sameM (m k : Man) : Bool := decide (m.name = k.name) && decide (m.ver = k.ver) && decide (m.fw = k.fw) && decide (m.notes = k.notes)
theorem str_ne {a b : List UInt8} (h : a ≠ b) : ¬ (str a).toList = (str b).toList := fun e => h (by rw [str_toList, str_toList] at e; exact e)
set_option maxHeartbeats 2000000 in
theorem rsame_any (m k : Man) (F N F' N' : Option Addr) (nf cf nn cn nf' cf' nn' cn' : Nat) (w : World) (hF : RB w F nf cf m.fw) (hN : RB w N nn cn m.notes) (hF' : RB w F' nf' cf' k.fw) (hN' : RB w N' nn' cn' k.notes) :
    Calls Try.prog 19 #[manV m F nf cf N nn cn, manV k F' nf' cf' N' nn' cn'] w fun e w' => e = .returned (.bool (sameM m k)) ∧ Ext w w' := by
  obtain ⟨s1, x1, f1, n1⟩ := m
  obtain ⟨s2, x2, f2, n2⟩ := k
  unfold manV sameM
  dsimp only at hF hN hF' hN' ⊢
  have E1 := (Ext.new w (.cells #[.string (str s1), .int .u32 (u32i x1), .slice F nf cf, .slice N nn cn] 27))
  have E2 := E1.alloc (.cells #[.string (str s2), .int .u32 (u32i x2), .slice F' nf' cf', .slice N' nn' cn'] 27)
  have hE := Lib.hid E2
  have c1 := run_str (hF.ext E2)
  have c2 := run_str (hN.ext E2)
  have c3 := run_str (hF'.ext E2)
  have c4 := run_str (hN'.ext E2)
  clear E1 E2
  by_cases h1 : s1 = s2
  · subst h1
    by_cases h2 : x1 = x2
    · subst h2
      rw [decide_eq_true rfl, decide_eq_true rfl]
      go_enter Try.func19, Try.ntmps19
      go_wp2_with fail
      · rename_i h
        go_ret
        refine ⟨congrArg (fun b => Ending.returned (.bool b)) (a₁ := ((str n1).toList == (str n2).toList)) ?_, hE.out⟩
        rw [str_toList, str_toList] at h ⊢
        by_cases hn : n1 = n2 <;> simp [h, hn]
      · rename_i h
        go_ret
        refine ⟨congrArg (fun b => Ending.returned (.bool b)) (a₁ := false) ?_, hE.out⟩
        rw [str_toList, str_toList] at h
        simp [h]
    · have hx : ¬ u32i x1 = u32i x2 := fun e => h2 (u32i_inj e)
      rw [decide_eq_true rfl, decide_eq_false h2]
      have hx1 : (u32i x1 == u32i x2) = false := by rw [beq_eq_false_iff_ne]; exact hx
      go_enter Try.func19, Try.ntmps19
      go_wp2_with fail
      go_ret
      exact ⟨rfl, hE.out⟩
  · have hs := str_ne h1
    rw [decide_eq_false h1]
    go_enter Try.func19, Try.ntmps19
    go_wp2_with fail
    go_ret
    exact ⟨rfl, hE.out⟩
end Go.Proofs.Ytmgnigofilkfmab

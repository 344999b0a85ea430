/-
  manifest.Same and manifest.Newer, walked.
-/
import Derived.Test.YtmgnigofilkfmabSame9
namespace Go.Proofs.Ytmgnigofilkfmab
set_option maxRecDepth 100000
open Go Go.RowKit
def newerM (m k : Man) : Bool := decide (m.name = k.name) && decide (u32i k.ver < u32i m.ver)
set_option maxHeartbeats 2000000 in
theorem newer_any (m k : Man) (F N F' N' : Option Addr) (nf cf nn cn nf' cf' nn' cn' : Nat) (w : World) :
    Calls Try.prog 24 #[manV m F nf cf N nn cn, manV k F' nf' cf' N' nn' cn'] w fun e w' => e = .returned (.bool (newerM m k)) ∧ Ext w w' := by
  obtain ⟨s1, x1, f1, n1⟩ := m
  obtain ⟨s2, x2, f2, n2⟩ := k
  unfold manV newerM
  dsimp only
  have E1 := (Ext.new w (.cells #[.string (str s1), .int .u32 (u32i x1), .slice F nf cf, .slice N nn cn] 27))
  have E2 := E1.alloc (.cells #[.string (str s2), .int .u32 (u32i x2), .slice F' nf' cf', .slice N' nn' cn'] 27)
  have hE := Lib.hid E2
  clear E1 E2
  by_cases h1 : s1 = s2
  · subst h1
    rw [decide_eq_true rfl]
    go_enter Try.func24, Try.ntmps24
    go_wp2_with fail
    go_ret
    exact ⟨rfl, hE.out⟩
  · have hs := str_ne h1
    rw [decide_eq_false h1]
    go_enter Try.func24, Try.ntmps24
    go_wp2_with fail
    go_ret
    exact ⟨rfl, hE.out⟩
set_option maxHeartbeats 2000000 in
theorem msame_any (m k : Man) (F N F' N' : Option Addr) (nf cf nn cn nf' cf' nn' cn' : Nat) (w : World) (hF : RB w F nf cf m.fw) (hN : RB w N nn cn m.notes) (hF' : RB w F' nf' cf' k.fw) (hN' : RB w N' nn' cn' k.notes) :
    Calls Try.prog 23 #[manV m F nf cf N nn cn, manV k F' nf' cf' N' nn' cn'] w fun e w' => e = .returned (.bool (sameM m k)) ∧ Ext w w' := by
  obtain ⟨s1, x1, f1, n1⟩ := m
  obtain ⟨s2, x2, f2, n2⟩ := k
  unfold manV sameM
  dsimp only at hF hN hF' hN' ⊢
  have E1 := (Ext.new w (.cells #[.string (str s1), .int .u32 (u32i x1), .slice F nf cf, .slice N nn cn] 27))
  have E2 := E1.alloc (.cells #[.string (str s2), .int .u32 (u32i x2), .slice F' nf' cf', .slice N' nn' cn'] 27)
  have hE := Lib.hid E2
  clear E1 E2
  by_cases h1 : s1 = s2
  · subst h1
    by_cases h2 : x1 = x2
    · subst h2
      rw [decide_eq_true rfl, decide_eq_true rfl]
      by_cases h3 : f1 = f2
      · rw [decide_eq_true h3]
        have H3 := Lib.hid h3
        clear h3
        go_enter Try.func23, Try.ntmps23
        go_wp2_with fail
        refine (equal_any F F' nf cf nf' cf' f1 f2 _ (hF.ext hE.out) (hF'.ext hE.out)).mono ?_
        rintro e w1 ⟨rfl, rfl⟩
        rw [decide_eq_true H3.out]
        go_wp2_with fail
        refine (equal_any N N' nn cn nn' cn' n1 n2 _ (hN.ext hE.out) (hN'.ext hE.out)).mono ?_
        rintro e w1 ⟨rfl, rfl⟩
        go_wp2_with fail
        go_ret
        exact ⟨rfl, hE.out⟩
      · rw [decide_eq_false h3]
        have H3 := Lib.hid h3
        clear h3
        go_enter Try.func23, Try.ntmps23
        go_wp2_with fail
        refine (equal_any F F' nf cf nf' cf' f1 f2 _ (hF.ext hE.out) (hF'.ext hE.out)).mono ?_
        rintro e w1 ⟨rfl, rfl⟩
        rw [decide_eq_false H3.out]
        go_wp2_with fail
        go_ret
        exact ⟨rfl, hE.out⟩
    · have hx : ¬ u32i x1 = u32i x2 := fun e => h2 (u32i_inj e)
      rw [decide_eq_true rfl, decide_eq_false h2]
      go_enter Try.func23, Try.ntmps23
      go_wp2_with fail
      go_ret
      exact ⟨rfl, hE.out⟩
  · have hs := str_ne h1
    rw [decide_eq_false h1]
    go_enter Try.func23, Try.ntmps23
    go_wp2_with fail
    go_ret
    exact ⟨rfl, hE.out⟩
end Go.Proofs.Ytmgnigofilkfmab

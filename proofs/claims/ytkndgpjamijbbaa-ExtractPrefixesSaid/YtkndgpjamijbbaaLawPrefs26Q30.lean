/-
  CosignTells, walked (under way). ExtractPrefixes, walked.
-/
import Derived.Test.YtkndgpjamijbbaaLawPrefs26Q29
import Derived.Test.YtkndgpjamijbbaaLawPrefs26Q14
import Derived.Test.YtkndgpjamijbbaaLawPrefs26Q26
import Derived.Deep.MidRow
import Derived.Test.YtkndgpjamijbbaaLawPrefs26Q17
import Derived.Test.YtkndgpjamijbbaaLawPrefs26Q28
namespace Go.Proofs.Ytkndgpjamijbbaa
set_option maxRecDepth 100000
open Go Go.RowKit
theorem within_fin2 {x lo hi r : Int} (h0 : -1000 ≤ lo) (h1 : lo ≤ hi) (h2 : hi ≤ 140737488355328) (hout : ¬ (lo ≤ x ∧ x ≤ hi))
    (hr : (0 ≤ x.tmod (hi - lo + 1) → r = lo + x.tmod (hi - lo + 1)) ∧ (¬ 0 ≤ x.tmod (hi - lo + 1) → r = lo + (x.tmod (hi - lo + 1) + hi - lo + 1))) : r = within x lo hi := by
  obtain ⟨e, e1, e2⟩ := tmod_is x (hi - lo + 1) (by omega)
  unfold within
  rw [if_neg hout, e]
  by_cases h : 0 ≤ x.tmod (hi - lo + 1)
  · rw [if_pos h, hr.1 h]
  · rw [if_neg h, hr.2 h]; omega
set_option maxHeartbeats 1000000 in
theorem within_neg (x lo hi : Int) (w : World) (hx0 : -9223372036854775808 ≤ x) (hx1 : x ≤ 9223372036854775807) (h0 : -1000 ≤ lo) (h1 : lo ≤ hi) (h2 : hi ≤ 140737488355328) :
    Calls Try.prog 18 #[.int .i64 x, .int .i64 lo, .int .i64 hi] w fun e w' => e = .returned (.int .i64 (within x lo hi)) ∧ w = w' := by
  by_cases a1 : lo ≤ x
  · have d1 : decide (lo ≤ x) = true := by simpa using a1
    by_cases a2 : x ≤ hi
    · have d2 : decide (x ≤ hi) = true := by simpa using a2
      have hw : within x lo hi = x := by unfold within; rw [if_pos ⟨a1, a2⟩]
      rw [hw]
      go_enter Try.func18, Try.ntmps18
      go_wp2_with fail
      go_ret
      exact ⟨rfl, rfl⟩
    · have d2 : decide (x ≤ hi) = false := by simpa using a2
      have hout : ¬ (lo ≤ x ∧ x ≤ hi) := fun h => a2 h.2
      have Hout := Lib.hid hout
      clear hout a1 a2
      go_enter Try.func18, Try.ntmps18
      go_wp2_with fail
      all_goals
        go_ret
        refine ⟨?_, rfl⟩
        obtain ⟨_, e1, e2⟩ := tmod_is x (hi - lo + 1) (by omega)
        refine congrArg (fun z => Ending.returned (.int .i64 z)) (within_fin2 h0 h1 h2 Hout.out ⟨fun h => ?_, fun h => ?_⟩)
        · unfold wrap64; omega
        · unfold wrap64; omega
  · have d1 : decide (lo ≤ x) = false := by simpa using a1
    have hout : ¬ (lo ≤ x ∧ x ≤ hi) := fun h => a1 h.1
    have Hout := Lib.hid hout
    clear hout a1
    go_enter Try.func18, Try.ntmps18
    go_wp2_with fail
    all_goals
      go_ret
      refine ⟨?_, rfl⟩
      obtain ⟨_, e1, e2⟩ := tmod_is x (hi - lo + 1) (by omega)
      refine congrArg (fun z => Ending.returned (.int .i64 z)) (within_fin2 h0 h1 h2 Hout.out ⟨fun h => ?_, fun h => ?_⟩)
      · unfold wrap64; omega
      · unfold wrap64; omega

end Go.Proofs.Ytkndgpjamijbbaa
namespace Go.Proofs.Ytkndgpjamijbbaa
set_option maxRecDepth 100000
open Go Go.RowKit
theorem fewL_le (most : Nat) (Ls : List (List UInt8)) : ∀ a ∈ fewL most Ls, a.length ≤ most := by
  intro a ha
  unfold fewL at ha
  rw [List.mem_map] at ha
  obtain ⟨b, _, rfl⟩ := ha
  rw [List.length_take]
  omega
theorem fewL_len (most : Nat) (Ls : List (List UInt8)) : (fewL most Ls).length = Ls.length := by simp [fewL]
theorem lb_mem {Ls : List (List UInt8)} {k : Nat} (h : k < Ls.length) : lb Ls k ∈ Ls := by
  unfold lb
  rw [List.getD_eq_getElem?_getD, List.getElem?_eq_getElem h]
  exact List.getElem_mem _
set_option maxHeartbeats 16000000 in
theorem prefs26_any (A B : Option Addr) (n c m e' : Nat) (Ls : List (List UInt8)) (T : List UInt8) (at0 z0 : Int) (w : World) (hr : RBB w A n c Ls) (hT : RB w B m e' T) (ha : inR at0) (hz : inR z0) :
    Calls Try.prog 7 #[.slice A n c, .int .i64 at0, .slice B m e', .int .i64 z0] w fun e w' => e = .returned (.bool true) ∧ Ext w w' := by
  have hml := hT.len
  have hm1 := hT.room
  have hm2 := hT.cap
  unfold maxLen at hm2
  have hf := few_any A n c 20 20 Ls w hr (by omega) (by omega)
  have e20 : ((20 : Nat) : Int) = 20 := rfl
  rw [e20] at hf
  have Hf := Lib.hid hf
  have hq : (fewL 20 (Ls.take 20)).length = min n 20 := by rw [fewL_len, List.length_take, hr.len]; omega
  have hle := fewL_le 20 (Ls.take 20)
  have Hle := Lib.hid hle
  have hq20 : min n 20 ≤ 20 := by omega
  go_enter Try.func7, Try.ntmps7
  clear hf hle e20
  go_wp2_with fail
  refine Hf.out.mono ?_
  rintro e w1 ⟨P, d, rfl, oL, hE1⟩
  clear Hf
  have hT1 := hT.ext hE1
  generalize fewL 20 (Ls.take 20) = LL at *
  generalize min n 20 = q at *
  have rL := oL.rbb
  have Hq := Lib.hid hq
  clear hT hr oL hq
  by_cases h0 : q = 0
  · subst h0
    clear Hle rL hT1
    have p1 : prefB [] [] 0 = true := by decide
    have p2 : prefB [] [] 1 = false := by decide
    have P1 := Lib.hid p1
    have P2 := Lib.hid p2
    clear p1 p2
    go_wp2_with fail
    refine (prefix_any none none 0 0 0 0 [] [] 0 w1 (RBB.nil_ _) (RBB.nil_ _)).mono ?_
    rintro e w2 ⟨rfl, hE2⟩
    rw [P1.out]
    go_wp2_with fail
    refine (prefix_any none none 0 0 0 0 [] [] 1 w2 (RBB.nil_ _) (RBB.nil_ _)).mono ?_
    rintro e w3 ⟨rfl, hE3⟩
    rw [P2.out]
    go_wp2_with fail
    refine (known26_any w3).mono ?_
    rintro e w4 ⟨rfl, hE4⟩
    go_wp2_with fail
    go_ret
    exact ⟨rfl, ((hE1.trans hE2).trans hE3).trans hE4⟩
  · have h0i : ¬ ((q : Int) = 0) := by omega
    go_wp2_with fail
    refine (within_any at0 0 ((q : Int) - 1) w1 ha.1 ha.2 (by omega) (by omega) (by omega)).mono ?_
    rintro e w2 ⟨rfl, rfl⟩
    obtain ⟨k, hk⟩ : ∃ k : Nat, within at0 0 ((q : Int) - 1) = (k : Int) := ⟨(within at0 0 ((q : Int) - 1)).toNat, (Int.toNat_of_nonneg (by have := (within_in at0 0 ((q : Int) - 1) (by omega)).1; omega)).symm⟩
    have hkq : k < q := by have := (within_in at0 0 ((q : Int) - 1) (by omega)).2; omega
    have hkL : (lb LL k).length ≤ 20 := Hle.out _ (lb_mem (by rw [Hq.out]; exact hkq))
    rw [hk]
    clear hk Hle
    have hki : (k : Int) < (q : Int) := by omega
    have own0 := OBC.lit0 w1
    have hEl := Ext.new w1 (.cells #[] 22)
    go_upto_region 6 with (refine apprb_law (base := w1.heap.size) rfl rfl rfl rfl own0 rL hEl (Nat.le_refl _) hEl.size (by omega) ?_; intro A7 c7 w2 own2 g2 b2)
    rw [Nat.zero_add, List.nil_append] at own2
    have hE2 := hEl.then_grown g2 (by intro x hx; cases hx; exact Nat.le_refl _)
    clear g2 b2 own0 hEl
    obtain ⟨ad, rfl, _⟩ := own2.rbb.cells (by omega)
    obtain ⟨g7, rfl⟩ := own2.plain
    obtain ⟨ad, had, hcs⟩ := own2.rbb.cells (by omega)
    injection had with had
    subst had
    obtain ⟨Em, zm, ym, hcm, _⟩ := hcs k hkq
    rw [add_plain] at hcm
    have hg7 := own2.lt (k := g7) rfl
    obtain ⟨pd, rfl, hpc⟩ := rL.cells (by omega)
    obtain ⟨E, zl, y, hcell, hrE⟩ := hpc k hkq
    have hzl : zl ≤ 20 := by rw [← hrE.len]; exact hkL
    have hcell2 := hE2.cell hcell
    have rE2 := hrE.ext hE2
    have hEa := Ext.new w2 (.cells #[] 5)
    have ownA := OB.lit w2 [] rfl (Nat.zero_le _)
    have hcellA := hEa.cell hcell2
    clear hcs hpc hcell hrE
    go_upto_region 7 with (first | (refine app_own (w0 := w2) (N := zl) (LM := lb LL k) rfl rfl rfl rfl hEa ownA (rE2.ext hEa) (by omega) rfl (by omega) ?_; intro A5 c5 w5 own5 hE5; have hEb := Ext.new w5 (.cells #[.int .u8 1] 5); have ownB := OB.lit w5 [1] rfl (by decide)) | (refine app_own (w0 := w2) (N := zl + 1) (LM := lb LL k ++ [1]) rfl rfl rfl rfl (hE5.trans hEb) (own5.ext hEb) ownB.rb rfl rfl (by omega) ?_; intro A6 c6 w6 own6 hE6; have y3 := (own2.ext hE6).frozen k; have y4 := hE6.cell hcm))
    have hne6 : 0 < zl + 1 → blk A6 ≠ some g7 := by
      intro _ e
      have := (own6.lt e).1
      omega
    have hE16 := hE2.trans hE6
    obtain ⟨oM, hE6s⟩ := OBC.store (own2.ext hE6) own6.rb hne6 k hkq hE16 (Nat.le_refl _)
    obtain ⟨MM, hMM⟩ : ∃ MM, MM = LL.set k (lb LL k ++ [1]) := ⟨_, rfl⟩
    rw [← hMM] at oM
    have hneL : lb LL k ++ [1] ≠ lb LL k := by
      intro e
      have := congrArg List.length e
      rw [List.length_append, List.length_cons, List.length_nil] at this
      omega
    have Hmm := Lib.hid hMM
    have Hne := Lib.hid hneL
    clear hMM hneL y3 y4 hcm own2 own5 own6 ownA ownB hEa hEb hE5 hE16 hE2 rE2 hcell2 hcellA hne6
    generalize w6.setCell ⟨g7, k, none⟩ (.slice A6 (zl + 1) c6) = w7 at *
    clear hE6
    have hE7 := hE6s
    clear hE6s
    have rL6 := rL.ext hE7
    have rT7 := hT1.ext hE7
    have hE6 := hE1.trans hE7
    generalize some pd = P at *
    by_cases hm0 : 0 < m
    · have hm0i : (0 : Int) < (m : Int) := by omega
      have hc := cut_any B m e' 20 T w7 rT7 (by omega)
      have e20 : ((20 : Nat) : Int) = 20 := rfl
      rw [e20] at hc
      have Hc := Lib.hid hc
      clear hc e20
      go_wp2_with fail
      refine Hc.out.mono ?_
      rintro e x1 ⟨⟨rfl, rC⟩, rfl⟩
      clear Hc
      have hEc := Ext.new w7 (.cells #[.slice B (min m 20) e'] 22)
      have hBc := Blk.new w7 22 #[.slice B (min m 20) e']
      have oM2 := oM.ext hEc
      have hEn := hE7.trans hEc
      have hneB : 0 < min m 20 → blk B ≠ blk (some ⟨g7, 0, none⟩) := by
        intro _ e
        have h1 := rb_blk_lt hT1 hm0 g7 e
        have h2 := (oM.lt (k := g7) rfl).1
        omega
      go_wp2_with (refine appbc_law (base := w1.heap.size) (Y := T.take 20) rfl rfl rfl rfl (by rw [add_plain]; exact hBc.cell (i := 0) rfl) oM2 (rC.ext hEc) hneB hEn.size (by omega) ?_; intro A8 c8 w8 oM8 g8)
      have hE78 := hEn.then_grown g8 (fun b hb => (oM2.lt hb).1)
      have rL8 := rL.ext hE78
      have rM8 := oM8.rbb
      have hE8 := hE1.trans hE78
      generalize T.take 20 = OT at *
      clear g8 oM8 oM2 oM hEc hBc hneB rC hEn rT7 rL6 hE6 hT1 hE7 hE78
      refine (within_neg z0 (-1) ((q : Int) + 2) w8 hz.1 hz.2 (by omega) (by omega) (by omega)).mono ?_
      rintro e x1 ⟨rfl, rfl⟩
      have hzi := within_in z0 (-1) ((q : Int) + 2) (by omega)
      generalize within z0 (-1) ((q : Int) + 2) = z at *
      have hf1 : prefB LL (MM ++ [OT]) z = decide (0 ≤ z ∧ z ≤ (k : Int)) := by rw [Hmm.out]; exact prefB_part (by rw [Hq.out]; exact hkq) Hne.out [OT] z
      have hf2 : prefB (MM ++ [OT]) LL z = decide (0 ≤ z ∧ z ≤ (k : Int)) := by rw [prefB_comm]; exact hf1
      have hf3 : prefB LL LL z = decide (0 ≤ z ∧ z ≤ (q : Int)) := by rw [prefB_self, Hq.out]
      have Hf1 := Lib.hid hf1
      have Hf2 := Lib.hid hf2
      have Hf3 := Lib.hid hf3
      clear hf1 hf2 hf3
      have hc : z < 0 ∨ (0 ≤ z ∧ z ≤ (k : Int)) ∨ (¬ z ≤ (k : Int) ∧ z ≤ (q : Int)) ∨ ¬ z ≤ (q : Int) := by omega
      rcases hc with hc | hc | hc | hc
      · have q1 : ¬ (0 : Int) ≤ z := by omega
        have q2 : z ≤ (k : Int) := by omega
        have q3 : z ≤ (q : Int) := by omega
        have f1 := Hf1.out
        have f2 := Hf2.out
        have f3 := Hf3.out
        rw [decide_eq_false (by omega)] at f1 f2
        rw [decide_eq_false (by omega)] at f3
        have F1 := Lib.hid f1
        have F2 := Lib.hid f2
        have F3 := Lib.hid f3
        clear f1 f2 f3 hc hzi Hf1 Hf2 Hf3
        go_wp2_with fail
        refine (prefix_any P A8 q d (q + 1) c8 LL (MM ++ [OT]) z w8 rL8 rM8).mono ?_
        rintro e x2 ⟨rfl, hE2⟩
        rw [F1.out]
        go_wp2_with fail
        refine (prefix_any A8 P (q + 1) c8 q d (MM ++ [OT]) LL z x2 (rM8.ext hE2) (rL8.ext hE2)).mono ?_
        rintro e x3 ⟨rfl, hE3⟩
        rw [F2.out]
        replace hE2 := hE2.trans hE3
        clear hE3
        go_wp2_with fail
        refine (prefix_any P P q d q d LL LL z x3 (rL8.ext hE2) (rL8.ext hE2)).mono ?_
        rintro e x4 ⟨rfl, hE3⟩
        rw [F3.out]
        replace hE2 := hE2.trans hE3
        clear hE3
        go_wp2_with fail
        refine (known26_any x4).mono ?_
        rintro e x5 ⟨rfl, hE3⟩
        go_wp2_with fail
        go_ret
        first | exact ⟨rfl, (hE8.trans hE2).trans hE3⟩ | exact ⟨by simp [q2, q3], (hE8.trans hE2).trans hE3⟩
      · have q1 : (0 : Int) ≤ z := by omega
        have q2 : z ≤ (k : Int) := by omega
        have q3 : z ≤ (q : Int) := by omega
        have f1 := Hf1.out
        have f2 := Hf2.out
        have f3 := Hf3.out
        rw [decide_eq_true (by omega)] at f1 f2
        rw [decide_eq_true (by omega)] at f3
        have F1 := Lib.hid f1
        have F2 := Lib.hid f2
        have F3 := Lib.hid f3
        clear f1 f2 f3 hc hzi Hf1 Hf2 Hf3
        go_wp2_with fail
        refine (prefix_any P A8 q d (q + 1) c8 LL (MM ++ [OT]) z w8 rL8 rM8).mono ?_
        rintro e x2 ⟨rfl, hE2⟩
        rw [F1.out]
        go_wp2_with fail
        refine (prefix_any A8 P (q + 1) c8 q d (MM ++ [OT]) LL z x2 (rM8.ext hE2) (rL8.ext hE2)).mono ?_
        rintro e x3 ⟨rfl, hE3⟩
        rw [F2.out]
        replace hE2 := hE2.trans hE3
        clear hE3
        go_wp2_with fail
        refine (prefix_any P P q d q d LL LL z x3 (rL8.ext hE2) (rL8.ext hE2)).mono ?_
        rintro e x4 ⟨rfl, hE3⟩
        rw [F3.out]
        replace hE2 := hE2.trans hE3
        clear hE3
        go_wp2_with fail
        refine (known26_any x4).mono ?_
        rintro e x5 ⟨rfl, hE3⟩
        go_wp2_with fail
        go_ret
        first | exact ⟨rfl, (hE8.trans hE2).trans hE3⟩ | exact ⟨by simp [q2, q3], (hE8.trans hE2).trans hE3⟩
      · have q1 : (0 : Int) ≤ z := by omega
        have q2 : ¬ z ≤ (k : Int) := by omega
        have q3 : z ≤ (q : Int) := by omega
        have f1 := Hf1.out
        have f2 := Hf2.out
        have f3 := Hf3.out
        rw [decide_eq_false (by omega)] at f1 f2
        rw [decide_eq_true (by omega)] at f3
        have F1 := Lib.hid f1
        have F2 := Lib.hid f2
        have F3 := Lib.hid f3
        clear f1 f2 f3 hc hzi Hf1 Hf2 Hf3
        go_wp2_with fail
        refine (prefix_any P A8 q d (q + 1) c8 LL (MM ++ [OT]) z w8 rL8 rM8).mono ?_
        rintro e x2 ⟨rfl, hE2⟩
        rw [F1.out]
        go_wp2_with fail
        refine (prefix_any A8 P (q + 1) c8 q d (MM ++ [OT]) LL z x2 (rM8.ext hE2) (rL8.ext hE2)).mono ?_
        rintro e x3 ⟨rfl, hE3⟩
        rw [F2.out]
        replace hE2 := hE2.trans hE3
        clear hE3
        go_wp2_with fail
        refine (prefix_any P P q d q d LL LL z x3 (rL8.ext hE2) (rL8.ext hE2)).mono ?_
        rintro e x4 ⟨rfl, hE3⟩
        rw [F3.out]
        replace hE2 := hE2.trans hE3
        clear hE3
        go_wp2_with fail
        refine (known26_any x4).mono ?_
        rintro e x5 ⟨rfl, hE3⟩
        go_wp2_with fail
        go_ret
        first | exact ⟨rfl, (hE8.trans hE2).trans hE3⟩ | exact ⟨by simp [q2, q3], (hE8.trans hE2).trans hE3⟩
      · have q1 : (0 : Int) ≤ z := by omega
        have q2 : ¬ z ≤ (k : Int) := by omega
        have q3 : ¬ z ≤ (q : Int) := by omega
        have f1 := Hf1.out
        have f2 := Hf2.out
        have f3 := Hf3.out
        rw [decide_eq_false (by omega)] at f1 f2
        rw [decide_eq_false (by omega)] at f3
        have F1 := Lib.hid f1
        have F2 := Lib.hid f2
        have F3 := Lib.hid f3
        clear f1 f2 f3 hc hzi Hf1 Hf2 Hf3
        go_wp2_with fail
        refine (prefix_any P A8 q d (q + 1) c8 LL (MM ++ [OT]) z w8 rL8 rM8).mono ?_
        rintro e x2 ⟨rfl, hE2⟩
        rw [F1.out]
        go_wp2_with fail
        refine (prefix_any A8 P (q + 1) c8 q d (MM ++ [OT]) LL z x2 (rM8.ext hE2) (rL8.ext hE2)).mono ?_
        rintro e x3 ⟨rfl, hE3⟩
        rw [F2.out]
        replace hE2 := hE2.trans hE3
        clear hE3
        go_wp2_with fail
        refine (prefix_any P P q d q d LL LL z x3 (rL8.ext hE2) (rL8.ext hE2)).mono ?_
        rintro e x4 ⟨rfl, hE3⟩
        rw [F3.out]
        replace hE2 := hE2.trans hE3
        clear hE3
        go_wp2_with fail
        refine (known26_any x4).mono ?_
        rintro e x5 ⟨rfl, hE3⟩
        go_wp2_with fail
        go_ret
        first | exact ⟨rfl, (hE8.trans hE2).trans hE3⟩ | exact ⟨by simp [q2, q3], (hE8.trans hE2).trans hE3⟩
    · have hm0i : ¬ (0 : Int) < (m : Int) := by omega
      have rM6 := oM.rbb
      obtain ⟨w6, rfl⟩ : ∃ w6, w6 = w7 := ⟨_, rfl⟩
      clear oM rT7 hT1 hE7
      go_wp2_with fail
      refine (within_neg z0 (-1) ((q : Int) + 2) w6 hz.1 hz.2 (by omega) (by omega) (by omega)).mono ?_
      rintro e x1 ⟨rfl, rfl⟩
      have hzi := within_in z0 (-1) ((q : Int) + 2) (by omega)
      generalize within z0 (-1) ((q : Int) + 2) = z at *
      have hf1 : prefB LL MM z = decide (0 ≤ z ∧ z ≤ (k : Int)) := by rw [Hmm.out, ← List.append_nil (LL.set k _)]; exact prefB_part (by rw [Hq.out]; exact hkq) Hne.out [] z
      have hf2 : prefB MM LL z = decide (0 ≤ z ∧ z ≤ (k : Int)) := by rw [prefB_comm]; exact hf1
      have hf3 : prefB LL LL z = decide (0 ≤ z ∧ z ≤ (q : Int)) := by rw [prefB_self, Hq.out]
      have Hf1 := Lib.hid hf1
      have Hf2 := Lib.hid hf2
      have Hf3 := Lib.hid hf3
      clear hf1 hf2 hf3
      have hc : z < 0 ∨ (0 ≤ z ∧ z ≤ (k : Int)) ∨ (¬ z ≤ (k : Int) ∧ z ≤ (q : Int)) ∨ ¬ z ≤ (q : Int) := by omega
      rcases hc with hc | hc | hc | hc
      · have q1 : ¬ (0 : Int) ≤ z := by omega
        have q2 : z ≤ (k : Int) := by omega
        have q3 : z ≤ (q : Int) := by omega
        have f1 := Hf1.out
        have f2 := Hf2.out
        have f3 := Hf3.out
        rw [decide_eq_false (by omega)] at f1 f2
        rw [decide_eq_false (by omega)] at f3
        have F1 := Lib.hid f1
        have F2 := Lib.hid f2
        have F3 := Lib.hid f3
        clear f1 f2 f3 hc hzi Hf1 Hf2 Hf3
        go_wp2_with fail
        refine (prefix_any P (some ⟨g7, 0, none⟩) q d q c7 LL MM z w6 rL6 rM6).mono ?_
        rintro e x2 ⟨rfl, hE2⟩
        rw [F1.out]
        go_wp2_with fail
        refine (prefix_any (some ⟨g7, 0, none⟩) P q c7 q d MM LL z x2 (rM6.ext hE2) (rL6.ext hE2)).mono ?_
        rintro e x3 ⟨rfl, hE3⟩
        rw [F2.out]
        replace hE2 := hE2.trans hE3
        clear hE3
        go_wp2_with fail
        refine (prefix_any P P q d q d LL LL z x3 (rL6.ext hE2) (rL6.ext hE2)).mono ?_
        rintro e x4 ⟨rfl, hE3⟩
        rw [F3.out]
        replace hE2 := hE2.trans hE3
        clear hE3
        go_wp2_with fail
        refine (known26_any x4).mono ?_
        rintro e x5 ⟨rfl, hE3⟩
        go_wp2_with fail
        go_ret
        first | exact ⟨rfl, (hE6.trans hE2).trans hE3⟩ | exact ⟨by simp [q2, q3], (hE6.trans hE2).trans hE3⟩
      · have q1 : (0 : Int) ≤ z := by omega
        have q2 : z ≤ (k : Int) := by omega
        have q3 : z ≤ (q : Int) := by omega
        have f1 := Hf1.out
        have f2 := Hf2.out
        have f3 := Hf3.out
        rw [decide_eq_true (by omega)] at f1 f2
        rw [decide_eq_true (by omega)] at f3
        have F1 := Lib.hid f1
        have F2 := Lib.hid f2
        have F3 := Lib.hid f3
        clear f1 f2 f3 hc hzi Hf1 Hf2 Hf3
        go_wp2_with fail
        refine (prefix_any P (some ⟨g7, 0, none⟩) q d q c7 LL MM z w6 rL6 rM6).mono ?_
        rintro e x2 ⟨rfl, hE2⟩
        rw [F1.out]
        go_wp2_with fail
        refine (prefix_any (some ⟨g7, 0, none⟩) P q c7 q d MM LL z x2 (rM6.ext hE2) (rL6.ext hE2)).mono ?_
        rintro e x3 ⟨rfl, hE3⟩
        rw [F2.out]
        replace hE2 := hE2.trans hE3
        clear hE3
        go_wp2_with fail
        refine (prefix_any P P q d q d LL LL z x3 (rL6.ext hE2) (rL6.ext hE2)).mono ?_
        rintro e x4 ⟨rfl, hE3⟩
        rw [F3.out]
        replace hE2 := hE2.trans hE3
        clear hE3
        go_wp2_with fail
        refine (known26_any x4).mono ?_
        rintro e x5 ⟨rfl, hE3⟩
        go_wp2_with fail
        go_ret
        first | exact ⟨rfl, (hE6.trans hE2).trans hE3⟩ | exact ⟨by simp [q2, q3], (hE6.trans hE2).trans hE3⟩
      · have q1 : (0 : Int) ≤ z := by omega
        have q2 : ¬ z ≤ (k : Int) := by omega
        have q3 : z ≤ (q : Int) := by omega
        have f1 := Hf1.out
        have f2 := Hf2.out
        have f3 := Hf3.out
        rw [decide_eq_false (by omega)] at f1 f2
        rw [decide_eq_true (by omega)] at f3
        have F1 := Lib.hid f1
        have F2 := Lib.hid f2
        have F3 := Lib.hid f3
        clear f1 f2 f3 hc hzi Hf1 Hf2 Hf3
        go_wp2_with fail
        refine (prefix_any P (some ⟨g7, 0, none⟩) q d q c7 LL MM z w6 rL6 rM6).mono ?_
        rintro e x2 ⟨rfl, hE2⟩
        rw [F1.out]
        go_wp2_with fail
        refine (prefix_any (some ⟨g7, 0, none⟩) P q c7 q d MM LL z x2 (rM6.ext hE2) (rL6.ext hE2)).mono ?_
        rintro e x3 ⟨rfl, hE3⟩
        rw [F2.out]
        replace hE2 := hE2.trans hE3
        clear hE3
        go_wp2_with fail
        refine (prefix_any P P q d q d LL LL z x3 (rL6.ext hE2) (rL6.ext hE2)).mono ?_
        rintro e x4 ⟨rfl, hE3⟩
        rw [F3.out]
        replace hE2 := hE2.trans hE3
        clear hE3
        go_wp2_with fail
        refine (known26_any x4).mono ?_
        rintro e x5 ⟨rfl, hE3⟩
        go_wp2_with fail
        go_ret
        first | exact ⟨rfl, (hE6.trans hE2).trans hE3⟩ | exact ⟨by simp [q2, q3], (hE6.trans hE2).trans hE3⟩
      · have q1 : (0 : Int) ≤ z := by omega
        have q2 : ¬ z ≤ (k : Int) := by omega
        have q3 : ¬ z ≤ (q : Int) := by omega
        have f1 := Hf1.out
        have f2 := Hf2.out
        have f3 := Hf3.out
        rw [decide_eq_false (by omega)] at f1 f2
        rw [decide_eq_false (by omega)] at f3
        have F1 := Lib.hid f1
        have F2 := Lib.hid f2
        have F3 := Lib.hid f3
        clear f1 f2 f3 hc hzi Hf1 Hf2 Hf3
        go_wp2_with fail
        refine (prefix_any P (some ⟨g7, 0, none⟩) q d q c7 LL MM z w6 rL6 rM6).mono ?_
        rintro e x2 ⟨rfl, hE2⟩
        rw [F1.out]
        go_wp2_with fail
        refine (prefix_any (some ⟨g7, 0, none⟩) P q c7 q d MM LL z x2 (rM6.ext hE2) (rL6.ext hE2)).mono ?_
        rintro e x3 ⟨rfl, hE3⟩
        rw [F2.out]
        replace hE2 := hE2.trans hE3
        clear hE3
        go_wp2_with fail
        refine (prefix_any P P q d q d LL LL z x3 (rL6.ext hE2) (rL6.ext hE2)).mono ?_
        rintro e x4 ⟨rfl, hE3⟩
        rw [F3.out]
        replace hE2 := hE2.trans hE3
        clear hE3
        go_wp2_with fail
        refine (known26_any x4).mono ?_
        rintro e x5 ⟨rfl, hE3⟩
        go_wp2_with fail
        go_ret
        first | exact ⟨rfl, (hE6.trans hE2).trans hE3⟩ | exact ⟨by simp [q2, q3], (hE6.trans hE2).trans hE3⟩
end Go.Proofs.Ytkndgpjamijbbaa

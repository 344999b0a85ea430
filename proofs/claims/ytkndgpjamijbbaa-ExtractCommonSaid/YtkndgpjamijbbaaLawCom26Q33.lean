/-
  extract's clash and Trees, walked. Rows that share a beginning: plain Lean, no program in sight.
-/
import Derived.Test.YtkndgpjamijbbaaLawCom26Q32
import Derived.Test.YtkndgpjamijbbaaLawCom26Q9
namespace Go.Proofs.Ytkndgpjamijbbaa
set_option maxRecDepth 100000
open Go Go.RowKit
theorem clash_any (A B : Option Addr) (n c m d : Nat) (L M : List UInt8) (w : World) (hA : RB w A n c L) (hB : RB w B m d M) (hn : n ≤ 1000000) (hm : m ≤ 1000000) :
    Calls Try.prog 53 #[.slice A n c, .slice B m d] w fun e w' => e = .returned (.bool (decide (L ≠ M ∧ sha L = sha M))) ∧ Ext w w' := by
  go_enter Try.func53, Try.ntmps53
  go_wp2_with fail
  refine (hsame_any A B n c m d L M w hA hB).mono ?_
  rintro e w1 ⟨rfl, rfl⟩
  by_cases h : L = M
  · have e0 : decide (L ≠ M ∧ sha L = sha M) = false := by simp [h]
    have E0 := Lib.hid e0
    rw [decide_eq_true h]
    clear h e0
    go_wp2_with fail
    go_ret
    rw [E0.out]
    exact ⟨rfl, Ext.refl _⟩
  · rw [decide_eq_false h]
    have e0 : decide (L ≠ M ∧ sha L = sha M) = decide (sha L = sha M) := by simp [h]
    have E0 := Lib.hid e0
    clear e0 h
    go_wp2_with fail
    refine (hsum_any A n c L _ hA (by omega)).mono ?_
    rintro e w1 ⟨P, cp, rfl, oP, hE1⟩
    go_wp2_with fail
    refine (hsum_any B m d M w1 (hB.ext hE1) (by omega)).mono ?_
    rintro e w2 ⟨Q, cq, rfl, oQ, hE2⟩
    go_wp2_with fail
    refine (hsame_any P Q 32 cp 32 cq _ _ w2 (oP.rb.ext hE2) oQ.rb).mono ?_
    rintro e w3 ⟨rfl, rfl⟩
    go_wp2_with fail
    go_ret
    rw [E0.out]
    exact ⟨rfl, hE1.trans hE2⟩
theorem downL_bound : ∀ (n : Nat) (a b : List (List UInt8)), a.length = n → 1 ≤ n → b.length = n → (∀ x ∈ a, x.length ≤ 1000) → (∀ x ∈ b, x.length ≤ 1000) → (downL a b).1.length ≤ 1001 ∧ (downL a b).2.1.length ≤ 1001 := by
  intro n
  induction n using Nat.strongRecOn with
  | ind n ih =>
    intro a b ha hn hb h1 h2
    by_cases h : n < 2
    · obtain rfl : n = 1 := by omega
      rw [downL_one ha]
      have k1 := h1 (lb a 0) (by unfold lb; rw [List.getD_eq_getElem?_getD, List.getElem?_eq_getElem (by omega)]; exact List.getElem_mem _)
      have k2 := h2 (lb b 0) (by unfold lb; rw [List.getD_eq_getElem?_getD, List.getElem?_eq_getElem (by omega)]; exact List.getElem_mem _)
      simp only [List.length_cons]
      omega
    · have hs := splitN_in (n := n) (by omega)
      rw [downL_more (k := splitN n) (by omega) (by rw [ha])]
      generalize splitN n = k at *
      split
      · simp only [List.length_cons, List.length_append]
        rw [rootL_len fun x hx => leaf_len a x (List.mem_of_mem_take hx), rootL_len fun x hx => leaf_len a x (List.mem_of_mem_drop hx), rootL_len fun x hx => leaf_len b x (List.mem_of_mem_take hx), rootL_len fun x hx => leaf_len b x (List.mem_of_mem_drop hx)]
        omega
      · split
        · exact ih k (by omega) _ _ (by simp; omega) (by omega) (by simp; omega) (fun x hx => h1 x (List.mem_of_mem_take hx)) fun x hx => h2 x (List.mem_of_mem_take hx)
        · exact ih (n - k) (by omega) _ _ (by simp; omega) (by omega) (by simp; omega) (fun x hx => h1 x (List.mem_of_mem_drop hx)) fun x hx => h2 x (List.mem_of_mem_drop hx)
/-- what Trees tells -/
def treesB (a b : List (List UInt8)) : Bool := decide (a.length = b.length ∧ 1 ≤ a.length ∧ a.length ≤ 256 ∧ rootL (a.map leafH) = rootL (b.map leafH)) && (downL a b).2.2
def treesP (a b : List (List UInt8)) : List UInt8 := if treesB a b = true then (downL a b).1 else []
def treesQ (a b : List (List UInt8)) : List UInt8 := if treesB a b = true then (downL a b).2.1 else []
/-- two trees of one root: what is told is a clash, and is told of rows that are not the same -/
theorem treesB_is {a b : List (List UInt8)} (h2 : a.length ≤ 256) : treesB a b = (decide (0 < a.length) && decide (a.length = b.length) && decide (rootL (a.map leafH) = rootL (b.map leafH)) && !decide (a = b)) := by
  unfold treesB
  by_cases hl : a.length = b.length
  · by_cases h0 : 0 < a.length
    · by_cases hr : rootL (a.map leafH) = rootL (b.map leafH)
      · have h := downL_law a.length a b rfl hl.symm h0 hr
        rw [decide_eq_true (⟨hl, h0, h2, hr⟩ : _ ∧ _), decide_eq_true h0, decide_eq_true hl, decide_eq_true hr]
        simp only [Bool.true_and]
        cases hd : (downL a b).2.2 with
        | true =>
          by_cases e : a = b
          · subst e
            rw [downL_same a.length a rfl h0] at hd
            cases hd
          · simp [e]
        | false => simp [h.2 hd]
      · simp [hr]
    · simp [h0]
      intros
      omega
  · simp [hl]
theorem trees_none {a b : List (List UInt8)} (h : treesB a b = false) : treesP a b = [] ∧ treesQ a b = [] := by
  unfold treesP treesQ
  rw [h]
  exact ⟨rfl, rfl⟩
set_option maxHeartbeats 8000000 in
theorem trees_any (A B : Option Addr) (n c m d : Nat) (La Lb : List (List UInt8)) (w : World) (rA : RBB w A n c La) (rB : RBB w B m d Lb) (hn : n ≤ 1000) (hm : m ≤ 1000) (hla : ∀ a ∈ La, a.length ≤ 1000) (hlb : ∀ a ∈ Lb, a.length ≤ 1000) :
    Calls Try.prog 14 #[.slice A n c, .slice B m d] w fun e w' => ∃ P np cp Q nq cq, e = .returned (.tuple #[.slice P np cp, .slice Q nq cq, .bool (treesB La Lb)]) ∧ RB w' P np cp (treesP La Lb) ∧ RB w' Q nq cq (treesQ La Lb) ∧ Ext w w' := by
  have hl := rA.len
  have hlB := rB.len
  have no : ∀ {w' : World}, treesB La Lb = false → RB w' none 0 0 (treesP La Lb) ∧ RB w' none 0 0 (treesQ La Lb) := by
    intro w' h
    rw [(trees_none h).1, (trees_none h).2]
    exact ⟨RB.nil_ _, RB.nil_ _⟩
  go_enter Try.func14, Try.ntmps14
  by_cases h1 : n = m ∧ 1 ≤ n ∧ n ≤ 256
  · obtain ⟨rfl, h1, h2⟩ := h1
    have q0 : ¬ (n : Int) < 1 := by omega
    have q1 : ¬ (256 : Int) < (n : Int) := by omega
    have htb : treesB La Lb = (decide (rootL (La.map leafH) = rootL (Lb.map leafH)) && (downL La Lb).2.2) := by
      unfold treesB
      congr 1
      simp [hl, hlB, h1, h2]
    have Htb := Lib.hid htb
    have hdl := fun hr => (downL_law n La Lb hl hlB h1 hr).1
    have hdb := downL_bound n La Lb hl h1 hlB hla hlb
    clear htb
    go_wp2_with fail
    refine (xleaves_any A n c La w rA (by omega) fun a ha => Nat.le_trans (hla a ha) (by omega)).mono ?_
    rintro e w1 ⟨X, cx, rfl, oX, hE1⟩
    go_wp2_with fail
    refine (xleaves_any B n d Lb w1 (rB.ext hE1) (by omega) fun a ha => Nat.le_trans (hlb a ha) (by omega)).mono ?_
    rintro e w2 ⟨Y, cy, rfl, oY, hE2⟩
    have rX := (oX.ext hE2).rbb
    have rY := oY.rbb
    replace hE2 := hE1.trans hE2
    replace rA := rA.ext hE2
    replace rB := rB.ext hE2
    clear oX oY hE1
    go_wp2_with fail
    refine (troot_any n X cx _ w2 (by omega) rX (leaf_len La)).mono ?_
    rintro e w3 ⟨U, cu, rfl, oU, hE3⟩
    replace rA := rA.ext hE3
    replace rB := rB.ext hE3
    replace rX := rX.ext hE3
    replace rY := rY.ext hE3
    replace hE2 := hE2.trans hE3
    clear hE3
    go_wp2_with fail
    refine (troot_any n Y cy _ w3 (by omega) rY (leaf_len Lb)).mono ?_
    rintro e w4 ⟨V, cv, rfl, oV, hE3⟩
    replace rA := rA.ext hE3
    replace rB := rB.ext hE3
    replace rX := rX.ext hE3
    replace rY := rY.ext hE3
    replace oU := oU.ext hE3
    replace hE2 := hE2.trans hE3
    clear hE3
    go_wp2_with fail
    refine (hsame_any U V 32 cu 32 cv _ _ w4 oU.rb oV.rb).mono ?_
    rintro e w5 ⟨rfl, rfl⟩
    clear oU oV
    by_cases hr : rootL (La.map leafH) = rootL (Lb.map leafH)
    · rw [decide_eq_true hr] at Htb ⊢
      rw [Bool.true_and] at Htb
      replace hdl := hdl hr
      clear hr
      go_wp2_with fail
      refine (down_any n A B X Y c d cx cy La Lb _ h1 h2 rA rB rX rY hla hlb).mono ?_
      rintro e w6 ⟨P, np, cp, Q, nq, cq, rfl, rP, rQ, hE3⟩
      replace hE2 := hE2.trans hE3
      have hp := rP.len
      have hq := rQ.len
      have hnp : np ≤ 1000000 := by omega
      have hnq : nq ≤ 1000000 := by omega
      clear hE3 hp hq hdb
      cases hd : (downL La Lb).2.2 with
      | true =>
        replace hdl := hdl hd
        rw [hd] at Htb
        clear hd
        go_wp2_with fail
        refine (clash_any P Q np cp nq cq _ _ w6 rP rQ hnp hnq).mono ?_
        rintro e w7 ⟨rfl, hE3⟩
        rw [decide_eq_true hdl]
        clear hdl hnp hnq
        go_wp2_with fail
        go_ret3
        have e1 : treesP La Lb = (downL La Lb).1 := if_pos Htb.out
        have e2 : treesQ La Lb = (downL La Lb).2.1 := if_pos Htb.out
        rw [e1, e2, Htb.out]
        exact ⟨P, np, cp, Q, nq, cq, rfl, rP.ext hE3, rQ.ext hE3, hE2.trans hE3⟩
      | false =>
        rw [hd] at Htb
        clear hd hdl hnp hnq
        go_wp2_with fail
        go_ret3
        have h := no (w' := w6) Htb.out
        rw [Htb.out]
        exact ⟨none, 0, 0, none, 0, 0, rfl, h.1, h.2, hE2⟩
    · rw [decide_eq_false hr] at Htb ⊢
      rw [Bool.false_and] at Htb
      clear hr hdl hdb
      go_wp2_with fail
      go_ret3
      have h := no (w' := w4) Htb.out
      rw [Htb.out]
      exact ⟨none, 0, 0, none, 0, 0, rfl, h.1, h.2, hE2⟩
  · have htb : treesB La Lb = false := by
      unfold treesB
      rw [decide_eq_false (fun h => h1 ⟨by omega, by omega, by omega⟩)]
      rfl
    have h := no (w' := w) htb
    have Htb := Lib.hid htb
    have hcs : n ≠ m ∨ (n = m ∧ n < 1) ∨ (n = m ∧ ¬ n < 1 ∧ 256 < n) := by omega
    rcases hcs with q | ⟨rfl, q⟩ | ⟨rfl, q1, q2⟩
    · have q1 : ¬ (n : Int) = (m : Int) := by omega
      clear h1 htb
      go_wp2_with fail
      go_ret3
      rw [Htb.out]
      exact ⟨none, 0, 0, none, 0, 0, rfl, h.1, h.2, Ext.refl _⟩
    · have q1 : (n : Int) < 1 := by omega
      clear h1 htb
      go_wp2_with fail
      go_ret3
      rw [Htb.out]
      exact ⟨none, 0, 0, none, 0, 0, rfl, h.1, h.2, Ext.refl _⟩
    · have q3 : ¬ (n : Int) < 1 := by omega
      have q4 : (256 : Int) < (n : Int) := by omega
      clear h1 htb
      go_wp2_with fail
      go_ret3
      rw [Htb.out]
      exact ⟨none, 0, 0, none, 0, 0, rfl, h.1, h.2, Ext.refl _⟩
end Go.Proofs.Ytkndgpjamijbbaa
namespace Go.Proofs.Ytkndgpjamijbbaa
set_option maxRecDepth 100000
/-- both have the same first items, so many -/
def prefB (a b : List (List UInt8)) (n : Int) : Bool := decide (0 ≤ n ∧ n ≤ (a.length : Int) ∧ n ≤ (b.length : Int) ∧ a.take n.toNat = b.take n.toNat)
end Go.Proofs.Ytkndgpjamijbbaa

/-
  ref6's and extract's leaves; tree.Root, walked.
-/
import Derived.Test.YtkndgpjamijbbaaLawPieces22Q29
import Derived.Test.YtkndgpjamijbbaaLawPieces22Q28
namespace Go.Proofs.Ytkndgpjamijbbaa
set_option maxRecDepth 100000
open Go Go.RowKit
def MP.obk (b n : Nat) (L : List UInt8) : MP Ext := ⟨fun u w => ∃ A c, u = .slice A n c ∧ OB w b A n c L, fun _ _ _ e ⟨A, c, h1, h2⟩ => ⟨A, c, h1, h2.ext e⟩⟩
def LvI (w : World) (Ls : List (List UInt8)) (v i : Value) (wr : World) : Prop :=
  ∃ (p d : Nat) (P : Option Addr), p ≤ Ls.length ∧ i = .int .i64 p ∧ v = .slice P p d ∧ OBC wr w.heap.size P p d ((Ls.take p).map leafH) ∧ Ext w wr
theorem leaf_snoc (Ls : List (List UInt8)) {p : Nat} (hp : p < Ls.length) : (Ls.take (p + 1)).map leafH = (Ls.take p).map leafH ++ [leafH (lb Ls p)] := by
  rw [List.take_succ_eq_append_getElem hp, List.map_append]
  simp [lb, hp]
set_option maxHeartbeats 2000000 in
theorem r6leaves_any (A : Option Addr) (n c : Nat) (Ls : List (List UInt8)) (w : World) (hr : RBB w A n c Ls) (hn : n ≤ 100000) (hb : ∀ a ∈ Ls, a.length ≤ 1000000) :
    Calls Try.prog 20 #[.slice A n c] w fun e w' => ∃ P d, e = .returned (.slice P n d) ∧ OBC w' w.heap.size P n d (Ls.map leafH) ∧ Ext w w' := by
  have hl := hr.len
  have Hl := Lib.hid hl
  clear hl
  have hcap := hr.cap
  have hroom := hr.room
  unfold maxLen at hcap
  go_enter Try.func20, Try.ntmps20
  go_wp2_with fail
  go_loopw [3, 4] (fun v i wr => LvI w Ls v i wr) (fun _ i _ => n - (intOf i).toNat)
  case atStart => exact ⟨0, 0, none, by omega, rfl, rfl, OBC.none_ _ _, Ext.refl _⟩
  case round =>
    obtain ⟨p, d, P, hp, rfl, rfl, own, hEr⟩ := hrel
    rw [Hl.out] at hp
    by_cases hlt : p < n
    · have hpn : (p : Int) < (n : Int) := by omega
      obtain ⟨ad, rfl, hc⟩ := hr.cells (by omega)
      obtain ⟨E, z, y, hcell, hrE⟩ := hc p (by omega)
      have y1 := hEr.cell hcell
      have rE := hrE.ext hEr
      have hz : z ≤ 1000000 := by
        have h1 := hrE.len
        have h2 := hb (lb Ls p) (by unfold lb; rw [List.getD_eq_getElem?_getD, List.getElem?_eq_getElem (by rw [Hl.out]; omega)]; exact List.getElem_mem _)
        omega
      have hcu := r6leaf_any E z y _ wr rE (by omega)
      have Hcu := Lib.hid hcu
      clear hcu hc hcell
      go_wp2_with fail
      refine Hcu.out.mono ?_
      rintro e w2 ⟨E1, z1, rfl, ownC, hE2⟩
      clear Hcu
      have hEa := Ext.new w2 (.cells #[.slice E1 32 z1] 22)
      have hBa := Blk.new w2 22 #[.slice E1 32 z1]
      have own4 := (own.ext hE2).ext hEa
      have hne : 0 < 32 → blk E1 ≠ blk P := by
        intro hz e
        obtain ⟨b, hb⟩ : ∃ b, blk E1 = some b := by
          obtain ⟨ad', h1, _⟩ := ownC.rb.cells (by omega)
          rw [h1]
          exact ⟨_, rfl⟩
        have h1 := ownC.lt hb
        have h2 := own.lt (e.symm.trans hb)
        omega
      go_wp2_with (refine appbc_law (base := w.heap.size) (Y := leafH (lb Ls p)) rfl rfl rfl rfl (by rw [add_plain]; exact hBa.cell (i := 0) rfl) own4 (ownC.rb.ext hEa) hne ((hEr.trans hE2).trans hEa).size (by omega) ?_; intro P5 d5 w5 own5 g5)
      go_roundw
      case rel =>
        rw [← leaf_snoc Ls (by rw [Hl.out]; omega)] at own5
        exact ⟨p + 1, d5, P5, by rw [Hl.out]; omega, by go_num, rfl, own5, ((hEr.trans hE2).trans hEa).then_grown g5 (fun b hb => (own4.lt hb).1)⟩
      case measure => simp [intOf]; omega
    · obtain rfl : p = n := by omega
      have hpn : ¬ (p : Int) < (p : Int) := by omega
      rw [List.take_of_length_le (by rw [Hl.out]; omega)] at own
      go_wp2_with fail
      go_ret
      exact ⟨P, d, rfl, own, hEr⟩
set_option maxHeartbeats 4000000 in
theorem troot_any : ∀ (n : Nat) (A : Option Addr) (c : Nat) (Ls : List (List UInt8)) (w : World), n ≤ 256 → RBB w A n c Ls → (∀ a ∈ Ls, a.length = 32) →
    Calls Try.prog 51 #[.slice A n c] w fun e w' => ∃ A' c', e = .returned (.slice A' 32 c') ∧ OB w' w.heap.size A' 32 c' (rootL Ls) ∧ Ext w w' := by
  intro n
  induction n using Nat.strongRecOn with
  | ind n ih =>
    intro A c Ls w hn hr h32
    have hl := hr.len
    have hroom := hr.room
    have hcap := hr.cap
    unfold maxLen at hcap
    go_enter Try.func51, Try.ntmps51
    by_cases h0 : n = 0
    · subst h0
      have e0 : Ls = [] := List.eq_nil_of_length_eq_zero hl
      subst e0
      go_wp2_with fail
      refine (hsum_any none 0 0 [] w (RB.nil_ w) (by omega)).mono ?_
      rintro e w1 ⟨A', c', rfl, own, hE⟩
      go_wp2_with fail
      go_ret
      rw [rootL_nil]
      exact ⟨A', c', rfl, own, hE⟩
    · by_cases h1 : n = 1
      · subst h1
        obtain ⟨a, rfl⟩ : ∃ a, Ls = [a] := by
          match Ls, hl with
          | [a], _ => exact ⟨a, rfl⟩
        obtain ⟨ad, rfl, hc⟩ := hr.cells (by omega)
        obtain ⟨B, m, d, hcell, rB⟩ := hc 0 (by omega)
        have hm : a.length = 32 := h32 a (List.mem_singleton.2 rfl)
        have rB' : RB w B m d a := rB
        obtain rfl : m = 32 := rB'.len.symm.trans hm
        have hcell' : w.cell? ad = some (.slice B 32 d) := hcell
        go_wp2_with (refine app_own (N := 32) (LM := a) rfl rfl rfl rfl (Ext.refl _) (OB.none_ _ _) rB' rfl rfl (by omega) ?_; intro B1 d1 w1 own1 hE1)
        go_ret
        rw [rootL_one]
        exact ⟨B1, d1, rfl, own1, hE1⟩
      · have hsp := splitN_in (n := n) (by omega)
        have hne0 : ¬ ((n : Int) = 0) := by omega
        have hne1 : ¬ ((n : Int) = 1) := by omega
        have hrt := rootL_more (l := Ls) (by omega)
        rw [hl] at hrt
        have Hrt := Lib.hid hrt
        have hs := tsplit_any n hn w
        have Hs := Lib.hid hs
        clear hrt hs
        go_wp2_with fail
        refine Hs.out.mono ?_
        rintro e w1 ⟨rfl, rfl⟩
        generalize splitN n = k at *
        clear Hs
        have l1 : ∀ a ∈ Ls.take k, a.length = 32 := fun a ha => h32 a (List.mem_of_mem_take ha)
        have l2 : ∀ a ∈ Ls.drop k, a.length = 32 := fun a ha => h32 a (List.mem_of_mem_drop ha)
        have hr1 := hr.fst (k := k) (by omega)
        have hr2 := hr.snd (k := k) (by omega)
        go_upto_region 7 with (fail)
        refine par_ext (n := 9) (by kernel_rfl) [.is (.slice (A) (n) (c)), .is (.int .i64 (((k : Nat) : Int))), .is (.slice (A) (k) (c)), .rk (32) (rootL (Ls.take k)), .is (.slice (A) (n) (c)), .is (.int .i64 (((k : Nat) : Int))), .is (.slice (if c = k then A else (A : Option Addr).map (·.add (k * 1))) (n - k) (c - k)), .rk (32) (rootL (Ls.drop k)), .obk (w.heap.size) (32) (nodeH (rootL (Ls.take k)) (rootL (Ls.drop k)))] rfl ⟨?_, ?_, ?_, ?_, ?_, ?_, ?_, ?_, ?_, trivial⟩ ?_
        · refine stepE rfl fun sdn sa sw sE sd sk => ?_
          have h0 : sa.eval (.tmp 0) = .slice (A) (n) (c) := sk.old 0 rfl
          exact Runs.move rfl h0 ⟨Ext.refl _, rfl⟩
        · refine stepE rfl fun sdn sa sw sE sd sk => ?_
          have h3 : sa.eval (.tmp 3) = .int .i64 (((k : Nat) : Int)) := sk.old 3 rfl
          exact Runs.move rfl h3 ⟨Ext.refl _, rfl⟩
        · refine stepE rfl fun sdn sa sw sE sd sk => ?_
          have h18 : sa.eval (.tmp 18) = .slice (A) (n) (c) := sk.fact 0 18 rfl (sd 0 rfl)
          have h19 : sa.eval (.tmp 19) = .int .i64 (((k : Nat) : Int)) := sk.fact 1 19 rfl (sd 1 rfl)
          exact Runs.slice rfl h18 (by simp only [Option.map_some, Option.map_none, h19]; exact run_cut_h Try.underlying23 infZZ_eq k (by first | rfl | omega) (by omega)) ⟨Ext.refl _, rfl⟩
        · refine stepE rfl fun sdn sa sw sE sd sk => ?_
          have h20 : sa.eval (.tmp 20) = .slice (A) (k) (c) := sk.fact 2 20 rfl (sd 2 rfl)
          refine Runs.call (f := 51) (vs := [.slice (A) (k) (c)]) rfl rfl rfl (by simp only [List.map_toArray, List.map_cons, List.map_nil, h20] <;> rfl) (ent51 _ _) ((ih (k) (by omega) _ _ _ sw (by omega) (hr1.ext sE) l1).mono ?_); rintro e w' ⟨A', c', rfl, own, hx⟩; exact ⟨_, rfl, hx, A', c', rfl, own.rb⟩
        · refine stepE rfl fun sdn sa sw sE sd sk => ?_
          have h0 : sa.eval (.tmp 0) = .slice (A) (n) (c) := sk.old 0 rfl
          exact Runs.move rfl h0 ⟨Ext.refl _, rfl⟩
        · refine stepE rfl fun sdn sa sw sE sd sk => ?_
          have h3 : sa.eval (.tmp 3) = .int .i64 (((k : Nat) : Int)) := sk.old 3 rfl
          exact Runs.move rfl h3 ⟨Ext.refl _, rfl⟩
        · refine stepE rfl fun sdn sa sw sE sd sk => ?_
          have h22 : sa.eval (.tmp 22) = .slice (A) (n) (c) := sk.fact 4 22 rfl (sd 4 rfl)
          have h23 : sa.eval (.tmp 23) = .int .i64 (((k : Nat) : Int)) := sk.fact 5 23 rfl (sd 5 rfl)
          exact Runs.slice rfl h22 (by simp only [Option.map_some, Option.map_none, h23]; exact run_cut_l Try.underlying23 infZZ_eq infZZ_size k (by first | rfl | omega) (by omega)) ⟨Ext.refl _, rfl⟩
        · refine stepE rfl fun sdn sa sw sE sd sk => ?_
          have h24 : sa.eval (.tmp 24) = .slice (if c = k then A else (A : Option Addr).map (·.add (k * 1))) (n - k) (c - k) := sk.fact 6 24 rfl (sd 6 rfl)
          refine Runs.call (f := 51) (vs := [.slice (if c = k then A else (A : Option Addr).map (·.add (k * 1))) (n - k) (c - k)]) rfl rfl rfl (by simp only [List.map_toArray, List.map_cons, List.map_nil, h24] <;> rfl) (ent51 _ _) ((ih (n - k) (by omega) _ _ _ sw (by omega) (hr2.ext sE) l2).mono ?_); rintro e w' ⟨A', c', rfl, own, hx⟩; exact ⟨_, rfl, hx, A', c', rfl, own.rb⟩
        · refine stepE rfl fun sdn sa sw sE sd sk => ?_
          obtain ⟨A21, c21, h21, r21⟩ := sk.fact 3 21 rfl (sd 3 rfl)
          obtain ⟨A25, c25, h25, r25⟩ := sk.fact 7 25 rfl (sd 7 rfl)
          refine Runs.call (f := 83) (vs := [.slice (A21) (32) (c21), .slice (A25) (32) (c25)]) rfl rfl rfl (by simp only [List.map_toArray, List.map_cons, List.map_nil, h21, h25] <;> rfl) (ent83 _ _) ((trnode_any _ _ _ _ _ _ _ _ sw r21 r25 (by omega)).mono ?_); rintro e w' ⟨A', c', rfl, own, hx⟩; exact ⟨_, rfl, hx, A', c', rfl, own.base sE.size⟩
        intro vals W7 hE7 hv7
        have e0 : vals 0 = .slice (A) (n) (c) := hv7 0 (by omega) 18 rfl
        have e1 : vals 1 = .int .i64 (((k : Nat) : Int)) := hv7 1 (by omega) 19 rfl
        have e2 : vals 2 = .slice (A) (k) (c) := hv7 2 (by omega) 20 rfl
        obtain ⟨A21, c21, e3, r21⟩ := hv7 3 (by omega) 21 rfl
        have e4 : vals 4 = .slice (A) (n) (c) := hv7 4 (by omega) 22 rfl
        have e5 : vals 5 = .int .i64 (((k : Nat) : Int)) := hv7 5 (by omega) 23 rfl
        have e6 : vals 6 = .slice (if c = k then A else (A : Option Addr).map (·.add (k * 1))) (n - k) (c - k) := hv7 6 (by omega) 24 rfl
        obtain ⟨A25, c25, e7, r25⟩ := hv7 7 (by omega) 25 rfl
        obtain ⟨A26, c26, e8, o26⟩ := hv7 8 (by omega) 26 rfl
        simp only [putAll, Act.put, List.take_succ_cons, List.take_zero, List.drop_succ_cons, List.drop_zero, List.drop_nil, List.take_nil, Nat.reduceAdd, List.setIfInBounds_toArray, List.set_cons_succ, List.set_cons_zero, e0, e1, e2, e3, e4, e5, e6, e7, e8]
        clear hv7 e0 e1 e2 e3 e4 e5 e6 e7 e8
        go_wp2_with fail
        go_ret
        rw [Hrt.out]
        exact ⟨_, _, rfl, o26, hE7⟩
end Go.Proofs.Ytkndgpjamijbbaa

/-
  tree.Leaf, Node, Root; ref6's, walked. ref6's Split and Root, walked. tree.Split, Root, walked (under way). ref6's and extract's leaves; tree.Root, walked.
-/
import Derived.Test.YtkndgpjamijbbaaGreatLawNumbers22Q27
import Derived.Test.YtkndgpjamijbbaaGreatLawNumbers22Q11
import Derived.Test.YtkndgpjamijbbaaGreatLawNumbers22Q12
import Derived.Test.YtkndgpjamijbbaaGreatLawNumbers22Q4
import Derived.Test.YtkndgpjamijbbaaGreatLawNumbers22Q14
namespace Go.Proofs.YtkndgpjamijbbaaGreat
set_option maxRecDepth 100000
open Go Go.RowKit
theorem RBB.two_ {w : World} {b : Nat} {X D : Option Addr} {nx dx nd cd : Nat} {Lx Ld : List UInt8} {t : TypeId} (hB : Blk w b t #[.slice X nx dx, .slice D nd cd]) (rX : RB w X nx dx Lx) (rD : RB w D nd cd Ld) : RBB w (some ⟨b, 0, none⟩) 2 2 [Lx, Ld] := by
  refine ⟨rfl, Nat.le_refl _, small_maxLen (by decide), fun _ => ⟨_, rfl, fun j hj => ?_⟩⟩
  have h : j = 0 ∨ j = 1 := by omega
  rcases h with rfl | rfl
  · exact ⟨X, nx, dx, hB.cell (i := 0) rfl, rX⟩
  · exact ⟨D, nd, cd, hB.cell (i := 1) rfl, rD⟩
set_option maxHeartbeats 1000000 in
theorem trleaf_any (A : Option Addr) (n c : Nat) (L : List UInt8) (w : World) (hr : RB w A n c L) (hn : n ≤ 140737488355000) :
    Calls Tryz.prog 43 #[.slice A n c] w fun e w' => ∃ A' c', e = .returned (.slice A' 32 c') ∧ OB w' w.heap.size A' 32 c' (leafH L) ∧ Ext w w' := by
  have hl := hr.len
  go_enter Tryz.func43, Tryz.ntmps43
  have r1 := RBB.of1 hr 26
  have hE2 := Ext.new w (.cells #[.slice A n c] 26)
  have ht := htagged_any 0 _ 1 1 _ _ r1 (by simp only [List.flatten_cons, List.flatten_nil, List.append_nil]; omega)
  have e0 : u8i 0 = 0 := rfl
  rw [e0, show [L].flatten = L from by simp] at ht
  have Ht := Lib.hid ht
  clear ht hl
  go_wp2_with fail
  refine Ht.out.mono ?_
  rintro e w3 ⟨A3, c3, rfl, own, hE3⟩
  go_wp2_with fail
  go_ret
  exact ⟨A3, c3, rfl, own.base hE2.size, hE2.trans hE3⟩
set_option maxHeartbeats 1000000 in
theorem trnode_any (A B : Option Addr) (n c m d : Nat) (L R : List UInt8) (w : World) (hL : RB w A n c L) (hR : RB w B m d R) (hn : n + m ≤ 140737488355000) :
    Calls Tryz.prog 67 #[.slice A n c, .slice B m d] w fun e w' => ∃ A' c', e = .returned (.slice A' 32 c') ∧ OB w' w.heap.size A' 32 c' (nodeH L R) ∧ Ext w w' := by
  have hl := hL.len
  have hm := hR.len
  go_enter Tryz.func67, Tryz.ntmps67
  have hE2 := Ext.new w (.cells #[.slice A n c, .slice B m d] 26)
  have r1 := RBB.two_ (Blk.new w 26 #[.slice A n c, .slice B m d]) (hL.ext hE2) (hR.ext hE2)
  have ht := htagged_any 1 _ 2 2 _ _ r1 (by simp only [List.flatten_cons, List.flatten_nil, List.append_nil, List.length_append]; omega)
  have e0 : u8i 1 = 1 := rfl
  rw [e0, show [L, R].flatten = L ++ R from by simp] at ht
  have Ht := Lib.hid ht
  clear ht hl hm
  go_wp2_with fail
  refine Ht.out.mono ?_
  rintro e w3 ⟨A3, c3, rfl, own, hE3⟩
  go_wp2_with fail
  go_ret
  exact ⟨A3, c3, rfl, own.base hE2.size, hE2.trans hE3⟩
set_option maxHeartbeats 1000000 in
theorem r6leaf_any (A : Option Addr) (n c : Nat) (L : List UInt8) (w : World) (hr : RB w A n c L) (hn : n ≤ 140737488355000) :
    Calls Tryz.prog 38 #[.slice A n c] w fun e w' => ∃ A' c', e = .returned (.slice A' 32 c') ∧ OB w' w.heap.size A' 32 c' (leafH L) ∧ Ext w w' := by
  have hl := hr.len
  go_enter Tryz.func38, Tryz.ntmps38
  have r1 := RBB.of1 hr 26
  have hE2 := Ext.new w (.cells #[.slice A n c] 26)
  have ht := rtagged_any 0 _ 1 1 _ _ r1 (by simp only [List.flatten_cons, List.flatten_nil, List.append_nil]; omega)
  have e0 : u8i 0 = 0 := rfl
  rw [e0, show [L].flatten = L from by simp] at ht
  have Ht := Lib.hid ht
  clear ht hl
  go_wp2_with fail
  refine Ht.out.mono ?_
  rintro e w3 ⟨A3, c3, rfl, own, hE3⟩
  go_wp2_with fail
  go_ret
  exact ⟨A3, c3, rfl, own.base hE2.size, hE2.trans hE3⟩
set_option maxHeartbeats 1000000 in
theorem r6node_any (A B : Option Addr) (n c m d : Nat) (L R : List UInt8) (w : World) (hL : RB w A n c L) (hR : RB w B m d R) (hn : n + m ≤ 140737488355000) :
    Calls Tryz.prog 37 #[.slice A n c, .slice B m d] w fun e w' => ∃ A' c', e = .returned (.slice A' 32 c') ∧ OB w' w.heap.size A' 32 c' (nodeH L R) ∧ Ext w w' := by
  have hl := hL.len
  have hm := hR.len
  go_enter Tryz.func37, Tryz.ntmps37
  have hE2 := Ext.new w (.cells #[.slice A n c, .slice B m d] 26)
  have r1 := RBB.two_ (Blk.new w 26 #[.slice A n c, .slice B m d]) (hL.ext hE2) (hR.ext hE2)
  have ht := rtagged_any 1 _ 2 2 _ _ r1 (by simp only [List.flatten_cons, List.flatten_nil, List.append_nil, List.length_append]; omega)
  have e0 : u8i 1 = 1 := rfl
  rw [e0, show [L, R].flatten = L ++ R from by simp] at ht
  have Ht := Lib.hid ht
  clear ht hl hm
  go_wp2_with fail
  refine Ht.out.mono ?_
  rintro e w3 ⟨A3, c3, rfl, own, hE3⟩
  go_wp2_with fail
  go_ret
  exact ⟨A3, c3, rfl, own.base hE2.size, hE2.trans hE3⟩

end Go.Proofs.YtkndgpjamijbbaaGreat
namespace Go.Proofs.YtkndgpjamijbbaaGreat
set_option maxRecDepth 100000
open Go Go.RowKit
theorem RBB.fst {w : World} {A : Option Addr} {n c : Nat} {Ls : List (List UInt8)} (h : RBB w A n c Ls) {k : Nat} (hk : k ≤ n) : RBB w A k c (Ls.take k) := by
  have h1 := h.cut (i := 0) (j := k) (c' := c) (A' := A) (by omega) hk (by omega) (fun _ => by cases A <;> simp [Addr.add])
  simpa using h1
theorem RBB.snd {w : World} {A : Option Addr} {n c : Nat} {Ls : List (List UInt8)} (h : RBB w A n c Ls) {k : Nat} (hk : k ≤ n) : RBB w (if c = k then A else A.map (·.add (k * 1))) (n - k) (c - k) (Ls.drop k) := by
  have hr := h.room
  have hl := h.len
  have h1 := h.cut (i := k) (j := n) (c' := c - k) (A' := if c = k then A else A.map (·.add (k * 1))) hk (Nat.le_refl _) rfl (fun hlt => by rw [if_neg (by omega), Nat.mul_one])
  rw [List.take_of_length_le (by omega)] at h1
  exact h1
def SplI (w : World) (n : Nat) (v : Value) (wr : World) : Prop := ∃ e k : Nat, k = 2 ^ e ∧ k < n ∧ v = .int .i64 (k : Int) ∧ w = wr
theorem r6split_any (n : Nat) (hn : n ≤ 1000000) (w : World) : Calls Tryz.prog 36 #[.int .i64 (n : Int)] w fun e w' => e = .returned (.int .i64 ((splitN n : Nat) : Int)) ∧ w = w' := by
  go_enter Tryz.func36, Tryz.ntmps36
  by_cases h2 : n < 2
  · have h2i : (n : Int) < 2 := by omega
    have hs := splitN_small h2
    go_wp2_with fail
    go_ret
    rw [hs]
    exact ⟨rfl, rfl⟩
  · have h2i : ¬ ((n : Int) < 2) := by omega
    go_wp2_with fail
    go_loopw [3] (fun v wr => SplI w n v wr) (fun v _ => n - (intOf v).toNat)
    case atStart => exact ⟨0, 1, rfl, by omega, rfl, rfl⟩
    case round =>
      obtain ⟨e, k, hk, hkn, rfl, rfl⟩ := hrel
      have hk0 : 0 < k := by rw [hk]; exact Nat.pow_pos (by omega)
      have Hk := Lib.hid hk
      clear hk
      by_cases hc : (k : Int) < (n : Int) - (k : Int)
      · go_wp2_with fail
        go_roundw
        case rel => exact ⟨e + 1, 2 * k, by rw [Hk.out, Nat.pow_succ]; omega, by omega, by go_num, rfl⟩
        case measure => simp [intOf]; omega
      · have hs := splitN_is Hk.out hkn (by omega)
        go_wp2_with fail
        go_ret
        exact ⟨rfl, rfl⟩
set_option maxHeartbeats 4000000 in
theorem r6root_any : ∀ (n : Nat) (A : Option Addr) (c : Nat) (Ls : List (List UInt8)) (w : World), n ≤ 1000000 → RBB w A n c Ls → (∀ a ∈ Ls, a.length = 32) →
    Calls Tryz.prog 16 #[.slice A n c] w fun e w' => ∃ A' c', e = .returned (.slice A' 32 c') ∧ RB w' A' 32 c' (rootL Ls) ∧ Ext w w' := by
  intro n
  induction n using Nat.strongRecOn with
  | ind n ih =>
    intro A c Ls w hn hr h32
    have hl := hr.len
    have hroom := hr.room
    have hcap := hr.cap
    unfold maxLen at hcap
    go_enter Tryz.func16, Tryz.ntmps16
    by_cases h0 : n = 0
    · subst h0
      have e0 : Ls = [] := List.eq_nil_of_length_eq_zero hl
      subst e0
      go_wp2_with fail
      refine (sum_any none 0 0 [] w (RB.nil_ w) (by omega)).mono ?_
      rintro e w1 ⟨A', c', rfl, own, hE⟩
      go_wp2_with fail
      go_ret
      rw [rootL_nil]
      exact ⟨A', c', rfl, own.rb, hE⟩
    · by_cases h1 : n = 1
      · subst h1
        obtain ⟨a, rfl⟩ : ∃ a, Ls = [a] := by
          match Ls, hl with
          | [a], _ => exact ⟨a, rfl⟩
        obtain ⟨ad, rfl, hc⟩ := hr.cells (by omega)
        obtain ⟨B, m, d, hcell, rB⟩ := hc 0 (by omega)
        have hm : a.length = 32 := h32 a (List.mem_singleton.2 rfl)
        have rB' : RB w B m d a := rB
        obtain rfl : m = 32 := rB'.len.symm.trans hm
        have hcell' : w.cell? ad = some (.slice B 32 d) := hcell
        go_wp2_with fail
        go_ret
        rw [rootL_one]
        exact ⟨B, d, rfl, rB', Ext.refl _⟩
      · have hsp := splitN_in (n := n) (by omega)
        have hne0 : ¬ ((n : Int) = 0) := by omega
        have hne1 : ¬ ((n : Int) = 1) := by omega
        have hrt := rootL_more (l := Ls) (by omega)
        rw [hl] at hrt
        have Hrt := Lib.hid hrt
        have hs := r6split_any n hn w
        have Hs := Lib.hid hs
        clear hrt hs
        go_wp2_with fail
        refine Hs.out.mono ?_
        rintro e w1 ⟨rfl, rfl⟩
        generalize splitN n = k at *
        clear Hs
        have l1 : ∀ a ∈ Ls.take k, a.length = 32 := fun a ha => h32 a (List.mem_of_mem_take ha)
        have l2 : ∀ a ∈ Ls.drop k, a.length = 32 := fun a ha => h32 a (List.mem_of_mem_drop ha)
        have hr1 := hr.fst (k := k) (by omega)
        have hr2 := hr.snd (k := k) (by omega)
        go_upto_region 6 with (fail)
        refine par_ext (n := 9) (by kernel_rfl) [.is (.slice (A) (n) (c)), .is (.int .i64 (((k : Nat) : Int))), .is (.slice (A) (k) (c)), .rk (32) (rootL (Ls.take k)), .is (.slice (A) (n) (c)), .is (.int .i64 (((k : Nat) : Int))), .is (.slice (if c = k then A else A.map (·.add (k * 1))) (n - k) (c - k)), .rk (32) (rootL (Ls.drop k)), .rk (32) (nodeH (rootL (Ls.take k)) (rootL (Ls.drop k)))] rfl ⟨?_, ?_, ?_, ?_, ?_, ?_, ?_, ?_, ?_, trivial⟩ ?_
        · refine stepE rfl fun sdn sa sw sE sd sk => ?_
          have h0 : sa.eval (.tmp 0) = .slice (A) (n) (c) := sk.old 0 rfl
          exact Runs.move rfl h0 ⟨Ext.refl _, rfl⟩
        · refine stepE rfl fun sdn sa sw sE sd sk => ?_
          have h3 : sa.eval (.tmp 3) = .int .i64 (((k : Nat) : Int)) := sk.old 3 rfl
          exact Runs.move rfl h3 ⟨Ext.refl _, rfl⟩
        · refine stepE rfl fun sdn sa sw sE sd sk => ?_
          have h17 : sa.eval (.tmp 17) = .slice (A) (n) (c) := sk.fact 0 17 rfl (sd 0 rfl)
          have h18 : sa.eval (.tmp 18) = .int .i64 (((k : Nat) : Int)) := sk.fact 1 18 rfl (sd 1 rfl)
          exact Runs.slice rfl h17 (by simp only [Option.map_some, Option.map_none, h18]; exact run_cut_h Tryz.underlying33 infZZ_eq k (by first | rfl | omega) (by omega)) ⟨Ext.refl _, rfl⟩
        · refine stepE rfl fun sdn sa sw sE sd sk => ?_
          have h19 : sa.eval (.tmp 19) = .slice (A) (k) (c) := sk.fact 2 19 rfl (sd 2 rfl)
          refine Runs.call (f := 16) (vs := [.slice (A) (k) (c)]) rfl rfl rfl (by simp only [List.map_toArray, List.map_cons, List.map_nil, h19] <;> rfl) (ent16 _ _) ((ih (k) (by omega) _ _ _ sw (by omega) (hr1.ext sE) l1).mono ?_); rintro e w' ⟨A', c', rfl, own, hx⟩; exact ⟨_, rfl, hx, A', c', rfl, own⟩
        · refine stepE rfl fun sdn sa sw sE sd sk => ?_
          have h0 : sa.eval (.tmp 0) = .slice (A) (n) (c) := sk.old 0 rfl
          exact Runs.move rfl h0 ⟨Ext.refl _, rfl⟩
        · refine stepE rfl fun sdn sa sw sE sd sk => ?_
          have h3 : sa.eval (.tmp 3) = .int .i64 (((k : Nat) : Int)) := sk.old 3 rfl
          exact Runs.move rfl h3 ⟨Ext.refl _, rfl⟩
        · refine stepE rfl fun sdn sa sw sE sd sk => ?_
          have h21 : sa.eval (.tmp 21) = .slice (A) (n) (c) := sk.fact 4 21 rfl (sd 4 rfl)
          have h22 : sa.eval (.tmp 22) = .int .i64 (((k : Nat) : Int)) := sk.fact 5 22 rfl (sd 5 rfl)
          exact Runs.slice rfl h21 (by simp only [Option.map_some, Option.map_none, h22]; exact run_cut_l Tryz.underlying33 infZZ_eq infZZ_size k (by first | rfl | omega) (by omega)) ⟨Ext.refl _, rfl⟩
        · refine stepE rfl fun sdn sa sw sE sd sk => ?_
          have h23 : sa.eval (.tmp 23) = .slice (if c = k then A else A.map (·.add (k * 1))) (n - k) (c - k) := sk.fact 6 23 rfl (sd 6 rfl)
          refine Runs.call (f := 16) (vs := [.slice (if c = k then A else A.map (·.add (k * 1))) (n - k) (c - k)]) rfl rfl rfl (by simp only [List.map_toArray, List.map_cons, List.map_nil, h23] <;> rfl) (ent16 _ _) ((ih (n - k) (by omega) _ _ _ sw (by omega) (hr2.ext sE) l2).mono ?_); rintro e w' ⟨A', c', rfl, own, hx⟩; exact ⟨_, rfl, hx, A', c', rfl, own⟩
        · refine stepE rfl fun sdn sa sw sE sd sk => ?_
          obtain ⟨A20, c20, h20, r20⟩ := sk.fact 3 20 rfl (sd 3 rfl)
          obtain ⟨A24, c24, h24, r24⟩ := sk.fact 7 24 rfl (sd 7 rfl)
          refine Runs.call (f := 37) (vs := [.slice (A20) (32) (c20), .slice (A24) (32) (c24)]) rfl rfl rfl (by simp only [List.map_toArray, List.map_cons, List.map_nil, h20, h24] <;> rfl) (ent37 _ _) ((r6node_any _ _ _ _ _ _ _ _ sw r20 r24 (by omega)).mono ?_); rintro e w' ⟨A', c', rfl, own, hx⟩; exact ⟨_, rfl, hx, A', c', rfl, own.rb⟩
        intro vals W6 hE6 hv6
        have e0 : vals 0 = .slice (A) (n) (c) := hv6 0 (by omega) 17 rfl
        have e1 : vals 1 = .int .i64 (((k : Nat) : Int)) := hv6 1 (by omega) 18 rfl
        have e2 : vals 2 = .slice (A) (k) (c) := hv6 2 (by omega) 19 rfl
        obtain ⟨A20, c20, e3, r20⟩ := hv6 3 (by omega) 20 rfl
        have e4 : vals 4 = .slice (A) (n) (c) := hv6 4 (by omega) 21 rfl
        have e5 : vals 5 = .int .i64 (((k : Nat) : Int)) := hv6 5 (by omega) 22 rfl
        have e6 : vals 6 = .slice (if c = k then A else A.map (·.add (k * 1))) (n - k) (c - k) := hv6 6 (by omega) 23 rfl
        obtain ⟨A24, c24, e7, r24⟩ := hv6 7 (by omega) 24 rfl
        obtain ⟨A25, c25, e8, r25⟩ := hv6 8 (by omega) 25 rfl
        simp only [putAll, Act.put, List.take_succ_cons, List.take_zero, List.drop_succ_cons, List.drop_zero, List.drop_nil, List.take_nil, Nat.reduceAdd, List.setIfInBounds_toArray, List.set_cons_succ, List.set_cons_zero, e0, e1, e2, e3, e4, e5, e6, e7, e8]
        clear hv6 e0 e1 e2 e3 e4 e5 e6 e7 e8
        go_wp2_with fail
        go_ret
        rw [Hrt.out]
        exact ⟨_, _, rfl, r25, hE6⟩
end Go.Proofs.YtkndgpjamijbbaaGreat
namespace Go.Proofs.YtkndgpjamijbbaaGreat
set_option maxRecDepth 100000
open Go Go.RowKit
def lenN (x : Nat) : Nat := if x = 0 then 0 else Nat.log2 x + 1
theorem blen64_any (x : Nat) (hx : x < 256) (w : World) : Calls Tryz.prog 105 #[.int .u64 (x : Int)] w fun e w' => e = .returned (.int .i64 (lenN x : Int)) ∧ w = w' := by
  have h1 : ¬ (4294967296 : Int) ≤ (x : Int) := by omega
  have h2 : ¬ (65536 : Int) ≤ (x : Int) := by omega
  have h3 : ¬ (256 : Int) ≤ (x : Int) := by omega
  go_enter Tryz.func105, Tryz.ntmps105
  go_wp2_with fail
  go_ret
  refine ⟨congrArg (fun z => Ending.returned (.int .i64 z)) ?_, rfl⟩
  clear h1 h2
  revert hx h3
  revert x
  decide +kernel
theorem blen_any (x : Nat) (hx : x < 256) (w : World) : Calls Tryz.prog 92 #[.int .u64 (x : Int)] w fun e w' => e = .returned (.int .i64 (lenN x : Int)) ∧ w = w' := by
  have hb := blen64_any x hx w
  have Hb := Lib.hid hb
  clear hb
  go_enter Tryz.func92, Tryz.ntmps92
  go_wp2_with fail
  refine Hb.out.mono ?_
  rintro e w1 ⟨rfl, rfl⟩
  go_wp2_with fail
  go_ret
  exact ⟨rfl, rfl⟩
theorem bin_shl1 {P : Program} {w : World} (t : TypeId) (e : Nat) (he : e ≤ 8) : (binOp .shl t (.int .i64 1) (.int .i64 (e : Int))).run P w = .ok (.int .i64 ((2 ^ e : Nat) : Int)) w := by
  have h : e = 0 ∨ e = 1 ∨ e = 2 ∨ e = 3 ∨ e = 4 ∨ e = 5 ∨ e = 6 ∨ e = 7 ∨ e = 8 := by omega
  rcases h with rfl | rfl | rfl | rfl | rfl | rfl | rfl | rfl | rfl
  all_goals rfl
theorem tsplit_any (n : Nat) (hn : n ≤ 256) (w : World) : Calls Tryz.prog 66 #[.int .i64 (n : Int)] w fun e w' => e = .returned (.int .i64 ((splitN n : Nat) : Int)) ∧ w = w' := by
  go_enter Tryz.func66, Tryz.ntmps66
  by_cases h2 : n < 2
  · have h2i : (n : Int) < 2 := by omega
    have hs := splitN_small h2
    go_wp2_with fail
    go_ret
    rw [hs]
    exact ⟨rfl, rfl⟩
  · have h2i : ¬ ((n : Int) < 2) := by omega
    obtain ⟨x, rfl⟩ : ∃ x, n = x + 1 := ⟨n - 1, by omega⟩
    have hx0 : x ≠ 0 := by omega
    have hlen : lenN x = Nat.log2 x + 1 := by unfold lenN; rw [if_neg hx0]
    have hs : splitN (x + 1) = 2 ^ Nat.log2 x := by unfold splitN; rw [if_neg h2, Nat.add_sub_cancel]
    have hlog : Nat.log2 x ≤ 8 := by
      have h1 := Nat.log2_self_le hx0
      have h2 : 2 ^ Nat.log2 x < 2 ^ 9 := by omega
      have := (Nat.pow_lt_pow_iff_right (by omega : 1 < 2)).1 h2
      omega
    have hb := fun w' => blen_any x (by omega) w'
    have hcv : ∀ w', (convert 3 95 (.int .i64 (x : Int))).run Tryz.prog w' = .ok (.int .u64 (x : Int)) w' := fun w' => conv_i64_u64 Tryz.underlying3 Tryz.underlying95 _ x rfl (by omega)
    have hsh := fun w' => bin_shl1 (P := Tryz.prog) (w := w') 3 (Nat.log2 x) hlog
    rw [hlen] at hb
    rw [hs]
    have Hb := Lib.hid hb
    clear hb hlen hs
    generalize Nat.log2 x = e at *
    have hw : ∀ e : Nat, e ≤ 8 → wrap64 ((2 : Int) ^ e) = ((2 ^ e : Nat) : Int) := by decide +kernel
    have Hw := hw _ hlog
    clear hw
    have Hw := Lib.hid Hw
    have hsub : ((x + 1 : Nat) : Int) - 1 = (x : Int) := by omega
    go_wp2_with fail
    refine (Hb.out _).mono ?_
    rintro e1 w1 ⟨rfl, rfl⟩
    go_wp2_with fail
    go_ret
    exact ⟨congrArg (fun z => Ending.returned (.int .i64 z)) Hw.out, rfl⟩
end Go.Proofs.YtkndgpjamijbbaaGreat
namespace Go.Proofs.YtkndgpjamijbbaaGreat
set_option maxRecDepth 100000
open Go Go.RowKit
def MP.obk (b n : Nat) (L : List UInt8) : MP Ext := ⟨fun u w => ∃ A c, u = .slice A n c ∧ OB w b A n c L, fun _ _ _ e ⟨A, c, h1, h2⟩ => ⟨A, c, h1, h2.ext e⟩⟩
def LvI (w : World) (Ls : List (List UInt8)) (v i : Value) (wr : World) : Prop :=
  ∃ (p d : Nat) (P : Option Addr), p ≤ Ls.length ∧ i = .int .i64 p ∧ v = .slice P p d ∧ OBC wr w.heap.size P p d ((Ls.take p).map leafH) ∧ Ext w wr
theorem leaf_snoc (Ls : List (List UInt8)) {p : Nat} (hp : p < Ls.length) : (Ls.take (p + 1)).map leafH = (Ls.take p).map leafH ++ [leafH (lb Ls p)] := by
  rw [List.take_succ_eq_append_getElem hp, List.map_append]
  simp [lb, hp]
set_option maxHeartbeats 2000000 in
theorem r6leaves_any (A : Option Addr) (n c : Nat) (Ls : List (List UInt8)) (w : World) (hr : RBB w A n c Ls) (hn : n ≤ 100000) (hb : ∀ a ∈ Ls, a.length ≤ 1000000) :
    Calls Tryz.prog 17 #[.slice A n c] w fun e w' => ∃ P d, e = .returned (.slice P n d) ∧ OBC w' w.heap.size P n d (Ls.map leafH) ∧ Ext w w' := by
  have hl := hr.len
  have Hl := Lib.hid hl
  clear hl
  have hcap := hr.cap
  have hroom := hr.room
  unfold maxLen at hcap
  go_enter Tryz.func17, Tryz.ntmps17
  go_wp2_with fail
  go_loopw [3, 4] (fun v i wr => LvI w Ls v i wr) (fun _ i _ => n - (intOf i).toNat)
  case atStart => exact ⟨0, 0, none, by omega, rfl, rfl, OBC.none_ _ _, Ext.refl _⟩
  case round =>
    obtain ⟨p, d, P, hp, rfl, rfl, own, hEr⟩ := hrel
    rw [Hl.out] at hp
    by_cases hlt : p < n
    · have hpn : (p : Int) < (n : Int) := by omega
      obtain ⟨ad, rfl, hc⟩ := hr.cells (by omega)
      obtain ⟨E, z, y, hcell, hrE⟩ := hc p (by omega)
      have y1 := hEr.cell hcell
      have rE := hrE.ext hEr
      have hz : z ≤ 1000000 := by
        have h1 := hrE.len
        have h2 := hb (lb Ls p) (by unfold lb; rw [List.getD_eq_getElem?_getD, List.getElem?_eq_getElem (by rw [Hl.out]; omega)]; exact List.getElem_mem _)
        omega
      have hcu := r6leaf_any E z y _ wr rE (by omega)
      have Hcu := Lib.hid hcu
      clear hcu hc hcell
      go_wp2_with fail
      refine Hcu.out.mono ?_
      rintro e w2 ⟨E1, z1, rfl, ownC, hE2⟩
      clear Hcu
      have hEa := Ext.new w2 (.cells #[.slice E1 32 z1] 26)
      have hBa := Blk.new w2 26 #[.slice E1 32 z1]
      have own4 := (own.ext hE2).ext hEa
      have hne : 0 < 32 → blk E1 ≠ blk P := by
        intro hz e
        obtain ⟨b, hb⟩ : ∃ b, blk E1 = some b := by
          obtain ⟨ad', h1, _⟩ := ownC.rb.cells (by omega)
          rw [h1]
          exact ⟨_, rfl⟩
        have h1 := ownC.lt hb
        have h2 := own.lt (e.symm.trans hb)
        omega
      go_wp2_with (refine appbc_law (base := w.heap.size) (Y := leafH (lb Ls p)) rfl rfl rfl rfl (by rw [add_plain]; exact hBa.cell (i := 0) rfl) own4 (ownC.rb.ext hEa) hne ((hEr.trans hE2).trans hEa).size (by omega) ?_; intro P5 d5 w5 own5 g5)
      go_roundw
      case rel =>
        rw [← leaf_snoc Ls (by rw [Hl.out]; omega)] at own5
        exact ⟨p + 1, d5, P5, by rw [Hl.out]; omega, by go_num, rfl, own5, ((hEr.trans hE2).trans hEa).then_grown g5 (fun b hb => (own4.lt hb).1)⟩
      case measure => simp [intOf]; omega
    · obtain rfl : p = n := by omega
      have hpn : ¬ (p : Int) < (p : Int) := by omega
      rw [List.take_of_length_le (by rw [Hl.out]; omega)] at own
      go_wp2_with fail
      go_ret
      exact ⟨P, d, rfl, own, hEr⟩
set_option maxHeartbeats 4000000 in
theorem troot_any : ∀ (n : Nat) (A : Option Addr) (c : Nat) (Ls : List (List UInt8)) (w : World), n ≤ 256 → RBB w A n c Ls → (∀ a ∈ Ls, a.length = 32) →
    Calls Tryz.prog 41 #[.slice A n c] w fun e w' => ∃ A' c', e = .returned (.slice A' 32 c') ∧ OB w' w.heap.size A' 32 c' (rootL Ls) ∧ Ext w w' := by
  intro n
  induction n using Nat.strongRecOn with
  | ind n ih =>
    intro A c Ls w hn hr h32
    have hl := hr.len
    have hroom := hr.room
    have hcap := hr.cap
    unfold maxLen at hcap
    go_enter Tryz.func41, Tryz.ntmps41
    by_cases h0 : n = 0
    · subst h0
      have e0 : Ls = [] := List.eq_nil_of_length_eq_zero hl
      subst e0
      go_wp2_with fail
      refine (hsum_any none 0 0 [] w (RB.nil_ w) (by omega)).mono ?_
      rintro e w1 ⟨A', c', rfl, own, hE⟩
      go_wp2_with fail
      go_ret
      rw [rootL_nil]
      exact ⟨A', c', rfl, own, hE⟩
    · by_cases h1 : n = 1
      · subst h1
        obtain ⟨a, rfl⟩ : ∃ a, Ls = [a] := by
          match Ls, hl with
          | [a], _ => exact ⟨a, rfl⟩
        obtain ⟨ad, rfl, hc⟩ := hr.cells (by omega)
        obtain ⟨B, m, d, hcell, rB⟩ := hc 0 (by omega)
        have hm : a.length = 32 := h32 a (List.mem_singleton.2 rfl)
        have rB' : RB w B m d a := rB
        obtain rfl : m = 32 := rB'.len.symm.trans hm
        have hcell' : w.cell? ad = some (.slice B 32 d) := hcell
        go_wp2_with (refine app_own (N := 32) (LM := a) rfl rfl rfl rfl (Ext.refl _) (OB.none_ _ _) rB' rfl rfl (by omega) ?_; intro B1 d1 w1 own1 hE1)
        go_ret
        rw [rootL_one]
        exact ⟨B1, d1, rfl, own1, hE1⟩
      · have hsp := splitN_in (n := n) (by omega)
        have hne0 : ¬ ((n : Int) = 0) := by omega
        have hne1 : ¬ ((n : Int) = 1) := by omega
        have hrt := rootL_more (l := Ls) (by omega)
        rw [hl] at hrt
        have Hrt := Lib.hid hrt
        have hs := tsplit_any n hn w
        have Hs := Lib.hid hs
        clear hrt hs
        go_wp2_with fail
        refine Hs.out.mono ?_
        rintro e w1 ⟨rfl, rfl⟩
        generalize splitN n = k at *
        clear Hs
        have l1 : ∀ a ∈ Ls.take k, a.length = 32 := fun a ha => h32 a (List.mem_of_mem_take ha)
        have l2 : ∀ a ∈ Ls.drop k, a.length = 32 := fun a ha => h32 a (List.mem_of_mem_drop ha)
        have hr1 := hr.fst (k := k) (by omega)
        have hr2 := hr.snd (k := k) (by omega)
        go_upto_region 7 with (fail)
        refine par_ext (n := 9) (by kernel_rfl) [.is (.slice (A) (n) (c)), .is (.int .i64 (((k : Nat) : Int))), .is (.slice (A) (k) (c)), .rk (32) (rootL (Ls.take k)), .is (.slice (A) (n) (c)), .is (.int .i64 (((k : Nat) : Int))), .is (.slice (if c = k then A else (A : Option Addr).map (·.add (k * 1))) (n - k) (c - k)), .rk (32) (rootL (Ls.drop k)), .obk (w.heap.size) (32) (nodeH (rootL (Ls.take k)) (rootL (Ls.drop k)))] rfl ⟨?_, ?_, ?_, ?_, ?_, ?_, ?_, ?_, ?_, trivial⟩ ?_
        · refine stepE rfl fun sdn sa sw sE sd sk => ?_
          have h0 : sa.eval (.tmp 0) = .slice (A) (n) (c) := sk.old 0 rfl
          exact Runs.move rfl h0 ⟨Ext.refl _, rfl⟩
        · refine stepE rfl fun sdn sa sw sE sd sk => ?_
          have h3 : sa.eval (.tmp 3) = .int .i64 (((k : Nat) : Int)) := sk.old 3 rfl
          exact Runs.move rfl h3 ⟨Ext.refl _, rfl⟩
        · refine stepE rfl fun sdn sa sw sE sd sk => ?_
          have h18 : sa.eval (.tmp 18) = .slice (A) (n) (c) := sk.fact 0 18 rfl (sd 0 rfl)
          have h19 : sa.eval (.tmp 19) = .int .i64 (((k : Nat) : Int)) := sk.fact 1 19 rfl (sd 1 rfl)
          exact Runs.slice rfl h18 (by simp only [Option.map_some, Option.map_none, h19]; exact run_cut_h Tryz.underlying33 infZZ_eq k (by first | rfl | omega) (by omega)) ⟨Ext.refl _, rfl⟩
        · refine stepE rfl fun sdn sa sw sE sd sk => ?_
          have h20 : sa.eval (.tmp 20) = .slice (A) (k) (c) := sk.fact 2 20 rfl (sd 2 rfl)
          refine Runs.call (f := 41) (vs := [.slice (A) (k) (c)]) rfl rfl rfl (by simp only [List.map_toArray, List.map_cons, List.map_nil, h20] <;> rfl) (ent41 _ _) ((ih (k) (by omega) _ _ _ sw (by omega) (hr1.ext sE) l1).mono ?_); rintro e w' ⟨A', c', rfl, own, hx⟩; exact ⟨_, rfl, hx, A', c', rfl, own.rb⟩
        · refine stepE rfl fun sdn sa sw sE sd sk => ?_
          have h0 : sa.eval (.tmp 0) = .slice (A) (n) (c) := sk.old 0 rfl
          exact Runs.move rfl h0 ⟨Ext.refl _, rfl⟩
        · refine stepE rfl fun sdn sa sw sE sd sk => ?_
          have h3 : sa.eval (.tmp 3) = .int .i64 (((k : Nat) : Int)) := sk.old 3 rfl
          exact Runs.move rfl h3 ⟨Ext.refl _, rfl⟩
        · refine stepE rfl fun sdn sa sw sE sd sk => ?_
          have h22 : sa.eval (.tmp 22) = .slice (A) (n) (c) := sk.fact 4 22 rfl (sd 4 rfl)
          have h23 : sa.eval (.tmp 23) = .int .i64 (((k : Nat) : Int)) := sk.fact 5 23 rfl (sd 5 rfl)
          exact Runs.slice rfl h22 (by simp only [Option.map_some, Option.map_none, h23]; exact run_cut_l Tryz.underlying33 infZZ_eq infZZ_size k (by first | rfl | omega) (by omega)) ⟨Ext.refl _, rfl⟩
        · refine stepE rfl fun sdn sa sw sE sd sk => ?_
          have h24 : sa.eval (.tmp 24) = .slice (if c = k then A else (A : Option Addr).map (·.add (k * 1))) (n - k) (c - k) := sk.fact 6 24 rfl (sd 6 rfl)
          refine Runs.call (f := 41) (vs := [.slice (if c = k then A else (A : Option Addr).map (·.add (k * 1))) (n - k) (c - k)]) rfl rfl rfl (by simp only [List.map_toArray, List.map_cons, List.map_nil, h24] <;> rfl) (ent41 _ _) ((ih (n - k) (by omega) _ _ _ sw (by omega) (hr2.ext sE) l2).mono ?_); rintro e w' ⟨A', c', rfl, own, hx⟩; exact ⟨_, rfl, hx, A', c', rfl, own.rb⟩
        · refine stepE rfl fun sdn sa sw sE sd sk => ?_
          obtain ⟨A21, c21, h21, r21⟩ := sk.fact 3 21 rfl (sd 3 rfl)
          obtain ⟨A25, c25, h25, r25⟩ := sk.fact 7 25 rfl (sd 7 rfl)
          refine Runs.call (f := 67) (vs := [.slice (A21) (32) (c21), .slice (A25) (32) (c25)]) rfl rfl rfl (by simp only [List.map_toArray, List.map_cons, List.map_nil, h21, h25] <;> rfl) (ent67 _ _) ((trnode_any _ _ _ _ _ _ _ _ sw r21 r25 (by omega)).mono ?_); rintro e w' ⟨A', c', rfl, own, hx⟩; exact ⟨_, rfl, hx, A', c', rfl, own.base sE.size⟩
        intro vals W7 hE7 hv7
        have e0 : vals 0 = .slice (A) (n) (c) := hv7 0 (by omega) 18 rfl
        have e1 : vals 1 = .int .i64 (((k : Nat) : Int)) := hv7 1 (by omega) 19 rfl
        have e2 : vals 2 = .slice (A) (k) (c) := hv7 2 (by omega) 20 rfl
        obtain ⟨A21, c21, e3, r21⟩ := hv7 3 (by omega) 21 rfl
        have e4 : vals 4 = .slice (A) (n) (c) := hv7 4 (by omega) 22 rfl
        have e5 : vals 5 = .int .i64 (((k : Nat) : Int)) := hv7 5 (by omega) 23 rfl
        have e6 : vals 6 = .slice (if c = k then A else (A : Option Addr).map (·.add (k * 1))) (n - k) (c - k) := hv7 6 (by omega) 24 rfl
        obtain ⟨A25, c25, e7, r25⟩ := hv7 7 (by omega) 25 rfl
        obtain ⟨A26, c26, e8, o26⟩ := hv7 8 (by omega) 26 rfl
        simp only [putAll, Act.put, List.take_succ_cons, List.take_zero, List.drop_succ_cons, List.drop_zero, List.drop_nil, List.take_nil, Nat.reduceAdd, List.setIfInBounds_toArray, List.set_cons_succ, List.set_cons_zero, e0, e1, e2, e3, e4, e5, e6, e7, e8]
        clear hv7 e0 e1 e2 e3 e4 e5 e6 e7 e8
        go_wp2_with fail
        go_ret
        rw [Hrt.out]
        exact ⟨_, _, rfl, o26, hE7⟩
end Go.Proofs.YtkndgpjamijbbaaGreat

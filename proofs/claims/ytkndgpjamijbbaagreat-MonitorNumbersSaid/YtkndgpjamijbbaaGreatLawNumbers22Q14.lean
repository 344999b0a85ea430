/-
  ref4.Root, walked. once.Root and ref4.Root in one sentence, for any list. Owners' trees in plain words: levels, paths, and where a path leads. Plain theorems. keep.Seed, walked. A row of byte slices of the call's own: one is turned. once.Sign again: each part lies in a block of the call's own. sign.above, sign.leaves, sign.Public and sign.Sign, walked. sign.Sign, walked.
-/
import Derived.Test.YtkndgpjamijbbaaGreatLawNumbers22Q13
import Derived.Test.YtkndgpjamijbbaaGreatLawNumbers22Q12
import Derived.Test.YtkndgpjamijbbaaGreatLawNumbers22Q4
import Derived.Lib.SlBytesConst
namespace Go.Proofs.YtkndgpjamijbbaaGreat
set_option maxRecDepth 100000
open Go Go.RowKit
theorem bin_quo2 {P : Program} {w : World} (t : TypeId) (k : Nat) (hk : k < 100) : (binOp .quo t (.int .i64 (k : Int)) (.int .i64 2)).run P w = .ok (.int .i64 ((k / 2 : Nat) : Int)) w := by
  have h : Int.tdiv (k : Int) 2 = (k : Int) / 2 := Int.tdiv_eq_ediv_of_nonneg (by omega)
  have e : IntKind.i64.wrap ((k : Int) / 2) = (k : Int) / 2 := i64_wrap_id (by omega) (by omega)
  simp [binOp, Op.intArith, Op.intDiv, h, e]
theorem bin_rem2 {P : Program} {w : World} (t : TypeId) (k : Nat) (hk : k < 100) : (binOp .rem t (.int .i64 (k : Int)) (.int .i64 2)).run P w = .ok (.int .i64 ((k % 2 : Nat) : Int)) w := by
  have h : Int.tmod (k : Int) 2 = (k : Int) % 2 := Int.tmod_eq_emod_of_nonneg (by omega)
  have e : IntKind.i64.wrap ((k : Int).tmod 2) = (k : Int) % 2 := by rw [h]; exact i64_wrap_id (by omega) (by omega)
  simp [binOp, Op.intArith, Op.intDiv, e, h]
theorem r4flat_one (f : Nat → List UInt8) (k : Nat) : ((List.range (k + 1)).map f).flatten = ((List.range k).map f).flatten ++ f k := by
  rw [List.range_succ, List.map_append, List.flatten_append]
  simp
def RootB (w : World) (dg : UInt32) (Ls : List (List UInt8)) (v i : Value) (wr : World) : Prop :=
  ∃ (k d : Nat) (P : Option Addr), k ≤ 64 ∧ i = .int .i64 k ∧ v = .slice P (32 * k) d ∧ OB wr w.heap.size P (32 * k) d ((List.range k).map (rootPart dg Ls)).flatten ∧ (∀ j, j < k → (lb Ls j).length = 32) ∧ Ext w wr
set_option maxHeartbeats 4000000 in
theorem r4root_any (B A : Option Addr) (m d n c : Nat) (M : List UInt8) (Ls : List (List UInt8)) (w : World) (hm : RB w B m d M) (hmn : m ≤ 140737488355000) (hr : RBB w A n c Ls) :
    Calls Tryz.prog 58 #[.slice B m d, .slice A n c] w fun e w' => (rootOK Ls → ∃ A' c', e = .returned (.tuple #[.slice A' 32 c', .bool true]) ∧ OB w' w.heap.size A' 32 c' (rootV M Ls)) ∧ (¬ rootOK Ls → e = .returned (.tuple #[.slice none 0 0, .bool false])) ∧ Ext w w' := by
  have hln := hr.len
  have Hn := Lib.hid hln
  clear hln
  by_cases h64 : n = 64
  · subst h64
    go_enter Tryz.func58, Tryz.ntmps58
    go_wp2_with fail
    refine (r4digest_any B m d M w hm hmn).mono ?_
    rintro e w1 ⟨rfl, hE1⟩
    obtain ⟨dg, hdg⟩ : ∃ dg, dg = digestW M := ⟨_, rfl⟩
    rw [← hdg]
    have Hdg := Lib.hid hdg
    clear hdg
    go_wp2_with fail
    go_loopw [7, 8] (fun v i wr => RootB w dg Ls v i wr) (fun _ i _ => 64 - (intOf i).toNat)
    case atStart => exact ⟨0, 0, none, by omega, rfl, rfl, OB.none_ _ _, fun j hj => absurd hj (Nat.not_lt_zero _), hE1⟩
    case round =>
      obtain ⟨k, q, P, hk, rfl, rfl, own, hall, hEr⟩ := hrel
      have Hall := Lib.hid hall
      clear hall
      by_cases hlt : k < 64
      · have hki : (k : Int) < 64 := by omega
        obtain ⟨ad, rfl, hc⟩ := hr.cells (by omega)
        obtain ⟨E, z, y, hcell, hrE⟩ := hc k hlt
        have y1 := hEr.cell hcell
        have rE := hrE.ext hEr
        have hEl := rE.len
        by_cases hz : z = 32
        · subst hz
          have hEl2 := Lib.hid hEl
          clear hEl hc hcell
          go_upto_region 11 with (fail)
          refine seq_ext (n := 11) (by kernel_rfl) [.is (.int .u32 (u32i (dg))), .is (.int .i64 (((k : Nat) : Int))), .is (.int .i64 (((k / 2 : Nat) : Int))), .is (.int .i64 ((31 : Int) - ((k / 2 : Nat) : Int))), .is (.int .u64 ((31 - k / 2 : Nat) : Int)), .is (.int .u32 (u32i (shr dg (31 - k / 2)))), .is (.int .u32 (u32i ((shr dg (31 - k / 2)) &&& (1 : UInt32)))), .is (.int .i64 (u32i (shr dg (31 - k / 2) &&& 1))), .is (.int .i64 (((k : Nat) : Int))), .is (.int .i64 (((k % 2 : Nat) : Int))), .is (.bool (toldB dg (k / 2) (k % 2)))] rfl ⟨?_, ?_, ?_, ?_, ?_, ?_, ?_, ?_, ?_, ?_, ?_, trivial⟩ ?_
          · refine stepE rfl fun sdn sa sw sE sd sk => ?_
            have h6 : sa.eval (.tmp 6) = .int .u32 (u32i (dg)) := sk.old 6 rfl
            exact Runs.move rfl h6 ⟨Ext.refl _, rfl⟩
          · refine stepE rfl fun sdn sa sw sE sd sk => ?_
            have h8 : sa.eval (.tmp 8) = .int .i64 (((k : Nat) : Int)) := sk.old 8 rfl
            exact Runs.move rfl h8 ⟨Ext.refl _, rfl⟩
          · refine stepE rfl fun sdn sa sw sE sd sk => ?_
            have h32 : sa.eval (.tmp 32) = .int .i64 (((k : Nat) : Int)) := sk.fact 1 32 rfl (sd 1 rfl)
            exact Runs.bin rfl h32 rfl (eqGuard_bin rfl) (bin_quo2 _ k (by omega)) ⟨Ext.refl _, rfl⟩
          · refine stepE rfl fun sdn sa sw sE sd sk => ?_
            have h33 : sa.eval (.tmp 33) = .int .i64 (((k / 2 : Nat) : Int)) := sk.fact 2 33 rfl (sd 2 rfl)
            exact Runs.bin rfl rfl h33 (eqGuard_bin rfl) (bin_sub64 _ _ _ (by omega) (by omega)) ⟨Ext.refl _, rfl⟩
          · refine stepE rfl fun sdn sa sw sE sd sk => ?_
            have h34 : sa.eval (.tmp 34) = .int .i64 ((31 : Int) - ((k / 2 : Nat) : Int)) := sk.fact 3 34 rfl (sd 3 rfl)
            exact Runs.conv rfl h34 (conv_i64_u64 Tryz.underlying3 Tryz.underlying95 _ (31 - k / 2) (by omega) (by omega)) ⟨Ext.refl _, rfl⟩
          · refine stepE rfl fun sdn sa sw sE sd sk => ?_
            have h31 : sa.eval (.tmp 31) = .int .u32 (u32i (dg)) := sk.fact 0 31 rfl (sd 0 rfl)
            have h35 : sa.eval (.tmp 35) = .int .u64 ((31 - k / 2 : Nat) : Int) := sk.fact 4 35 rfl (sd 4 rfl)
            exact Runs.bin rfl h31 h35 (eqGuard_bin rfl) (bin_shr32 _ _ (31 - k / 2) _ rfl (by omega)) ⟨Ext.refl _, rfl⟩
          · refine stepE rfl fun sdn sa sw sE sd sk => ?_
            have h36 : sa.eval (.tmp 36) = .int .u32 (u32i (shr dg (31 - k / 2))) := sk.fact 5 36 rfl (sd 5 rfl)
            have hone : (.int .u32 1 : Value) = .int .u32 (u32i (1 : UInt32)) := rfl
            exact Runs.bin (v := .int .u32 (u32i (1 : UInt32))) rfl h36 hone (eqGuard_bin rfl) (bin_and32 _ _ (1 : UInt32)) ⟨Ext.refl _, rfl⟩
          · refine stepE rfl fun sdn sa sw sE sd sk => ?_
            have h37 : sa.eval (.tmp 37) = .int .u32 (u32i ((shr dg (31 - k / 2)) &&& (1 : UInt32))) := sk.fact 6 37 rfl (sd 6 rfl)
            exact Runs.conv rfl h37 (conv_u32_i64' Tryz.underlying56 Tryz.underlying3 _) ⟨Ext.refl _, rfl⟩
          · refine stepE rfl fun sdn sa sw sE sd sk => ?_
            have h8 : sa.eval (.tmp 8) = .int .i64 (((k : Nat) : Int)) := sk.old 8 rfl
            exact Runs.move rfl h8 ⟨Ext.refl _, rfl⟩
          · refine stepE rfl fun sdn sa sw sE sd sk => ?_
            have h39 : sa.eval (.tmp 39) = .int .i64 (((k : Nat) : Int)) := sk.fact 8 39 rfl (sd 8 rfl)
            exact Runs.bin rfl h39 rfl (eqGuard_bin rfl) (bin_rem2 _ k (by omega)) ⟨Ext.refl _, rfl⟩
          · refine stepE rfl fun sdn sa sw sE sd sk => ?_
            have h38 : sa.eval (.tmp 38) = .int .i64 (u32i (shr dg (31 - k / 2) &&& 1)) := sk.fact 7 38 rfl (sd 7 rfl)
            have h40 : sa.eval (.tmp 40) = .int .i64 (((k % 2 : Nat) : Int)) := sk.fact 9 40 rfl (sd 9 rfl)
            exact Runs.bin rfl h38 h40 (by rfl) (bin_eql _ _ _ _) ⟨Ext.refl _, rfl⟩
          intro vals w2 hE2 hv2
          have e0 : vals 0 = .int .u32 (u32i (dg)) := hv2 0 (by omega) 31 rfl
          have e1 : vals 1 = .int .i64 (((k : Nat) : Int)) := hv2 1 (by omega) 32 rfl
          have e2 : vals 2 = .int .i64 (((k / 2 : Nat) : Int)) := hv2 2 (by omega) 33 rfl
          have e3 : vals 3 = .int .i64 ((31 : Int) - ((k / 2 : Nat) : Int)) := hv2 3 (by omega) 34 rfl
          have e4 : vals 4 = .int .u64 ((31 - k / 2 : Nat) : Int) := hv2 4 (by omega) 35 rfl
          have e5 : vals 5 = .int .u32 (u32i (shr dg (31 - k / 2))) := hv2 5 (by omega) 36 rfl
          have e6 : vals 6 = .int .u32 (u32i ((shr dg (31 - k / 2)) &&& (1 : UInt32))) := hv2 6 (by omega) 37 rfl
          have e7 : vals 7 = .int .i64 (u32i (shr dg (31 - k / 2) &&& 1)) := hv2 7 (by omega) 38 rfl
          have e8 : vals 8 = .int .i64 (((k : Nat) : Int)) := hv2 8 (by omega) 39 rfl
          have e9 : vals 9 = .int .i64 (((k % 2 : Nat) : Int)) := hv2 9 (by omega) 40 rfl
          have e10 : vals 10 = .bool (toldB dg (k / 2) (k % 2)) := hv2 10 (by omega) 41 rfl
          simp only [putAll, Act.put, List.take_succ_cons, List.take_zero, List.drop_succ_cons, List.drop_zero, List.drop_nil, List.take_nil, Nat.reduceAdd, List.setIfInBounds_toArray, List.set_cons_succ, List.set_cons_zero, e0, e1, e2, e3, e4, e5, e6, e7, e8, e9, e10]
          clear hv2 e0 e1 e2 e3 e4 e5 e6 e7 e8 e9 e10
          have rE2 := rE.ext hE2
          cases htd : toldB dg (k / 2) (k % 2) with
          | true =>
            have Htd := Lib.hid htd
            clear htd
            have r1 := RBB.of1 rE2 26
            have hE3 := Ext.new w2 (.cells #[.slice E 32 y] 26)
            have hta := rtagged_any 11 _ 1 1 _ _ r1 (by simp only [List.flatten_cons, List.flatten_nil, List.append_nil, hEl2.out]; omega)
            have e11 : u8i 11 = 11 := rfl
            rw [e11, show [lb Ls k].flatten = lb Ls k from by simp] at hta
            have Hta := Lib.hid hta
            clear hta
            go_wp2_with fail
            refine Hta.out.mono ?_
            rintro e w3 ⟨A3, c3, rfl, own3, hE4⟩
            clear Hta
            have hE24 := hE2.trans (hE3.trans hE4)
            have hEw := hEr.trans hE24
            have hY : RB w3 A3 32 c3 (rootPart dg Ls k) := by
              unfold rootPart
              rw [if_pos Htd.out]
              exact own3.rb
            go_wp2_with (refine app_own (w0 := w) (N := 32 * (k + 1)) (LM := ((List.range (k + 1)).map (rootPart dg Ls)).flatten) rfl rfl rfl rfl hEw (own.ext hE24) hY (by omega) (r4flat_one _ k).symm (by omega) ?_; intro P5 d5 w5 own5 hE5)
            go_roundw
            case rel =>
              refine ⟨k + 1, d5, P5, by omega, by go_num, rfl, own5, fun j hj => ?_, hE5⟩
              by_cases hjk : j = k
              · rw [hjk]; exact hEl2.out
              · exact Hall.out j (by omega)
            case measure => simp [intOf]; omega
          | false =>
            have Htd := Lib.hid (show ¬ toldB dg (k / 2) (k % 2) = true by rw [htd]; simp)
            clear htd
            have hEw := hEr.trans hE2
            have hY : RB w2 E 32 y (rootPart dg Ls k) := by
              unfold rootPart
              rw [if_neg Htd.out]
              exact rE2
            go_wp2_with (refine app_own (w0 := w) (N := 32 * (k + 1)) (LM := ((List.range (k + 1)).map (rootPart dg Ls)).flatten) rfl rfl rfl rfl hEw (own.ext hE2) hY (by omega) (r4flat_one _ k).symm (by omega) ?_; intro P5 d5 w5 own5 hE5)
            go_roundw
            case rel =>
              refine ⟨k + 1, d5, P5, by omega, by go_num, rfl, own5, fun j hj => ?_, hE5⟩
              by_cases hjk : j = k
              · rw [hjk]; exact hEl2.out
              · exact Hall.out j (by omega)
            case measure => simp [intOf]; omega
        · have hno : ¬ rootOK Ls := fun h => hz (by rw [← hEl]; exact h.2 k hlt)
          have Hno := Lib.hid hno
          have hzi : ¬ ((z : Int) = 32) := by omega
          clear hno hEl hc hcell
          go_wp2_with fail
          go_ret2
          exact ⟨fun h => absurd h Hno.out, fun _ => rfl, hEr⟩
      · obtain rfl : k = 64 := by omega
        have hok : rootOK Ls := ⟨Hn.out, Hall.out⟩
        have Hok := Lib.hid hok
        have hplen : ∀ i, i < 64 → (rootPart dg Ls i).length = 32 := by
          intro i hi
          unfold rootPart
          split
          · exact tagged_length _ _
          · exact Hall.out i hi
        have r1 := RBB.of1 own.rb 26
        have hEa := Ext.new wr (.cells #[.slice P (32 * 64) q] 26)
        have hta := rtagged_any 12 _ 1 1 _ _ r1 (by simp only [List.flatten_cons, List.flatten_nil, List.append_nil]; rw [flat32' _ 64 hplen]; omega)
        have e12 : u8i 12 = 12 := rfl
        rw [e12, show [((List.range 64).map (rootPart dg Ls)).flatten].flatten = ((List.range 64).map (rootPart dg Ls)).flatten from by simp] at hta
        have Hta := Lib.hid hta
        clear hta hok hplen
        go_wp2_with fail
        refine Hta.out.mono ?_
        rintro e w3 ⟨A3, c3, rfl, own3, hE4⟩
        clear Hta
        go_wp2_with fail
        go_ret2
        refine ⟨fun _ => ⟨A3, c3, rfl, ?_⟩, fun h => absurd Hok.out h, (hEr.trans hEa).trans hE4⟩
        unfold rootV
        rw [← Hdg.out]
        exact own3.base (hEr.trans hEa).size
  · have hno : ¬ rootOK Ls := fun h => h64 (by rw [← Hn.out]; exact h.1)
    have Hno := Lib.hid hno
    have hzi : ¬ ((n : Int) = 64) := by omega
    clear hno
    go_enter Tryz.func58, Tryz.ntmps58
    go_wp2_with fail
    go_ret2
    exact ⟨fun h => absurd h Hno.out, fun _ => rfl, Ext.refl _⟩
end Go.Proofs.YtkndgpjamijbbaaGreat
namespace Go.Proofs.YtkndgpjamijbbaaGreat
set_option maxRecDepth 100000
open Go Go.RowKit
theorem RBB.take {w : World} {A : Option Addr} {n c : Nat} {Ls : List (List UInt8)} (h : RBB w A n c Ls) {k : Nat} (hk : k ≤ n) : RBB w A k c (Ls.take k) :=
  ⟨by rw [List.length_take, h.len]; omega, Nat.le_trans hk h.room, h.cap, fun h0 => by
    obtain ⟨ad, ha, hc⟩ := h.cells (by omega)
    refine ⟨ad, ha, fun j hj => ?_⟩
    obtain ⟨B, m, d, h1, h2⟩ := hc j (by omega)
    refine ⟨B, m, d, h1, ?_⟩
    have e : lb (Ls.take k) j = lb Ls j := by unfold lb; simp [List.getElem?_take, hj]
    rw [e]
    exact h2⟩
end Go.Proofs.YtkndgpjamijbbaaGreat
namespace Go.Proofs.YtkndgpjamijbbaaGreat
set_option maxRecDepth 100000
open Go Go.RowKit
def nodeV (a b : List UInt8) : List UInt8 := tagged 14 (a ++ b)
def upL (Ls : List (List UInt8)) : List (List UInt8) := (List.range (Ls.length / 2)).map fun i => nodeV (lb Ls (2 * i)) (lb Ls (2 * i + 1))
def leavesL (S : List UInt8) : List (List UInt8) := (List.range 16).map fun k => publicL S ((k : Nat) : Int)
def lev (S : List UInt8) : Nat → List (List UInt8)
  | 0 => leavesL S
  | h + 1 => upL (lev S h)
def ownP (S : List UInt8) : List UInt8 := lb (lev S 4) 0
def pathB (S : List UInt8) (k h : Nat) : List UInt8 := lb (lev S h) (k / 2 ^ h + 1 - 2 * (k / 2 ^ h % 2))
def pathL (S : List UInt8) (k : Nat) : List (List UInt8) := (List.range 4).map (pathB S k)
def climbB (k h : Nat) (t o : List UInt8) : List UInt8 := if k / 2 ^ h % 2 = 0 then nodeV t o else nodeV o t
def climb (k : Nat) (t : List UInt8) (path : List (List UInt8)) : Nat → List UInt8
  | 0 => t
  | h + 1 => climbB k h (climb k t path h) (lb path h)
theorem nodeV_length (a b : List UInt8) : (nodeV a b).length = 32 := tagged_length _ _
theorem upL_length (Ls : List (List UInt8)) : (upL Ls).length = Ls.length / 2 := by simp [upL]
theorem lev_length (S : List UInt8) (h : Nat) : (lev S h).length = 16 / 2 ^ h := by
  induction h with
  | zero => simp [lev, leavesL]
  | succ h ih =>
    show (upL (lev S h)).length = _
    rw [upL_length, ih, Nat.div_div_eq_div_mul]
    rfl
theorem lb_upL (Ls : List (List UInt8)) {i : Nat} (h : i < Ls.length / 2) : lb (upL Ls) i = nodeV (lb Ls (2 * i)) (lb Ls (2 * i + 1)) := by
  unfold upL
  rw [lb_range _ h]
theorem publicL_length (S : List UInt8) (k : Int) : (publicL S k).length = 32 := tagged_length _ _
theorem lb_lev_length (S : List UInt8) (h i : Nat) (hi : i < 16 / 2 ^ h) : (lb (lev S h) i).length = 32 := by
  cases h with
  | zero =>
    show (lb (leavesL S) i).length = 32
    unfold leavesL
    rw [lb_range _ (by simpa using hi)]
    exact publicL_length _ _
  | succ h =>
    show (lb (upL (lev S h)) i).length = 32
    have h2 : i < (lev S h).length / 2 := by
      rw [lev_length, Nat.div_div_eq_div_mul]
      exact hi
    rw [lb_upL _ h2]
    exact nodeV_length _ _
theorem step_lt {k h : Nat} (hk : k < 16) (hh : h < 4) : k / 2 ^ h + 1 - 2 * (k / 2 ^ h % 2) < 16 / 2 ^ h ∧ k / 2 ^ (h + 1) < 16 / 2 ^ h / 2 ∧ k / 2 ^ (h + 1) = k / 2 ^ h / 2 := by
  have h3 : k / 2 ^ (h + 1) = k / 2 ^ h / 2 := by rw [Nat.pow_succ, Nat.div_div_eq_div_mul]
  refine ⟨?_, ?_, h3⟩
  · obtain rfl | rfl | rfl | rfl : h = 0 ∨ h = 1 ∨ h = 2 ∨ h = 3 := by omega
    all_goals simp only [Nat.reducePow, Nat.reduceDiv, Nat.div_one]; omega
  · obtain rfl | rfl | rfl | rfl : h = 0 ∨ h = 1 ∨ h = 2 ∨ h = 3 := by omega
    all_goals simp only [Nat.reducePow, Nat.reduceAdd, Nat.reduceDiv, Nat.div_one]; omega
theorem climb_path (S : List UInt8) (k : Nat) (hk : k < 16) : ∀ h, h ≤ 4 → climb k (publicL S ((k : Nat) : Int)) (pathL S k) h = lb (lev S h) (k / 2 ^ h) := by
  intro h
  induction h with
  | zero =>
    intro _
    show publicL S ((k : Nat) : Int) = lb (leavesL S) (k / 1)
    unfold leavesL
    rw [Nat.div_one, lb_range _ hk]
  | succ h ih =>
    intro hh
    have h1 := step_lt hk (h := h) (by omega)
    show climbB k h (climb k _ (pathL S k) h) (lb (pathL S k) h) = lb (upL (lev S h)) (k / 2 ^ (h + 1))
    rw [ih (by omega), lb_upL _ (by rw [lev_length]; exact h1.2.1), h1.2.2]
    unfold pathL
    rw [lb_range _ (by omega)]
    unfold climbB pathB
    generalize k / 2 ^ h = q
    by_cases h0 : q % 2 = 0
    · rw [if_pos h0, h0, show q + 1 - 2 * 0 = 2 * (q / 2) + 1 from by omega]
      congr 2
      omega
    · have h2 : q % 2 = 1 := by omega
      rw [if_neg h0, h2, show q + 1 - 2 * 1 = 2 * (q / 2) from by omega]
      congr 2
      omega
theorem climb_own (S : List UInt8) (k : Nat) (hk : k < 16) : climb k (publicL S ((k : Nat) : Int)) (pathL S k) 4 = ownP S := by
  rw [climb_path S k hk 4 (by omega), show k / 2 ^ 4 = 0 from Nat.div_eq_of_lt hk]
  rfl
end Go.Proofs.YtkndgpjamijbbaaGreat
namespace Go.Proofs.YtkndgpjamijbbaaGreat
set_option maxRecDepth 100000
open Go Go.RowKit
def seedL (key : Int) : List UInt8 := tagged 99 [UInt8.ofNat ((within key 0 1000).toNat % 5)]
set_option maxHeartbeats 1000000 in
theorem seed_any (key : Int) (w : World) (h0 : -9223372036854775808 ≤ key) (h1 : key ≤ 9223372036854775807) :
    Calls Tryz.prog 10 #[.int .i64 key] w fun e w' => ∃ A' c', e = .returned (.slice A' 32 c') ∧ OB w' w.heap.size A' 32 c' (seedL key) ∧ Ext w w' := by
  obtain ⟨k, hk⟩ : ∃ k : Nat, within key 0 1000 = k := ⟨_, (Int.toNat_of_nonneg (within_in key 0 1000 (by omega)).1).symm⟩
  have hwi := within_any key 0 1000 w h0 h1 (by omega) (by omega) (by omega)
  have hs : seedL key = tagged 99 [UInt8.ofNat (k % 5)] := by unfold seedL; rw [hk]; rfl
  rw [hk] at hwi
  rw [hs]
  have Hwi := Lib.hid hwi
  clear hwi hs hk
  go_enter Tryz.func10, Tryz.ntmps10
  go_wp2_with fail
  refine Hwi.out.mono ?_
  rintro e w1 ⟨rfl, rfl⟩
  have e1 : (k : Int) % 5 = u8i (UInt8.ofNat (k % 5)) := by
    unfold u8i
    rw [UInt8.toNat_ofNat']
    omega
  have r1 := RB.lit w [UInt8.ofNat (k % 5)] (n := 1) rfl (small_maxLen (by decide))
  have hE1 := Ext.new w (.cells (bv [UInt8.ofNat (k % 5)]).toArray 5)
  have r2 := RBB.of1 r1 26
  have hE2 := Ext.new (w.alloc (.cells (bv [UInt8.ofNat (k % 5)]).toArray 5)) (.cells #[.slice (some ⟨w.heap.size, 0, none⟩) 1 1] 26)
  have hta := rtagged_any 99 _ 1 1 _ _ r2 (by simp)
  have e99 : u8i 99 = 99 := rfl
  rw [e99, World.size_alloc] at hta
  have Hta := Lib.hid hta
  clear hta
  go_wp2_with fail
  refine Hta.out.mono ?_
  rintro e w3 ⟨A3, c3, rfl, own3, hE3⟩
  go_wp2_with fail
  go_ret
  exact ⟨A3, c3, rfl, own3.base (hE1.trans hE2).size, (hE1.trans hE2).trans hE3⟩
end Go.Proofs.YtkndgpjamijbbaaGreat
namespace Go.Proofs.YtkndgpjamijbbaaGreat
set_option maxRecDepth 100000
open Go Go.RowKit
theorem OBC.plain {w : World} {base n c : Nat} {ad : Addr} {Ls : List (List UInt8)} (h : OBC w base (some ad) n c Ls) : ∃ g, ad = ⟨g, 0, none⟩ := by
  obtain ⟨vs, h1, _⟩ := h
  rcases h1.2 with ⟨e, _⟩ | ⟨g', cap, cur, e, _⟩
  · cases e
  · injection e with e1 e2 e3
    injection e1 with e1
    exact ⟨g', e1⟩
theorem OBC.frozen {w : World} {base n c g : Nat} {Ls : List (List UInt8)} (h : OBC w base (some ⟨g, 0, none⟩) n c Ls) (i : Nat) : w.frozen? ⟨g, i, none⟩ = false := by
  obtain ⟨vs, h1, _⟩ := h
  exact World.ownsRow.frozenAt h1 i
theorem lb_set {Ls : List (List UInt8)} {i j : Nat} {Y : List UInt8} (hi : i < Ls.length) : lb (Ls.set i Y) j = if j = i then Y else lb Ls j := by
  unfold lb
  by_cases h : j = i
  · subst h; simp [hi]
  · rw [if_neg h]; simp [List.getElem?_set, Ne.symm h]
theorem OBC.turn {w0 w5 a : World} {base n c g g5 c5 : Nat} {Ls : List (List UInt8)} {Y : List UInt8} (h : OBC w0 base (some ⟨g, 0, none⟩) n c Ls) (hE : Ext w0 w5) (h5 : OB w5 w0.heap.size (some ⟨g5, 0, none⟩) 32 c5 Y) (i : Nat) (hi : i < n) (ha : Ext a w0) (hab : a.heap.size ≤ base) :
    (w5.setCell ⟨g, i, none⟩ (.slice (some ⟨g5, 0, none⟩) 32 c5)).cell? ⟨g, i, none⟩ = some (.slice (some ⟨g5, 0, none⟩) 32 c5) ∧ OB (w5.setCell ⟨g, i, none⟩ (.slice (some ⟨g5, 0, none⟩) 32 c5)) w0.heap.size (some ⟨g5, 0, none⟩) 32 c5 Y ∧
    ∀ b : UInt8, RBB ((w5.setCell ⟨g, i, none⟩ (.slice (some ⟨g5, 0, none⟩) 32 c5)).setCell ⟨g5, 7, none⟩ (.int .u8 (u8i b))) (some ⟨g, 0, none⟩) n c (Ls.set i (Y.set 7 b)) ∧ Ext a ((w5.setCell ⟨g, i, none⟩ (.slice (some ⟨g5, 0, none⟩) 32 c5)).setCell ⟨g5, 7, none⟩ (.int .u8 (u8i b))) := by
  have hr := h.rbb
  have hlt := h.lt (k := g) rfl
  have hge := h5.ge
  obtain ⟨vs, h1, h2, h3⟩ := h
  have hvl : vs.length = n := by have := h1.1; omega
  have k1 : w5.ownsRow base 26 1 (.slice (some ⟨g, 0, none⟩) n c) n vs := World.ownsRow.kept h1 (hE.grownBy none) (by cases hb : Value.ownBlock (.slice (some ⟨g, 0, none⟩) n c) <;> simp)
  have s := World.ownsRow.stored k1 i (.slice (some ⟨g5, 0, none⟩) 32 c5)
  have h56 : OB (w5.setCell ⟨g, i, none⟩ (.slice (some ⟨g5, 0, none⟩) 32 c5)) w0.heap.size (some ⟨g5, 0, none⟩) 32 c5 Y := h5.grown s.2 (.inr (by intro e; injection e with e; have e' : g5 = g := e; omega))
  refine ⟨?_, h56, fun b => ?_⟩
  · have := World.ownsRow.cells s.1 (g := g) rfl i (.slice (some ⟨g5, 0, none⟩) 32 c5) (by simp [hvl, hi])
    rw [add_plain] at this
    exact this
  · have s2 := h56.set 7 b
    have k2 := World.ownsRow.kept s.1 s2.2 (.inr (by rw [ownBlock_slice]; intro e; injection e with e; have e' : g = g5 := e; omega))
    refine ⟨⟨by simp [h2], hr.room, hr.cap, fun _ => ⟨_, rfl, fun j hj => ?_⟩⟩, Ext.then_grown (Ext.then_grown (ha.trans hE) s.2 (by intro k hk; cases hk; omega)) s2.2 (by intro k hk; cases hk; have := ha.size; omega)⟩
    rw [lb_set (by omega)]
    by_cases hji : j = i
    · subst hji
      rw [if_pos rfl]
      exact ⟨_, _, _, World.ownsRow.cells k2 (g := g) rfl j (.slice (some ⟨g5, 0, none⟩) 32 c5) (by simp [hvl, hj]), s2.1.rb⟩
    · rw [if_neg hji]
      obtain ⟨B, m, d, h4, h5', h6⟩ := h3 j hj
      refine ⟨B, m, d, World.ownsRow.cells k2 (g := g) rfl j _ (by rw [List.getElem?_set_ne (Ne.symm hji)]; exact h4), ((h5'.ext hE).grown s.2 h6).grown s2.2 ?_⟩
      intro hm e
      have := rb_blk_lt h5' hm _ e
      omega
end Go.Proofs.YtkndgpjamijbbaaGreat
namespace Go.Proofs.YtkndgpjamijbbaaGreat
set_option maxRecDepth 100000
open Go Go.RowKit
/-- a row of byte slices of the call's own, each in a block of the call's own -/
def OBD (w : World) (base : Nat) (A : Option Addr) (n c : Nat) (Ls : List (List UInt8)) : Prop :=
  ∃ vs : List Value, w.ownsRow base 26 1 (.slice A n c) n vs ∧ Ls.length = n ∧ ∀ j, j < n → ∃ g d, vs[j]? = some (.slice (some ⟨g, 0, none⟩) 32 d) ∧ OB w base (some ⟨g, 0, none⟩) 32 d (lb Ls j) ∧ some g ≠ blk A
theorem OBD.none_ (w : World) (base : Nat) : OBD w base none 0 0 [] := ⟨[], World.ownsRow_nil w _ _ _, rfl, fun j hj => absurd hj (Nat.not_lt_zero _)⟩
theorem OBD.ext {w w' : World} {base : Nat} {A : Option Addr} {n c : Nat} {Ls : List (List UInt8)} (h : OBD w base A n c Ls) (e : Ext w w') : OBD w' base A n c Ls := by
  obtain ⟨vs, h1, h2, h3⟩ := h
  refine ⟨vs, World.ownsRow.kept h1 (e.grownBy none) ?_, h2, fun j hj => ?_⟩
  · cases hb : Value.ownBlock (.slice A n c) <;> simp
  · obtain ⟨g, d, h4, h5, h6⟩ := h3 j hj
    exact ⟨g, d, h4, h5.ext e, h6⟩
theorem OBD.lt {w : World} {base n c : Nat} {A : Option Addr} {Ls : List (List UInt8)} (h : OBD w base A n c Ls) {k : Nat} (hk : blk A = some k) : base ≤ k ∧ k < w.heap.size := by
  obtain ⟨vs, h1, _⟩ := h
  exact World.ownsRow.lt h1 k (by rw [ownBlock_slice]; exact hk)
theorem ownsRow_base {w : World} {base base' : Nat} {t : TypeId} {v : Value} {n : Nat} {vs : List Value} (h : w.ownsRow base t 1 v n vs) (hb : base' ≤ base) : w.ownsRow base' t 1 v n vs := by
  refine ⟨h.1, ?_⟩
  rcases h.2 with h0 | ⟨g, cap, cur, e, hg, h1⟩
  · exact .inl h0
  · exact .inr ⟨g, cap, cur, e, Nat.le_trans hb hg, h1⟩
theorem OBD.base {w : World} {base base' n c : Nat} {A : Option Addr} {Ls : List (List UInt8)} (h : OBD w base A n c Ls) (hb : base' ≤ base) : OBD w base' A n c Ls := by
  obtain ⟨vs, h1, h2, h3⟩ := h
  refine ⟨vs, ownsRow_base h1 hb, h2, fun j hj => ?_⟩
  obtain ⟨g, d, h4, h5, h6⟩ := h3 j hj
  exact ⟨g, d, h4, h5.base hb, h6⟩
theorem OBD.obc {w : World} {base : Nat} {A : Option Addr} {n c : Nat} {Ls : List (List UInt8)} (h : OBD w base A n c Ls) : OBC w base A n c Ls := by
  obtain ⟨vs, h1, h2, h3⟩ := h
  refine ⟨vs, h1, h2, fun j hj => ?_⟩
  obtain ⟨g, d, h4, h5, h6⟩ := h3 j hj
  exact ⟨_, _, _, h4, h5.rb, fun _ => h6⟩
theorem appbd_law {ops : Array Oper} {rest : List Oper} {o : Oper} {a : Act} {Q : Exit → Act → World → Prop} {w : World} (hgd : o.guard = none) {s x : Operand} (ho : o.op = .call { callee := .builtin .append, args := #[s, x], argTypes := #[33, 33] })
    {A : Option Addr} {n c : Nat} (hs : a.eval s = .slice A n c) {ad : Addr} (hx : a.eval x = .slice (some ad) 1 1) {base : Nat} {Ls : List (List UInt8)} {g d : Nat} {Y : List UInt8} (hcell : w.cell? (ad.add 0) = some (.slice (some ⟨g, 0, none⟩) 32 d))
    (hown : OBD w base A n c Ls) (hB : OB w base (some ⟨g, 0, none⟩) 32 d Y) (hne : some g ≠ blk A) (hbase : base ≤ w.heap.size) (hnk : n + 1 ≤ 1000000)
    (h : ∀ A' c' w', OBD w' base A' (n + 1) c' (Ls ++ [Y]) → w.grownBy w' (blk A) → wpList Tryz.prog ops Q rest (a.put o.dst (.slice A' (n + 1) c')) w') : wpList Tryz.prog ops Q (o :: rest) a w := by
  obtain ⟨i0, hi0, hz0, hz1, hz2⟩ := info_parts info_bb'
  obtain ⟨vs, h1, h2, h3⟩ := hown
  obtain ⟨v', w', hrun, r1, r2, _, r4⟩ := run_append_own_at (P := Tryz.prog) w base 33 o.type 26 i0 (.slice none 0 0) 1 24 Tryz.underlying33 hi0 hz0 hz1 hz2 rfl (by decide) (.slice A n c) n vs h1 ad 1 1 [.slice (some ⟨g, 0, none⟩) 32 d] rfl
    (by
      intro j u hu
      rcases j with _ | j
      · injection hu with hu
        subst hu
        exact hcell
      · cases hu) (by simp [Value.oneCell']) (small_maxLen hnk) (by omega) hbase
  obtain ⟨A', c', rfl⟩ : ∃ A' c', v' = .slice A' (n + 1) c' := by
    rcases r1.2 with ⟨_, h0⟩ | ⟨g, cap, _, rfl, _⟩
    · omega
    · exact ⟨_, cap, rfl⟩
  rw [ownBlock_slice] at r2 r4
  rw [ownBlock_slice] at r4
  have hne' : ∀ (g' m' d' : Nat) (Y' : List UInt8), OB w base (some ⟨g', 0, none⟩) m' d' Y' → some g' ≠ blk A → some g' ≠ blk A' := by
    intro g' m' d' Y' hb hn e
    rcases r4 with r4 | r4
    · exact hn (e.trans r4)
    · have h5 := (hb.lt (k := g') rfl).2
      have h6 := e.trans r4
      injection h6 with h6
      omega
  have hvl : vs.length = n := by have := h1.1; omega
  refine run_law hgd (v := .slice A' (n + 1) c') (w' := w') ?_ (h A' c' w' ⟨vs ++ [.slice (some ⟨g, 0, none⟩) 32 d], r1, by rw [List.length_append]; simp; omega, fun j hj => ?_⟩ r2)
  · unfold execOp
    simp only [ho, resolve, invoke, builtin, Sem.run_bind, Sem.run_pure, Result.andThen_ok, List.map_toArray, List.map_cons, List.map_nil, hs, hx, hrun]
  · by_cases hjn : j < n
    · obtain ⟨g', d', h4, h5, h6⟩ := h3 j hjn
      refine ⟨g', d', by rw [List.getElem?_append_left (by omega)]; exact h4, ?_, hne' _ _ _ _ h5 h6⟩
      have e : lb (Ls ++ [Y]) j = lb Ls j := by unfold lb; simp [List.getElem?_append_left (show j < Ls.length by omega)]
      rw [e]
      exact h5.grown r2 (.inr h6)
    · obtain rfl : j = n := by omega
      refine ⟨g, d, by rw [List.getElem?_append_right (by omega), hvl]; simp, ?_, hne' _ _ _ _ hB hne⟩
      have e : lb (Ls ++ [Y]) j = Y := by unfold lb; simp [← h2]
      rw [e]
      exact hB.grown r2 (.inr hne)
end Go.Proofs.YtkndgpjamijbbaaGreat
namespace Go.Proofs.YtkndgpjamijbbaaGreat
set_option maxRecDepth 100000
open Go Go.RowKit
noncomputable def infZZ : TypeInfo := (Tryz.prog.info? 26).getD default
theorem infZZ_eq : Tryz.prog.info? 26 = some infZZ := by kernel_rfl
theorem infZZ_size : infZZ.size = 1 := by kernel_rfl
theorem OBD.len {w : World} {base n c : Nat} {A : Option Addr} {Ls : List (List UInt8)} (h : OBD w base A n c Ls) : Ls.length = n := by
  obtain ⟨vs, _, h2, _⟩ := h
  exact h2
theorem OBD.plain {w : World} {base n c : Nat} {A : Option Addr} {Ls : List (List UInt8)} (h : OBD w base A n c Ls) (hn : 0 < n) : ∃ g, A = some ⟨g, 0, none⟩ := by
  obtain ⟨ad, rfl, _⟩ := h.obc.rbb.cells hn
  obtain ⟨g, rfl⟩ := h.obc.plain
  exact ⟨g, rfl⟩
theorem OBD.cell {w : World} {base n c g : Nat} {Ls : List (List UInt8)} (h : OBD w base (some ⟨g, 0, none⟩) n c Ls) {j : Nat} (hj : j < n) :
    ∃ g' d', w.cell? ((⟨g, 0, none⟩ : Addr).add j) = some (.slice (some ⟨g', 0, none⟩) 32 d') ∧ OB w base (some ⟨g', 0, none⟩) 32 d' (lb Ls j) := by
  obtain ⟨vs, h1, h2, h3⟩ := h
  obtain ⟨g', d', h4, h5, _⟩ := h3 j hj
  exact ⟨g', d', World.ownsRow.cells h1 (g := g) (by rw [ownBlock_slice]; rfl) j _ h4, h5⟩
theorem OBD.grown {w w' : World} {base n c : Nat} {A : Option Addr} {Ls : List (List UInt8)} (h : OBD w base A n c Ls) {row : Option Nat} (e : w.grownBy w' row) (hr : ∀ k, row = some k → k < base) : OBD w' base A n c Ls := by
  have hA : Value.ownBlock (.slice A n c) = none ∨ Value.ownBlock (.slice A n c) ≠ row := by
    rw [ownBlock_slice]
    cases hb : blk A with
    | none => exact .inl rfl
    | some k =>
      refine .inr fun e => ?_
      have h1 := (h.lt hb).1
      have h2 := hr k e.symm
      omega
  obtain ⟨vs, h1, h2, h3⟩ := h
  refine ⟨vs, World.ownsRow.kept h1 e hA, h2, fun j hj => ?_⟩
  obtain ⟨g, d, h4, h5, h6⟩ := h3 j hj
  refine ⟨g, d, h4, h5.grown e (.inr fun e' => ?_), h6⟩
  have h7 := h5.ge
  have h8 := hr g e'.symm
  omega
def MP.one32 (b : Nat) (L : List UInt8) : MP Ext := ⟨fun u w => ∃ x g d, u = .slice (some ⟨x, 0, none⟩) 1 1 ∧ w.cell? ((⟨x, 0, none⟩ : Addr).add 0) = some (.slice (some ⟨g, 0, none⟩) 32 d) ∧ OB w b (some ⟨g, 0, none⟩) 32 d L, fun _ _ _ e ⟨x, g, d, h1, h2, h3⟩ => ⟨x, g, d, h1, e.cell h2, h3.ext e⟩⟩
def MP.one1 (v : Value) : MP Ext := ⟨fun u w => ∃ x, u = .slice (some ⟨x, 0, none⟩) 1 1 ∧ w.cell? ((⟨x, 0, none⟩ : Addr).add 0) = some v, fun _ _ _ e ⟨x, h1, h2⟩ => ⟨x, h1, e.cell h2⟩⟩
def MP.ob32 (b : Nat) (L : List UInt8) : MP Ext := ⟨fun u w => ∃ g d, u = .slice (some ⟨g, 0, none⟩) 32 d ∧ OB w b (some ⟨g, 0, none⟩) 32 d L, fun _ _ _ e ⟨g, d, h1, h2⟩ => ⟨g, d, h1, h2.ext e⟩⟩
theorem Runs.one1 {o : Oper} {ρ : Operand → Value} {w : World} {G : Value → World → Prop} {y0 : Operand} {B0 : Option Addr} {m0 d0 : Nat} (ho : o.op = .buildSlice 33 1 #[(0, y0)]) (e0 : ρ y0 = .slice B0 m0 d0)
    (h : ∀ w', Ext w w' → w'.cell? ((⟨w.heap.size, 0, none⟩ : Addr).add 0) = some (.slice B0 m0 d0) → G (.slice (some ⟨w.heap.size, 0, none⟩) 1 1) w') : Runs Tryz.prog o ρ w G := by
  refine Runs.of_run (r := .slice (some ⟨w.heap.size, 0, none⟩) 1 1) ?_ (h _ (Ext.new w _) (by rw [add_plain]; exact (Blk.new w 26 #[.slice B0 m0 d0]).cell (i := 0) rfl))
  unfold execOp
  simp only [ho, e0, List.map_toArray, List.map_cons, List.map_nil, Sem.run_bind, run_ss1, Result.andThen_ok, Sem.run_pure]
def AboveI (w : World) (n : Nat) (Ls : List (List UInt8)) (v i : Value) (wr : World) : Prop :=
  ∃ (k d : Nat) (P : Option Addr), 2 * k ≤ n ∧ i = .int .i64 ((2 * k : Nat) : Int) ∧ v = .slice P k d ∧ OBD wr w.heap.size P k d ((List.range k).map fun i => nodeV (lb Ls (2 * i)) (lb Ls (2 * i + 1))) ∧ Ext w wr
def LeavesI (w : World) (S : List UInt8) (v i : Value) (wr : World) : Prop :=
  ∃ (k d : Nat) (P : Option Addr), k ≤ 16 ∧ i = .int .i64 k ∧ v = .slice P k d ∧ OBD wr w.heap.size P k d ((List.range k).map fun k => publicL S ((k : Nat) : Int)) ∧ Ext w wr
theorem pow_step {h : Nat} (hh : h < 4) : 16 / 2 ^ h ≤ 16 ∧ 16 / 2 ^ h % 2 = 0 ∧ 16 / 2 ^ h / 2 = 16 / 2 ^ (h + 1) ∧ 2 ≤ 16 / 2 ^ h := by
  obtain rfl | rfl | rfl | rfl : h = 0 ∨ h = 1 ∨ h = 2 ∨ h = 3 := by omega
  all_goals decide
end Go.Proofs.YtkndgpjamijbbaaGreat
namespace Go.Proofs.YtkndgpjamijbbaaGreat
set_option maxRecDepth 100000
open Go Go.RowKit
theorem grown_set (w : World) (a : Addr) (u : Value) : w.grownBy (w.setCell a u) (some a.block) := ⟨rfl, rfl, rfl, by simp [World.setCell], fun i _ hne => Below.heap_setCell w a u i fun e => hne (by rw [e])⟩
theorem bin_xor1 {P : Program} {w : World} (t : TypeId) (q : Nat) (hq : q < 16) : (binOp .xor t (.int .i64 (q : Int)) (.int .i64 1)).run P w = .ok (.int .i64 ((q + 1 - 2 * (q % 2) : Nat) : Int)) w := by
  have h : q = 0 ∨ q = 1 ∨ q = 2 ∨ q = 3 ∨ q = 4 ∨ q = 5 ∨ q = 6 ∨ q = 7 ∨ q = 8 ∨ q = 9 ∨ q = 10 ∨ q = 11 ∨ q = 12 ∨ q = 13 ∨ q = 14 ∨ q = 15 := by omega
  rcases h with rfl | rfl | rfl | rfl | rfl | rfl | rfl | rfl | rfl | rfl | rfl | rfl | rfl | rfl | rfl | rfl
  all_goals rfl
theorem results_sig {P : Program} {fn : Func} {p u : Tmp} {ty : TypeId} (h : fn.results = #[.cell p ty, .tmp u]) (tmps : Array Value) (w : World) (g : Nat) (t : TypeId) (cs : Array Value) (d : TypeDesc)
    (hp : tmps.getD p undef = .pointer (some ⟨g, 0, none⟩)) (hg : Blk w g t cs) (hu : P.underlying ty = some d) (hd : (match d with | .struct _ | .array _ _ => true | _ => false) = true) (hi : (P.info? ty).map (·.size) = some cs.size) :
    (results fn tmps).run P w = .ok (.tuple #[.agg cs, tmps.getD u undef]) w := by
  have hp' : tmps[p]?.getD undef = .pointer (some ⟨g, 0, none⟩) := by simpa using hp
  simp [results, h, hp', asAddr, run_loadVar_row w g t ty cs (0, 0) d hg hu hd hi]
def sliceLen : Value → Nat
  | .slice _ n _ => n
  | _ => 0
theorem OBC.base {w : World} {base base' n c : Nat} {A : Option Addr} {Ls : List (List UInt8)} (h : OBC w base A n c Ls) (hb : base' ≤ base) : OBC w base' A n c Ls := by
  obtain ⟨vs, h1, h2⟩ := h
  exact ⟨vs, ownsRow_base h1 hb, h2⟩
end Go.Proofs.YtkndgpjamijbbaaGreat

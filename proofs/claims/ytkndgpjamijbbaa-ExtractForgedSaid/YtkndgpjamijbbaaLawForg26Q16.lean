/-
  ref4.Root, walked. once.Root and ref4.Root in one sentence, for any list. Owners' trees in plain words: levels, paths, and where a path leads. Plain theorems. keep.Seed, walked. A row of byte slices of the call's own: one is turned.
-/
import Derived.Test.YtkndgpjamijbbaaLawForg26Q15
import Derived.Test.YtkndgpjamijbbaaLawForg26Q14
import Derived.Test.YtkndgpjamijbbaaLawForg26Q12
import Derived.Lib.SlBytesConst
namespace Go.Proofs.Ytkndgpjamijbbaa
set_option maxRecDepth 100000
open Go Go.RowKit
theorem bin_quo2 {P : Program} {w : World} (t : TypeId) (k : Nat) (hk : k < 100) : (binOp .quo t (.int .i64 (k : Int)) (.int .i64 2)).run P w = .ok (.int .i64 ((k / 2 : Nat) : Int)) w := by
  have h : Int.tdiv (k : Int) 2 = (k : Int) / 2 := Int.tdiv_eq_ediv_of_nonneg (by omega)
  have e : IntKind.i64.wrap ((k : Int) / 2) = (k : Int) / 2 := i64_wrap_id (by omega) (by omega)
  simp [binOp, Op.intArith, Op.intDiv, h, e]
theorem bin_rem2 {P : Program} {w : World} (t : TypeId) (k : Nat) (hk : k < 100) : (binOp .rem t (.int .i64 (k : Int)) (.int .i64 2)).run P w = .ok (.int .i64 ((k % 2 : Nat) : Int)) w := by
  have h : Int.tmod (k : Int) 2 = (k : Int) % 2 := Int.tmod_eq_emod_of_nonneg (by omega)
  have e : IntKind.i64.wrap ((k : Int).tmod 2) = (k : Int) % 2 := by rw [h]; exact i64_wrap_id (by omega) (by omega)
  simp [binOp, Op.intArith, Op.intDiv, e, h]
theorem r4flat_one (f : Nat → List UInt8) (k : Nat) : ((List.range (k + 1)).map f).flatten = ((List.range k).map f).flatten ++ f k := by
  rw [List.range_succ, List.map_append, List.flatten_append]
  simp
def RootB (w : World) (dg : UInt32) (Ls : List (List UInt8)) (v i : Value) (wr : World) : Prop :=
  ∃ (k d : Nat) (P : Option Addr), k ≤ 64 ∧ i = .int .i64 k ∧ v = .slice P (32 * k) d ∧ OB wr w.heap.size P (32 * k) d ((List.range k).map (rootPart dg Ls)).flatten ∧ (∀ j, j < k → (lb Ls j).length = 32) ∧ Ext w wr
set_option maxHeartbeats 4000000 in
theorem r4root_any (B A : Option Addr) (m d n c : Nat) (M : List UInt8) (Ls : List (List UInt8)) (w : World) (hm : RB w B m d M) (hmn : m ≤ 140737488355000) (hr : RBB w A n c Ls) :
    Calls Try.prog 66 #[.slice B m d, .slice A n c] w fun e w' => (rootOK Ls → ∃ A' c', e = .returned (.tuple #[.slice A' 32 c', .bool true]) ∧ OB w' w.heap.size A' 32 c' (rootV M Ls)) ∧ (¬ rootOK Ls → e = .returned (.tuple #[.slice none 0 0, .bool false])) ∧ Ext w w' := by
  have hln := hr.len
  have Hn := Lib.hid hln
  clear hln
  by_cases h64 : n = 64
  · subst h64
    go_enter Try.func66, Try.ntmps66
    go_wp2_with fail
    refine (r4digest_any B m d M w hm hmn).mono ?_
    rintro e w1 ⟨rfl, hE1⟩
    obtain ⟨dg, hdg⟩ : ∃ dg, dg = digestW M := ⟨_, rfl⟩
    rw [← hdg]
    have Hdg := Lib.hid hdg
    clear hdg
    go_wp2_with fail
    go_loopw [7, 8] (fun v i wr => RootB w dg Ls v i wr) (fun _ i _ => 64 - (intOf i).toNat)
    case atStart => exact ⟨0, 0, none, by omega, rfl, rfl, OB.none_ _ _, fun j hj => absurd hj (Nat.not_lt_zero _), hE1⟩
    case round =>
      obtain ⟨k, q, P, hk, rfl, rfl, own, hall, hEr⟩ := hrel
      have Hall := Lib.hid hall
      clear hall
      by_cases hlt : k < 64
      · have hki : (k : Int) < 64 := by omega
        obtain ⟨ad, rfl, hc⟩ := hr.cells (by omega)
        obtain ⟨E, z, y, hcell, hrE⟩ := hc k hlt
        have y1 := hEr.cell hcell
        have rE := hrE.ext hEr
        have hEl := rE.len
        by_cases hz : z = 32
        · subst hz
          have hEl2 := Lib.hid hEl
          clear hEl hc hcell
          go_upto_region 11 with (fail)
          refine seq_ext (n := 11) (by kernel_rfl) [.is (.int .u32 (u32i (dg))), .is (.int .i64 (((k : Nat) : Int))), .is (.int .i64 (((k / 2 : Nat) : Int))), .is (.int .i64 ((31 : Int) - ((k / 2 : Nat) : Int))), .is (.int .u64 ((31 - k / 2 : Nat) : Int)), .is (.int .u32 (u32i (shr dg (31 - k / 2)))), .is (.int .u32 (u32i ((shr dg (31 - k / 2)) &&& (1 : UInt32)))), .is (.int .i64 (u32i (shr dg (31 - k / 2) &&& 1))), .is (.int .i64 (((k : Nat) : Int))), .is (.int .i64 (((k % 2 : Nat) : Int))), .is (.bool (toldB dg (k / 2) (k % 2)))] rfl ⟨?_, ?_, ?_, ?_, ?_, ?_, ?_, ?_, ?_, ?_, ?_, trivial⟩ ?_
          · refine stepE rfl fun sdn sa sw sE sd sk => ?_
            have h6 : sa.eval (.tmp 6) = .int .u32 (u32i (dg)) := sk.old 6 rfl
            exact Runs.move rfl h6 ⟨Ext.refl _, rfl⟩
          · refine stepE rfl fun sdn sa sw sE sd sk => ?_
            have h8 : sa.eval (.tmp 8) = .int .i64 (((k : Nat) : Int)) := sk.old 8 rfl
            exact Runs.move rfl h8 ⟨Ext.refl _, rfl⟩
          · refine stepE rfl fun sdn sa sw sE sd sk => ?_
            have h32 : sa.eval (.tmp 32) = .int .i64 (((k : Nat) : Int)) := sk.fact 1 32 rfl (sd 1 rfl)
            exact Runs.bin rfl h32 rfl (eqGuard_bin rfl) (bin_quo2 _ k (by omega)) ⟨Ext.refl _, rfl⟩
          · refine stepE rfl fun sdn sa sw sE sd sk => ?_
            have h33 : sa.eval (.tmp 33) = .int .i64 (((k / 2 : Nat) : Int)) := sk.fact 2 33 rfl (sd 2 rfl)
            exact Runs.bin rfl rfl h33 (eqGuard_bin rfl) (bin_sub64 _ _ _ (by omega) (by omega)) ⟨Ext.refl _, rfl⟩
          · refine stepE rfl fun sdn sa sw sE sd sk => ?_
            have h34 : sa.eval (.tmp 34) = .int .i64 ((31 : Int) - ((k / 2 : Nat) : Int)) := sk.fact 3 34 rfl (sd 3 rfl)
            exact Runs.conv rfl h34 (conv_i64_u64 Try.underlying3 Try.underlying91 _ (31 - k / 2) (by omega) (by omega)) ⟨Ext.refl _, rfl⟩
          · refine stepE rfl fun sdn sa sw sE sd sk => ?_
            have h31 : sa.eval (.tmp 31) = .int .u32 (u32i (dg)) := sk.fact 0 31 rfl (sd 0 rfl)
            have h35 : sa.eval (.tmp 35) = .int .u64 ((31 - k / 2 : Nat) : Int) := sk.fact 4 35 rfl (sd 4 rfl)
            exact Runs.bin rfl h31 h35 (eqGuard_bin rfl) (bin_shr32 _ _ (31 - k / 2) _ rfl (by omega)) ⟨Ext.refl _, rfl⟩
          · refine stepE rfl fun sdn sa sw sE sd sk => ?_
            have h36 : sa.eval (.tmp 36) = .int .u32 (u32i (shr dg (31 - k / 2))) := sk.fact 5 36 rfl (sd 5 rfl)
            have hone : (.int .u32 1 : Value) = .int .u32 (u32i (1 : UInt32)) := rfl
            exact Runs.bin (v := .int .u32 (u32i (1 : UInt32))) rfl h36 hone (eqGuard_bin rfl) (bin_and32 _ _ (1 : UInt32)) ⟨Ext.refl _, rfl⟩
          · refine stepE rfl fun sdn sa sw sE sd sk => ?_
            have h37 : sa.eval (.tmp 37) = .int .u32 (u32i ((shr dg (31 - k / 2)) &&& (1 : UInt32))) := sk.fact 6 37 rfl (sd 6 rfl)
            exact Runs.conv rfl h37 (conv_u32_i64' Try.underlying84 Try.underlying3 _) ⟨Ext.refl _, rfl⟩
          · refine stepE rfl fun sdn sa sw sE sd sk => ?_
            have h8 : sa.eval (.tmp 8) = .int .i64 (((k : Nat) : Int)) := sk.old 8 rfl
            exact Runs.move rfl h8 ⟨Ext.refl _, rfl⟩
          · refine stepE rfl fun sdn sa sw sE sd sk => ?_
            have h39 : sa.eval (.tmp 39) = .int .i64 (((k : Nat) : Int)) := sk.fact 8 39 rfl (sd 8 rfl)
            exact Runs.bin rfl h39 rfl (eqGuard_bin rfl) (bin_rem2 _ k (by omega)) ⟨Ext.refl _, rfl⟩
          · refine stepE rfl fun sdn sa sw sE sd sk => ?_
            have h38 : sa.eval (.tmp 38) = .int .i64 (u32i (shr dg (31 - k / 2) &&& 1)) := sk.fact 7 38 rfl (sd 7 rfl)
            have h40 : sa.eval (.tmp 40) = .int .i64 (((k % 2 : Nat) : Int)) := sk.fact 9 40 rfl (sd 9 rfl)
            exact Runs.bin rfl h38 h40 (by rfl) (bin_eql _ _ _ _) ⟨Ext.refl _, rfl⟩
          intro vals w2 hE2 hv2
          have e0 : vals 0 = .int .u32 (u32i (dg)) := hv2 0 (by omega) 31 rfl
          have e1 : vals 1 = .int .i64 (((k : Nat) : Int)) := hv2 1 (by omega) 32 rfl
          have e2 : vals 2 = .int .i64 (((k / 2 : Nat) : Int)) := hv2 2 (by omega) 33 rfl
          have e3 : vals 3 = .int .i64 ((31 : Int) - ((k / 2 : Nat) : Int)) := hv2 3 (by omega) 34 rfl
          have e4 : vals 4 = .int .u64 ((31 - k / 2 : Nat) : Int) := hv2 4 (by omega) 35 rfl
          have e5 : vals 5 = .int .u32 (u32i (shr dg (31 - k / 2))) := hv2 5 (by omega) 36 rfl
          have e6 : vals 6 = .int .u32 (u32i ((shr dg (31 - k / 2)) &&& (1 : UInt32))) := hv2 6 (by omega) 37 rfl
          have e7 : vals 7 = .int .i64 (u32i (shr dg (31 - k / 2) &&& 1)) := hv2 7 (by omega) 38 rfl
          have e8 : vals 8 = .int .i64 (((k : Nat) : Int)) := hv2 8 (by omega) 39 rfl
          have e9 : vals 9 = .int .i64 (((k % 2 : Nat) : Int)) := hv2 9 (by omega) 40 rfl
          have e10 : vals 10 = .bool (toldB dg (k / 2) (k % 2)) := hv2 10 (by omega) 41 rfl
          simp only [putAll, Act.put, List.take_succ_cons, List.take_zero, List.drop_succ_cons, List.drop_zero, List.drop_nil, List.take_nil, Nat.reduceAdd, List.setIfInBounds_toArray, List.set_cons_succ, List.set_cons_zero, e0, e1, e2, e3, e4, e5, e6, e7, e8, e9, e10]
          clear hv2 e0 e1 e2 e3 e4 e5 e6 e7 e8 e9 e10
          have rE2 := rE.ext hE2
          cases htd : toldB dg (k / 2) (k % 2) with
          | true =>
            have Htd := Lib.hid htd
            clear htd
            have r1 := RBB.of1 rE2 22
            have hE3 := Ext.new w2 (.cells #[.slice E 32 y] 22)
            have hta := rtagged_any 11 _ 1 1 _ _ r1 (by simp only [List.flatten_cons, List.flatten_nil, List.append_nil, hEl2.out]; omega)
            have e11 : u8i 11 = 11 := rfl
            rw [e11, show [lb Ls k].flatten = lb Ls k from by simp] at hta
            have Hta := Lib.hid hta
            clear hta
            go_wp2_with fail
            refine Hta.out.mono ?_
            rintro e w3 ⟨A3, c3, rfl, own3, hE4⟩
            clear Hta
            have hE24 := hE2.trans (hE3.trans hE4)
            have hEw := hEr.trans hE24
            have hY : RB w3 A3 32 c3 (rootPart dg Ls k) := by
              unfold rootPart
              rw [if_pos Htd.out]
              exact own3.rb
            go_wp2_with (refine app_own (w0 := w) (N := 32 * (k + 1)) (LM := ((List.range (k + 1)).map (rootPart dg Ls)).flatten) rfl rfl rfl rfl hEw (own.ext hE24) hY (by omega) (r4flat_one _ k).symm (by omega) ?_; intro P5 d5 w5 own5 hE5)
            go_roundw
            case rel =>
              refine ⟨k + 1, d5, P5, by omega, by go_num, rfl, own5, fun j hj => ?_, hE5⟩
              by_cases hjk : j = k
              · rw [hjk]; exact hEl2.out
              · exact Hall.out j (by omega)
            case measure => simp [intOf]; omega
          | false =>
            have Htd := Lib.hid (show ¬ toldB dg (k / 2) (k % 2) = true by rw [htd]; simp)
            clear htd
            have hEw := hEr.trans hE2
            have hY : RB w2 E 32 y (rootPart dg Ls k) := by
              unfold rootPart
              rw [if_neg Htd.out]
              exact rE2
            go_wp2_with (refine app_own (w0 := w) (N := 32 * (k + 1)) (LM := ((List.range (k + 1)).map (rootPart dg Ls)).flatten) rfl rfl rfl rfl hEw (own.ext hE2) hY (by omega) (r4flat_one _ k).symm (by omega) ?_; intro P5 d5 w5 own5 hE5)
            go_roundw
            case rel =>
              refine ⟨k + 1, d5, P5, by omega, by go_num, rfl, own5, fun j hj => ?_, hE5⟩
              by_cases hjk : j = k
              · rw [hjk]; exact hEl2.out
              · exact Hall.out j (by omega)
            case measure => simp [intOf]; omega
        · have hno : ¬ rootOK Ls := fun h => hz (by rw [← hEl]; exact h.2 k hlt)
          have Hno := Lib.hid hno
          have hzi : ¬ ((z : Int) = 32) := by omega
          clear hno hEl hc hcell
          go_wp2_with fail
          go_ret2
          exact ⟨fun h => absurd h Hno.out, fun _ => rfl, hEr⟩
      · obtain rfl : k = 64 := by omega
        have hok : rootOK Ls := ⟨Hn.out, Hall.out⟩
        have Hok := Lib.hid hok
        have hplen : ∀ i, i < 64 → (rootPart dg Ls i).length = 32 := by
          intro i hi
          unfold rootPart
          split
          · exact tagged_length _ _
          · exact Hall.out i hi
        have r1 := RBB.of1 own.rb 22
        have hEa := Ext.new wr (.cells #[.slice P (32 * 64) q] 22)
        have hta := rtagged_any 12 _ 1 1 _ _ r1 (by simp only [List.flatten_cons, List.flatten_nil, List.append_nil]; rw [flat32' _ 64 hplen]; omega)
        have e12 : u8i 12 = 12 := rfl
        rw [e12, show [((List.range 64).map (rootPart dg Ls)).flatten].flatten = ((List.range 64).map (rootPart dg Ls)).flatten from by simp] at hta
        have Hta := Lib.hid hta
        clear hta hok hplen
        go_wp2_with fail
        refine Hta.out.mono ?_
        rintro e w3 ⟨A3, c3, rfl, own3, hE4⟩
        clear Hta
        go_wp2_with fail
        go_ret2
        refine ⟨fun _ => ⟨A3, c3, rfl, ?_⟩, fun h => absurd Hok.out h, (hEr.trans hEa).trans hE4⟩
        unfold rootV
        rw [← Hdg.out]
        exact own3.base (hEr.trans hEa).size
  · have hno : ¬ rootOK Ls := fun h => h64 (by rw [← Hn.out]; exact h.1)
    have Hno := Lib.hid hno
    have hzi : ¬ ((n : Int) = 64) := by omega
    clear hno
    go_enter Try.func66, Try.ntmps66
    go_wp2_with fail
    go_ret2
    exact ⟨fun h => absurd h Hno.out, fun _ => rfl, Ext.refl _⟩
end Go.Proofs.Ytkndgpjamijbbaa
namespace Go.Proofs.Ytkndgpjamijbbaa
set_option maxRecDepth 100000
open Go Go.RowKit
theorem RBB.take {w : World} {A : Option Addr} {n c : Nat} {Ls : List (List UInt8)} (h : RBB w A n c Ls) {k : Nat} (hk : k ≤ n) : RBB w A k c (Ls.take k) :=
  ⟨by rw [List.length_take, h.len]; omega, Nat.le_trans hk h.room, h.cap, fun h0 => by
    obtain ⟨ad, ha, hc⟩ := h.cells (by omega)
    refine ⟨ad, ha, fun j hj => ?_⟩
    obtain ⟨B, m, d, h1, h2⟩ := hc j (by omega)
    refine ⟨B, m, d, h1, ?_⟩
    have e : lb (Ls.take k) j = lb Ls j := by unfold lb; simp [List.getElem?_take, hj]
    rw [e]
    exact h2⟩
end Go.Proofs.Ytkndgpjamijbbaa
namespace Go.Proofs.Ytkndgpjamijbbaa
set_option maxRecDepth 100000
open Go Go.RowKit
def nodeV (a b : List UInt8) : List UInt8 := tagged 14 (a ++ b)
def upL (Ls : List (List UInt8)) : List (List UInt8) := (List.range (Ls.length / 2)).map fun i => nodeV (lb Ls (2 * i)) (lb Ls (2 * i + 1))
def leavesL (S : List UInt8) : List (List UInt8) := (List.range 16).map fun k => publicL S ((k : Nat) : Int)
def lev (S : List UInt8) : Nat → List (List UInt8)
  | 0 => leavesL S
  | h + 1 => upL (lev S h)
def ownP (S : List UInt8) : List UInt8 := lb (lev S 4) 0
def pathB (S : List UInt8) (k h : Nat) : List UInt8 := lb (lev S h) (k / 2 ^ h + 1 - 2 * (k / 2 ^ h % 2))
def pathL (S : List UInt8) (k : Nat) : List (List UInt8) := (List.range 4).map (pathB S k)
def climbB (k h : Nat) (t o : List UInt8) : List UInt8 := if k / 2 ^ h % 2 = 0 then nodeV t o else nodeV o t
def climb (k : Nat) (t : List UInt8) (path : List (List UInt8)) : Nat → List UInt8
  | 0 => t
  | h + 1 => climbB k h (climb k t path h) (lb path h)
theorem nodeV_length (a b : List UInt8) : (nodeV a b).length = 32 := tagged_length _ _
theorem upL_length (Ls : List (List UInt8)) : (upL Ls).length = Ls.length / 2 := by simp [upL]
theorem lev_length (S : List UInt8) (h : Nat) : (lev S h).length = 16 / 2 ^ h := by
  induction h with
  | zero => simp [lev, leavesL]
  | succ h ih =>
    show (upL (lev S h)).length = _
    rw [upL_length, ih, Nat.div_div_eq_div_mul]
    rfl
theorem lb_upL (Ls : List (List UInt8)) {i : Nat} (h : i < Ls.length / 2) : lb (upL Ls) i = nodeV (lb Ls (2 * i)) (lb Ls (2 * i + 1)) := by
  unfold upL
  rw [lb_range _ h]
theorem publicL_length (S : List UInt8) (k : Int) : (publicL S k).length = 32 := tagged_length _ _
theorem lb_lev_length (S : List UInt8) (h i : Nat) (hi : i < 16 / 2 ^ h) : (lb (lev S h) i).length = 32 := by
  cases h with
  | zero =>
    show (lb (leavesL S) i).length = 32
    unfold leavesL
    rw [lb_range _ (by simpa using hi)]
    exact publicL_length _ _
  | succ h =>
    show (lb (upL (lev S h)) i).length = 32
    have h2 : i < (lev S h).length / 2 := by
      rw [lev_length, Nat.div_div_eq_div_mul]
      exact hi
    rw [lb_upL _ h2]
    exact nodeV_length _ _
theorem step_lt {k h : Nat} (hk : k < 16) (hh : h < 4) : k / 2 ^ h + 1 - 2 * (k / 2 ^ h % 2) < 16 / 2 ^ h ∧ k / 2 ^ (h + 1) < 16 / 2 ^ h / 2 ∧ k / 2 ^ (h + 1) = k / 2 ^ h / 2 := by
  have h3 : k / 2 ^ (h + 1) = k / 2 ^ h / 2 := by rw [Nat.pow_succ, Nat.div_div_eq_div_mul]
  refine ⟨?_, ?_, h3⟩
  · obtain rfl | rfl | rfl | rfl : h = 0 ∨ h = 1 ∨ h = 2 ∨ h = 3 := by omega
    all_goals simp only [Nat.reducePow, Nat.reduceDiv, Nat.div_one]; omega
  · obtain rfl | rfl | rfl | rfl : h = 0 ∨ h = 1 ∨ h = 2 ∨ h = 3 := by omega
    all_goals simp only [Nat.reducePow, Nat.reduceAdd, Nat.reduceDiv, Nat.div_one]; omega
theorem climb_path (S : List UInt8) (k : Nat) (hk : k < 16) : ∀ h, h ≤ 4 → climb k (publicL S ((k : Nat) : Int)) (pathL S k) h = lb (lev S h) (k / 2 ^ h) := by
  intro h
  induction h with
  | zero =>
    intro _
    show publicL S ((k : Nat) : Int) = lb (leavesL S) (k / 1)
    unfold leavesL
    rw [Nat.div_one, lb_range _ hk]
  | succ h ih =>
    intro hh
    have h1 := step_lt hk (h := h) (by omega)
    show climbB k h (climb k _ (pathL S k) h) (lb (pathL S k) h) = lb (upL (lev S h)) (k / 2 ^ (h + 1))
    rw [ih (by omega), lb_upL _ (by rw [lev_length]; exact h1.2.1), h1.2.2]
    unfold pathL
    rw [lb_range _ (by omega)]
    unfold climbB pathB
    generalize k / 2 ^ h = q
    by_cases h0 : q % 2 = 0
    · rw [if_pos h0, h0, show q + 1 - 2 * 0 = 2 * (q / 2) + 1 from by omega]
      congr 2
      omega
    · have h2 : q % 2 = 1 := by omega
      rw [if_neg h0, h2, show q + 1 - 2 * 1 = 2 * (q / 2) from by omega]
      congr 2
      omega
theorem climb_own (S : List UInt8) (k : Nat) (hk : k < 16) : climb k (publicL S ((k : Nat) : Int)) (pathL S k) 4 = ownP S := by
  rw [climb_path S k hk 4 (by omega), show k / 2 ^ 4 = 0 from Nat.div_eq_of_lt hk]
  rfl
end Go.Proofs.Ytkndgpjamijbbaa
namespace Go.Proofs.Ytkndgpjamijbbaa
set_option maxRecDepth 100000
open Go Go.RowKit
def seedL (key : Int) : List UInt8 := tagged 99 [UInt8.ofNat ((within key 0 1000).toNat % 5)]
set_option maxHeartbeats 1000000 in
theorem seed_any (key : Int) (w : World) (h0 : -9223372036854775808 ≤ key) (h1 : key ≤ 9223372036854775807) :
    Calls Try.prog 23 #[.int .i64 key] w fun e w' => ∃ A' c', e = .returned (.slice A' 32 c') ∧ OB w' w.heap.size A' 32 c' (seedL key) ∧ Ext w w' := by
  obtain ⟨k, hk⟩ : ∃ k : Nat, within key 0 1000 = k := ⟨_, (Int.toNat_of_nonneg (within_in key 0 1000 (by omega)).1).symm⟩
  have hwi := within_any key 0 1000 w h0 h1 (by omega) (by omega) (by omega)
  have hs : seedL key = tagged 99 [UInt8.ofNat (k % 5)] := by unfold seedL; rw [hk]; rfl
  rw [hk] at hwi
  rw [hs]
  have Hwi := Lib.hid hwi
  clear hwi hs hk
  go_enter Try.func23, Try.ntmps23
  go_wp2_with fail
  refine Hwi.out.mono ?_
  rintro e w1 ⟨rfl, rfl⟩
  have e1 : (k : Int) % 5 = u8i (UInt8.ofNat (k % 5)) := by
    unfold u8i
    rw [UInt8.toNat_ofNat']
    omega
  have r1 := RB.lit w [UInt8.ofNat (k % 5)] (n := 1) rfl (small_maxLen (by decide))
  have hE1 := Ext.new w (.cells (bv [UInt8.ofNat (k % 5)]).toArray 5)
  have r2 := RBB.of1 r1 22
  have hE2 := Ext.new (w.alloc (.cells (bv [UInt8.ofNat (k % 5)]).toArray 5)) (.cells #[.slice (some ⟨w.heap.size, 0, none⟩) 1 1] 22)
  have hta := rtagged_any 99 _ 1 1 _ _ r2 (by simp)
  have e99 : u8i 99 = 99 := rfl
  rw [e99, World.size_alloc] at hta
  have Hta := Lib.hid hta
  clear hta
  go_wp2_with fail
  refine Hta.out.mono ?_
  rintro e w3 ⟨A3, c3, rfl, own3, hE3⟩
  go_wp2_with fail
  go_ret
  exact ⟨A3, c3, rfl, own3.base (hE1.trans hE2).size, (hE1.trans hE2).trans hE3⟩
end Go.Proofs.Ytkndgpjamijbbaa
namespace Go.Proofs.Ytkndgpjamijbbaa
set_option maxRecDepth 100000
open Go Go.RowKit
theorem bitvec_u8t (x : UInt8) : BitVec.ofInt (IntKind.u8).bits (x.toNat : Int) = x.toBitVec := by
  apply BitVec.eq_of_toNat_eq
  have := x.toNat_lt
  simp [IntKind.bits]
theorem bits_xor8t (x y : UInt8) : bits .xor .u8 (u8i x) (u8i y) = u8i (x ^^^ y) := by
  have h1 : BitVec.ofInt (IntKind.u8).bits (u8i x) = x.toBitVec := bitvec_u8t x
  have h2 : BitVec.ofInt (IntKind.u8).bits (u8i y) = y.toBitVec := bitvec_u8t y
  unfold bits
  simp only [h1, h2]
  have h3 := (x ^^^ y).toNat_lt
  show IntKind.u8.wrap ((x ^^^ y).toNat : Int) = u8i (x ^^^ y)
  rw [IntKind.wrap_u8]
  unfold u8i
  omega
theorem OBC.plain {w : World} {base n c : Nat} {ad : Addr} {Ls : List (List UInt8)} (h : OBC w base (some ad) n c Ls) : ∃ g, ad = ⟨g, 0, none⟩ := by
  obtain ⟨vs, h1, _⟩ := h
  rcases h1.2 with ⟨e, _⟩ | ⟨g', cap, cur, e, _⟩
  · cases e
  · injection e with e1 e2 e3
    injection e1 with e1
    exact ⟨g', e1⟩
theorem OBC.frozen {w : World} {base n c g : Nat} {Ls : List (List UInt8)} (h : OBC w base (some ⟨g, 0, none⟩) n c Ls) (i : Nat) : w.frozen? ⟨g, i, none⟩ = false := by
  obtain ⟨vs, h1, _⟩ := h
  exact World.ownsRow.frozenAt h1 i
theorem lb_set {Ls : List (List UInt8)} {i j : Nat} {Y : List UInt8} (hi : i < Ls.length) : lb (Ls.set i Y) j = if j = i then Y else lb Ls j := by
  unfold lb
  by_cases h : j = i
  · subst h; simp [hi]
  · rw [if_neg h]; simp [List.getElem?_set, Ne.symm h]
end Go.Proofs.Ytkndgpjamijbbaa

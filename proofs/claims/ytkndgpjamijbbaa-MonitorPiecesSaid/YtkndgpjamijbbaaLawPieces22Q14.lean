/-
  once.Public, Sign and Root, walked. The reference's Tagged, walked: the SHA-256 of the tag and all parts.
-/
import Derived.Test.YtkndgpjamijbbaaLawPieces22Q13
import Derived.Test.YtkndgpjamijbbaaLawPieces22Q7
import Derived.Test.YtkndgpjamijbbaaLawPieces22Q5
namespace Go.Proofs.Ytkndgpjamijbbaa
set_option maxRecDepth 100000
open Go Go.RowKit
theorem flat32 (f : Nat → List UInt8) (h : ∀ i, (f i).length = 32) (k : Nat) : (((List.range k).map f).flatten).length = 32 * k := by
  induction k with
  | zero => rfl
  | succ k ih => rw [range_snoc, List.flatten_append, List.length_append, ih]; simp [h]; omega
theorem flat32' (f : Nat → List UInt8) (k : Nat) (h : ∀ i, i < k → (f i).length = 32) : (((List.range k).map f).flatten).length = 32 * k := by
  induction k with
  | zero => rfl
  | succ k ih =>
    rw [range_snoc, List.flatten_append, List.length_append, ih (fun i hi => h i (by omega))]
    simp only [List.flatten_cons, List.flatten_nil, List.append_nil, h k (by omega)]
    omega
theorem secretL_length (S : List UInt8) (key bit side : Int) : (secretL S key bit side).length = 32 := tagged_length _ _
theorem shownL_length (S : List UInt8) (key bit side : Int) : (shownL S key bit side).length = 32 := tagged_length _ _
theorem partP_length (S : List UInt8) (key : Int) (i : Nat) : (partP S key i).length = 32 := shownL_length _ _ _ _
theorem partS_length (dg : UInt32) (S : List UInt8) (key : Int) (i : Nat) : (partS dg S key i).length = 32 := by
  unfold partS
  split
  · exact secretL_length _ _ _ _
  · exact shownL_length _ _ _ _
def publicL (S : List UInt8) (key : Int) : List UInt8 := tagged 12 ((List.range 64).map (partP S key)).flatten
def rootPart (dg : UInt32) (Ls : List (List UInt8)) (i : Nat) : List UInt8 := if toldB dg (i / 2) (i % 2) = true then tagged 11 (lb Ls i) else lb Ls i
def rootV (M : List UInt8) (Ls : List (List UInt8)) : List UInt8 := tagged 12 ((List.range 64).map (rootPart (digestW M) Ls)).flatten
def rootOK (Ls : List (List UInt8)) : Prop := Ls.length = 64 ∧ ∀ i, i < 64 → (lb Ls i).length = 32
theorem lb_range (f : Nat → List UInt8) {i k : Nat} (h : i < k) : lb ((List.range k).map f) i = f i := by simp [lb, h]
theorem root_sign (M S : List UInt8) (key : Int) : rootOK ((List.range 64).map (partS (digestW M) S key)) ∧ rootV M ((List.range 64).map (partS (digestW M) S key)) = publicL S key := by
  refine ⟨⟨by simp, fun i hi => by rw [lb_range _ hi]; exact partS_length _ _ _ _⟩, ?_⟩
  unfold rootV publicL
  congr 2
  apply List.map_congr_left
  intro i hi
  rw [List.mem_range] at hi
  unfold rootPart partP
  rw [lb_range _ hi]
  unfold partS
  by_cases h : toldB (digestW M) (i / 2) (i % 2) = true
  · rw [if_pos h, if_pos h]
    rfl
  · rw [if_neg h, if_neg h]
def RootI (w : World) (dg : UInt32) (Ls : List (List UInt8)) (v i : Value) (wr : World) : Prop :=
  ∃ (k d : Nat) (P : Option Addr), k ≤ 64 ∧ i = .int .i64 k ∧ v = .slice P k d ∧ OBC wr w.heap.size P k d ((List.range k).map (rootPart dg Ls)) ∧ (∀ j, j < k → (lb Ls j).length = 32) ∧ Ext w wr
set_option maxHeartbeats 4000000 in
theorem root_any (B A : Option Addr) (m d n c : Nat) (M : List UInt8) (Ls : List (List UInt8)) (w : World) (hm : RB w B m d M) (hmn : m ≤ 140737488355000) (hr : RBB w A n c Ls) :
    Calls Try.prog 91 #[.slice B m d, .slice A n c] w fun e w' => (rootOK Ls → ∃ A' c', e = .returned (.tuple #[.slice A' 32 c', .bool true]) ∧ OB w' w.heap.size A' 32 c' (rootV M Ls)) ∧ (¬ rootOK Ls → e = .returned (.tuple #[.slice none 0 0, .bool false])) ∧ Ext w w' := by
  have hln := hr.len
  have Hn := Lib.hid hln
  clear hln
  by_cases h64 : n = 64
  · subst h64
    go_enter Try.func91, Try.ntmps91
    go_wp2_with fail
    refine (digest_any B m d M w hm hmn).mono ?_
    rintro e w1 ⟨rfl, hE1⟩
    obtain ⟨dg, hdg⟩ : ∃ dg, dg = digestW M := ⟨_, rfl⟩
    rw [← hdg]
    have Hdg := Lib.hid hdg
    clear hdg
    go_wp2_with fail
    go_loopw [7, 17] (fun v i wr => RootI w dg Ls v i wr) (fun _ i _ => 64 - (intOf i).toNat)
    case atStart => exact ⟨0, 0, none, by omega, rfl, rfl, OBC.none_ _ _, fun j hj => absurd hj (Nat.not_lt_zero _), hE1⟩
    case round =>
      obtain ⟨k, q, P, hk, rfl, rfl, own, hall, hEr⟩ := hrel
      have Hall := Lib.hid hall
      clear hall
      by_cases hlt : k < 64
      · have hki : (k : Int) < 64 := by omega
        obtain ⟨ad, rfl, hc⟩ := hr.cells (by omega)
        obtain ⟨E, z, y, hcell, hrE⟩ := hc k hlt
        have y1 := hEr.cell hcell
        have rE := hrE.ext hEr
        have hEl := rE.len
        by_cases hz : z = 32
        · subst hz
          have hEl2 := Lib.hid hEl
          clear hEl hc hcell
          go_wp2_with fail
          have ht := told_any dg (k / 2) (k % 2) wr (by omega)
          rw [show ((k / 2 : Nat) : Int) = (k : Int) / 2 from by omega, show ((k % 2 : Nat) : Int) = (k : Int) % 2 from by omega] at ht
          refine ht.mono ?_
          rintro e w2 ⟨rfl, hE2⟩
          clear ht
          have rE2 := rE.ext hE2
          cases htd : toldB dg (k / 2) (k % 2) with
          | true =>
            have Htd := Lib.hid htd
            clear htd
            have r1 := RBB.of1 rE2 22
            have hE3 := Ext.new w2 (.cells #[.slice E 32 y] 22)
            have hta := htagged_any 11 _ 1 1 _ _ r1 (by simp only [List.flatten_cons, List.flatten_nil, List.append_nil, hEl2.out]; omega)
            have e11 : u8i 11 = 11 := rfl
            rw [e11, show [lb Ls k].flatten = lb Ls k from by simp] at hta
            have Hta := Lib.hid hta
            clear hta
            go_wp2_with fail
            refine Hta.out.mono ?_
            rintro e w3 ⟨A3, c3, rfl, own3, hE4⟩
            clear Hta
            have hE24 := hE2.trans (hE3.trans hE4)
            have hEw := hEr.trans hE24
            have hEa := Ext.new w3 (.cells #[.slice A3 32 c3] 22)
            have hBa := Blk.new w3 22 #[.slice A3 32 c3]
            have own4 := (own.ext hE24).ext hEa
            have hY : RB w3 A3 32 c3 (rootPart dg Ls k) := by
              unfold rootPart
              rw [if_pos Htd.out]
              exact own3.rb
            have hne : 0 < 32 → blk A3 ≠ blk P := by
              intro _ e
              obtain ⟨b, hb⟩ : ∃ b, blk A3 = some b := by
                obtain ⟨ad', h1, _⟩ := own3.rb.cells (by omega)
                rw [h1]
                exact ⟨_, rfl⟩
              have h1 := (own3.lt hb).1
              have h2 := own.lt (e.symm.trans hb)
              have h3 := (hE2.trans hE3).size
              omega
            go_wp2_with (refine appbc_law (base := w.heap.size) (Y := rootPart dg Ls k) rfl rfl rfl rfl (by rw [add_plain]; exact hBa.cell (i := 0) rfl) own4 (hY.ext hEa) hne (hEw.trans hEa).size (by omega) ?_; intro P5 d5 w5 own5 g5)
            go_roundw
            case rel =>
              rw [← range_snoc] at own5
              refine ⟨k + 1, d5, P5, by omega, by go_num, rfl, own5, fun j hj => ?_, (hEw.trans hEa).then_grown g5 (fun b hb => (own4.lt hb).1)⟩
              by_cases hjk : j = k
              · rw [hjk]; exact hEl2.out
              · exact Hall.out j (by omega)
            case measure => simp [intOf]; omega
          | false =>
            have Htd := Lib.hid (show ¬ toldB dg (k / 2) (k % 2) = true by rw [htd]; simp)
            clear htd
            have hEw := hEr.trans hE2
            have hEa := Ext.new w2 (.cells #[.slice E 32 y] 22)
            have hBa := Blk.new w2 22 #[.slice E 32 y]
            have own4 := (own.ext hE2).ext hEa
            have hY : RB w2 E 32 y (rootPart dg Ls k) := by
              unfold rootPart
              rw [if_neg Htd.out]
              exact rE2
            have hne : 0 < 32 → blk E ≠ blk P := by
              intro _ e
              obtain ⟨b, hb⟩ : ∃ b, blk E = some b := by
                obtain ⟨ad', h1, _⟩ := hrE.cells (by omega)
                rw [h1]
                exact ⟨_, rfl⟩
              have h1 := rb_blk_lt hrE (by omega) _ hb
              have h2 := own.lt (e.symm.trans hb)
              omega
            go_wp2_with (refine appbc_law (base := w.heap.size) (Y := rootPart dg Ls k) rfl rfl rfl rfl (by rw [add_plain]; exact hBa.cell (i := 0) rfl) own4 (hY.ext hEa) hne (hEw.trans hEa).size (by omega) ?_; intro P5 d5 w5 own5 g5)
            go_roundw
            case rel =>
              rw [← range_snoc] at own5
              refine ⟨k + 1, d5, P5, by omega, by go_num, rfl, own5, fun j hj => ?_, (hEw.trans hEa).then_grown g5 (fun b hb => (own4.lt hb).1)⟩
              by_cases hjk : j = k
              · rw [hjk]; exact hEl2.out
              · exact Hall.out j (by omega)
            case measure => simp [intOf]; omega
        · have hno : ¬ rootOK Ls := fun h => hz (by rw [← hEl]; exact h.2 k hlt)
          have Hno := Lib.hid hno
          have hzi : ¬ ((z : Int) = 32) := by omega
          clear hno hEl hc hcell
          go_wp2_with fail
          go_ret2
          exact ⟨fun h => absurd h Hno.out, fun _ => rfl, hEr⟩
      · obtain rfl : k = 64 := by omega
        have hok : rootOK Ls := ⟨Hn.out, Hall.out⟩
        have Hok := Lib.hid hok
        have hplen : ∀ i, i < 64 → (rootPart dg Ls i).length = 32 := by
          intro i hi
          unfold rootPart
          split
          · exact tagged_length _ _
          · exact Hall.out i hi
        have hta := htagged_any 12 P 64 q _ wr own.rbb (by rw [flat32' _ 64 hplen]; omega)
        have e12 : u8i 12 = 12 := rfl
        rw [e12] at hta
        have Hta := Lib.hid hta
        clear hta hok hplen
        go_wp2_with fail
        refine Hta.out.mono ?_
        rintro e w3 ⟨A3, c3, rfl, own3, hE4⟩
        clear Hta
        go_wp2_with fail
        go_ret2
        refine ⟨fun _ => ⟨A3, c3, rfl, ?_⟩, fun h => absurd Hok.out h, hEr.trans hE4⟩
        unfold rootV
        rw [← Hdg.out]
        exact own3.base hEr.size
  · have hno : ¬ rootOK Ls := fun h => h64 (by rw [← Hn.out]; exact h.1)
    have Hno := Lib.hid hno
    have hzi : ¬ ((n : Int) = 64) := by omega
    clear hno
    go_enter Try.func91, Try.ntmps91
    go_wp2_with fail
    go_ret2
    exact ⟨fun h => absurd h Hno.out, fun _ => rfl, Ext.refl _⟩
end Go.Proofs.Ytkndgpjamijbbaa
namespace Go.Proofs.Ytkndgpjamijbbaa
set_option maxRecDepth 100000
open Go Go.RowKit
set_option maxHeartbeats 1000000 in
theorem rtagged_any (t : UInt8) (A : Option Addr) (n c : Nat) (Ls : List (List UInt8)) (w : World) (hr : RBB w A n c Ls) (hn : Ls.flatten.length ≤ 140737488355199) :
    Calls Try.prog 60 #[.int .u8 (u8i t), .slice A n c] w fun e w' => ∃ A' c', e = .returned (.slice A' 32 c') ∧ OB w' w.heap.size A' 32 c' (tagged t Ls.flatten) ∧ Ext w w' := by
  have hln := hr.len
  have hroom := hr.room
  have hcap := hr.cap
  unfold maxLen at hcap
  have Hn := Lib.hid hln
  clear hln
  go_enter Try.func60, Try.ntmps60
  go_wp2_with fail
  go_loopw [5, 6] (fun v i wr => ∃ (k q d : Nat) (B : Option Addr), k ≤ n ∧ i = .int .i64 k ∧ v = .slice B q d ∧ OB wr w.heap.size B q d (t :: (Ls.take k).flatten) ∧ Ext w wr) (fun _ i _ => n - (intOf i).toNat)
  case atStart => exact ⟨0, 1, 1, _, by omega, rfl, rfl, OB.lit w [t] rfl (small_maxLen (by decide)), Ext.new w _⟩
  case round =>
    obtain ⟨k, q, d, B, hk, rfl, rfl, own, hEr⟩ := hrel
    by_cases hlt : k < n
    · obtain ⟨ad, rfl, hc⟩ := hr.cells (by omega)
      obtain ⟨B1, m1, d1, hcell, hrb⟩ := hc k hlt
      have hcell' := hEr.cell hcell
      have hrb' := hrb.ext hEr
      have hlq : q + m1 ≤ 140737488355328 := by
        have h1 := own.len
        have h2 := hrb.len
        have h3 := flatten_step_le Ls k (by rw [Hn.out]; exact hlt)
        simp only [List.length_cons] at h1
        omega
      clear hc hcell
      go_wp2_with (refine app_own (N := q + m1) (LM := t :: (Ls.take (k + 1)).flatten) rfl rfl rfl rfl hEr own hrb' rfl (by rw [flatten_take_succ Ls k (by rw [Hn.out]; exact hlt)]; rfl) hlq ?_; intro A3 c3 W3 own3 hE3)
      go_roundw
      case rel => exact ⟨k + 1, _, c3, A3, by omega, by go_num, rfl, own3, hE3⟩
      case measure => simp [intOf]; omega
    · obtain rfl : k = n := by omega
      rw [List.take_of_length_le (by rw [Hn.out]; exact Nat.le_refl _)] at own
      have hq : q ≤ 140737488355200 := by
        have h1 := own.len
        simp only [List.length_cons] at h1
        omega
      go_wp2_with fail
      refine (sum_any B q d _ wr own.rb hq).mono ?_
      rintro e W4 ⟨A4, c4, rfl, own4, hE4⟩
      go_wp2_with fail
      go_ret
      exact ⟨A4, c4, rfl, own4.base hEr.size, hEr.trans hE4⟩
end Go.Proofs.Ytkndgpjamijbbaa

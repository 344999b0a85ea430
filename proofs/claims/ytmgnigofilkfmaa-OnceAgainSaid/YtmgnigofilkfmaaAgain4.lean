/-
  law4.OnceAgain, walked.
-/
import Derived.Test.YtmgnigofilkfmaaOwn4
namespace Go.Proofs.Ytmgnigofilkfmaa
set_option maxRecDepth 100000
open Go Go.RowKit
theorem u8i_inc4 (b : UInt8) : (u8i b + 1) % 256 = u8i (b + 1) := by
  unfold u8i
  rw [UInt8.toNat_add]
  have : (1 : UInt8).toNat = 1 := rfl
  rw [this]
  omega
def AnyOB (w : World) (base g d : Nat) : Prop := ∃ L, OB w base (some ⟨g, 0, none⟩) 32 d L
theorem AnyOB.store {w : World} {base g d g' d' : Nat} {L : List UInt8} (h : AnyOB w base g d) (hB : OB w base (some ⟨g', 0, none⟩) 32 d' L) (k : Nat) (b : UInt8) : AnyOB (w.setCell ⟨g', k, none⟩ (.int .u8 (u8i b))) base g d := by
  obtain ⟨L1, o⟩ := h
  by_cases e : g = g'
  · subst e
    exact ⟨_, (o.set k b).1⟩
  · exact ⟨L1, o.grown (hB.set k b).2 (.inr (by intro e2; injection e2 with e2; exact e e2))⟩
def PartsAny (w : World) (base g c : Nat) (vs : List Value) : Prop :=
  w.ownsRow base 22 1 (.slice (some ⟨g, 0, none⟩) 64 c) 64 vs ∧ ∀ j, j < 64 → ∃ g' d, vs[j]? = some (.slice (some ⟨g', 0, none⟩) 32 d) ∧ AnyOB w base g' d ∧ g' ≠ g
theorem PartsAny.store {w : World} {base g c g' d' : Nat} {vs : List Value} {L : List UInt8} (h : PartsAny w base g c vs) (hB : OB w base (some ⟨g', 0, none⟩) 32 d' L) (hne : g' ≠ g) (k : Nat) (b : UInt8) : PartsAny (w.setCell ⟨g', k, none⟩ (.int .u8 (u8i b))) base g c vs := by
  refine ⟨World.ownsRow.kept h.1 (hB.set k b).2 (.inr (by rw [ownBlock_slice]; intro e; injection e with e; exact hne e.symm)), fun j hj => ?_⟩
  obtain ⟨g1, d1, e, o, n⟩ := h.2 j hj
  exact ⟨g1, d1, e, o.store hB k b, n⟩
theorem PartsAny.cell {w : World} {base g c : Nat} {vs : List Value} (h : PartsAny w base g c vs) {j : Nat} (hj : j < 64) :
    ∃ g' d L, w.cell? ⟨g, j, none⟩ = some (.slice (some ⟨g', 0, none⟩) 32 d) ∧ OB w base (some ⟨g', 0, none⟩) 32 d L ∧ g' ≠ g := by
  obtain ⟨g1, d1, e, ⟨L, o⟩, n⟩ := h.2 j hj
  have h2 := World.ownsRow.cells h.1 (g := g) rfl j _ e
  rw [add_plain] at h2
  exact ⟨g1, d1, L, h2, o, n⟩
theorem PartsAny.of {w : World} {base g c : Nat} {Ls : List (List UInt8)} (h : OBD w base (some ⟨g, 0, none⟩) 64 c Ls) : ∃ vs, PartsAny w base g c vs := by
  obtain ⟨vs, h1, _, h3⟩ := h
  refine ⟨vs, h1, fun j hj => ?_⟩
  obtain ⟨g', d, h4, h5, h6⟩ := h3 j hj
  exact ⟨g', d, h4, ⟨_, h5⟩, fun e => h6 (by rw [e]; rfl)⟩
def AgainI (w : World) (g c : Nat) (vs : List Value) (gp dp : Nat) (wr : World) : Prop := PartsAny wr w.heap.size g c vs ∧ AnyOB wr w.heap.size gp dp ∧ Ext w wr
theorem AgainI.store {w wr : World} {g c gp dp g' d' : Nat} {vs : List Value} {L : List UInt8} (h : AgainI w g c vs gp dp wr) (hB : OB wr w.heap.size (some ⟨g', 0, none⟩) 32 d' L) (hne : g' ≠ g) (k : Nat) (b : UInt8) : AgainI w g c vs gp dp (wr.setCell ⟨g', k, none⟩ (.int .u8 (u8i b))) :=
  ⟨h.1.store hB hne k b, h.2.1.store hB k b, h.2.2.then_grown (hB.set k b).2 (by intro j hj; cases hj; exact hB.ge)⟩
def AgainP (w : World) (gp dp : Nat) (wr : World) : Prop := AnyOB wr w.heap.size gp dp ∧ Ext w wr
theorem AgainP.store {w wr : World} {gp dp : Nat} {L : List UInt8} (h : AgainP w gp dp wr) (hB : OB wr w.heap.size (some ⟨gp, 0, none⟩) 32 dp L) (k : Nat) (b : UInt8) : AgainP w gp dp (wr.setCell ⟨gp, k, none⟩ (.int .u8 (u8i b))) :=
  ⟨h.1.store hB k b, h.2.then_grown (hB.set k b).2 (by intro j hj; cases hj; exact hB.ge)⟩
set_option maxHeartbeats 4000000 in
theorem again_law (A B : Option Addr) (n c m e' : Nat) (L Q : List UInt8) (key : Int) (w : World) (hr : RB w A n c L) (hq : RB w B m e' Q) :
    Calls Try.prog 14 #[.slice A n c, .int .i64 key, .slice B m e'] w fun e w' => e = .returned (.bool true) ∧ Ext w w' := by
  go_enter Try.func14, Try.ntmps14
  have hc1 := cut_any A n c 40 L w hr (by omega)
  have hc2 := cut_any B m e' 60 Q w hq (by omega)
  have e50 : ((40 : Nat) : Int) = 40 := rfl
  have e200 : ((60 : Nat) : Int) = 60 := rfl
  rw [e50] at hc1
  rw [e200] at hc2
  go_wp2_with fail
  refine hc1.mono ?_
  rintro e w1 ⟨⟨rfl, rS⟩, rfl⟩
  go_wp2_with fail
  refine hc2.mono ?_
  rintro e w1 ⟨⟨rfl, rM⟩, rfl⟩
  clear hc1 hc2 e50 e200 hr hq
  have hn1 : min n 40 ≤ 40 := by omega
  have hm1 : min m 60 ≤ 60 := by omega
  generalize min n 40 = n at *
  generalize L.take 40 = S at *
  generalize min m 60 = m at *
  generalize Q.take 60 = M at *
  go_wp2_with fail
  refine (sign_own A B n c m e' S M key w rS (by omega) rM (by omega)).mono ?_
  rintro e w2 ⟨P, d, rfl, own, hE2⟩
  obtain ⟨ad, rfl, _⟩ := own.obc.rbb.cells (by omega)
  obtain ⟨g, rfl⟩ := own.obc.plain
  go_wp2_with fail
  refine (public_any A n c S key w2 (rS.ext hE2) (by omega)).mono ?_
  rintro e w3 ⟨A3, dp, rfl, own3, hE3⟩
  obtain ⟨ad3, rfl, _⟩ := own3.rb.cells (by omega)
  obtain ⟨gp, rfl⟩ := own3.plain
  have s1 := run_str own3.rb
  obtain ⟨vs, hvs⟩ := PartsAny.of (own.ext hE3)
  have hI0 : AgainI w g d vs gp dp w3 := ⟨hvs, ⟨_, own3.base hE2.size⟩, hE2.trans hE3⟩
  clear own own3 hE2 hE3 hvs
  go_wp2_with fail
  clear s1
  go_loopw [10] (fun i wr => ∃ j : Nat, j ≤ 64 ∧ i = .int .i64 j ∧ AgainI w g d vs gp dp wr) (fun i _ => 64 - (intOf i).toNat)
  case atStart => exact ⟨0, by omega, rfl, hI0⟩
  case round =>
    clear hI0
    obtain ⟨j, hj, rfl, hI⟩ := hrel
    by_cases hlt : j < 64
    · have hji : (j : Int) < 64 := by omega
      go_wp2_with fail
      go_loopw [11] (fun i wr => ∃ k : Nat, k ≤ 32 ∧ i = .int .i64 k ∧ AgainI w g d vs gp dp wr) (fun i _ => 32 - (intOf i).toNat)
      case atStart => exact ⟨0, by omega, rfl, hI⟩
      case round =>
        clear hI
        obtain ⟨k, hk, rfl, hI⟩ := hrel
        obtain ⟨g', d', L', y0, ho, hne⟩ := hI.1.cell hlt
        by_cases hlk : k < 32
        · have hki : (k : Int) < 32 := by omega
          have y1 := ho.cell hlk
          have y2 := ho.frozen k
          have y3 := u8i_inc4 (ub L' k)
          go_wp2_with fail
          go_roundw
          case rel => exact ⟨k + 1, by omega, by go_num, hI.store ho hne k (ub L' k + 1)⟩
          case measure => simp [intOf]; omega
        · obtain rfl : k = 32 := by omega
          go_wp2_with fail
          go_roundw
          case rel => exact ⟨j + 1, by omega, by go_num, hI⟩
          case measure => simp [intOf]; omega
    · obtain rfl : j = 64 := by omega
      have hP0 : AgainP w gp dp wr := hI.2
      clear hI
      go_wp2_with fail
      go_loopw [12] (fun i wr => ∃ k : Nat, k ≤ 32 ∧ i = .int .i64 k ∧ AgainP w gp dp wr) (fun i _ => 32 - (intOf i).toNat)
      case atStart => exact ⟨0, by omega, rfl, hP0⟩
      case round =>
        clear hP0
        obtain ⟨k, hk, rfl, hP⟩ := hrel
        by_cases hlk : k < 32
        · obtain ⟨L', ho⟩ := hP.1
          have y1 := ho.cell hlk
          have y2 := ho.frozen k
          have y3 := u8i_inc4 (ub L' k)
          go_wp2_with fail
          go_roundw
          case rel => exact ⟨k + 1, by omega, by go_num, hP.store ho k (ub L' k + 1)⟩
          case measure => simp [intOf]; omega
        · obtain rfl : k = 32 := by omega
          have hEp := hP.2
          clear hP
          have rS4 := rS.ext hEp
          have rM4 := rM.ext hEp
          go_wp2_with fail
          refine (sign_any A B n c m e' S M key _ rS4 (by omega) rM4 (by omega)).mono ?_
          rintro e w5 ⟨P9, d9, rfl, own9, hE5⟩
          have rb9 := own9.rbb
          have hrs := root_sign M S key
          go_wp2_with fail
          refine (root_any B P9 m e' 64 d9 M _ w5 (rM4.ext hE5) (by omega) rb9).mono ?_
          rintro e w6 ⟨h1, _, hE6⟩
          obtain ⟨A8, c8, rfl, own8⟩ := h1 hrs.1
          rw [hrs.2] at own8
          have r8 := own8.rb
          have rS9 := (rS4.ext hE5).ext hE6
          have hE06 := (hEp.trans hE5).trans hE6
          clear h1 hrs own8 own9 rb9 rS4 rM4 hE5 hE6 hEp
          go_upto_region 17 with (fail)
          refine seq_ext (n := 24) (by kernel_rfl) [.is (.bool (true)), .is (.bool (true)), .is (.slice (A8) (32) (c8)), .is (.string (str (publicL S key))), .is (.string (str (publicL S key))), .is (.bool (true)), .is (.bool (true)), .is (.bool (true)), .is (.slice (A) (n) (c)), .is (.int .i64 (key)), .rb (publicL S key), .is (.string (str (publicL S key))), .is (.string (str (publicL S key))), .is (.bool (true)), .is (.bool (true)), .is (.bool (true)), .is (.slice (P9) (64) (d9)), .is (.int .i64 ((64 : Nat))), .is (.bool (true)), .is (.bool (true)), .is (.bool (true)), .is (.bool (true)), .is (.bool (true)), .is (.bool (true))] rfl ⟨?_, ?_, ?_, ?_, ?_, ?_, ?_, ?_, ?_, ?_, ?_, ?_, ?_, ?_, ?_, ?_, ?_, ?_, ?_, ?_, ?_, ?_, ?_, ?_, trivial⟩ ?_
          · refine stepE rfl fun sdn sa sw sE sd sk => ?_
            have h15 : sa.eval (.tmp 15) = .bool (true) := sk.old 15 rfl
            exact Runs.move rfl h15 ⟨Ext.refl _, rfl⟩
          · refine stepE rfl fun sdn sa sw sE sd sk => ?_
            have h75 : sa.eval (.tmp 75) = .bool (true) := sk.fact 0 75 rfl (sd 0 rfl)
            exact Runs.move rfl h75 ⟨Ext.refl _, rfl⟩
          · refine stepY (j := 1) (d := 76) (b := true) rfl rfl rfl (fun v w h => h) fun sdn sa sw sE sd sk => ?_
            have h14 : sa.eval (.tmp 14) = .slice (A8) (32) (c8) := sk.old 14 rfl
            exact Runs.move rfl h14 ⟨Ext.refl _, rfl⟩
          · refine stepY (j := 1) (d := 76) (b := true) rfl rfl rfl (fun v w h => h) fun sdn sa sw sE sd sk => ?_
            have h77 : sa.eval (.tmp 77) = .slice (A8) (32) (c8) := sk.fact 2 77 rfl (sd 2 rfl)
            exact Runs.conv rfl h77 (run_str (r8.ext sE)) ⟨Ext.refl _, rfl⟩
          · refine stepY (j := 1) (d := 76) (b := true) rfl rfl rfl (fun v w h => h) fun sdn sa sw sE sd sk => ?_
            have h9 : sa.eval (.tmp 9) = .string (str (publicL S key)) := sk.old 9 rfl
            exact Runs.move rfl h9 ⟨Ext.refl _, rfl⟩
          · refine stepY (j := 1) (d := 76) (b := true) rfl rfl rfl (fun v w h => h) fun sdn sa sw sE sd sk => ?_
            have h78 : sa.eval (.tmp 78) = .string (str (publicL S key)) := sk.fact 3 78 rfl (sd 3 rfl)
            have h79 : sa.eval (.tmp 79) = .string (str (publicL S key)) := sk.fact 4 79 rfl (sd 4 rfl)
            exact Runs.bin rfl h78 h79 (by rfl) (bin_eqs _ _ _) ⟨Ext.refl _, congrArg Value.bool (by simp)⟩
          · refine stepE rfl fun sdn sa sw sE sd sk => ?_
            have h76 : sa.eval (.tmp 76) = .bool (true) := sk.fact 1 76 rfl (sd 1 rfl)
            have h80 : sa.eval (.tmp 80) = .bool (true) := sk.fact 5 80 rfl (sd 5 rfl)
            exact Runs.pick rfl h76 ⟨Ext.refl _, by first | exact h80 | simpa using h80⟩
          · refine stepE rfl fun sdn sa sw sE sd sk => ?_
            have h81 : sa.eval (.tmp 81) = .bool (true) := sk.fact 6 81 rfl (sd 6 rfl)
            exact Runs.move rfl h81 ⟨Ext.refl _, rfl⟩
          · refine stepY (j := 7) (d := 82) (b := true) rfl rfl rfl (fun v w h => h) fun sdn sa sw sE sd sk => ?_
            have h0 : sa.eval (.tmp 0) = .slice (A) (n) (c) := sk.old 0 rfl
            exact Runs.move rfl h0 ⟨Ext.refl _, rfl⟩
          · refine stepY (j := 7) (d := 82) (b := true) rfl rfl rfl (fun v w h => h) fun sdn sa sw sE sd sk => ?_
            have h1 : sa.eval (.tmp 1) = .int .i64 (key) := sk.old 1 rfl
            exact Runs.move rfl h1 ⟨Ext.refl _, rfl⟩
          · refine stepY (j := 7) (d := 82) (b := true) rfl rfl rfl (fun v w h => h) fun sdn sa sw sE sd sk => ?_
            have h83 : sa.eval (.tmp 83) = .slice (A) (n) (c) := sk.fact 8 83 rfl (sd 8 rfl)
            have h84 : sa.eval (.tmp 84) = .int .i64 (key) := sk.fact 9 84 rfl (sd 9 rfl)
            refine Runs.call (f := 38) (vs := [.slice (A) (n) (c), .int .i64 (key)]) rfl rfl rfl (by simp only [List.map_toArray, List.map_cons, List.map_nil, h83, h84] <;> rfl) (ent38 _ _) ((public_any _ _ _ _ key sw (rS9.ext sE) (by omega)).mono ?_); rintro e w' ⟨A', c', rfl, own, hx⟩; exact ⟨_, rfl, hx, A', 32, c', rfl, own.rb⟩
          · refine stepY (j := 7) (d := 82) (b := true) rfl rfl rfl (fun v w h => h) fun sdn sa sw sE sd sk => ?_
            obtain ⟨A85, n85, c85, h85, r85⟩ := sk.fact 10 85 rfl (sd 10 rfl)
            exact Runs.conv rfl h85 (run_str r85) ⟨Ext.refl _, rfl⟩
          · refine stepY (j := 7) (d := 82) (b := true) rfl rfl rfl (fun v w h => h) fun sdn sa sw sE sd sk => ?_
            have h9 : sa.eval (.tmp 9) = .string (str (publicL S key)) := sk.old 9 rfl
            exact Runs.move rfl h9 ⟨Ext.refl _, rfl⟩
          · refine stepY (j := 7) (d := 82) (b := true) rfl rfl rfl (fun v w h => h) fun sdn sa sw sE sd sk => ?_
            have h86 : sa.eval (.tmp 86) = .string (str (publicL S key)) := sk.fact 11 86 rfl (sd 11 rfl)
            have h87 : sa.eval (.tmp 87) = .string (str (publicL S key)) := sk.fact 12 87 rfl (sd 12 rfl)
            exact Runs.bin rfl h86 h87 (by rfl) (bin_eqs _ _ _) ⟨Ext.refl _, congrArg Value.bool (by simp)⟩
          · refine stepE rfl fun sdn sa sw sE sd sk => ?_
            have h82 : sa.eval (.tmp 82) = .bool (true) := sk.fact 7 82 rfl (sd 7 rfl)
            have h88 : sa.eval (.tmp 88) = .bool (true) := sk.fact 13 88 rfl (sd 13 rfl)
            exact Runs.pick rfl h82 ⟨Ext.refl _, by first | exact h88 | simpa using h88⟩
          · refine stepE rfl fun sdn sa sw sE sd sk => ?_
            have h89 : sa.eval (.tmp 89) = .bool (true) := sk.fact 14 89 rfl (sd 14 rfl)
            exact Runs.move rfl h89 ⟨Ext.refl _, rfl⟩
          · refine stepY (j := 15) (d := 90) (b := true) rfl rfl rfl (fun v w h => h) fun sdn sa sw sE sd sk => ?_
            have h13 : sa.eval (.tmp 13) = .slice (P9) (64) (d9) := sk.old 13 rfl
            exact Runs.move rfl h13 ⟨Ext.refl _, rfl⟩
          · refine stepY (j := 15) (d := 90) (b := true) rfl rfl rfl (fun v w h => h) fun sdn sa sw sE sd sk => ?_
            have h91 : sa.eval (.tmp 91) = .slice (P9) (64) (d9) := sk.fact 16 91 rfl (sd 16 rfl)
            exact Runs.len Try.underlying32 rfl h91 ⟨Ext.refl _, rfl⟩
          · refine stepY (j := 15) (d := 90) (b := true) rfl rfl rfl (fun v w h => h) fun sdn sa sw sE sd sk => ?_
            have h92 : sa.eval (.tmp 92) = .int .i64 ((64 : Nat)) := sk.fact 17 92 rfl (sd 17 rfl)
            exact Runs.bin rfl h92 rfl (by rfl) (bin_eql _ _ _ _) ⟨Ext.refl _, congrArg Value.bool (decide_eq_true rfl)⟩
          · refine stepE rfl fun sdn sa sw sE sd sk => ?_
            have h90 : sa.eval (.tmp 90) = .bool (true) := sk.fact 15 90 rfl (sd 15 rfl)
            have h93 : sa.eval (.tmp 93) = .bool (true) := sk.fact 18 93 rfl (sd 18 rfl)
            exact Runs.pick rfl h90 ⟨Ext.refl _, by first | exact h93 | simpa using h93⟩
          · refine stepE rfl fun sdn sa sw sE sd sk => ?_
            have h94 : sa.eval (.tmp 94) = .bool (true) := sk.fact 19 94 rfl (sd 19 rfl)
            exact Runs.move rfl h94 ⟨Ext.refl _, rfl⟩
          · refine stepY (j := 20) (d := 95) (b := true) rfl rfl rfl (fun v w h => h) fun sdn sa sw sE sd sk => ?_
            refine Runs.call (f := 40) (vs := []) rfl rfl rfl (by simp only [List.map_toArray, List.map_cons, List.map_nil] <;> rfl) (ent40 _ _) ((known4_any sw).mono ?_); rintro e w' ⟨rfl, hx⟩; exact ⟨_, rfl, hx, rfl⟩
          · refine stepE rfl fun sdn sa sw sE sd sk => ?_
            have h95 : sa.eval (.tmp 95) = .bool (true) := sk.fact 20 95 rfl (sd 20 rfl)
            have h96 : sa.eval (.tmp 96) = .bool (true) := sk.fact 21 96 rfl (sd 21 rfl)
            exact Runs.pick rfl h95 ⟨Ext.refl _, by first | exact h96 | simpa using h96⟩
          · refine stepE rfl fun sdn sa sw sE sd sk => ?_
            have h97 : sa.eval (.tmp 97) = .bool (true) := sk.fact 22 97 rfl (sd 22 rfl)
            exact Runs.assign rfl h97 ⟨Ext.refl _, rfl⟩
          intro vals W9 hE hv
          have e0 : vals 0 = .bool (true) := hv 0 (by omega) 75 rfl
          have e1 : vals 1 = .bool (true) := hv 1 (by omega) 76 rfl
          have e2 : vals 2 = .slice (A8) (32) (c8) := hv 2 (by omega) 77 rfl
          have e3 : vals 3 = .string (str (publicL S key)) := hv 3 (by omega) 78 rfl
          have e4 : vals 4 = .string (str (publicL S key)) := hv 4 (by omega) 79 rfl
          have e5 : vals 5 = .bool (true) := hv 5 (by omega) 80 rfl
          have e6 : vals 6 = .bool (true) := hv 6 (by omega) 81 rfl
          have e7 : vals 7 = .bool (true) := hv 7 (by omega) 82 rfl
          have e8 : vals 8 = .slice (A) (n) (c) := hv 8 (by omega) 83 rfl
          have e9 : vals 9 = .int .i64 (key) := hv 9 (by omega) 84 rfl
          obtain ⟨A85, n85, c85, e10, r85⟩ := hv 10 (by omega) 85 rfl
          have e11 : vals 11 = .string (str (publicL S key)) := hv 11 (by omega) 86 rfl
          have e12 : vals 12 = .string (str (publicL S key)) := hv 12 (by omega) 87 rfl
          have e13 : vals 13 = .bool (true) := hv 13 (by omega) 88 rfl
          have e14 : vals 14 = .bool (true) := hv 14 (by omega) 89 rfl
          have e15 : vals 15 = .bool (true) := hv 15 (by omega) 90 rfl
          have e16 : vals 16 = .slice (P9) (64) (d9) := hv 16 (by omega) 91 rfl
          have e17 : vals 17 = .int .i64 ((64 : Nat)) := hv 17 (by omega) 92 rfl
          have e18 : vals 18 = .bool (true) := hv 18 (by omega) 93 rfl
          have e19 : vals 19 = .bool (true) := hv 19 (by omega) 94 rfl
          have e20 : vals 20 = .bool (true) := hv 20 (by omega) 95 rfl
          have e21 : vals 21 = .bool (true) := hv 21 (by omega) 96 rfl
          have e22 : vals 22 = .bool (true) := hv 22 (by omega) 97 rfl
          have e23 : vals 23 = .bool (true) := hv 23 (by omega) 6 rfl
          simp only [putAll, Act.put, List.take_succ_cons, List.take_zero, List.drop_succ_cons, List.drop_zero, List.drop_nil, List.take_nil, Nat.reduceAdd, List.setIfInBounds_toArray, List.set_cons_succ, List.set_cons_zero, e0, e1, e2, e3, e4, e5, e6, e7, e8, e9, e10, e11, e12, e13, e14, e15, e16, e17, e18, e19, e20, e21, e22, e23]
          clear hv e0 e1 e2 e3 e4 e5 e6 e7 e8 e9 e10 e11 e12 e13 e14 e15 e16 e17 e18 e19 e20 e21 e22 e23
          go_wp2_with fail
          go_ret
          exact ⟨rfl, hE06.trans hE⟩
end Go.Proofs.Ytmgnigofilkfmaa

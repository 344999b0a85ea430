/-
  law22.items, signed, walked. Two items' leaf hashes that differ (law22's known). A plain theorem. law22's known, walked. MonitorForks, walked.
-/
import Derived.Test.YtkndgpjamijbbaaLawPieces22Q35
import Derived.Test.YtkndgpjamijbbaaLawPieces22Q27
import Derived.Test.YtkndgpjamijbbaaLawPieces22Q33
import Derived.Test.YtkndgpjamijbbaaLawPieces22Q30
import Derived.Lib.AppendZerosOnto
import Derived.Test.YtkndgpjamijbbaaLawPieces22Q32
import Derived.Test.YtkndgpjamijbbaaLawPieces22Q23
namespace Go.Proofs.Ytkndgpjamijbbaa
set_option maxRecDepth 100000
open Go Go.RowKit
noncomputable def it22 (which i : Nat) : List UInt8 := if i % 3 = 2 then [UInt8.ofNat i, UInt8.ofNat which] else encM (kman i ((i / 4 : Nat) : Int) which)
noncomputable def its22 (n which : Nat) : List (List UInt8) := (List.range n).map (it22 which)
theorem its22_snoc (n which : Nat) : its22 (n + 1) which = its22 n which ++ [it22 which n] := range_snoc _ _
def ItI (w : World) (n which : Nat) (v i : Value) (wr : World) : Prop :=
  ∃ (p d : Nat) (P : Option Addr), p ≤ n ∧ i = .int .i64 p ∧ v = .slice P p d ∧ OBC wr w.heap.size P p d (its22 p which) ∧ Ext w wr
set_option maxHeartbeats 4000000 in
theorem items22_any (n which : Nat) (w : World) (hn : n ≤ 100) (hw : which ≤ 100) :
    Calls Try.prog 36 #[.int .i64 (n : Int), .int .i64 (which : Int)] w fun e w' => ∃ A c, e = .returned (.slice A n c) ∧ OBC w' w.heap.size A n c (its22 n which) ∧ Ext w w' := by
  go_enter Try.func36, Try.ntmps36
  go_wp2_with fail
  go_loopw [5, 6] (fun v i wr => ItI w n which v i wr) (fun _ i _ => n - (intOf i).toNat)
  case atStart => exact ⟨0, 0, none, by omega, rfl, rfl, OBC.none_ _ _, Ext.refl _⟩
  case round =>
    obtain ⟨p, d, P, hp, rfl, rfl, own, hEr⟩ := hrel
    by_cases hlt : p < n
    · have hpn : (p : Int) < (n : Int) := by omega
      have hne : ∀ {w2 : World} {E1 : Option Addr} {z z1 : Nat} {L : List UInt8}, OB w2 wr.heap.size E1 z z1 L → 0 < z → blk E1 ≠ blk P := by
        intro w2 E1 z z1 L oE hz e
        obtain ⟨b, hb⟩ : ∃ b, blk E1 = some b := by
          obtain ⟨ad', h1, _⟩ := oE.rb.cells hz
          rw [h1]
          exact ⟨_, rfl⟩
        have h1 := oE.lt hb
        have h2 := own.lt (e.symm.trans hb)
        omega
      have e3 : (p : Int).tmod 3 = ((p % 3 : Nat) : Int) := (Int.ofNat_tmod p 3).symm
      have e4 : (p : Int).tdiv 4 = ((p / 4 : Nat) : Int) := (Int.ofNat_tdiv p 4).symm
      by_cases hm : p % 3 = 2
      · have hm2 : (p : Int).tmod 3 = 2 := by rw [e3, hm]; rfl
        have hY : it22 which p = [UInt8.ofNat p, UInt8.ofNat which] := if_pos hm
        have hEb := Ext.new wr (.cells #[.int .u8 (p : Int), .int .u8 (which : Int)] 5)
        have hBb := Blk.new wr 5 #[.int .u8 (p : Int), .int .u8 (which : Int)]
        have u1 : u8i (UInt8.ofNat p) = (p : Int) := by unfold u8i; rw [UInt8.toNat_ofNat']; omega
        have u2 : u8i (UInt8.ofNat which) = (which : Int) := by unfold u8i; rw [UInt8.toNat_ofNat']; omega
        have rY : RB (wr.alloc (.cells #[.int .u8 (p : Int), .int .u8 (which : Int)] 5)) (some ⟨wr.heap.size, 0, none⟩) 2 2 [UInt8.ofNat p, UInt8.ofNat which] := ⟨rfl, Nat.le_refl _, small_maxLen (by omega), fun _ => ⟨_, rfl, fun j hj => by
          rw [add_plain]
          rcases j with _ | _ | j
          · exact hBb.cell (i := 0) (by rw [show ub [UInt8.ofNat p, UInt8.ofNat which] 0 = UInt8.ofNat p from rfl, u1]; rfl)
          · exact hBb.cell (i := 1) (by rw [show ub [UInt8.ofNat p, UInt8.ofNat which] (0 + 1) = UInt8.ofNat which from rfl, u2]; rfl)
          · omega⟩⟩
        have hEl := Ext.new (wr.alloc (.cells #[.int .u8 (p : Int), .int .u8 (which : Int)] 5)) (.cells #[.slice (some ⟨wr.heap.size, 0, none⟩) 2 2] 22)
        have hBl := Blk.new (wr.alloc (.cells #[.int .u8 (p : Int), .int .u8 (which : Int)] 5)) 22 #[.slice (some ⟨wr.heap.size, 0, none⟩) 2 2]
        rw [World.size_alloc] at hBl
        have hE2 := hEr.trans (hEb.trans hEl)
        have own4 := own.ext (hEb.trans hEl)
        have hn2 : 0 < 2 → blk (some ⟨wr.heap.size, 0, none⟩) ≠ blk P := by
          intro _ e
          have h2 := own.lt (k := wr.heap.size) e.symm
          omega
        clear hne
        go_wp2_with (refine appbc_law (base := w.heap.size) (Y := [UInt8.ofNat p, UInt8.ofNat which]) rfl rfl rfl rfl (by rw [add_plain]; exact hBl.cell (i := 0) rfl) own4 (rY.ext hEl) hn2 hE2.size (by omega) ?_; intro P5 d5 w5 own5 g5)
        go_roundw
        case rel =>
          rw [← hY, ← its22_snoc] at own5
          exact ⟨p + 1, d5, P5, by omega, by go_num, rfl, own5, hE2.then_grown g5 (fun b hb => (own4.lt hb).1)⟩
        case measure => simp [intOf]; omega
      · have hm2 : ¬ (p : Int).tmod 3 = 2 := by rw [e3]; omega
        have hY : it22 which p = encM (kman p ((p / 4 : Nat) : Int) which) := if_neg hm
        have hit := item_any p ((p / 4 : Nat) : Int) which wr (by omega) (by omega) (by omega) (by omega) (by omega) (by omega)
        rw [← hY] at hit
        have Hit := Lib.hid hit
        clear hit
        go_wp2_with fail
        refine Hit.out.mono ?_
        rintro e w2 ⟨E1, z, z1, rfl, ownC, hE2⟩
        have hn2 := hne ownC
        clear Hit hne
        have hEl := Ext.new w2 (.cells #[.slice E1 z z1] 22)
        have hBl := Blk.new w2 22 #[.slice E1 z z1]
        have own4 := (own.ext hE2).ext hEl
        go_wp2_with (refine appbc_law (base := w.heap.size) (Y := it22 which p) rfl rfl rfl rfl (by rw [add_plain]; exact hBl.cell (i := 0) rfl) own4 (ownC.rb.ext hEl) hn2 ((hEr.trans hE2).trans hEl).size (by omega) ?_; intro P5 d5 w5 own5 g5)
        go_roundw
        case rel =>
          rw [← its22_snoc] at own5
          exact ⟨p + 1, d5, P5, by omega, by go_num, rfl, own5, ((hEr.trans hE2).trans hEl).then_grown g5 (fun b hb => (own4.lt hb).1)⟩
        case measure => simp [intOf]; omega
    · obtain rfl : n = p := by omega
      have hpn : ¬ (n : Int) < (n : Int) := by omega
      go_wp2_with fail
      go_ret
      exact ⟨P, d, rfl, own, hEr⟩
def MP.sg5 (b : Nat) (x : Int) (B : Option Addr) (nb d : Nat) (y : Int) (np : Nat) (Ps : List (List UInt8)) (nq : Nat) (Qs : List (List UInt8)) : MP Ext := ⟨fun u w => ∃ P c Q e, u = .agg #[.int .i64 x, .slice B nb d, .int .i64 y, .slice P np c, .slice Q nq e] ∧ OBC w b P np c Ps ∧ OBC w b Q nq e Qs, fun _ _ _ e ⟨P, c, Q, d, h1, h2, h3⟩ => ⟨P, c, Q, d, h1, h2.ext e, h3.ext e⟩⟩
/-- what a log signs of its items -/
def Sgd (w : World) (b : Nat) (S R : List UInt8) (n k : Nat) (B : Option Addr) (d : Nat) (P : Option Addr) (d1 : Nat) (Q : Option Addr) (d2 : Nat) : Prop :=
  RB w B 32 d R ∧ OBC w b P 64 d1 (sigP S (bodyC checkL (n : Int) R) k) ∧ OBC w b Q 4 d2 (pathL S k)
set_option maxHeartbeats 4000000 in
theorem signed22_any (g b : Nat) (S : List UInt8) (A : Option Addr) (n c : Nat) (Ls : List (List UInt8)) (w : World) (o1 : OwnR w b g S) (rA : RBB w A n c Ls) (hn : n ≤ 256) (hb : ∀ a ∈ Ls, a.length ≤ 1000000) :
    Calls Try.prog 38 #[.pointer (some ⟨g, 0, none⟩), .slice A n c] w fun e w' => ∃ B d P d1 Q d2, e = .returned (.agg #[.int .i64 (n : Int), .slice B 32 d, .int .i64 ((n % 16 : Nat) : Int), .slice P 64 d1, .slice Q 4 d2]) ∧ Sgd w' w.heap.size S (rootL (Ls.map leafH)) n (n % 16) B d P d1 Q d2 ∧ Ext w w' := by
  have hk16 : n % 16 < 16 := Nat.mod_lt _ (by omega)
  have hEa := Ext.new w (.cells #[.int .i64 0, .slice none 0 0, .int .i64 0, .slice none 0 0, .slice none 0 0] 69)
  have hB0 := Blk.new w 69 #[.int .i64 0, .slice none 0 0, .int .i64 0, .slice none 0 0, .slice none 0 0]
  go_enter Try.func38, Try.ntmps38
  go_wp2_with fail
  generalize w.alloc (.cells #[.int .i64 0, .slice none 0 0, .int .i64 0, .slice none 0 0, .slice none 0 0] 69) = w0 at *
  replace rA := rA.ext hEa
  replace o1 := o1.ext hEa
  refine (r6leaves_any A n c Ls w0 rA (by omega) hb).mono ?_
  rintro e w1 ⟨P0, d0, rfl, own, hE⟩
  have rL := own.rbb
  replace hB0 := hB0.ext hE
  replace o1 := o1.ext hE
  replace rA := rA.ext hE
  replace hEa := hEa.trans hE
  clear hE own
  go_wp2_with fail
  refine (r6root_any n P0 d0 _ w1 (by omega) rL (leaf_len Ls)).mono ?_
  rintro e w2 ⟨B, d, rfl, rR, hE⟩
  replace hB0 := hB0.ext hE
  replace o1 := o1.ext hE
  replace rA := rA.ext hE
  replace hEa := hEa.trans hE
  clear hE rL
  obtain ⟨R, hR⟩ : ∃ R, R = rootL (Ls.map leafH) := ⟨_, rfl⟩
  rw [← hR] at rR
  have HR := Lib.hid hR
  clear hR
  have hEn := Ext.new w2 (.cells #[.int .i64 (n : Int), .slice B 32 d] 54)
  have hBc := Blk.new w2 54 #[.int .i64 (n : Int), .slice B 32 d]
  replace hB0 := hB0.ext hEn
  replace o1 := o1.ext hEn
  replace rR := rR.ext hEn
  replace rA := rA.ext hEn
  replace hEa := hEa.trans hEn
  have hsz := hEa.size
  clear hEn
  go_upto_region 2 with (fail)
  generalize w2.alloc (.cells #[.int .i64 (n : Int), .slice B 32 d] 54) = w4 at *
  generalize w2.heap.size = gc at *
  refine par_ext (n := 9) (by kernel_rfl) [.is (.agg #[.int .i64 ((n : Int)), .slice (B) (32) (d)]), .is (.pointer (some ⟨g, 0, none⟩)), .is (.slice (A) (n) (c)), .is (.int .i64 ((n : Nat))), .is (.int .i64 (((n % 16 : Nat) : Int))), .is (.agg #[.int .i64 ((n : Int)), .slice (B) (32) (d)]), .rb (bodyC checkL (n : Int) R), .sgo (w4.heap.size) (((n % 16 : Nat) : Int)) (64) (sigP S (bodyC checkL (n : Int) R) (n % 16)) (4) (pathL S (n % 16)), .sg5 (w4.heap.size) ((n : Int)) (B) (32) (d) (((n % 16 : Nat) : Int)) (64) (sigP S (bodyC checkL (n : Int) R) (n % 16)) (4) (pathL S (n % 16))] rfl ⟨?_, ?_, ?_, ?_, ?_, ?_, ?_, ?_, ?_, trivial⟩ ?_
  · refine stepE rfl fun sdn sa sw sE sd sk => ?_
    have h5 : sa.eval (.tmp 5) = .pointer (some ⟨gc, 0, none⟩) := sk.old 5 rfl
    exact Runs.load rfl h5 (load_part (hBc.ext sE) 0 (vs := [.int .i64 ((n : Int)), .slice (B) (32) (d)]) rfl Try.underlying54 rfl (by kernel_rfl)) ⟨Ext.refl _, rfl⟩
  · refine stepE rfl fun sdn sa sw sE sd sk => ?_
    have h0 : sa.eval (.tmp 0) = .pointer (some ⟨g, 0, none⟩) := sk.old 0 rfl
    exact Runs.move rfl h0 ⟨Ext.refl _, rfl⟩
  · refine stepE rfl fun sdn sa sw sE sd sk => ?_
    have h1 : sa.eval (.tmp 1) = .slice (A) (n) (c) := sk.old 1 rfl
    exact Runs.move rfl h1 ⟨Ext.refl _, rfl⟩
  · refine stepE rfl fun sdn sa sw sE sd sk => ?_
    have h14 : sa.eval (.tmp 14) = .slice (A) (n) (c) := sk.fact 2 14 rfl (sd 2 rfl)
    exact Runs.len Try.underlying23 rfl h14 ⟨Ext.refl _, rfl⟩
  · refine stepE rfl fun sdn sa sw sE sd sk => ?_
    have h15 : sa.eval (.tmp 15) = .int .i64 ((n : Nat)) := sk.fact 3 15 rfl (sd 3 rfl)
    exact Runs.bin rfl h15 rfl (eqGuard_bin rfl) (bin_remn _ n 16 (by omega) (by omega)) ⟨Ext.refl _, rfl⟩
  · refine stepE rfl fun sdn sa sw sE sd sk => ?_
    have h5 : sa.eval (.tmp 5) = .pointer (some ⟨gc, 0, none⟩) := sk.old 5 rfl
    exact Runs.load rfl h5 (load_part (hBc.ext sE) 0 (vs := [.int .i64 ((n : Int)), .slice (B) (32) (d)]) rfl Try.underlying54 rfl (by kernel_rfl)) ⟨Ext.refl _, rfl⟩
  · refine stepE rfl fun sdn sa sw sE sd sk => ?_
    have h17 : sa.eval (.tmp 17) = .agg #[.int .i64 ((n : Int)), .slice (B) (32) (d)] := sk.fact 5 17 rfl (sd 5 rfl)
    refine Runs.call (f := 40) (vs := [.agg #[.int .i64 ((n : Int)), .slice (B) (32) (d)]]) rfl rfl rfl (by simp only [List.map_toArray, List.map_cons, List.map_nil, h17] <;> rfl) (ent40 _ _) ((rbody_any _ _ _ _ _ sw (rR.ext sE)).mono ?_); rintro e w' ⟨A', n', c', rfl, own, hx⟩; exact ⟨_, rfl, hx, A', n', c', rfl, own⟩
  · refine stepE rfl fun sdn sa sw sE sd sk => ?_
    have h13 : sa.eval (.tmp 13) = .pointer (some ⟨g, 0, none⟩) := sk.fact 1 13 rfl (sd 1 rfl)
    have h16 : sa.eval (.tmp 16) = .int .i64 (((n % 16 : Nat) : Int)) := sk.fact 4 16 rfl (sd 4 rfl)
    obtain ⟨A18, n18, c18, h18, r18⟩ := sk.fact 6 18 rfl (sd 6 rfl)
    refine Runs.call (f := 25) (vs := [.pointer (some ⟨g, 0, none⟩), .int .i64 (((n % 16 : Nat) : Int)), .slice (A18) (n18) (c18)]) rfl rfl rfl (by simp only [List.map_toArray, List.map_cons, List.map_nil, h13, h16, h18] <;> rfl) (ent25 _ _) ((rsign_own _ _ _ _ _ (n % 16) S (bodyC checkL (n : Int) R) sw (o1.ext sE) r18 (by rw [← RB.len r18]; exact Nat.le_trans lenW (by decide)) hk16).mono ?_); rintro e w' ⟨P, d, Q, d', rfl, h1, h2, hx⟩; exact ⟨_, rfl, hx, _, _, _, _, rfl, h1.base_ sE.size, h2.base_ sE.size⟩
  · refine stepE rfl fun sdn sa sw sE sd sk => ?_
    have h12 : sa.eval (.tmp 12) = .agg #[.int .i64 ((n : Int)), .slice (B) (32) (d)] := sk.fact 0 12 rfl (sd 0 rfl)
    obtain ⟨P19, c19, Q19, d19, h19, o19, p19⟩ := sk.fact 7 19 rfl (sd 7 rfl)
    refine Runs.of_run (r := .agg #[.int .i64 ((n : Int)), .slice (B) (32) (d), .int .i64 (((n % 16 : Nat) : Int)), .slice P19 64 c19, .slice Q19 4 d19]) (w' := sw) ?_ ⟨Ext.refl _, _, _, _, _, rfl, o19, p19⟩
    unfold execOp
    simp only [List.map_toArray, List.map_cons, List.map_nil, h12, h19]
    go_simp
  intro vals W2 hE2 hv2
  have e0 : vals 0 = .agg #[.int .i64 ((n : Int)), .slice (B) (32) (d)] := hv2 0 (by omega) 12 rfl
  have e1 : vals 1 = .pointer (some ⟨g, 0, none⟩) := hv2 1 (by omega) 13 rfl
  have e2 : vals 2 = .slice (A) (n) (c) := hv2 2 (by omega) 14 rfl
  have e3 : vals 3 = .int .i64 ((n : Nat)) := hv2 3 (by omega) 15 rfl
  have e4 : vals 4 = .int .i64 (((n % 16 : Nat) : Int)) := hv2 4 (by omega) 16 rfl
  have e5 : vals 5 = .agg #[.int .i64 ((n : Int)), .slice (B) (32) (d)] := hv2 5 (by omega) 17 rfl
  obtain ⟨A18, n18, c18, e6, r18⟩ := hv2 6 (by omega) 18 rfl
  obtain ⟨P19, c19, Q19, d19, e7, o19, p19⟩ := hv2 7 (by omega) 19 rfl
  obtain ⟨P20, c20, Q20, d20, e8, o20, p20⟩ := hv2 8 (by omega) 20 rfl
  simp only [putAll, Act.put, List.take_succ_cons, List.take_zero, List.drop_succ_cons, List.drop_zero, List.drop_nil, List.take_nil, Nat.reduceAdd, List.setIfInBounds_toArray, List.set_cons_succ, List.set_cons_zero, e0, e1, e2, e3, e4, e5, e6, e7, e8]
  clear hv2 e0 e1 e2 e3 e4 e5 e6 e7 e8
  replace hB0 := hB0.ext hE2
  replace rR := rR.ext hE2
  replace hEa := hEa.trans hE2
  clear hE2
  have fhB00 := hB0.frozen 0
  have fhB01 := hB0.frozen 1
  have fhB02 := hB0.frozen 2
  have fhB03 := hB0.frozen 3
  have fhB04 := hB0.frozen 4
  have xhB00 := hB0.cell (i := 0) rfl
  have xhB01 := hB0.cell (i := 1) rfl
  have xhB02 := hB0.cell (i := 2) rfl
  have xhB03 := hB0.cell (i := 3) rfl
  have xhB04 := hB0.cell (i := 4) rfl
  go_wp2_with fail
  refine bodyPost_ret (results_cell_row rfl _ _ w.heap.size _ _ _ _ rfl (setall5 hB0 _ _ _ _ _) Try.underlying69 rfl rfl) rfl ?_
  rw [← HR.out]
  exact ⟨_, _, _, _, _, _, rfl, ⟨rR.set5 hB0 _ _ _ _ _ _ _ _ _ _ _, (o20.base_ hsz).set5 (by decide) hB0 _ _ _ _ _ _ _ _ _ _ _, (p20.base_ hsz).set5 (by decide) hB0 _ _ _ _ _ _ _ _ _ _ _⟩, ext5 hEa (Nat.le_refl _) _ _ _ _ _⟩
end Go.Proofs.Ytkndgpjamijbbaa
namespace Go.Proofs.Ytkndgpjamijbbaa
set_option maxRecDepth 100000
theorem item_ne : tagged 0 (encM (kman 0 0 0)) ≠ tagged 0 (encM (kman 0 0 1)) := by decide +kernel
end Go.Proofs.Ytkndgpjamijbbaa
namespace Go.Proofs.Ytkndgpjamijbbaa
set_option maxRecDepth 100000
open Go Go.RowKit
theorem feed_sgd (w : World) (base g : Nat) (φ : Nat → Prop) (s : MSt) (hM : MonR w base φ g s) (b n k : Nat) (B P Q A : Option Addr) (d d1 d2 m c : Nat) (S R : List UInt8) (ITS : List (List UInt8)) (hS : Sgd w b S R n k B d P d1 Q d2) (hb : ∀ q, φ q → q < b) (kI : Keep φ (fun w => RBB w A m c ITS) w) (hits : ∀ a ∈ ITS, a.length ≤ 1000000) (hal : s.al.length ≤ 100000) :
    Calls Try.prog 37 #[.pointer (some ⟨g, 0, none⟩), .agg #[.int .i64 (n : Int), .slice B 32 d, .int .i64 (k : Int), .slice P 64 d1, .slice Q 4 d2], .slice A m c] w fun e w' => FeedP w base φ g (feedS s n R k (sigP S (bodyC checkL (n : Int) R) k) (pathL S k) ITS) (feedE s n R k (sigP S (bodyC checkL (n : Int) R) k) (pathL S k) ITS) e w' := by
  obtain ⟨h1, h2, h3⟩ := hS
  have hs := hM.nob
  exact feed_any w base g φ s hM n k B P Q A 32 d 64 d1 4 d2 m c R _ _ ITS (h1.keepS hs)
    (h2.rbb.keepS hs (fun _ q hq hp => by have := (h2.lt hq).1; have := hb q hp; omega))
    (h3.rbb.keepS hs (fun _ q hq hp => by have := (h3.lt hq).1; have := hb q hp; omega)) kI hits hal
/-- a feeding, with what is known of it, and what is kept -/
theorem FeedP.go {w w' a : World} {base g : Nat} {φ : Nat → Prop} {s s' : MSt} {r : Int} {e : Ending} (h : FeedP w base φ g s' r e w') (hM : MonR w base φ g s) (hE : Ext a w) (hb : a.heap.size ≤ base) :
    ∃ φ', e = .returned (.int .i64 r) ∧ MonR w' base φ' g s' ∧ Upd φ w w' ∧ (∀ k, k < w.heap.size → φ' k → φ k) ∧ Ext a w' := by
  obtain ⟨h1, _, φ', h2, h3, h4⟩ := h
  exact ⟨φ', h1, h2, h3, h4, Upd.ext hE h3 (fun k hk => Nat.le_trans hb (hM.lt hk).1)⟩
/-- a refusal turns nothing -/
theorem FeedP.no {w w' : World} {base g : Nat} {φ : Nat → Prop} {s' : MSt} {r : Int} {e : Ending} (h : FeedP w base φ g s' r e w') (h0 : r ≠ 0) (h1 : r ≠ 34) : e = .returned (.int .i64 r) ∧ Ext w w' := ⟨h.1, h.2.1 h0 h1⟩
theorem RebP.go {w w' a : World} {base g : Nat} {φ : Nat → Prop} {s s' : MSt} {b : Bool} {e : Ending} (h : RebP w base φ g s' b e w') (hM : MonR w base φ g s) (hE : Ext a w) (hb : a.heap.size ≤ base) :
    ∃ φ', e = .returned (.bool b) ∧ MonR w' base φ' g s' ∧ Upd φ w w' ∧ (∀ k, k < w.heap.size → φ' k → φ k) ∧ Ext a w' := by
  obtain ⟨h1, φ', h2, h3, h4⟩ := h
  exact ⟨φ', h1, h2, h3, h4, Upd.ext hE h3 (fun k hk => Nat.le_trans hb (hM.lt hk).1)⟩
theorem reb_neg (its : List (List UInt8)) (F : List UInt8) : rebB its (-1) F = false := by
  unfold rebB rebIn
  rw [decide_eq_false (by omega)]
  rfl
theorem it22_ne : rootL ((its22 1 0).map leafH) ≠ rootL ((its22 1 1).map leafH) := by
  have h0 : ((0 : Nat) : Int) = 0 := rfl
  have h1 : ((1 : Nat) : Int) = 1 := rfl
  have e0 : its22 1 0 = [encM (kman 0 0 0)] := by
    show [it22 0 0] = _
    unfold it22
    rw [if_neg (by decide), h0]
  have e1 : its22 1 1 = [encM (kman 0 0 1)] := by
    show [it22 1 0] = _
    unfold it22
    rw [if_neg (by decide), h0, h1]
  rw [e0, e1]
  show rootL [leafH _] ≠ rootL [leafH _]
  rw [rootL_one, rootL_one]
  exact item_ne
theorem its22_len (n which : Nat) : (its22 n which).length = n := by simp [its22]
theorem encM_len {m : Man} (h : rightM m = true) : (encM m).length ≤ 1000 := by
  obtain ⟨h1, h2, h3⟩ := right_small h
  unfold encM
  simp only [List.length_append, List.length_cons, List.length_nil, beBytes_length, be2_length]
  omega
theorem it22_small (which i : Nat) : (it22 which i).length ≤ 1000 := by
  unfold it22
  split
  · simp
  · exact encM_len (kman_right _ _ _)
theorem its22_small {n which : Nat} : ∀ a ∈ its22 n which, a.length ≤ 1000000 := by
  intro a ha
  obtain ⟨i, _, rfl⟩ := List.mem_map.1 ha
  exact Nat.le_trans (it22_small which i) (by decide)
/-- one item is fed to a new monitor; then another one's root of the same size is shown to it -/
noncomputable def kM1 (X R : List UInt8) (Ps Qs : List (List UInt8)) : MSt := ⟨X, its22 1 0, [], 1, R, 1, Ps, Qs, true⟩
theorem known_feed1 (S : List UInt8) : feedE (newM (ownP S)) ((1 : Nat) : Int) (rootL ((its22 1 0).map leafH)) ((1 : Nat) : Int) (sigP S (bodyC checkL ((1 : Nat) : Int) (rootL ((its22 1 0).map leafH))) 1) (pathL S 1) (its22 1 0) = 0 ∧
    feedS (newM (ownP S)) ((1 : Nat) : Int) (rootL ((its22 1 0).map leafH)) ((1 : Nat) : Int) (sigP S (bodyC checkL ((1 : Nat) : Int) (rootL ((its22 1 0).map leafH))) 1) (pathL S 1) (its22 1 0) = kM1 (ownP S) (rootL ((its22 1 0).map leafH)) (sigP S (bodyC checkL ((1 : Nat) : Int) (rootL ((its22 1 0).map leafH))) 1) (pathL S 1) :=
  feed_ok (s := newM (ownP S)) (X := 1) (cverB_own S _ _ 1 (by decide) (rightC_nat (by decide) (rootL_len (leaf_len _)))) (by show ¬ 1 ≤ 0; decide) (by rw [its22_len]; rfl) rfl
theorem known_feed2 (S Rr : List UInt8) (Pp Qq : List (List UInt8)) : feedE (kM1 (ownP S) Rr Pp Qq) ((1 : Nat) : Int) (rootL ((its22 1 1).map leafH)) ((1 : Nat) : Int) (sigP S (bodyC checkL ((1 : Nat) : Int) (rootL ((its22 1 1).map leafH))) 1) (pathL S 1) [] = 34 ∧
    feedS (kM1 (ownP S) Rr Pp Qq) ((1 : Nat) : Int) (rootL ((its22 1 1).map leafH)) ((1 : Nat) : Int) (sigP S (bodyC checkL ((1 : Nat) : Int) (rootL ((its22 1 1).map leafH))) 1) (pathL S 1) [] = { kM1 (ownP S) Rr Pp Qq with al := [(1, ((1 : Nat) : Int))] } :=
  feed_34 (s := kM1 (ownP S) Rr Pp Qq) (X := 1) (cverB_own S _ _ 1 (by decide) (rightC_nat (by decide) (rootL_len (leaf_len _)))) (by show 1 ≤ (its22 1 0).length; rw [its22_len]; decide) rfl (by
    show rootL (((its22 1 0).map leafH).take 1) ≠ _
    rw [List.take_of_length_le (by rw [List.length_map, its22_len]; exact Nat.le_refl _)]
    exact it22_ne)
set_option maxHeartbeats 8000000 in
theorem known22_any (w : World) : Calls Try.prog 42 #[] w fun e w' => e = .returned (.bool true) ∧ Ext w w' := by
  go_enter Try.func42, Try.ntmps42
  go_wp2_with fail
  refine (seed_any 0 w (by omega) (by omega)).mono ?_
  rintro e w1 ⟨A1, c1', rfl, own1, hEa⟩
  obtain ⟨S, hS⟩ : ∃ S, S = seedL 0 := ⟨_, rfl⟩
  rw [← hS] at own1
  clear hS
  have rS := own1.rb
  clear own1
  go_wp2_with fail
  refine (rnew_any A1 c1' S w1 rS).mono ?_
  rintro e w2 ⟨g1, rfl, o1, hE⟩
  replace hEa := hEa.trans hE
  clear hE rS
  go_wp2_with fail
  refine (rpublic_any g1 _ S w2 o1).mono ?_
  rintro e w3 ⟨A2, c2, rfl, rX, hE⟩
  replace o1 := o1.ext hE
  replace hEa := hEa.trans hE
  clear hE
  go_wp2_with fail
  refine (mnew_yes A2 c2 _ w3 rX).mono ?_
  rintro e w4 ⟨g, φ, rfl, hM, hE⟩
  have hφ : ∀ k, φ k → w3.heap.size ≤ k := fun k hk => (hM.lt hk).1
  have hw3 : w.heap.size ≤ w3.heap.size := hEa.size
  have kO : Keep φ (fun w => OwnR w w1.heap.size g1 S) w4 := Keep.old (fun w' e => o1.ext e) hE hφ
  replace hEa := hEa.trans hE
  clear hE o1 rX hφ
  have hi := fun w => items22_any 1 0 w (by omega) (by omega)
  have hj := fun w => items22_any 1 1 w (by omega) (by omega)
  rw [show ((1 : Nat) : Int) = 1 from rfl, show ((0 : Nat) : Int) = 0 from rfl] at hi
  rw [show ((1 : Nat) : Int) = 1 from rfl] at hj
  have Hi := Lib.hid hi
  have Hj := Lib.hid hj
  clear hi hj
  go_wp2_with fail
  refine (Hi.out w4).mono ?_
  rintro e w5 ⟨A3, c3, rfl, oA, hE⟩
  have kA : Keep φ (fun w => RBB w A3 1 c3 (its22 1 0)) w5 := oA.rbb.keepS (hM.nob.ext hE) (fun _ k hk hp => by have := (oA.lt hk).1; have := (hM.lt hp).2; omega)
  replace hM := hM.ext hE
  replace kO := kO.ext hE
  replace hEa := hEa.trans hE
  clear hE oA Hi
  go_wp2_with fail
  refine (Hj.out w5).mono ?_
  rintro e w6 ⟨A4, c4, rfl, oA, hE⟩
  have kB : Keep φ (fun w => RBB w A4 1 c4 (its22 1 1)) w6 := oA.rbb.keepS (hM.nob.ext hE) (fun _ k hk hp => by have := (oA.lt hk).1; have := (hM.lt hp).2; omega)
  replace hM := hM.ext hE
  replace kO := kO.ext hE
  replace kA := kA.ext hE
  replace hEa := hEa.trans hE
  clear hE oA Hj
  have hs := signed22_any g1 _ S A3 1 c3 _ w6 kO.self kA.self (by omega) its22_small
  rw [show (1 % 16 : Nat) = 1 from rfl, show ((1 : Nat) : Int) = 1 from rfl] at hs
  have Hs := Lib.hid hs
  clear hs
  go_wp2_with fail
  refine Hs.out.mono ?_
  rintro e w7 ⟨B, d, P, d1, Q, d2, rfl, sg, hE⟩
  have hb : ∀ q, φ q → q < w6.heap.size := fun q hq => (hM.lt hq).2
  replace hM := hM.ext hE
  replace kO := kO.ext hE
  replace kA := kA.ext hE
  replace kB := kB.ext hE
  replace hEa := hEa.trans hE
  clear hE Hs
  have hf := feed_sgd w7 _ g φ _ hM w6.heap.size 1 1 B P Q A3 d d1 d2 1 c3 S _ _ sg hb kA its22_small (Nat.zero_le _)
  rw [(known_feed1 S).1, (known_feed1 S).2, show ((1 : Nat) : Int) = 1 from rfl] at hf
  have Hf := Lib.hid hf
  clear hf sg hb
  go_wp2_with fail
  refine Hf.out.mono ?_
  intro e w8 hp
  obtain ⟨φ8, rfl, hM8, u8, h8, hEb⟩ := hp.go hM hEa hw3
  have kO8 := kO.move u8 h8
  have kB8 := kB.move u8 h8
  clear Hf hp kO kA kB hM hEa u8 h8
  have hs := signed22_any g1 _ S A4 1 c4 _ w8 kO8.self kB8.self (by omega) its22_small
  rw [show (1 % 16 : Nat) = 1 from rfl, show ((1 : Nat) : Int) = 1 from rfl] at hs
  have Hs := Lib.hid hs
  clear hs kO8
  go_wp2_with fail
  refine Hs.out.mono ?_
  rintro e w9 ⟨B, d, P, d1, Q, d2, rfl, sg, hE⟩
  have hb : ∀ q, φ8 q → q < w8.heap.size := fun q hq => (hM8.lt hq).2
  replace hM8 := hM8.ext hE
  replace hEb := hEb.trans hE
  clear hE Hs kB8
  have hf := feed_sgd w9 _ g φ8 _ hM8 w8.heap.size 1 1 B P Q none d d1 d2 0 0 S _ [] sg hb (fun w' u => RBB.nil_ _) (fun a ha => by cases ha) (Nat.zero_le _)
  rw [(known_feed2 S _ _ _).1, (known_feed2 S _ _ _).2, show ((1 : Nat) : Int) = 1 from rfl] at hf
  have Hf := Lib.hid hf
  clear hf sg hb
  go_wp2_with fail
  refine Hf.out.mono ?_
  intro e w10 hp
  obtain ⟨φ9, rfl, hM9, u9, h9, hEc⟩ := hp.go hM8 hEb hw3
  clear Hf hp hM8 hEb u9 h9
  have hl := malarms_any w10 _ g φ9 _ hM9 (show 1 ≤ 100000 by decide)
  have Hl := Lib.hid hl
  clear hl
  go_wp2_with fail
  refine Hl.out.mono ?_
  rintro e w11 ⟨B1, d1, rfl, own, hE⟩
  replace hM9 := hM9.ext hE
  replace hEc := hEc.trans hE
  have hroom := own.room
  obtain ⟨q1, rfl, hc⟩ := own.at_ (show 0 < 1 by decide) (by decide)
  have y0 := hc 0 (.int .i64 1) rfl
  have y1 := hc 1 (.int .i64 1) rfl
  clear hE Hl hc own
  have hr := mreb_any w11 _ g φ9 _ hM9 (-1) none 0 0 [] (RB.nil_ _) its22_small (show 1 ≤ 100000 by decide)
  rw [reb_neg] at hr
  have Hr := Lib.hid hr
  clear hr
  go_wp2_with fail
  refine Hr.out.mono ?_
  intro e w12 hp
  obtain ⟨φ10, rfl, hM10, _, _, hEd⟩ := hp.go hM9 hEc hw3
  clear Hr hp hM9 hM10 hEc y0 y1
  go_wp2_with fail
  go_ret
  exact ⟨rfl, hEd⟩
end Go.Proofs.Ytkndgpjamijbbaa
namespace Go.Proofs.Ytkndgpjamijbbaa
set_option maxRecDepth 100000
open Go Go.RowKit
theorem its22_take {a n which : Nat} (h : a ≤ n) : (its22 n which).take a = its22 a which := by
  unfold its22
  rw [← List.map_take, List.take_range, Nat.min_eq_left h]
theorem feed_grow {s : MSt} {S : List UInt8} {a n which : Nat} (h : s.log = ownP S) (hi : s.its = its22 a which) (han : a ≤ n) (hn : n ≤ 256) :
    feedE s ((n : Nat) : Int) (rootL ((its22 n which).map leafH)) ((n % 16 : Nat) : Int) (sigP S (bodyC checkL ((n : Nat) : Int) (rootL ((its22 n which).map leafH))) (n % 16)) (pathL S (n % 16)) ((its22 n which).drop a) = 0 ∧
    ∃ s', feedS s ((n : Nat) : Int) (rootL ((its22 n which).map leafH)) ((n % 16 : Nat) : Int) (sigP S (bodyC checkL ((n : Nat) : Int) (rootL ((its22 n which).map leafH))) (n % 16)) (pathL S (n % 16)) ((its22 n which).drop a) = s' ∧ s'.log = ownP S ∧ s'.its = its22 n which ∧ s'.al = s.al := by
  have hc : cverB s.log ((n : Nat) : Int) (rootL ((its22 n which).map leafH)) ((n % 16 : Nat) : Int) (sigP S (bodyC checkL ((n : Nat) : Int) (rootL ((its22 n which).map leafH))) (n % 16)) (pathL S (n % 16)) = true := by
    rw [h]
    exact cverB_own S _ _ _ (Nat.mod_lt _ (by omega)) (rightC_nat hn (rootL_len (leaf_len _)))
  have hl : s.its.length = a := by rw [hi, its22_len]
  have hd : ((its22 n which).drop a).length = n - a := by rw [List.length_drop, its22_len]
  have hcat : its22 a which ++ (its22 n which).drop a = its22 n which := by rw [← its22_take han, List.take_append_drop]
  by_cases e : n ≤ a
  · obtain rfl : a = n := by omega
    have hf := feed_0 (s := s) hc (by omega) (by rw [hd]; omega) (by rw [hi, List.take_of_length_le (by rw [List.length_map, its22_len]; exact Nat.le_refl _)])
    exact ⟨hf.1, s, hf.2, h, hi, rfl⟩
  · have hf := feed_ok (s := s) hc (by omega) (by rw [hd, hl]; omega) (by rw [hi, hcat])
    exact ⟨hf.1, _, hf.2, h, by show s.its ++ _ = _; rw [hi, hcat], rfl⟩
end Go.Proofs.Ytkndgpjamijbbaa

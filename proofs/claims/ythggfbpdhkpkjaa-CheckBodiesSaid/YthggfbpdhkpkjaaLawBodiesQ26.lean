/-
  check.Decode; ref10's Get, walked. The statements' helpers, walked: Hash, Manifest, Item. law10.known, law10.equal, law10.signed, walked. hash.Hex and the statements' own hex, walked: two signs a byte.
-/
import Derived.Test.YthggfbpdhkpkjaaLawBodiesQ25
import Derived.Test.YthggfbpdhkpkjaaLawBodiesQ12
import Derived.Test.YthggfbpdhkpkjaaLawBodiesQ15
import Derived.Test.YthggfbpdhkpkjaaLawBodiesQ11
import Derived.Test.YthggfbpdhkpkjaaLawBodiesQ1
namespace Go.Proofs.Ythggfbpdhkpkjaa
set_option maxRecDepth 100000
open Go Go.RowKit
theorem RBB.away {w w' : World} {A : Option Addr} {n c : Nat} {Ls : List (List UInt8)} (h : RBB w A n c Ls) {k : Nat} {t : TypeId} {cs : Array Value} (hb : Blk w k t cs) (hno : ∀ (i : Nat) (x : Int), cs[i]? ≠ some (.int .u8 x)) (g : w.grownBy w' (some k)) (hA : 0 < n → blk A ≠ some k) : RBB w' A n c Ls :=
  ⟨h.len, h.room, h.cap, fun hn => by
    obtain ⟨ad, rfl, hc⟩ := h.cells hn
    refine ⟨ad, rfl, fun j hj => ?_⟩
    obtain ⟨B, m, d, h1, h2⟩ := hc j hj
    exact ⟨B, m, d, g.cell h1 (by rw [block_of_add]; exact hA hn), h2.grown g (h2.apart5 hb hno)⟩⟩
theorem RBB.apart_sgd {w : World} {A : Option Addr} {n c : Nat} {Ls : List (List UInt8)} (h : RBB w A n c Ls) (hn : 3 ≤ n) {g : Nat} {t : TypeId} {x k : Int} {A0 P Q : Option Addr} {n0 c0 np cp nq cq : Nat} (hB : Blk w g t (sgdC x A0 n0 c0 k P np cp Q nq cq)) : blk A ≠ some g := by
  obtain ⟨ad, rfl, hc⟩ := h.cells (by omega)
  intro e
  have e2 : ad.block = g := by
    have e3 : some ad.block = some g := e
    injection e3
  unfold Blk at hB
  have key : ∀ j v, w.cell? (ad.add j) = some v → (sgdC x A0 n0 c0 k P np cp Q nq cq)[ad.off + j]? = some v := by
    intro j v h1
    unfold World.cell? at h1
    have h3 : (ad.add j).block = g := by rw [block_of_add, e2]
    have h4 : (ad.add j).off = ad.off + j := by
      unfold Addr.add
      by_cases hj : j = 0
      · rw [if_pos hj, hj]; rfl
      · rw [if_neg hj]
    rw [h3, hB] at h1
    by_cases hs : (ad.add j).spot.isSome = true
    · simp [hs] at h1
    · simp only [hs] at h1
      rw [h4] at h1
      exact h1
  obtain ⟨B0, m0, d0, h0, _⟩ := hc 0 (by omega)
  obtain ⟨B1, m1, d1, h1, _⟩ := hc 1 (by omega)
  obtain ⟨B2, m2, d2, h2, _⟩ := hc 2 (by omega)
  have k0 := key _ _ h0
  have k1 := key _ _ h1
  have k2 := key _ _ h2
  unfold sgdC at k0 k1 k2
  generalize ad.off = o at *
  rcases o with _ | _ | _ | _ | _ | o <;> simp at k0 k1 k2
theorem RBB.set5 {w : World} {A : Option Addr} {n c : Nat} {L : List (List UInt8)} (h : RBB w A n c L) (hn : 3 ≤ n) {g : Nat} {t : TypeId} {x k : Int} {A0 P Q : Option Addr} {n0 c0 np cp nq cq : Nat} (hB : Blk w g t (sgdC x A0 n0 c0 k P np cp Q nq cq))
    (x' k' : Int) (A1 P1 Q1 : Option Addr) (n1 c1 np1 cp1 nq1 cq1 : Nat) : RBB (((((w.setCell ⟨g, 0, none⟩ (.int .i64 x')).setCell ⟨g, 1, none⟩ (.slice A1 n1 c1)).setCell ⟨g, 2, none⟩ (.int .i64 k')).setCell ⟨g, 3, none⟩ (.slice P1 np1 cp1)).setCell ⟨g, 4, none⟩ (.slice Q1 nq1 cq1)) A n c L := by
  have b0 : Blk (w.setCell ⟨g, 0, none⟩ (.int .i64 x')) g t (sgdC x' A0 n0 c0 k P np cp Q nq cq) := hB.set 0 _
  have b1 : Blk _ g t (sgdC x' A1 n1 c1 k P np cp Q nq cq) := b0.set 1 (.slice A1 n1 c1)
  have b2 : Blk _ g t (sgdC x' A1 n1 c1 k' P np cp Q nq cq) := b1.set 2 (.int .i64 k')
  have b3 : Blk _ g t (sgdC x' A1 n1 c1 k' P1 np1 cp1 Q nq cq) := b2.set 3 (.slice P1 np1 cp1)
  have hA : 0 < n → blk A ≠ some g := fun _ => h.apart_sgd hn hB
  exact ((((h.away hB (sgd_no _ _ _ _ _ _ _ _ _ _ _) (grown_set w ⟨g, 0, none⟩ (.int .i64 x')) hA).away b0 (sgd_no _ _ _ _ _ _ _ _ _ _ _) (grown_set _ ⟨g, 1, none⟩ (.slice A1 n1 c1)) hA).away b1 (sgd_no _ _ _ _ _ _ _ _ _ _ _) (grown_set _ ⟨g, 2, none⟩ (.int .i64 k')) hA).away b2 (sgd_no _ _ _ _ _ _ _ _ _ _ _) (grown_set _ ⟨g, 3, none⟩ (.slice P1 np1 cp1)) hA).away b3 (sgd_no _ _ _ _ _ _ _ _ _ _ _) (grown_set _ ⟨g, 4, none⟩ (.slice Q1 nq1 cq1)) hA
theorem RR.away {w w' : World} {base q : Nat} {L : List UInt8} {bad : Bool} (h : RR w base q L bad) {k : Nat} {t : TypeId} {cs : Array Value} (hb : Blk w k t cs) (ht : t ≠ 98) (hno : ∀ (i : Nat) (x : Int), cs[i]? ≠ some (.int .u8 x)) (g : w.grownBy w' (some k)) : RR w' base q L bad := by
  obtain ⟨A, n', c', At, B, h1, h2, h3⟩ := h
  refine ⟨A, n', c', At, B, h1.grown g (fun e => ?_), h2.grown g (h2.apart5 hb hno), h3⟩
  injection e with e
  subst e
  unfold Blk at h1 hb
  rw [h1] at hb
  injection hb with hb
  injection hb with _ hb
  exact ht hb.symm
theorem RR.set5 {w : World} {base q : Nat} {L : List UInt8} {bad : Bool} (h : RR w base q L bad) {g : Nat} {t : TypeId} (ht : t ≠ 98) {x k : Int} {A0 P Q : Option Addr} {n0 c0 np cp nq cq : Nat} (hB : Blk w g t (sgdC x A0 n0 c0 k P np cp Q nq cq))
    (x' k' : Int) (A1 P1 Q1 : Option Addr) (n1 c1 np1 cp1 nq1 cq1 : Nat) : RR (((((w.setCell ⟨g, 0, none⟩ (.int .i64 x')).setCell ⟨g, 1, none⟩ (.slice A1 n1 c1)).setCell ⟨g, 2, none⟩ (.int .i64 k')).setCell ⟨g, 3, none⟩ (.slice P1 np1 cp1)).setCell ⟨g, 4, none⟩ (.slice Q1 nq1 cq1)) base q L bad := by
  have b0 : Blk (w.setCell ⟨g, 0, none⟩ (.int .i64 x')) g t (sgdC x' A0 n0 c0 k P np cp Q nq cq) := hB.set 0 _
  have b1 : Blk _ g t (sgdC x' A1 n1 c1 k P np cp Q nq cq) := b0.set 1 (.slice A1 n1 c1)
  have b2 : Blk _ g t (sgdC x' A1 n1 c1 k' P np cp Q nq cq) := b1.set 2 (.int .i64 k')
  have b3 : Blk _ g t (sgdC x' A1 n1 c1 k' P1 np1 cp1 Q nq cq) := b2.set 3 (.slice P1 np1 cp1)
  exact ((((h.away hB ht (sgd_no _ _ _ _ _ _ _ _ _ _ _) (grown_set w ⟨g, 0, none⟩ (.int .i64 x'))).away b0 ht (sgd_no _ _ _ _ _ _ _ _ _ _ _) (grown_set _ ⟨g, 1, none⟩ (.slice A1 n1 c1))).away b1 ht (sgd_no _ _ _ _ _ _ _ _ _ _ _) (grown_set _ ⟨g, 2, none⟩ (.int .i64 k'))).away b2 ht (sgd_no _ _ _ _ _ _ _ _ _ _ _) (grown_set _ ⟨g, 3, none⟩ (.slice P1 np1 cp1))).away b3 ht (sgd_no _ _ _ _ _ _ _ _ _ _ _) (grown_set _ ⟨g, 4, none⟩ (.slice Q1 nq1 cq1))
end Go.Proofs.Ythggfbpdhkpkjaa
namespace Go.Proofs.Ythggfbpdhkpkjaa
set_option maxRecDepth 100000
open Go Go.RowKit
def u8of (x : Int) : UInt8 := UInt8.ofNat (x % 256).toNat
def khash (x : Int) : List UInt8 := tagged 98 [u8of (within x 0 100000)]
theorem conv_i64_u8x {P : Program} {w : World} {s t : TypeId} (hs : P.underlying s = some (.int .i64)) (ht : P.underlying t = some (.int .u8)) (x : Int) : (convert s t (.int .i64 x)).run P w = .ok (.int .u8 (u8i (u8of x))) w := by
  have e : IntKind.u8.wrap x = u8i (u8of x) := by
    unfold u8i u8of
    rw [IntKind.wrap_u8, UInt8.toNat_ofNat']
    omega
  simp [convert, run_underlying hs, run_underlying ht, Conv.intToInt, e]
theorem RBB.lit1 {w : World} {B : Option Addr} {m d : Nat} {L : List UInt8} (h : RB w B m d L) (t : TypeId) : RBB (w.alloc (.cells #[.slice B m d] t)) (some ⟨w.heap.size, 0, none⟩) 1 1 [L] :=
  ⟨rfl, Nat.le_refl _, small_maxLen (by decide), fun _ => ⟨_, rfl, fun j hj => by
    obtain rfl : j = 0 := by omega
    refine ⟨B, m, d, ?_, h.ext (Ext.new w _)⟩
    have e : (⟨w.heap.size, 0, none⟩ : Addr).add 0 = ⟨w.heap.size, 0, none⟩ := add_plain _ 0
    rw [e]
    exact (Blk.new w t _).cell rfl⟩⟩
set_option maxHeartbeats 1000000 in
theorem hash_any (x : Int) (w : World) (hx0 : -9223372036854775808 ≤ x) (hx1 : x ≤ 9223372036854775807) :
    Calls Try.prog 37 #[.int .i64 x] w fun e w' => ∃ A' c', e = .returned (.slice A' 32 c') ∧ OB w' w.heap.size A' 32 c' (khash x) ∧ Ext w w' := by
  have hc := fun w' : World => conv_i64_u8x (P := Try.prog) (w := w') Try.underlying3 Try.underlying5 (within x 0 100000)
  unfold khash
  obtain ⟨z, hz⟩ : ∃ z, z = within x 0 100000 := ⟨_, rfl⟩
  rw [← hz] at hc ⊢
  have Hz := Lib.hid hz
  clear hz
  go_enter Try.func37, Try.ntmps37
  go_wp2_with fail
  refine (within_any x 0 100000 w hx0 hx1 (by omega) (by omega) (by omega)).mono ?_
  rintro e w1 ⟨rfl, rfl⟩
  rw [← Hz.out]
  go_wp2_with fail
  have hb : RB (w.alloc (.cells #[.int .u8 (u8i (u8of z))] 5)) (some ⟨w.heap.size, 0, none⟩) 1 1 [u8of z] := RB.lit w [u8of z] rfl (small_maxLen (by simp))
  have hr := RBB.lit1 hb 22
  have hsz : (w.alloc (.cells #[.int .u8 (u8i (u8of z))] 5)).heap.size = w.heap.size + 1 := by
    show (w.heap.push _).size = _
    rw [Array.size_push]
  have hcon := rtagged_any 98 _ 1 1 [[u8of z]] _ hr (by simp)
  have e98 : u8i 98 = 98 := rfl
  rw [hsz, e98] at hcon
  refine hcon.mono ?_
  rintro e w2 ⟨A', c', rfl, own, hE⟩
  go_wp2_with fail
  go_ret
  have hE0 := ((Ext.refl w).alloc (.cells (bv [u8of z]).toArray 5)).alloc (.cells #[.slice (some ⟨w.heap.size, 0, none⟩) 1 1] 22)
  exact ⟨A', c', rfl, own.base hE0.size, hE0.trans hE⟩
end Go.Proofs.Ythggfbpdhkpkjaa
namespace Go.Proofs.Ythggfbpdhkpkjaa
set_option maxRecDepth 100000
open Go Go.RowKit
theorem khash_length (x : Int) : (khash x).length = 32 := tagged_length _ _
theorem rightC_nat {k : Nat} {R : List UInt8} (hk : k ≤ 256) (hR : R.length = 32) : rightC (k : Int) R = true := by
  unfold rightC
  simp [hR]
  omega
theorem cverB_own (S R : List UInt8) (x : Int) (k : Nat) (hk : k < 16) (hc : rightC x R = true) : cverB (ownP S) x R (k : Int) (sigP S (bodyC checkL x R) k) (pathL S k) = true := by
  unfold cverB
  rw [hc, Bool.true_and]
  exact verB_own S _ k hk
set_option maxHeartbeats 4000000 in
theorem known10_any (w : World) : Calls Try.prog 20 #[] w fun e w' => e = .returned (.bool true) ∧ Ext w w' := by
  have hRl := khash_length 1
  go_enter Try.func20, Try.ntmps20
  go_wp2_with fail
  refine (seed_any 1 w (by omega) (by omega)).mono ?_
  rintro e w1 ⟨A1, c1, rfl, own1, hEa⟩
  obtain ⟨S, hS⟩ : ∃ S, S = seedL 1 := ⟨_, rfl⟩
  rw [← hS] at own1
  clear hS
  have rS := own1.rb
  clear own1
  go_wp2_with fail
  refine (rnew_any A1 c1 S w1 rS).mono ?_
  rintro e w2 ⟨g1, rfl, o1, hE⟩
  replace rS := rS.ext hE
  replace hEa := hEa.trans hE
  clear hE
  go_wp2_with fail
  refine (hash_any 1 w2 (by omega) (by omega)).mono ?_
  rintro e w3 ⟨B0, c0, rfl, own, hE⟩
  replace rS := rS.ext hE
  replace o1 := o1.ext hE
  replace hEa := hEa.trans hE
  have rR0 := own.rb
  generalize khash 1 = R at *
  have hc : rightC 3 R = true := rightC_nat (k := 3) (R := R) (by omega) hRl
  clear hE own
  go_wp2_with fail
  have hcs := csign_yes A1 B0 c1 32 c0 0 3 S R w3 rS rR0 hc (by omega)
  have e0 : ((0 : Nat) : Int) = 0 := rfl
  rw [e0] at hcs
  refine hcs.mono ?_
  rintro e w4 ⟨B, d, P, d1, Q, d2, rfl, rR, rP, rQ, hE⟩
  have hv := cverB_own S R 3 0 (by omega) hc
  rw [e0] at hv
  clear hcs
  obtain ⟨PS, hPS⟩ : ∃ PS, PS = sigP S (bodyC checkL 3 R) 0 := ⟨_, rfl⟩
  obtain ⟨QS, hQS⟩ : ∃ QS, QS = pathL S 0 := ⟨_, rfl⟩
  rw [← hPS] at rP hv
  rw [← hQS] at rQ hv
  have Hv := Lib.hid hv
  replace rS := rS.ext hE
  replace o1 := o1.ext hE
  replace hEa := hEa.trans hE
  have hEn := Ext.new w4 (.cells #[.int .i64 3, .slice B 32 d, .int .i64 0, .slice P 64 d1, .slice Q 4 d2] 41)
  have hBx := Blk.new w4 41 #[.int .i64 3, .slice B 32 d, .int .i64 0, .slice P 64 d1, .slice Q 4 d2]
  replace rS := rS.ext hEn
  replace o1 := o1.ext hEn
  replace rR := rR.ext hEn
  replace rP := rP.ext hEn
  replace rQ := rQ.ext hEn
  replace hEa := hEa.trans hEn
  clear hE hEn hv hPS hQS rR0 hc
  obtain ⟨w5, hw5⟩ : ∃ w5, w5 = w4.alloc (.cells #[.int .i64 3, .slice B 32 d, .int .i64 0, .slice P 64 d1, .slice Q 4 d2] 41) := ⟨_, rfl⟩
  rw [← hw5] at rS o1 rR rP rQ hEa hBx
  go_wp2_with (rw [← hw5]; refine make_law (k := 31) rfl rfl rfl rfl (by omega) ?_; intro w6 own6 hE6)
  have hs5 : w5.heap.size = w4.heap.size + 1 := by rw [hw5]; exact World.size_alloc _ _
  have r6 := own6.rb
  rw [hs5] at r6
  clear hw5 hs5
  generalize w4.heap.size = gx at *
  have hc2 : rightC 3 (List.replicate 31 0) = false := by decide
  refine (csign_no A1 _ 32 c1 31 31 0 3 _ w6 r6 hc2).mono ?_
  rintro e w7 ⟨rfl, hE⟩
  replace hE := hE6.trans hE
  have hEn := Ext.new w7 (.cells #[.int .i64 0, .slice none 0 0, .int .i64 0, .slice none 0 0, .slice none 0 0] 41)
  replace hE := hE.trans hEn
  replace o1 := o1.ext hE
  replace rR := rR.ext hE
  replace rP := rP.ext hE
  replace rQ := rQ.ext hE
  replace hBx := hBx.ext hE
  replace hEa := hEa.trans hE
  clear hE hEn hE6 own6 r6 hc2 rS
  go_upto_region 5 with (fail)
  generalize w7.alloc (.cells #[.int .i64 0, .slice none 0 0, .int .i64 0, .slice none 0 0, .slice none 0 0] 41) = w8 at *
  refine par_ext (n := 19) (by kernel_rfl) [.is (.int .i64 ((0 : Int))), .is (.bool (true)), .is (.bool (true)), .is (.pointer (some ⟨g1, 0, none⟩)), .rk (32) (ownP S), .is (.agg #[.int .i64 ((3 : Int)), .slice (B) (32) (d), .int .i64 ((0 : Int)), .slice (P) (64) (d1), .slice (Q) (4) (d2)]), .is (.bool (true)), .is (.bool (true)), .is (.bool (true)), .is (.pointer (some ⟨gx, 0, none⟩)), .is (.pointer (some ⟨gx, 0, none⟩)), .is (.int .i64 ((3 : Int))), .is (.bool (true)), .is (.bool (true)), .is (.bool (true)), .is (.int .i64 ((12 : Int))), .is (.bool (true)), .is (.bool (true)), .is (.bool (true))] rfl ⟨?_, ?_, ?_, ?_, ?_, ?_, ?_, ?_, ?_, ?_, ?_, ?_, ?_, ?_, ?_, ?_, ?_, ?_, ?_, trivial⟩ ?_
  · refine stepE rfl fun sdn sa sw sE sd sk => ?_
    have h4 : sa.eval (.tmp 4) = .int .i64 ((0 : Int)) := sk.old 4 rfl
    exact Runs.move rfl h4 ⟨Ext.refl _, rfl⟩
  · refine stepE rfl fun sdn sa sw sE sd sk => ?_
    have h24 : sa.eval (.tmp 24) = .int .i64 ((0 : Int)) := sk.fact 0 24 rfl (sd 0 rfl)
    exact Runs.bin rfl h24 rfl (by rfl) (bin_eql _ _ _ _) ⟨Ext.refl _, congrArg Value.bool (by decide)⟩
  · refine stepE rfl fun sdn sa sw sE sd sk => ?_
    have h25 : sa.eval (.tmp 25) = .bool (true) := sk.fact 1 25 rfl (sd 1 rfl)
    exact Runs.move rfl h25 ⟨Ext.refl _, rfl⟩
  · refine stepY (j := 2) (d := 26) (b := true) rfl rfl rfl (fun v w h => h) fun sdn sa sw sE sd sk => ?_
    have h2 : sa.eval (.tmp 2) = .pointer (some ⟨g1, 0, none⟩) := sk.old 2 rfl
    exact Runs.move rfl h2 ⟨Ext.refl _, rfl⟩
  · refine stepY (j := 2) (d := 26) (b := true) rfl rfl rfl (fun v w h => h) fun sdn sa sw sE sd sk => ?_
    have h27 : sa.eval (.tmp 27) = .pointer (some ⟨g1, 0, none⟩) := sk.fact 3 27 rfl (sd 3 rfl)
    refine Runs.call (f := 68) (vs := [.pointer (some ⟨g1, 0, none⟩)]) rfl rfl rfl (by simp only [List.map_toArray, List.map_cons, List.map_nil, h27] <;> rfl) (ent68 _ _) ((rpublic_any _ _ _ sw (o1.ext sE)).mono ?_); rintro e w' ⟨A', c', rfl, own, hx⟩; exact ⟨_, rfl, hx, A', c', rfl, own⟩
  · refine stepY (j := 2) (d := 26) (b := true) rfl rfl rfl (fun v w h => h) fun sdn sa sw sE sd sk => ?_
    have h3 : sa.eval (.tmp 3) = .pointer (some ⟨gx, 0, none⟩) := sk.old 3 rfl
    exact Runs.load rfl h3 (load_part (hBx.ext sE) 0 (vs := [.int .i64 ((3 : Int)), .slice (B) (32) (d), .int .i64 ((0 : Int)), .slice (P) (64) (d1), .slice (Q) (4) (d2)]) rfl Try.underlying41 rfl (by kernel_rfl)) ⟨Ext.refl _, rfl⟩
  · refine stepY (j := 2) (d := 26) (b := true) rfl rfl rfl (fun v w h => h) fun sdn sa sw sE sd sk => ?_
    obtain ⟨A28, c28, h28, r28⟩ := sk.fact 4 28 rfl (sd 4 rfl)
    have h29 : sa.eval (.tmp 29) = .agg #[.int .i64 ((3 : Int)), .slice (B) (32) (d), .int .i64 ((0 : Int)), .slice (P) (64) (d1), .slice (Q) (4) (d2)] := sk.fact 5 29 rfl (sd 5 rfl)
    refine Runs.call (f := 30) (vs := [.slice (A28) (32) (c28), .agg #[.int .i64 ((3 : Int)), .slice (B) (32) (d), .int .i64 ((0 : Int)), .slice (P) (64) (d1), .slice (Q) (4) (d2)]]) rfl rfl rfl (by simp only [List.map_toArray, List.map_cons, List.map_nil, h28, h29] <;> rfl) (ent30 _ _) ((cverify_any _ _ _ _ _ _ _ _ _ _ _ _ _ _ _ _ _ _ sw r28 (rR.ext sE) (rP.ext sE) (rQ.ext sE)).mono ?_); rintro e w' ⟨rfl, hx⟩; exact ⟨_, rfl, hx, congrArg Value.bool (Hv.out)⟩
  · refine stepE rfl fun sdn sa sw sE sd sk => ?_
    have h26 : sa.eval (.tmp 26) = .bool (true) := sk.fact 2 26 rfl (sd 2 rfl)
    have h30 : sa.eval (.tmp 30) = .bool (true) := sk.fact 6 30 rfl (sd 6 rfl)
    exact Runs.pick rfl h26 ⟨Ext.refl _, by first | exact h30 | simpa using h30⟩
  · refine stepE rfl fun sdn sa sw sE sd sk => ?_
    have h31 : sa.eval (.tmp 31) = .bool (true) := sk.fact 7 31 rfl (sd 7 rfl)
    exact Runs.move rfl h31 ⟨Ext.refl _, rfl⟩
  · refine stepY (j := 8) (d := 32) (b := true) rfl rfl rfl (fun v w h => h) fun sdn sa sw sE sd sk => ?_
    have h3 : sa.eval (.tmp 3) = .pointer (some ⟨gx, 0, none⟩) := sk.old 3 rfl
    refine Runs.of_run (r := .pointer (some ⟨gx, 0, none⟩)) (w' := sw) ?_ ⟨Ext.refl _, rfl⟩
    unfold execOp
    simp only [h3]
    go_simp
  · refine stepY (j := 8) (d := 32) (b := true) rfl rfl rfl (fun v w h => h) fun sdn sa sw sE sd sk => ?_
    have h33 : sa.eval (.tmp 33) = .pointer (some ⟨gx, 0, none⟩) := sk.fact 9 33 rfl (sd 9 rfl)
    refine Runs.of_run (r := .pointer (some ⟨gx, 0, none⟩)) (w' := sw) ?_ ⟨Ext.refl _, rfl⟩
    unfold execOp
    simp only [h33]
    go_simp
  · refine stepY (j := 8) (d := 32) (b := true) rfl rfl rfl (fun v w h => h) fun sdn sa sw sE sd sk => ?_
    have h34 : sa.eval (.tmp 34) = .pointer (some ⟨gx, 0, none⟩) := sk.fact 10 34 rfl (sd 10 rfl)
    exact Runs.load rfl h34 (run_load1 Try.underlying3 rfl ((hBx.ext sE).cell (i := 0) rfl)) ⟨Ext.refl _, rfl⟩
  · refine stepY (j := 8) (d := 32) (b := true) rfl rfl rfl (fun v w h => h) fun sdn sa sw sE sd sk => ?_
    have h35 : sa.eval (.tmp 35) = .int .i64 ((3 : Int)) := sk.fact 11 35 rfl (sd 11 rfl)
    exact Runs.bin rfl h35 rfl (by rfl) (bin_eql _ _ _ _) ⟨Ext.refl _, congrArg Value.bool (by decide)⟩
  · refine stepE rfl fun sdn sa sw sE sd sk => ?_
    have h32 : sa.eval (.tmp 32) = .bool (true) := sk.fact 8 32 rfl (sd 8 rfl)
    have h36 : sa.eval (.tmp 36) = .bool (true) := sk.fact 12 36 rfl (sd 12 rfl)
    exact Runs.pick rfl h32 ⟨Ext.refl _, by first | exact h36 | simpa using h36⟩
  · refine stepE rfl fun sdn sa sw sE sd sk => ?_
    have h37 : sa.eval (.tmp 37) = .bool (true) := sk.fact 13 37 rfl (sd 13 rfl)
    exact Runs.move rfl h37 ⟨Ext.refl _, rfl⟩
  · refine stepY (j := 14) (d := 38) (b := true) rfl rfl rfl (fun v w h => h) fun sdn sa sw sE sd sk => ?_
    have h6 : sa.eval (.tmp 6) = .int .i64 ((12 : Int)) := sk.old 6 rfl
    exact Runs.move rfl h6 ⟨Ext.refl _, rfl⟩
  · refine stepY (j := 14) (d := 38) (b := true) rfl rfl rfl (fun v w h => h) fun sdn sa sw sE sd sk => ?_
    have h39 : sa.eval (.tmp 39) = .int .i64 ((12 : Int)) := sk.fact 15 39 rfl (sd 15 rfl)
    exact Runs.bin rfl h39 rfl (by rfl) (bin_eql _ _ _ _) ⟨Ext.refl _, congrArg Value.bool (by decide)⟩
  · refine stepE rfl fun sdn sa sw sE sd sk => ?_
    have h38 : sa.eval (.tmp 38) = .bool (true) := sk.fact 14 38 rfl (sd 14 rfl)
    have h40 : sa.eval (.tmp 40) = .bool (true) := sk.fact 16 40 rfl (sd 16 rfl)
    exact Runs.pick rfl h38 ⟨Ext.refl _, by first | exact h40 | simpa using h40⟩
  · refine stepE rfl fun sdn sa sw sE sd sk => ?_
    have h41 : sa.eval (.tmp 41) = .bool (true) := sk.fact 17 41 rfl (sd 17 rfl)
    exact Runs.assign rfl h41 ⟨Ext.refl _, rfl⟩
  intro vals W5 hE5 hv5
  have e0 : vals 0 = .int .i64 ((0 : Int)) := hv5 0 (by omega) 24 rfl
  have e1 : vals 1 = .bool (true) := hv5 1 (by omega) 25 rfl
  have e2 : vals 2 = .bool (true) := hv5 2 (by omega) 26 rfl
  have e3 : vals 3 = .pointer (some ⟨g1, 0, none⟩) := hv5 3 (by omega) 27 rfl
  obtain ⟨A28, c28, e4, r28⟩ := hv5 4 (by omega) 28 rfl
  have e5 : vals 5 = .agg #[.int .i64 ((3 : Int)), .slice (B) (32) (d), .int .i64 ((0 : Int)), .slice (P) (64) (d1), .slice (Q) (4) (d2)] := hv5 5 (by omega) 29 rfl
  have e6 : vals 6 = .bool (true) := hv5 6 (by omega) 30 rfl
  have e7 : vals 7 = .bool (true) := hv5 7 (by omega) 31 rfl
  have e8 : vals 8 = .bool (true) := hv5 8 (by omega) 32 rfl
  have e9 : vals 9 = .pointer (some ⟨gx, 0, none⟩) := hv5 9 (by omega) 33 rfl
  have e10 : vals 10 = .pointer (some ⟨gx, 0, none⟩) := hv5 10 (by omega) 34 rfl
  have e11 : vals 11 = .int .i64 ((3 : Int)) := hv5 11 (by omega) 35 rfl
  have e12 : vals 12 = .bool (true) := hv5 12 (by omega) 36 rfl
  have e13 : vals 13 = .bool (true) := hv5 13 (by omega) 37 rfl
  have e14 : vals 14 = .bool (true) := hv5 14 (by omega) 38 rfl
  have e15 : vals 15 = .int .i64 ((12 : Int)) := hv5 15 (by omega) 39 rfl
  have e16 : vals 16 = .bool (true) := hv5 16 (by omega) 40 rfl
  have e17 : vals 17 = .bool (true) := hv5 17 (by omega) 41 rfl
  have e18 : vals 18 = .bool (true) := hv5 18 (by omega) 0 rfl
  simp only [putAll, Act.put, List.take_succ_cons, List.take_zero, List.drop_succ_cons, List.drop_zero, List.drop_nil, List.take_nil, Nat.reduceAdd, List.setIfInBounds_toArray, List.set_cons_succ, List.set_cons_zero, e0, e1, e2, e3, e4, e5, e6, e7, e8, e9, e10, e11, e12, e13, e14, e15, e16, e17, e18]
  clear hv5 e0 e1 e2 e3 e4 e5 e6 e7 e8 e9 e10 e11 e12 e13 e14 e15 e16 e17 e18
  go_wp2_with fail
  go_ret
  exact ⟨rfl, hEa.trans hE5⟩
end Go.Proofs.Ythggfbpdhkpkjaa
namespace Go.Proofs.Ythggfbpdhkpkjaa
set_option maxRecDepth 100000
open Go Go.RowKit
theorem Runs.index {P : Program} {o : Oper} {ρ : Operand → Value} {w : World} {G : Value → World → Prop} {t : TypeId} {x i : Operand} {u v r : Value} (ho : o.op = .index t x i) (hx : ρ x = u) (hi : ρ i = v) (hr : (Instr.index t u v).run P w = .ok r w) (h : G r w) : Runs P o ρ w G := by
  refine Runs.of_run (r := r) (w' := w) ?_ h
  unfold execOp
  simp only [ho, hx, hi, Sem.run_bind, hr, Result.andThen_ok, Sem.run_pure]
end Go.Proofs.Ythggfbpdhkpkjaa

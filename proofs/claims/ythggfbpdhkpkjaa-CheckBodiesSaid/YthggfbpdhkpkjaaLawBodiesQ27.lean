/-
  law10.CheckBodies, walked.
-/
import Derived.Test.YthggfbpdhkpkjaaLawBodiesQ26
import Derived.Test.YthggfbpdhkpkjaaLawBodiesQ22
import Derived.Test.YthggfbpdhkpkjaaLawBodiesQ12
namespace Go.Proofs.Ythggfbpdhkpkjaa
set_option maxRecDepth 100000
open Go Go.RowKit
theorem RB.cut_ {w : World} {A : Option Addr} {n c : Nat} {L : List UInt8} (h : RB w A n c L) (k : Nat) : RB w A (min n k) c (L.take k) := by
  have h1 := h.cut (i := 0) (j := min n k) (c' := c) (A' := A) (by omega) (by omega) rfl (fun _ => by cases A <;> simp [Addr.add])
  have h2 := h.len
  have e : L.take (min n k) = L.take k := by
    rw [← h2]
    rcases Nat.le_total L.length k with h3 | h3
    · rw [Nat.min_eq_left h3, List.take_of_length_le h3, List.take_of_length_le (Nat.le_refl _)]
    · rw [Nat.min_eq_right h3]
  simpa [e] using h1
theorem cut_z (A : Option Addr) (n c k : Nat) (L : List UInt8) (z : Int) (hz : z = (k : Int)) (w : World) (hr : RB w A n c L) (hk : k ≤ 140737488355328) :
    Calls Try.prog 14 #[.slice A n c, .int .i64 z] w fun e w' => (e = .returned (.slice A (min n k) c) ∧ RB w A (min n k) c (L.take k)) ∧ w = w' := by
  subst hz
  exact cut_any A n c k L w hr hk
theorem sized_z (A : Option Addr) (n c k : Nat) (L : List UInt8) (z : Int) (hz : z = (k : Int)) (w : World) (hr : RB w A n c L) (hk : k ≤ 1000000) :
    Calls Try.prog 16 #[.slice A n c, .int .i64 z] w fun e w' => e = .returned (.slice (some ⟨w.heap.size, 0, none⟩) k k) ∧ OB w' w.heap.size (some ⟨w.heap.size, 0, none⟩) k k (sizedL L k) ∧ Ext w w' := by
  subst hz
  exact sized_any A n c k L w hr hk
theorem bytesOf_inj {x y : UInt32} (h : bytesOf x = bytesOf y) : x = y := by
  have := beNum_bytesOf x
  rw [h, beNum_bytesOf] at this
  exact this.symm
theorem keyW_inj {x y : Int} (h0 : 0 ≤ x) (h1 : x ≤ 256) (h2 : 0 ≤ y) (h3 : y ≤ 256) (h : keyW x = keyW y) : x = y := by
  unfold keyW at h
  have := congrArg UInt32.toNat h
  simp only [UInt32.toNat_ofNat'] at this
  omega
/-- bodies of unlike checkpoints are unlike -/
theorem bodyC_inj {t : List UInt8} {x y : Int} {R T : List UInt8} (hx : rightC x R = true) (hy : rightC y T = true) (h : bodyC t x R = bodyC t y T) : x = y ∧ R = T := by
  rw [bodyC_yes hx, bodyC_yes hy] at h
  have h1 := List.append_cancel_left h
  obtain ⟨h2, h3⟩ := List.append_inj h1 rfl
  obtain ⟨a0, a1, _⟩ := rightC_true hx
  obtain ⟨b0, b1, _⟩ := rightC_true hy
  exact ⟨keyW_inj a0 a1 b0 b1 (bytesOf_inj h2), h3⟩
theorem rightC_of {x : Int} {R : List UInt8} (h0 : 0 ≤ x) (h1 : x ≤ 256) (h2 : R.length = 32) : rightC x R = true := by
  unfold rightC
  simp [h0, h1, h2]
theorem chk_no (x : Int) (A : Option Addr) (n c i : Nat) (y : Int) : (#[.int .i64 x, .slice A n c] : Array Value)[i]? ≠ some (.int .u8 y) := by
  rcases i with _ | _ | i <;> simp
theorem RB.setc {w : World} {A : Option Addr} {n c : Nat} {L : List UInt8} (h : RB w A n c L) {g : Nat} {t : TypeId} {x : Int} {B : Option Addr} {m d : Nat} (hB : Blk w g t #[.int .i64 x, .slice B m d]) (i : Nat) (u : Value) : RB (w.setCell ⟨g, i, none⟩ u) A n c L :=
  h.grown (grown_set w ⟨g, i, none⟩ u) (h.apart5 hB (chk_no _ _ _ _))
def BodyI (w : World) (i : Value) (wr : World) : Prop := ∃ k : Nat, k ≤ 2 ∧ i = .int .i64 k ∧ Ext w wr
set_option maxHeartbeats 16000000 in
theorem bodies_law (Aa Ab : Option Addr) (na ca nb cb : Nat) (xa xb n m : Int) (La Lb : List UInt8) (w : World) (rA : RB w Aa na ca La) (rB : RB w Ab nb cb Lb) (hn0 : -9223372036854775808 ≤ n) (hn1 : n ≤ 9223372036854775807) (hm0 : -9223372036854775808 ≤ m) (hm1 : m ≤ 9223372036854775807) :
    Calls Try.prog 3 #[.agg #[.int .i64 xa, .slice Aa na ca], .agg #[.int .i64 xb, .slice Ab nb cb], .int .i64 n, .int .i64 m] w fun e w' => e = .returned (.bool true) ∧ Ext w w' := by
  have hEa := Ext.new w (.cells #[.int .i64 xa, .slice Aa na ca] 24)
  have hBa := Blk.new w 24 #[.int .i64 xa, .slice Aa na ca]
  have hEn := Ext.new (w.alloc (.cells #[.int .i64 xa, .slice Aa na ca] 24)) (.cells #[.int .i64 xb, .slice Ab nb cb] 24)
  have hBb := Blk.new (w.alloc (.cells #[.int .i64 xa, .slice Aa na ca] 24)) 24 #[.int .i64 xb, .slice Ab nb cb]
  rw [World.size_alloc] at hBb
  replace hBa := hBa.ext hEn
  replace hEa := hEa.trans hEn
  replace rA := rA.ext hEa
  replace rB := rB.ext hEa
  clear hEn
  go_enter Try.func3, Try.ntmps3
  go_upto_region 1 with (fail)
  generalize (w.alloc (.cells #[.int .i64 xa, .slice Aa na ca] 24)).alloc (.cells #[.int .i64 xb, .slice Ab nb cb] 24) = w1 at *
  obtain ⟨ga, hga⟩ : ∃ ga, ga = w.heap.size := ⟨_, rfl⟩
  obtain ⟨gb, hgb⟩ : ∃ gb, gb = w.heap.size + 1 := ⟨_, rfl⟩
  rw [← hga] at hBa
  rw [← hgb] at hBb
  rw [← hgb, ← hga]
  have hab : ga ≠ gb := by omega
  have Hga := Lib.hid hga
  have Hgb := Lib.hid hgb
  clear hga hgb
  refine par_ext (n := 7) (by kernel_rfl) [.is (.pointer (some ⟨ga, 1, none⟩)), .is (.slice (Aa) (na) (ca)), .is (.slice (Aa) (min na 40) (ca)), .is (.pointer (some ⟨gb, 1, none⟩)), .is (.slice (Ab) (nb) (cb)), .is (.slice (Ab) (min nb 40) (cb)), .is (.pointer (some ⟨ga, 1, none⟩))] rfl ⟨?_, ?_, ?_, ?_, ?_, ?_, ?_, trivial⟩ ?_
  · refine stepE rfl fun sdn sa sw sE sd sk => ?_
    have h4 : sa.eval (.tmp 4) = .pointer (some ⟨ga, 0, none⟩) := sk.old 4 rfl
    refine Runs.of_run (r := .pointer (some ⟨ga, 1, none⟩)) (w' := sw) ?_ ⟨Ext.refl _, rfl⟩
    unfold execOp
    simp only [h4]
    go_simp
  · refine stepE rfl fun sdn sa sw sE sd sk => ?_
    have h13 : sa.eval (.tmp 13) = .pointer (some ⟨ga, 1, none⟩) := sk.fact 0 13 rfl (sd 0 rfl)
    exact Runs.load rfl h13 (run_load1 Try.underlying22 rfl ((hBa.ext sE).cell (i := 1) rfl)) ⟨Ext.refl _, rfl⟩
  · refine stepE rfl fun sdn sa sw sE sd sk => ?_
    have h14 : sa.eval (.tmp 14) = .slice (Aa) (na) (ca) := sk.fact 1 14 rfl (sd 1 rfl)
    refine Runs.call (f := 14) (vs := [.slice (Aa) (na) (ca), .int .i64 ((40 : Int))]) rfl rfl rfl (by simp only [List.map_toArray, List.map_cons, List.map_nil, h14] <;> rfl) (ent14 _ _) ((cut_z _ _ _ 40 _ _ rfl sw (rA.ext sE) (by omega)).mono ?_); rintro e w' ⟨⟨rfl, _⟩, rfl⟩; exact ⟨_, rfl, Ext.refl _, rfl⟩
  · refine stepE rfl fun sdn sa sw sE sd sk => ?_
    have h5 : sa.eval (.tmp 5) = .pointer (some ⟨gb, 0, none⟩) := sk.old 5 rfl
    refine Runs.of_run (r := .pointer (some ⟨gb, 1, none⟩)) (w' := sw) ?_ ⟨Ext.refl _, rfl⟩
    unfold execOp
    simp only [h5]
    go_simp
  · refine stepE rfl fun sdn sa sw sE sd sk => ?_
    have h16 : sa.eval (.tmp 16) = .pointer (some ⟨gb, 1, none⟩) := sk.fact 3 16 rfl (sd 3 rfl)
    exact Runs.load rfl h16 (run_load1 Try.underlying22 rfl ((hBb.ext sE).cell (i := 1) rfl)) ⟨Ext.refl _, rfl⟩
  · refine stepE rfl fun sdn sa sw sE sd sk => ?_
    have h17 : sa.eval (.tmp 17) = .slice (Ab) (nb) (cb) := sk.fact 4 17 rfl (sd 4 rfl)
    refine Runs.call (f := 14) (vs := [.slice (Ab) (nb) (cb), .int .i64 ((40 : Int))]) rfl rfl rfl (by simp only [List.map_toArray, List.map_cons, List.map_nil, h17] <;> rfl) (ent14 _ _) ((cut_z _ _ _ 40 _ _ rfl sw (rB.ext sE) (by omega)).mono ?_); rintro e w' ⟨⟨rfl, _⟩, rfl⟩; exact ⟨_, rfl, Ext.refl _, rfl⟩
  · refine stepE rfl fun sdn sa sw sE sd sk => ?_
    have h4 : sa.eval (.tmp 4) = .pointer (some ⟨ga, 0, none⟩) := sk.old 4 rfl
    refine Runs.of_run (r := .pointer (some ⟨ga, 1, none⟩)) (w' := sw) ?_ ⟨Ext.refl _, rfl⟩
    unfold execOp
    simp only [h4]
    go_simp
  intro vals W1 hE1 hv1
  have e0 : vals 0 = .pointer (some ⟨ga, 1, none⟩) := hv1 0 (by omega) 13 rfl
  have e1 : vals 1 = .slice (Aa) (na) (ca) := hv1 1 (by omega) 14 rfl
  have e2 : vals 2 = .slice (Aa) (min na 40) (ca) := hv1 2 (by omega) 15 rfl
  have e3 : vals 3 = .pointer (some ⟨gb, 1, none⟩) := hv1 3 (by omega) 16 rfl
  have e4 : vals 4 = .slice (Ab) (nb) (cb) := hv1 4 (by omega) 17 rfl
  have e5 : vals 5 = .slice (Ab) (min nb 40) (cb) := hv1 5 (by omega) 18 rfl
  have e6 : vals 6 = .pointer (some ⟨ga, 1, none⟩) := hv1 6 (by omega) 19 rfl
  simp only [putAll, Act.put, List.take_succ_cons, List.take_zero, List.drop_succ_cons, List.drop_zero, List.drop_nil, List.take_nil, Nat.reduceAdd, List.setIfInBounds_toArray, List.set_cons_succ, List.set_cons_zero, e0, e1, e2, e3, e4, e5, e6]
  clear hv1 e0 e1 e2 e3 e4 e5 e6
  replace rA := rA.ext hE1
  replace rB := rB.ext hE1
  replace hBa := hBa.ext hE1
  replace hBb := hBb.ext hE1
  replace hEa := hEa.trans hE1
  clear hE1
  replace rA := rA.cut_ 40
  replace rB := rB.cut_ 40
  generalize min na 40 = ka at *
  generalize min nb 40 = kb at *
  generalize La.take 40 = Ra at *
  generalize Lb.take 40 = Rb at *
  have fhBa0 := hBa.frozen 0
  have fhBa1 := hBa.frozen 1
  have xhBa0 := hBa.cell (i := 0) rfl
  have xhBa1 := hBa.cell (i := 1) rfl
  have fhBb0 := hBb.frozen 0
  have fhBb1 := hBb.frozen 1
  have xhBb0 := hBb.cell (i := 0) rfl
  have xhBb1 := hBb.cell (i := 1) rfl
  have hBa1 := hBa.set 1 (.slice Aa ka ca)
  have hBb1 := hBb.far (p := ⟨ga, 1, none⟩) (fun e => hab e.symm) (.slice Aa ka ca)
  have rA1 := rA.setc hBa 1 (.slice Aa ka ca)
  have rB1 := rB.setc hBa 1 (.slice Aa ka ca)
  have hEa1 := hEa.set (p := ⟨ga, 1, none⟩) (by have := Hga.out; show w.heap.size ≤ ga; omega) (.slice Aa ka ca)
  have hBa2 := hBa1.far (p := ⟨gb, 1, none⟩) hab (.slice Ab kb cb)
  have hBb2 := hBb1.set 1 (.slice Ab kb cb)
  have rA2 := rA1.setc hBb1 1 (.slice Ab kb cb)
  have rB2 := rB1.setc hBb1 1 (.slice Ab kb cb)
  have hEa2 := hEa1.set (p := ⟨gb, 1, none⟩) (by have := Hgb.out; show w.heap.size ≤ gb; omega) (.slice Ab kb cb)
  clear hBa1 hBb1 rA1 rB1 hEa1 rA rB hEa Hga Hgb hBa hBb
  go_upto_region 2 with (fail)
  generalize (W1.setCell ⟨ga, 1, none⟩ (.slice Aa ka ca)).setCell ⟨gb, 1, none⟩ (.slice Ab kb cb) = w2 at *
  clear fhBa0 xhBa0 fhBa1 xhBa1
  clear fhBb0 xhBb0 fhBb1 xhBb1
  replace hBa2 : Blk w2 ga 24 #[.int .i64 xa, .slice Aa ka ca] := hBa2
  replace hBb2 : Blk w2 gb 24 #[.int .i64 xb, .slice Ab kb cb] := hBb2
  have hBa := hBa2
  clear hBa2
  have hBb := hBb2
  clear hBb2
  have rA := rA2
  clear rA2
  have rB := rB2
  clear rB2
  have hEa := hEa2
  clear hEa2
  have hEa0 := hEa
  have hga0 := hBa.lt
  have hgb0 := hBb.lt
  refine par_ext (n := 7) (by kernel_rfl) [.is (.int .i64 (n)), .is (.int .i64 (within n (0 : Int) (256 : Int))), .is (.pointer (some ⟨ga, 1, none⟩)), .is (.slice (Aa) (ka) (ca)), .rk (32) (sizedL Ra 32), .ag [.val (.int .i64 (within n (0 : Int) (256 : Int))), .b8 (32) (sizedL Ra 32)], .bk (w2.heap.size) 24 #[.int .i64 ((0 : Int)), .slice (none) (0) (0)]] rfl ⟨?_, ?_, ?_, ?_, ?_, ?_, ?_, trivial⟩ ?_
  · refine stepE rfl fun sdn sa sw sE sd sk => ?_
    have h2 : sa.eval (.tmp 2) = .int .i64 (n) := sk.old 2 rfl
    exact Runs.move rfl h2 ⟨Ext.refl _, rfl⟩
  · refine stepE rfl fun sdn sa sw sE sd sk => ?_
    have h21 : sa.eval (.tmp 21) = .int .i64 (n) := sk.fact 0 21 rfl (sd 0 rfl)
    refine Runs.call (f := 15) (vs := [.int .i64 (n), .int .i64 ((0 : Int)), .int .i64 ((256 : Int))]) rfl rfl rfl (by simp only [List.map_toArray, List.map_cons, List.map_nil, h21] <;> rfl) (ent15 _ _) ((within_any n (0 : Int) (256 : Int) sw (by omega) (by omega) (by omega) (by omega) (by omega)).mono ?_); rintro e w' ⟨rfl, rfl⟩; exact ⟨_, rfl, Ext.refl _, rfl⟩
  · refine stepE rfl fun sdn sa sw sE sd sk => ?_
    have h4 : sa.eval (.tmp 4) = .pointer (some ⟨ga, 0, none⟩) := sk.old 4 rfl
    refine Runs.of_run (r := .pointer (some ⟨ga, 1, none⟩)) (w' := sw) ?_ ⟨Ext.refl _, rfl⟩
    unfold execOp
    simp only [h4]
    go_simp
  · refine stepE rfl fun sdn sa sw sE sd sk => ?_
    have h23 : sa.eval (.tmp 23) = .pointer (some ⟨ga, 1, none⟩) := sk.fact 2 23 rfl (sd 2 rfl)
    exact Runs.load rfl h23 (run_load1 Try.underlying22 rfl ((hBa.ext sE).cell (i := 1) rfl)) ⟨Ext.refl _, rfl⟩
  · refine stepE rfl fun sdn sa sw sE sd sk => ?_
    have h24 : sa.eval (.tmp 24) = .slice (Aa) (ka) (ca) := sk.fact 3 24 rfl (sd 3 rfl)
    refine Runs.call (f := 16) (vs := [.slice (Aa) (ka) (ca), .int .i64 ((32 : Int))]) rfl rfl rfl (by simp only [List.map_toArray, List.map_cons, List.map_nil, h24] <;> rfl) (ent16 _ _) ((sized_z _ _ _ 32 _ _ rfl sw (rA.ext sE) (by omega)).mono ?_); rintro e w' ⟨rfl, own, hx⟩; exact ⟨_, rfl, hx, _, _, rfl, own.rb⟩
  · refine stepE rfl fun sdn sa sw sE sd sk => ?_
    have h22 : sa.eval (.tmp 22) = .int .i64 (within n (0 : Int) (256 : Int)) := sk.fact 1 22 rfl (sd 1 rfl)
    obtain ⟨A25, c25, h25, r25⟩ := sk.fact 4 25 rfl (sd 4 rfl)
    refine Runs.of_run (r := .agg #[.int .i64 (within n (0 : Int) (256 : Int)), .slice (A25) (32) (c25)]) (w' := sw) ?_ ⟨Ext.refl _, ⟨_, _, r25, rfl⟩⟩
    unfold execOp
    simp only [List.map_toArray, List.map_cons, List.map_nil, h22, h25]
    go_simp
  · refine stepE rfl fun sdn sa sw sE sd sk => ?_
    refine Runs.of_run (r := .pointer (some ⟨sw.heap.size, 0, none⟩)) (w' := sw.alloc (.cells #[.int .i64 ((0 : Int)), .slice (none) (0) (0)] 24)) ?_ ⟨Ext.new _ _, _, rfl, Blk.new _ _ _, sE.size⟩
    unfold execOp
    go_simp
  intro vals W2 hE2 hv2
  have e0 : vals 0 = .int .i64 (n) := hv2 0 (by omega) 21 rfl
  have e1 : vals 1 = .int .i64 (within n (0 : Int) (256 : Int)) := hv2 1 (by omega) 22 rfl
  have e2 : vals 2 = .pointer (some ⟨ga, 1, none⟩) := hv2 2 (by omega) 23 rfl
  have e3 : vals 3 = .slice (Aa) (ka) (ca) := hv2 3 (by omega) 24 rfl
  obtain ⟨A25, c25, e4, r25⟩ := hv2 4 (by omega) 25 rfl
  obtain ⟨A26x0, c26x0, r26x0, e5⟩ := hv2 5 (by omega) 26 rfl
  replace e5 : vals 5 = .agg #[.int .i64 (within n (0 : Int) (256 : Int)), .slice (A26x0) (32) (c26x0)] := e5
  obtain ⟨g9, e6, hb9, gb9⟩ := hv2 6 (by omega) 9 rfl
  simp only [putAll, Act.put, List.take_succ_cons, List.take_zero, List.drop_succ_cons, List.drop_zero, List.drop_nil, List.take_nil, Nat.reduceAdd, List.setIfInBounds_toArray, List.set_cons_succ, List.set_cons_zero, e0, e1, e2, e3, e4, e5, e6]
  clear hv2 e0 e1 e2 e3 e4 e5 e6
  have hx := within_in n 0 256 (by omega)
  have hRl : (sizedL Ra 32).length = 32 := sizedL_length _ _
  replace hBa := hBa.ext hE2
  replace hBb := hBb.ext hE2
  replace rA := rA.ext hE2
  replace rB := rB.ext hE2
  replace hEa := hEa.trans hE2
  have rR := r26x0
  clear r26x0
  generalize sizedL Ra 32 = R at *
  generalize within n 0 256 = x at *
  generalize A26x0 = Ac at *
  generalize c26x0 = cc at *
  generalize g9 = gc at *
  have hc := rightC_of hx.1 hx.2 hRl
  have Hc := Lib.hid hc
  have hga := hBa.lt
  have hgb := hBb.lt
  have fhb90 := hb9.frozen 0
  have fhb91 := hb9.frozen 1
  have xhb90 := hb9.cell (i := 0) rfl
  have xhb91 := hb9.cell (i := 1) rfl
  have hBc := (hb9.set 0 (.int .i64 x)).set 1 (.slice Ac 32 cc)
  have pa := hBa
  clear hBa
  have pb := hBb
  clear hBb
  have qa := rA
  clear rA
  have qb := rB
  clear rB
  have qr := rR
  clear rR
  have pe := hEa
  clear hEa
  have hBa := (pa.far (p := ⟨gc, 0, none⟩) (show ga ≠ gc by omega) (.int .i64 x)).far (p := ⟨gc, 1, none⟩) (show ga ≠ gc by omega) (.slice Ac 32 cc)
  have hBb := (pb.far (p := ⟨gc, 0, none⟩) (show gb ≠ gc by omega) (.int .i64 x)).far (p := ⟨gc, 1, none⟩) (show gb ≠ gc by omega) (.slice Ac 32 cc)
  have rA := (qa.setc hb9 0 (.int .i64 x)).setc (hb9.set 0 (.int .i64 x)) 1 (.slice Ac 32 cc)
  have rB := (qb.setc hb9 0 (.int .i64 x)).setc (hb9.set 0 (.int .i64 x)) 1 (.slice Ac 32 cc)
  have rR := (qr.setc hb9 0 (.int .i64 x)).setc (hb9.set 0 (.int .i64 x)) 1 (.slice Ac 32 cc)
  have hEa := (pe.set (p := ⟨gc, 0, none⟩) (by have := hEa0.size; show w.heap.size ≤ gc; omega) (.int .i64 x)).set (p := ⟨gc, 1, none⟩) (by have := hEa0.size; show w.heap.size ≤ gc; omega) (.slice Ac 32 cc)
  clear hE2 hx hRl hc pa pb qa qb qr pe hga hgb hga0 hgb0
  go_upto_region 3 with (fail)
  clear hEa0 gb9 hb9
  clear fhb90 xhb90 fhb91 xhb91
  replace hBc : Blk _ gc 24 #[.int .i64 x, .slice Ac 32 cc] := hBc
  generalize (W2.setCell ⟨gc, 0, none⟩ (.int .i64 x)).setCell ⟨gc, 1, none⟩ (.slice Ac 32 cc) = w3 at *
  have hEa0 := hEa
  have hBa0 := hBa.lt
  have hBb0 := hBb.lt
  have hBc0 := hBc
  refine par_ext (n := 7) (by kernel_rfl) [.is (.int .i64 (m)), .is (.int .i64 (within m (0 : Int) (256 : Int))), .is (.pointer (some ⟨gb, 1, none⟩)), .is (.slice (Ab) (kb) (cb)), .rk (32) (sizedL Rb 32), .ag [.val (.int .i64 (within m (0 : Int) (256 : Int))), .b8 (32) (sizedL Rb 32)], .bk (w3.heap.size) 24 #[.int .i64 ((0 : Int)), .slice (none) (0) (0)]] rfl ⟨?_, ?_, ?_, ?_, ?_, ?_, ?_, trivial⟩ ?_
  · refine stepE rfl fun sdn sa sw sE sd sk => ?_
    have h3 : sa.eval (.tmp 3) = .int .i64 (m) := sk.old 3 rfl
    exact Runs.move rfl h3 ⟨Ext.refl _, rfl⟩
  · refine stepE rfl fun sdn sa sw sE sd sk => ?_
    have h27 : sa.eval (.tmp 27) = .int .i64 (m) := sk.fact 0 27 rfl (sd 0 rfl)
    refine Runs.call (f := 15) (vs := [.int .i64 (m), .int .i64 ((0 : Int)), .int .i64 ((256 : Int))]) rfl rfl rfl (by simp only [List.map_toArray, List.map_cons, List.map_nil, h27] <;> rfl) (ent15 _ _) ((within_any m (0 : Int) (256 : Int) sw (by omega) (by omega) (by omega) (by omega) (by omega)).mono ?_); rintro e w' ⟨rfl, rfl⟩; exact ⟨_, rfl, Ext.refl _, rfl⟩
  · refine stepE rfl fun sdn sa sw sE sd sk => ?_
    have h5 : sa.eval (.tmp 5) = .pointer (some ⟨gb, 0, none⟩) := sk.old 5 rfl
    refine Runs.of_run (r := .pointer (some ⟨gb, 1, none⟩)) (w' := sw) ?_ ⟨Ext.refl _, rfl⟩
    unfold execOp
    simp only [h5]
    go_simp
  · refine stepE rfl fun sdn sa sw sE sd sk => ?_
    have h29 : sa.eval (.tmp 29) = .pointer (some ⟨gb, 1, none⟩) := sk.fact 2 29 rfl (sd 2 rfl)
    exact Runs.load rfl h29 (run_load1 Try.underlying22 rfl ((hBb.ext sE).cell (i := 1) rfl)) ⟨Ext.refl _, rfl⟩
  · refine stepE rfl fun sdn sa sw sE sd sk => ?_
    have h30 : sa.eval (.tmp 30) = .slice (Ab) (kb) (cb) := sk.fact 3 30 rfl (sd 3 rfl)
    refine Runs.call (f := 16) (vs := [.slice (Ab) (kb) (cb), .int .i64 ((32 : Int))]) rfl rfl rfl (by simp only [List.map_toArray, List.map_cons, List.map_nil, h30] <;> rfl) (ent16 _ _) ((sized_z _ _ _ 32 _ _ rfl sw (rB.ext sE) (by omega)).mono ?_); rintro e w' ⟨rfl, own, hx⟩; exact ⟨_, rfl, hx, _, _, rfl, own.rb⟩
  · refine stepE rfl fun sdn sa sw sE sd sk => ?_
    have h28 : sa.eval (.tmp 28) = .int .i64 (within m (0 : Int) (256 : Int)) := sk.fact 1 28 rfl (sd 1 rfl)
    obtain ⟨A31, c31, h31, r31⟩ := sk.fact 4 31 rfl (sd 4 rfl)
    refine Runs.of_run (r := .agg #[.int .i64 (within m (0 : Int) (256 : Int)), .slice (A31) (32) (c31)]) (w' := sw) ?_ ⟨Ext.refl _, ⟨_, _, r31, rfl⟩⟩
    unfold execOp
    simp only [List.map_toArray, List.map_cons, List.map_nil, h28, h31]
    go_simp
  · refine stepE rfl fun sdn sa sw sE sd sk => ?_
    refine Runs.of_run (r := .pointer (some ⟨sw.heap.size, 0, none⟩)) (w' := sw.alloc (.cells #[.int .i64 ((0 : Int)), .slice (none) (0) (0)] 24)) ?_ ⟨Ext.new _ _, _, rfl, Blk.new _ _ _, sE.size⟩
    unfold execOp
    go_simp
  intro vals W3 hE3 hv3
  have e0 : vals 0 = .int .i64 (m) := hv3 0 (by omega) 27 rfl
  have e1 : vals 1 = .int .i64 (within m (0 : Int) (256 : Int)) := hv3 1 (by omega) 28 rfl
  have e2 : vals 2 = .pointer (some ⟨gb, 1, none⟩) := hv3 2 (by omega) 29 rfl
  have e3 : vals 3 = .slice (Ab) (kb) (cb) := hv3 3 (by omega) 30 rfl
  obtain ⟨A31, c31, e4, r31⟩ := hv3 4 (by omega) 31 rfl
  obtain ⟨A32x0, c32x0, r32x0, e5⟩ := hv3 5 (by omega) 32 rfl
  replace e5 : vals 5 = .agg #[.int .i64 (within m (0 : Int) (256 : Int)), .slice (A32x0) (32) (c32x0)] := e5
  obtain ⟨g10, e6, hb10, gb10⟩ := hv3 6 (by omega) 10 rfl
  simp only [putAll, Act.put, List.take_succ_cons, List.take_zero, List.drop_succ_cons, List.drop_zero, List.drop_nil, List.take_nil, Nat.reduceAdd, List.setIfInBounds_toArray, List.set_cons_succ, List.set_cons_zero, e0, e1, e2, e3, e4, e5, e6]
  clear hv3 e0 e1 e2 e3 e4 e5 e6
  have hx := within_in m 0 256 (by omega)
  have hRl : (sizedL Rb 32).length = 32 := sizedL_length _ _
  replace hBa := hBa.ext hE3
  replace hBb := hBb.ext hE3
  replace rA := rA.ext hE3
  replace rB := rB.ext hE3
  replace rR := rR.ext hE3
  replace hBc := hBc.ext hE3
  replace hEa := hEa.trans hE3
  have rT := r32x0
  clear r32x0
  generalize sizedL Rb 32 = T at *
  generalize within m 0 256 = y at *
  generalize A32x0 = Ad at *
  generalize c32x0 = cd at *
  generalize g10 = gd at *
  have hd := rightC_of hx.1 hx.2 hRl
  have Hd := Lib.hid hd
  have hga := hBa.lt
  have hgb := hBb.lt
  have hgc := hBc.lt
  have hgc0 := hBc0.lt
  have fhb100 := hb10.frozen 0
  have fhb101 := hb10.frozen 1
  have xhb100 := hb10.cell (i := 0) rfl
  have xhb101 := hb10.cell (i := 1) rfl
  have hBd := (hb10.set 0 (.int .i64 y)).set 1 (.slice Ad 32 cd)
  have pa := hBa
  clear hBa
  have pb := hBb
  clear hBb
  have pc := hBc
  clear hBc
  have qa := rA
  clear rA
  have qb := rB
  clear rB
  have qr := rR
  clear rR
  have qt := rT
  clear rT
  have pe := hEa
  clear hEa
  have hBa := (pa.far (p := ⟨gd, 0, none⟩) (show ga ≠ gd by omega) (.int .i64 y)).far (p := ⟨gd, 1, none⟩) (show ga ≠ gd by omega) (.slice Ad 32 cd)
  have hBb := (pb.far (p := ⟨gd, 0, none⟩) (show gb ≠ gd by omega) (.int .i64 y)).far (p := ⟨gd, 1, none⟩) (show gb ≠ gd by omega) (.slice Ad 32 cd)
  have hBc := (pc.far (p := ⟨gd, 0, none⟩) (show gc ≠ gd by omega) (.int .i64 y)).far (p := ⟨gd, 1, none⟩) (show gc ≠ gd by omega) (.slice Ad 32 cd)
  have rA := (qa.setc hb10 0 (.int .i64 y)).setc (hb10.set 0 (.int .i64 y)) 1 (.slice Ad 32 cd)
  have rB := (qb.setc hb10 0 (.int .i64 y)).setc (hb10.set 0 (.int .i64 y)) 1 (.slice Ad 32 cd)
  have rR := (qr.setc hb10 0 (.int .i64 y)).setc (hb10.set 0 (.int .i64 y)) 1 (.slice Ad 32 cd)
  have rT := (qt.setc hb10 0 (.int .i64 y)).setc (hb10.set 0 (.int .i64 y)) 1 (.slice Ad 32 cd)
  have hEa := (pe.set (p := ⟨gd, 0, none⟩) (by have := hEa0.size; show w.heap.size ≤ gd; omega) (.int .i64 y)).set (p := ⟨gd, 1, none⟩) (by have := hEa0.size; show w.heap.size ≤ gd; omega) (.slice Ad 32 cd)
  clear hE3 hx hRl hd pa pb pc qa qb qr qt pe hga hgb hgc hBc0 hgc0 hBa0 hBb0
  go_upto_region 4 with (fail)
  clear hEa0 gb10 hb10
  clear fhb100 xhb100 fhb101 xhb101
  replace hBd : Blk _ gd 24 #[.int .i64 y, .slice Ad 32 cd] := hBd
  generalize (W3.setCell ⟨gd, 0, none⟩ (.int .i64 y)).setCell ⟨gd, 1, none⟩ (.slice Ad 32 cd) = w4 at *
  by_cases hs : x = y ∧ R = T
  · have hsm : (decide (x = y) && decide (R = T)) = true := by simp [hs]
    have hbb : bodyC checkL x R = bodyC checkL y T := by rw [hs.1, hs.2]
    have Hsm := Lib.hid hsm
    have Hbb := Lib.hid hbb
    clear hsm hbb hs
    refine par_ext (n := 17) (by kernel_rfl) [.is (.agg #[.int .i64 (x), .slice (Ac) (32) (cc)]), .rk (52) (bodyC checkL x R), .is (.string (str (bodyC checkL x R))), .is (.agg #[.int .i64 (y), .slice (Ad) (32) (cd)]), .rk (52) (bodyC checkL y T), .is (.string (str (bodyC checkL y T))), .is (.bool (true)), .is (.agg #[.int .i64 (x), .slice (Ac) (32) (cc)]), .is (.agg #[.int .i64 (y), .slice (Ad) (32) (cd)]), .is (.bool (true)), .is (.bool (false)), .is (.bool (false)), .is (.agg #[.int .i64 (x), .slice (Ac) (32) (cc)]), .rk (52) (bodyC checkL x R), .is (.int .i64 ((52 : Nat))), .is (.bool (false)), .is (.bool (false))] rfl ⟨?_, ?_, ?_, ?_, ?_, ?_, ?_, ?_, ?_, ?_, ?_, ?_, ?_, ?_, ?_, ?_, ?_, trivial⟩ ?_
    · refine stepE rfl fun sdn sa sw sE sd sk => ?_
      have h9 : sa.eval (.tmp 9) = .pointer (some ⟨gc, 0, none⟩) := sk.old 9 rfl
      exact Runs.load rfl h9 (load_part (hBc.ext sE) 0 (vs := [.int .i64 (x), .slice (Ac) (32) (cc)]) rfl Try.underlying24 rfl (by kernel_rfl)) ⟨Ext.refl _, rfl⟩
    · refine stepE rfl fun sdn sa sw sE sd sk => ?_
      have h33 : sa.eval (.tmp 33) = .agg #[.int .i64 (x), .slice (Ac) (32) (cc)] := sk.fact 0 33 rfl (sd 0 rfl)
      refine Runs.call (f := 17) (vs := [.agg #[.int .i64 (x), .slice (Ac) (32) (cc)]]) rfl rfl rfl (by simp only [List.map_toArray, List.map_cons, List.map_nil, h33] <;> rfl) (ent17 _ _) ((cbody_52 _ _ _ _ _ sw (rR.ext sE) (Hc.out)).mono ?_); rintro e w' ⟨A', c', rfl, own, hx⟩; exact ⟨_, rfl, hx, A', c', rfl, own⟩
    · refine stepE rfl fun sdn sa sw sE sd sk => ?_
      obtain ⟨A34, c34, h34, r34⟩ := sk.fact 1 34 rfl (sd 1 rfl)
      exact Runs.conv rfl h34 (run_str r34) ⟨Ext.refl _, rfl⟩
    · refine stepE rfl fun sdn sa sw sE sd sk => ?_
      have h10 : sa.eval (.tmp 10) = .pointer (some ⟨gd, 0, none⟩) := sk.old 10 rfl
      exact Runs.load rfl h10 (load_part (hBd.ext sE) 0 (vs := [.int .i64 (y), .slice (Ad) (32) (cd)]) rfl Try.underlying24 rfl (by kernel_rfl)) ⟨Ext.refl _, rfl⟩
    · refine stepE rfl fun sdn sa sw sE sd sk => ?_
      have h36 : sa.eval (.tmp 36) = .agg #[.int .i64 (y), .slice (Ad) (32) (cd)] := sk.fact 3 36 rfl (sd 3 rfl)
      refine Runs.call (f := 17) (vs := [.agg #[.int .i64 (y), .slice (Ad) (32) (cd)]]) rfl rfl rfl (by simp only [List.map_toArray, List.map_cons, List.map_nil, h36] <;> rfl) (ent17 _ _) ((cbody_52 _ _ _ _ _ sw (rT.ext sE) (Hd.out)).mono ?_); rintro e w' ⟨A', c', rfl, own, hx⟩; exact ⟨_, rfl, hx, A', c', rfl, own⟩
    · refine stepE rfl fun sdn sa sw sE sd sk => ?_
      obtain ⟨A37, c37, h37, r37⟩ := sk.fact 4 37 rfl (sd 4 rfl)
      exact Runs.conv rfl h37 (run_str r37) ⟨Ext.refl _, rfl⟩
    · refine stepE rfl fun sdn sa sw sE sd sk => ?_
      have h35 : sa.eval (.tmp 35) = .string (str (bodyC checkL x R)) := sk.fact 2 35 rfl (sd 2 rfl)
      have h38 : sa.eval (.tmp 38) = .string (str (bodyC checkL y T)) := sk.fact 5 38 rfl (sd 5 rfl)
      exact Runs.bin rfl h35 h38 (by rfl) (bin_eqs _ _ _) ⟨Ext.refl _, congrArg Value.bool (by simp [Hbb.out])⟩
    · refine stepE rfl fun sdn sa sw sE sd sk => ?_
      have h9 : sa.eval (.tmp 9) = .pointer (some ⟨gc, 0, none⟩) := sk.old 9 rfl
      exact Runs.load rfl h9 (load_part (hBc.ext sE) 0 (vs := [.int .i64 (x), .slice (Ac) (32) (cc)]) rfl Try.underlying24 rfl (by kernel_rfl)) ⟨Ext.refl _, rfl⟩
    · refine stepE rfl fun sdn sa sw sE sd sk => ?_
      have h10 : sa.eval (.tmp 10) = .pointer (some ⟨gd, 0, none⟩) := sk.old 10 rfl
      exact Runs.load rfl h10 (load_part (hBd.ext sE) 0 (vs := [.int .i64 (y), .slice (Ad) (32) (cd)]) rfl Try.underlying24 rfl (by kernel_rfl)) ⟨Ext.refl _, rfl⟩
    · refine stepE rfl fun sdn sa sw sE sd sk => ?_
      have h40 : sa.eval (.tmp 40) = .agg #[.int .i64 (x), .slice (Ac) (32) (cc)] := sk.fact 7 40 rfl (sd 7 rfl)
      have h41 : sa.eval (.tmp 41) = .agg #[.int .i64 (y), .slice (Ad) (32) (cd)] := sk.fact 8 41 rfl (sd 8 rfl)
      refine Runs.call (f := 18) (vs := [.agg #[.int .i64 (x), .slice (Ac) (32) (cc)], .agg #[.int .i64 (y), .slice (Ad) (32) (cd)]]) rfl rfl rfl (by simp only [List.map_toArray, List.map_cons, List.map_nil, h40, h41] <;> rfl) (ent18 _ _) ((csame_any _ _ _ _ _ _ _ _ _ _ sw (rR.ext sE) (rT.ext sE)).mono ?_); rintro e w' ⟨rfl, hx⟩; exact ⟨_, rfl, hx, congrArg Value.bool (Hsm.out)⟩
    · refine stepE rfl fun sdn sa sw sE sd sk => ?_
      have h39 : sa.eval (.tmp 39) = .bool (true) := sk.fact 6 39 rfl (sd 6 rfl)
      have h42 : sa.eval (.tmp 42) = .bool (true) := sk.fact 9 42 rfl (sd 9 rfl)
      exact Runs.bin rfl h39 h42 (by rfl) (bin_neb _ _) ⟨Ext.refl _, congrArg Value.bool (by decide)⟩
    · refine stepE rfl fun sdn sa sw sE sd sk => ?_
      have h43 : sa.eval (.tmp 43) = .bool (false) := sk.fact 10 43 rfl (sd 10 rfl)
      exact Runs.move rfl h43 ⟨Ext.refl _, rfl⟩
    · refine stepY (j := 11) (d := 44) (b := false) rfl rfl rfl (fun v w h => h) fun sdn sa sw sE sd sk => ?_
      have h9 : sa.eval (.tmp 9) = .pointer (some ⟨gc, 0, none⟩) := sk.old 9 rfl
      exact Runs.load rfl h9 (load_part (hBc.ext sE) 0 (vs := [.int .i64 (x), .slice (Ac) (32) (cc)]) rfl Try.underlying24 rfl (by kernel_rfl)) ⟨Ext.refl _, rfl⟩
    · refine stepY (j := 11) (d := 44) (b := false) rfl rfl rfl (fun v w h => h) fun sdn sa sw sE sd sk => ?_
      have h45 : sa.eval (.tmp 45) = .agg #[.int .i64 (x), .slice (Ac) (32) (cc)] := sk.fact 12 45 rfl (sd 12 rfl)
      refine Runs.call (f := 17) (vs := [.agg #[.int .i64 (x), .slice (Ac) (32) (cc)]]) rfl rfl rfl (by simp only [List.map_toArray, List.map_cons, List.map_nil, h45] <;> rfl) (ent17 _ _) ((cbody_52 _ _ _ _ _ sw (rR.ext sE) (Hc.out)).mono ?_); rintro e w' ⟨A', c', rfl, own, hx⟩; exact ⟨_, rfl, hx, A', c', rfl, own⟩
    · refine stepY (j := 11) (d := 44) (b := false) rfl rfl rfl (fun v w h => h) fun sdn sa sw sE sd sk => ?_
      obtain ⟨A46, c46, h46, r46⟩ := sk.fact 13 46 rfl (sd 13 rfl)
      exact Runs.len Try.underlying22 rfl h46 ⟨Ext.refl _, rfl⟩
    · refine stepY (j := 11) (d := 44) (b := false) rfl rfl rfl (fun v w h => h) fun sdn sa sw sE sd sk => ?_
      have h47 : sa.eval (.tmp 47) = .int .i64 ((52 : Nat)) := sk.fact 14 47 rfl (sd 14 rfl)
      exact Runs.bin rfl h47 rfl (by rfl) (bin_neq _ _ _ _) ⟨Ext.refl _, congrArg Value.bool (by decide)⟩
    · refine stepE rfl fun sdn sa sw sE sd sk => ?_
      have h44 : sa.eval (.tmp 44) = .bool (false) := sk.fact 11 44 rfl (sd 11 rfl)
      have h48 : sa.eval (.tmp 48) = .bool (false) := sk.fact 15 48 rfl (sd 15 rfl)
      exact Runs.pick rfl h44 ⟨Ext.refl _, by first | exact h48 | simpa using h48⟩
    intro vals W4 hE4 hv4
    have e0 : vals 0 = .agg #[.int .i64 (x), .slice (Ac) (32) (cc)] := hv4 0 (by omega) 33 rfl
    obtain ⟨A34, c34, e1, r34⟩ := hv4 1 (by omega) 34 rfl
    have e2 : vals 2 = .string (str (bodyC checkL x R)) := hv4 2 (by omega) 35 rfl
    have e3 : vals 3 = .agg #[.int .i64 (y), .slice (Ad) (32) (cd)] := hv4 3 (by omega) 36 rfl
    obtain ⟨A37, c37, e4, r37⟩ := hv4 4 (by omega) 37 rfl
    have e5 : vals 5 = .string (str (bodyC checkL y T)) := hv4 5 (by omega) 38 rfl
    have e6 : vals 6 = .bool (true) := hv4 6 (by omega) 39 rfl
    have e7 : vals 7 = .agg #[.int .i64 (x), .slice (Ac) (32) (cc)] := hv4 7 (by omega) 40 rfl
    have e8 : vals 8 = .agg #[.int .i64 (y), .slice (Ad) (32) (cd)] := hv4 8 (by omega) 41 rfl
    have e9 : vals 9 = .bool (true) := hv4 9 (by omega) 42 rfl
    have e10 : vals 10 = .bool (false) := hv4 10 (by omega) 43 rfl
    have e11 : vals 11 = .bool (false) := hv4 11 (by omega) 44 rfl
    have e12 : vals 12 = .agg #[.int .i64 (x), .slice (Ac) (32) (cc)] := hv4 12 (by omega) 45 rfl
    obtain ⟨A46, c46, e13, r46⟩ := hv4 13 (by omega) 46 rfl
    have e14 : vals 14 = .int .i64 ((52 : Nat)) := hv4 14 (by omega) 47 rfl
    have e15 : vals 15 = .bool (false) := hv4 15 (by omega) 48 rfl
    have e16 : vals 16 = .bool (false) := hv4 16 (by omega) 49 rfl
    simp only [putAll, Act.put, List.take_succ_cons, List.take_zero, List.drop_succ_cons, List.drop_zero, List.drop_nil, List.take_nil, Nat.reduceAdd, List.setIfInBounds_toArray, List.set_cons_succ, List.set_cons_zero, e0, e1, e2, e3, e4, e5, e6, e7, e8, e9, e10, e11, e12, e13, e14, e15, e16]
    clear hv4 e0 e1 e2 e3 e4 e5 e6 e7 e8 e9 e10 e11 e12 e13 e14 e15 e16
    replace hBa := hBa.ext hE4
    replace hBb := hBb.ext hE4
    replace rA := rA.ext hE4
    replace rB := rB.ext hE4
    replace rR := rR.ext hE4
    replace hBc := hBc.ext hE4
    replace hEa := hEa.trans hE4
    have hEn := Ext.new W4 (.cells #[.int .i64 xa, .slice Aa ka ca, .int .i64 xb, .slice Ab kb cb] 24)
    have hBl := Blk.new W4 24 #[.int .i64 xa, .slice Aa ka ca, .int .i64 xb, .slice Ab kb cb]
    have y0 := hBa.cell (i := 0) (v := .int .i64 xa) rfl
    have y1 := hBa.cell (i := 1) (v := .slice Aa ka ca) rfl
    have z0 := hBb.cell (i := 0) (v := .int .i64 xb) rfl
    have z1 := hBb.cell (i := 1) (v := .slice Ab kb cb) rfl
    replace rA := rA.ext hEn
    replace rB := rB.ext hEn
    replace rR := rR.ext hEn
    replace hBc := hBc.ext hEn
    replace hEa := hEa.trans hEn
    clear hEn hE4 hBa hBb rT hBd Hd Hsm Hbb
    go_wp2_with fail
    generalize W4.alloc (.cells #[.int .i64 xa, .slice Aa ka ca, .int .i64 xb, .slice Ab kb cb] 24) = w5 at *
    generalize W4.heap.size = gl at *
    go_loopw [54] (fun i wr => BodyI w5 i wr) (fun i _ => 2 - (intOf i).toNat)
    case atStart => exact ⟨0, by omega, rfl, Ext.refl _⟩
    case round =>
      clear y0 y1 z0 z1
      obtain ⟨k, hk, rfl, hEr⟩ := hrel
      replace hBl := hBl.ext hEr
      replace rA := rA.ext hEr
      replace rB := rB.ext hEr
      replace rR := rR.ext hEr
      replace hBc := hBc.ext hEr
      replace hEa := hEa.trans hEr
      have hcs : k = 0 ∨ k = 1 ∨ k = 2 := by omega
      rcases hcs with rfl | rfl | rfl
      · have y0 := hBl.cell (i := 0) (v := .int .i64 xa) rfl
        have y1 := hBl.cell (i := 1) (v := .slice Aa ka ca) rfl
        have hEn := Ext.new wr (.cells #[.int .i64 xa, .slice Aa ka ca] 24)
        have hBe := Blk.new wr 24 #[.int .i64 xa, .slice Aa ka ca]
        replace rA := rA.ext hEn
        replace hEr := hEr.trans hEn
        clear hEn
        go_upto_region 9 with (fail)
        generalize wr.alloc (.cells #[.int .i64 xa, .slice Aa ka ca] 24) = w6 at *
        generalize wr.heap.size = ge at *
        cases hq : rightC xa Ra with
        | true =>
          refine par_ext (n := 7) (by kernel_rfl) [.is (.agg #[.int .i64 (xa), .slice (Aa) (ka) (ca)]), .is (.bool (true)), .is (.agg #[.int .i64 (xa), .slice (Aa) (ka) (ca)]), .rk (52) (bodyC checkL xa Ra), .is (.int .i64 ((52 : Nat))), .is (.bool (true)), .is (.bool (false))] rfl ⟨?_, ?_, ?_, ?_, ?_, ?_, ?_, trivial⟩ ?_
          · refine stepE rfl fun sdn sa sw sE sd sk => ?_
            have h12 : sa.eval (.tmp 12) = .pointer (some ⟨ge, 0, none⟩) := sk.old 12 rfl
            exact Runs.load rfl h12 (load_part (hBe.ext sE) 0 (vs := [.int .i64 (xa), .slice (Aa) (ka) (ca)]) rfl Try.underlying24 rfl (by kernel_rfl)) ⟨Ext.refl _, rfl⟩
          · refine stepE rfl fun sdn sa sw sE sd sk => ?_
            have h58 : sa.eval (.tmp 58) = .agg #[.int .i64 (xa), .slice (Aa) (ka) (ca)] := sk.fact 0 58 rfl (sd 0 rfl)
            refine Runs.call (f := 19) (vs := [.agg #[.int .i64 (xa), .slice (Aa) (ka) (ca)]]) rfl rfl rfl (by simp only [List.map_toArray, List.map_cons, List.map_nil, h58] <;> rfl) (ent19 _ _) ((cright_any _ _ _ _ _ sw (rA.ext sE)).mono ?_); rintro e w' ⟨rfl, hx⟩; exact ⟨_, rfl, hx, congrArg Value.bool (hq)⟩
          · refine stepE rfl fun sdn sa sw sE sd sk => ?_
            have h12 : sa.eval (.tmp 12) = .pointer (some ⟨ge, 0, none⟩) := sk.old 12 rfl
            exact Runs.load rfl h12 (load_part (hBe.ext sE) 0 (vs := [.int .i64 (xa), .slice (Aa) (ka) (ca)]) rfl Try.underlying24 rfl (by kernel_rfl)) ⟨Ext.refl _, rfl⟩
          · refine stepE rfl fun sdn sa sw sE sd sk => ?_
            have h60 : sa.eval (.tmp 60) = .agg #[.int .i64 (xa), .slice (Aa) (ka) (ca)] := sk.fact 2 60 rfl (sd 2 rfl)
            refine Runs.call (f := 17) (vs := [.agg #[.int .i64 (xa), .slice (Aa) (ka) (ca)]]) rfl rfl rfl (by simp only [List.map_toArray, List.map_cons, List.map_nil, h60] <;> rfl) (ent17 _ _) ((cbody_52 _ _ _ _ _ sw (rA.ext sE) (hq)).mono ?_); rintro e w' ⟨A', c', rfl, own, hx⟩; exact ⟨_, rfl, hx, A', c', rfl, own⟩
          · refine stepE rfl fun sdn sa sw sE sd sk => ?_
            obtain ⟨A61, c61, h61, r61⟩ := sk.fact 3 61 rfl (sd 3 rfl)
            exact Runs.len Try.underlying22 rfl h61 ⟨Ext.refl _, rfl⟩
          · refine stepE rfl fun sdn sa sw sE sd sk => ?_
            have h62 : sa.eval (.tmp 62) = .int .i64 ((52 : Nat)) := sk.fact 4 62 rfl (sd 4 rfl)
            exact Runs.bin rfl h62 rfl (by rfl) (bin_gtr _ _ _ _) ⟨Ext.refl _, congrArg Value.bool (by decide)⟩
          · refine stepE rfl fun sdn sa sw sE sd sk => ?_
            have h59 : sa.eval (.tmp 59) = .bool (true) := sk.fact 1 59 rfl (sd 1 rfl)
            have h63 : sa.eval (.tmp 63) = .bool (true) := sk.fact 5 63 rfl (sd 5 rfl)
            exact Runs.bin rfl h59 h63 (by rfl) (bin_neb _ _) ⟨Ext.refl _, congrArg Value.bool (by decide)⟩
          intro vals W9 hE9 hv9
          have e0 : vals 0 = .agg #[.int .i64 (xa), .slice (Aa) (ka) (ca)] := hv9 0 (by omega) 58 rfl
          have e1 : vals 1 = .bool (true) := hv9 1 (by omega) 59 rfl
          have e2 : vals 2 = .agg #[.int .i64 (xa), .slice (Aa) (ka) (ca)] := hv9 2 (by omega) 60 rfl
          obtain ⟨A61, c61, e3, r61⟩ := hv9 3 (by omega) 61 rfl
          have e4 : vals 4 = .int .i64 ((52 : Nat)) := hv9 4 (by omega) 62 rfl
          have e5 : vals 5 = .bool (true) := hv9 5 (by omega) 63 rfl
          have e6 : vals 6 = .bool (false) := hv9 6 (by omega) 64 rfl
          simp only [putAll, Act.put, List.take_succ_cons, List.take_zero, List.drop_succ_cons, List.drop_zero, List.drop_nil, List.take_nil, Nat.reduceAdd, List.setIfInBounds_toArray, List.set_cons_succ, List.set_cons_zero, e0, e1, e2, e3, e4, e5, e6]
          clear hv9 e0 e1 e2 e3 e4 e5 e6
          go_wp2_with fail
          go_roundw
          case rel => exact ⟨1, by omega, by go_num, hEr.trans hE9⟩
          case measure => simp [intOf]
        | false =>
          refine par_ext (n := 7) (by kernel_rfl) [.is (.agg #[.int .i64 (xa), .slice (Aa) (ka) (ca)]), .is (.bool (false)), .is (.agg #[.int .i64 (xa), .slice (Aa) (ka) (ca)]), .rb (bodyC checkL xa Ra), .is (.int .i64 ((0 : Int))), .is (.bool (false)), .is (.bool (false))] rfl ⟨?_, ?_, ?_, ?_, ?_, ?_, ?_, trivial⟩ ?_
          · refine stepE rfl fun sdn sa sw sE sd sk => ?_
            have h12 : sa.eval (.tmp 12) = .pointer (some ⟨ge, 0, none⟩) := sk.old 12 rfl
            exact Runs.load rfl h12 (load_part (hBe.ext sE) 0 (vs := [.int .i64 (xa), .slice (Aa) (ka) (ca)]) rfl Try.underlying24 rfl (by kernel_rfl)) ⟨Ext.refl _, rfl⟩
          · refine stepE rfl fun sdn sa sw sE sd sk => ?_
            have h58 : sa.eval (.tmp 58) = .agg #[.int .i64 (xa), .slice (Aa) (ka) (ca)] := sk.fact 0 58 rfl (sd 0 rfl)
            refine Runs.call (f := 19) (vs := [.agg #[.int .i64 (xa), .slice (Aa) (ka) (ca)]]) rfl rfl rfl (by simp only [List.map_toArray, List.map_cons, List.map_nil, h58] <;> rfl) (ent19 _ _) ((cright_any _ _ _ _ _ sw (rA.ext sE)).mono ?_); rintro e w' ⟨rfl, hx⟩; exact ⟨_, rfl, hx, congrArg Value.bool (hq)⟩
          · refine stepE rfl fun sdn sa sw sE sd sk => ?_
            have h12 : sa.eval (.tmp 12) = .pointer (some ⟨ge, 0, none⟩) := sk.old 12 rfl
            exact Runs.load rfl h12 (load_part (hBe.ext sE) 0 (vs := [.int .i64 (xa), .slice (Aa) (ka) (ca)]) rfl Try.underlying24 rfl (by kernel_rfl)) ⟨Ext.refl _, rfl⟩
          · refine stepE rfl fun sdn sa sw sE sd sk => ?_
            have h60 : sa.eval (.tmp 60) = .agg #[.int .i64 (xa), .slice (Aa) (ka) (ca)] := sk.fact 2 60 rfl (sd 2 rfl)
            refine Runs.call (f := 17) (vs := [.agg #[.int .i64 (xa), .slice (Aa) (ka) (ca)]]) rfl rfl rfl (by simp only [List.map_toArray, List.map_cons, List.map_nil, h60] <;> rfl) (ent17 _ _) ((cbody_rb _ _ _ _ _ sw (rA.ext sE)).mono ?_); rintro e w' ⟨A', n', c', rfl, own, hx⟩; exact ⟨_, rfl, hx, A', n', c', rfl, own⟩
          · refine stepE rfl fun sdn sa sw sE sd sk => ?_
            obtain ⟨A61, n61, c61, h61, r61⟩ := sk.fact 3 61 rfl (sd 3 rfl)
            obtain rfl : n61 = 0 := by have h9 := r61.len; rw [bodyC_no hq] at h9; exact h9.symm
            exact Runs.len Try.underlying22 rfl h61 ⟨Ext.refl _, rfl⟩
          · refine stepE rfl fun sdn sa sw sE sd sk => ?_
            have h62 : sa.eval (.tmp 62) = .int .i64 ((0 : Int)) := sk.fact 4 62 rfl (sd 4 rfl)
            exact Runs.bin rfl h62 rfl (by rfl) (bin_gtr _ _ _ _) ⟨Ext.refl _, congrArg Value.bool (by decide)⟩
          · refine stepE rfl fun sdn sa sw sE sd sk => ?_
            have h59 : sa.eval (.tmp 59) = .bool (false) := sk.fact 1 59 rfl (sd 1 rfl)
            have h63 : sa.eval (.tmp 63) = .bool (false) := sk.fact 5 63 rfl (sd 5 rfl)
            exact Runs.bin rfl h59 h63 (by rfl) (bin_neb _ _) ⟨Ext.refl _, congrArg Value.bool (by decide)⟩
          intro vals W9 hE9 hv9
          have e0 : vals 0 = .agg #[.int .i64 (xa), .slice (Aa) (ka) (ca)] := hv9 0 (by omega) 58 rfl
          have e1 : vals 1 = .bool (false) := hv9 1 (by omega) 59 rfl
          have e2 : vals 2 = .agg #[.int .i64 (xa), .slice (Aa) (ka) (ca)] := hv9 2 (by omega) 60 rfl
          obtain ⟨A61, n61, c61, e3, r61⟩ := hv9 3 (by omega) 61 rfl
          have e4 : vals 4 = .int .i64 ((0 : Int)) := hv9 4 (by omega) 62 rfl
          have e5 : vals 5 = .bool (false) := hv9 5 (by omega) 63 rfl
          have e6 : vals 6 = .bool (false) := hv9 6 (by omega) 64 rfl
          simp only [putAll, Act.put, List.take_succ_cons, List.take_zero, List.drop_succ_cons, List.drop_zero, List.drop_nil, List.take_nil, Nat.reduceAdd, List.setIfInBounds_toArray, List.set_cons_succ, List.set_cons_zero, e0, e1, e2, e3, e4, e5, e6]
          clear hv9 e0 e1 e2 e3 e4 e5 e6
          go_wp2_with fail
          go_roundw
          case rel => exact ⟨1, by omega, by go_num, hEr.trans hE9⟩
          case measure => simp [intOf]
      · have y0 := hBl.cell (i := 2) (v := .int .i64 xb) rfl
        have y1 := hBl.cell (i := 3) (v := .slice Ab kb cb) rfl
        have hEn := Ext.new wr (.cells #[.int .i64 xb, .slice Ab kb cb] 24)
        have hBe := Blk.new wr 24 #[.int .i64 xb, .slice Ab kb cb]
        replace rB := rB.ext hEn
        replace hEr := hEr.trans hEn
        clear hEn
        go_upto_region 9 with (fail)
        generalize wr.alloc (.cells #[.int .i64 xb, .slice Ab kb cb] 24) = w6 at *
        generalize wr.heap.size = ge at *
        cases hq : rightC xb Rb with
        | true =>
          refine par_ext (n := 7) (by kernel_rfl) [.is (.agg #[.int .i64 (xb), .slice (Ab) (kb) (cb)]), .is (.bool (true)), .is (.agg #[.int .i64 (xb), .slice (Ab) (kb) (cb)]), .rk (52) (bodyC checkL xb Rb), .is (.int .i64 ((52 : Nat))), .is (.bool (true)), .is (.bool (false))] rfl ⟨?_, ?_, ?_, ?_, ?_, ?_, ?_, trivial⟩ ?_
          · refine stepE rfl fun sdn sa sw sE sd sk => ?_
            have h12 : sa.eval (.tmp 12) = .pointer (some ⟨ge, 0, none⟩) := sk.old 12 rfl
            exact Runs.load rfl h12 (load_part (hBe.ext sE) 0 (vs := [.int .i64 (xb), .slice (Ab) (kb) (cb)]) rfl Try.underlying24 rfl (by kernel_rfl)) ⟨Ext.refl _, rfl⟩
          · refine stepE rfl fun sdn sa sw sE sd sk => ?_
            have h58 : sa.eval (.tmp 58) = .agg #[.int .i64 (xb), .slice (Ab) (kb) (cb)] := sk.fact 0 58 rfl (sd 0 rfl)
            refine Runs.call (f := 19) (vs := [.agg #[.int .i64 (xb), .slice (Ab) (kb) (cb)]]) rfl rfl rfl (by simp only [List.map_toArray, List.map_cons, List.map_nil, h58] <;> rfl) (ent19 _ _) ((cright_any _ _ _ _ _ sw (rB.ext sE)).mono ?_); rintro e w' ⟨rfl, hx⟩; exact ⟨_, rfl, hx, congrArg Value.bool (hq)⟩
          · refine stepE rfl fun sdn sa sw sE sd sk => ?_
            have h12 : sa.eval (.tmp 12) = .pointer (some ⟨ge, 0, none⟩) := sk.old 12 rfl
            exact Runs.load rfl h12 (load_part (hBe.ext sE) 0 (vs := [.int .i64 (xb), .slice (Ab) (kb) (cb)]) rfl Try.underlying24 rfl (by kernel_rfl)) ⟨Ext.refl _, rfl⟩
          · refine stepE rfl fun sdn sa sw sE sd sk => ?_
            have h60 : sa.eval (.tmp 60) = .agg #[.int .i64 (xb), .slice (Ab) (kb) (cb)] := sk.fact 2 60 rfl (sd 2 rfl)
            refine Runs.call (f := 17) (vs := [.agg #[.int .i64 (xb), .slice (Ab) (kb) (cb)]]) rfl rfl rfl (by simp only [List.map_toArray, List.map_cons, List.map_nil, h60] <;> rfl) (ent17 _ _) ((cbody_52 _ _ _ _ _ sw (rB.ext sE) (hq)).mono ?_); rintro e w' ⟨A', c', rfl, own, hx⟩; exact ⟨_, rfl, hx, A', c', rfl, own⟩
          · refine stepE rfl fun sdn sa sw sE sd sk => ?_
            obtain ⟨A61, c61, h61, r61⟩ := sk.fact 3 61 rfl (sd 3 rfl)
            exact Runs.len Try.underlying22 rfl h61 ⟨Ext.refl _, rfl⟩
          · refine stepE rfl fun sdn sa sw sE sd sk => ?_
            have h62 : sa.eval (.tmp 62) = .int .i64 ((52 : Nat)) := sk.fact 4 62 rfl (sd 4 rfl)
            exact Runs.bin rfl h62 rfl (by rfl) (bin_gtr _ _ _ _) ⟨Ext.refl _, congrArg Value.bool (by decide)⟩
          · refine stepE rfl fun sdn sa sw sE sd sk => ?_
            have h59 : sa.eval (.tmp 59) = .bool (true) := sk.fact 1 59 rfl (sd 1 rfl)
            have h63 : sa.eval (.tmp 63) = .bool (true) := sk.fact 5 63 rfl (sd 5 rfl)
            exact Runs.bin rfl h59 h63 (by rfl) (bin_neb _ _) ⟨Ext.refl _, congrArg Value.bool (by decide)⟩
          intro vals W9 hE9 hv9
          have e0 : vals 0 = .agg #[.int .i64 (xb), .slice (Ab) (kb) (cb)] := hv9 0 (by omega) 58 rfl
          have e1 : vals 1 = .bool (true) := hv9 1 (by omega) 59 rfl
          have e2 : vals 2 = .agg #[.int .i64 (xb), .slice (Ab) (kb) (cb)] := hv9 2 (by omega) 60 rfl
          obtain ⟨A61, c61, e3, r61⟩ := hv9 3 (by omega) 61 rfl
          have e4 : vals 4 = .int .i64 ((52 : Nat)) := hv9 4 (by omega) 62 rfl
          have e5 : vals 5 = .bool (true) := hv9 5 (by omega) 63 rfl
          have e6 : vals 6 = .bool (false) := hv9 6 (by omega) 64 rfl
          simp only [putAll, Act.put, List.take_succ_cons, List.take_zero, List.drop_succ_cons, List.drop_zero, List.drop_nil, List.take_nil, Nat.reduceAdd, List.setIfInBounds_toArray, List.set_cons_succ, List.set_cons_zero, e0, e1, e2, e3, e4, e5, e6]
          clear hv9 e0 e1 e2 e3 e4 e5 e6
          go_wp2_with fail
          go_roundw
          case rel => exact ⟨2, by omega, by go_num, hEr.trans hE9⟩
          case measure => simp [intOf]
        | false =>
          refine par_ext (n := 7) (by kernel_rfl) [.is (.agg #[.int .i64 (xb), .slice (Ab) (kb) (cb)]), .is (.bool (false)), .is (.agg #[.int .i64 (xb), .slice (Ab) (kb) (cb)]), .rb (bodyC checkL xb Rb), .is (.int .i64 ((0 : Int))), .is (.bool (false)), .is (.bool (false))] rfl ⟨?_, ?_, ?_, ?_, ?_, ?_, ?_, trivial⟩ ?_
          · refine stepE rfl fun sdn sa sw sE sd sk => ?_
            have h12 : sa.eval (.tmp 12) = .pointer (some ⟨ge, 0, none⟩) := sk.old 12 rfl
            exact Runs.load rfl h12 (load_part (hBe.ext sE) 0 (vs := [.int .i64 (xb), .slice (Ab) (kb) (cb)]) rfl Try.underlying24 rfl (by kernel_rfl)) ⟨Ext.refl _, rfl⟩
          · refine stepE rfl fun sdn sa sw sE sd sk => ?_
            have h58 : sa.eval (.tmp 58) = .agg #[.int .i64 (xb), .slice (Ab) (kb) (cb)] := sk.fact 0 58 rfl (sd 0 rfl)
            refine Runs.call (f := 19) (vs := [.agg #[.int .i64 (xb), .slice (Ab) (kb) (cb)]]) rfl rfl rfl (by simp only [List.map_toArray, List.map_cons, List.map_nil, h58] <;> rfl) (ent19 _ _) ((cright_any _ _ _ _ _ sw (rB.ext sE)).mono ?_); rintro e w' ⟨rfl, hx⟩; exact ⟨_, rfl, hx, congrArg Value.bool (hq)⟩
          · refine stepE rfl fun sdn sa sw sE sd sk => ?_
            have h12 : sa.eval (.tmp 12) = .pointer (some ⟨ge, 0, none⟩) := sk.old 12 rfl
            exact Runs.load rfl h12 (load_part (hBe.ext sE) 0 (vs := [.int .i64 (xb), .slice (Ab) (kb) (cb)]) rfl Try.underlying24 rfl (by kernel_rfl)) ⟨Ext.refl _, rfl⟩
          · refine stepE rfl fun sdn sa sw sE sd sk => ?_
            have h60 : sa.eval (.tmp 60) = .agg #[.int .i64 (xb), .slice (Ab) (kb) (cb)] := sk.fact 2 60 rfl (sd 2 rfl)
            refine Runs.call (f := 17) (vs := [.agg #[.int .i64 (xb), .slice (Ab) (kb) (cb)]]) rfl rfl rfl (by simp only [List.map_toArray, List.map_cons, List.map_nil, h60] <;> rfl) (ent17 _ _) ((cbody_rb _ _ _ _ _ sw (rB.ext sE)).mono ?_); rintro e w' ⟨A', n', c', rfl, own, hx⟩; exact ⟨_, rfl, hx, A', n', c', rfl, own⟩
          · refine stepE rfl fun sdn sa sw sE sd sk => ?_
            obtain ⟨A61, n61, c61, h61, r61⟩ := sk.fact 3 61 rfl (sd 3 rfl)
            obtain rfl : n61 = 0 := by have h9 := r61.len; rw [bodyC_no hq] at h9; exact h9.symm
            exact Runs.len Try.underlying22 rfl h61 ⟨Ext.refl _, rfl⟩
          · refine stepE rfl fun sdn sa sw sE sd sk => ?_
            have h62 : sa.eval (.tmp 62) = .int .i64 ((0 : Int)) := sk.fact 4 62 rfl (sd 4 rfl)
            exact Runs.bin rfl h62 rfl (by rfl) (bin_gtr _ _ _ _) ⟨Ext.refl _, congrArg Value.bool (by decide)⟩
          · refine stepE rfl fun sdn sa sw sE sd sk => ?_
            have h59 : sa.eval (.tmp 59) = .bool (false) := sk.fact 1 59 rfl (sd 1 rfl)
            have h63 : sa.eval (.tmp 63) = .bool (false) := sk.fact 5 63 rfl (sd 5 rfl)
            exact Runs.bin rfl h59 h63 (by rfl) (bin_neb _ _) ⟨Ext.refl _, congrArg Value.bool (by decide)⟩
          intro vals W9 hE9 hv9
          have e0 : vals 0 = .agg #[.int .i64 (xb), .slice (Ab) (kb) (cb)] := hv9 0 (by omega) 58 rfl
          have e1 : vals 1 = .bool (false) := hv9 1 (by omega) 59 rfl
          have e2 : vals 2 = .agg #[.int .i64 (xb), .slice (Ab) (kb) (cb)] := hv9 2 (by omega) 60 rfl
          obtain ⟨A61, n61, c61, e3, r61⟩ := hv9 3 (by omega) 61 rfl
          have e4 : vals 4 = .int .i64 ((0 : Int)) := hv9 4 (by omega) 62 rfl
          have e5 : vals 5 = .bool (false) := hv9 5 (by omega) 63 rfl
          have e6 : vals 6 = .bool (false) := hv9 6 (by omega) 64 rfl
          simp only [putAll, Act.put, List.take_succ_cons, List.take_zero, List.drop_succ_cons, List.drop_zero, List.drop_nil, List.take_nil, Nat.reduceAdd, List.setIfInBounds_toArray, List.set_cons_succ, List.set_cons_zero, e0, e1, e2, e3, e4, e5, e6]
          clear hv9 e0 e1 e2 e3 e4 e5 e6
          go_wp2_with fail
          go_roundw
          case rel => exact ⟨2, by omega, by go_num, hEr.trans hE9⟩
          case measure => simp [intOf]
      · skip
        have y0 := hBc.cell (i := 0) (v := .int .i64 x) rfl
        have y1 := hBc.cell (i := 1) (v := .slice Ac 32 cc) rfl
        go_wp2_with fail
        refine (csame_any x x Ac Ac 32 cc 32 cc R R wr rR rR).mono ?_
        rintro e w7 ⟨rfl, hE⟩
        rw [show (decide (x = x) && decide (R = R)) = true by simp]
        go_wp2_with fail
        refine (known10_any w7).mono ?_
        rintro e w8 ⟨rfl, hE8⟩
        go_wp2_with fail
        go_ret
        exact ⟨rfl, (hEa.trans hE).trans hE8⟩
  · have hsm : (decide (x = y) && decide (R = T)) = false := by
      by_cases h1 : x = y
      · have h2 : R ≠ T := fun h => hs ⟨h1, h⟩
        simp [h2]
      · simp [h1]
    have hbb : ¬ bodyC checkL x R = bodyC checkL y T := fun h => hs (bodyC_inj Hc.out Hd.out h)
    have Hsm := Lib.hid hsm
    have Hbb := Lib.hid hbb
    clear hsm hbb hs
    refine par_ext (n := 17) (by kernel_rfl) [.is (.agg #[.int .i64 (x), .slice (Ac) (32) (cc)]), .rk (52) (bodyC checkL x R), .is (.string (str (bodyC checkL x R))), .is (.agg #[.int .i64 (y), .slice (Ad) (32) (cd)]), .rk (52) (bodyC checkL y T), .is (.string (str (bodyC checkL y T))), .is (.bool (false)), .is (.agg #[.int .i64 (x), .slice (Ac) (32) (cc)]), .is (.agg #[.int .i64 (y), .slice (Ad) (32) (cd)]), .is (.bool (false)), .is (.bool (false)), .is (.bool (false)), .is (.agg #[.int .i64 (x), .slice (Ac) (32) (cc)]), .rk (52) (bodyC checkL x R), .is (.int .i64 ((52 : Nat))), .is (.bool (false)), .is (.bool (false))] rfl ⟨?_, ?_, ?_, ?_, ?_, ?_, ?_, ?_, ?_, ?_, ?_, ?_, ?_, ?_, ?_, ?_, ?_, trivial⟩ ?_
    · refine stepE rfl fun sdn sa sw sE sd sk => ?_
      have h9 : sa.eval (.tmp 9) = .pointer (some ⟨gc, 0, none⟩) := sk.old 9 rfl
      exact Runs.load rfl h9 (load_part (hBc.ext sE) 0 (vs := [.int .i64 (x), .slice (Ac) (32) (cc)]) rfl Try.underlying24 rfl (by kernel_rfl)) ⟨Ext.refl _, rfl⟩
    · refine stepE rfl fun sdn sa sw sE sd sk => ?_
      have h33 : sa.eval (.tmp 33) = .agg #[.int .i64 (x), .slice (Ac) (32) (cc)] := sk.fact 0 33 rfl (sd 0 rfl)
      refine Runs.call (f := 17) (vs := [.agg #[.int .i64 (x), .slice (Ac) (32) (cc)]]) rfl rfl rfl (by simp only [List.map_toArray, List.map_cons, List.map_nil, h33] <;> rfl) (ent17 _ _) ((cbody_52 _ _ _ _ _ sw (rR.ext sE) (Hc.out)).mono ?_); rintro e w' ⟨A', c', rfl, own, hx⟩; exact ⟨_, rfl, hx, A', c', rfl, own⟩
    · refine stepE rfl fun sdn sa sw sE sd sk => ?_
      obtain ⟨A34, c34, h34, r34⟩ := sk.fact 1 34 rfl (sd 1 rfl)
      exact Runs.conv rfl h34 (run_str r34) ⟨Ext.refl _, rfl⟩
    · refine stepE rfl fun sdn sa sw sE sd sk => ?_
      have h10 : sa.eval (.tmp 10) = .pointer (some ⟨gd, 0, none⟩) := sk.old 10 rfl
      exact Runs.load rfl h10 (load_part (hBd.ext sE) 0 (vs := [.int .i64 (y), .slice (Ad) (32) (cd)]) rfl Try.underlying24 rfl (by kernel_rfl)) ⟨Ext.refl _, rfl⟩
    · refine stepE rfl fun sdn sa sw sE sd sk => ?_
      have h36 : sa.eval (.tmp 36) = .agg #[.int .i64 (y), .slice (Ad) (32) (cd)] := sk.fact 3 36 rfl (sd 3 rfl)
      refine Runs.call (f := 17) (vs := [.agg #[.int .i64 (y), .slice (Ad) (32) (cd)]]) rfl rfl rfl (by simp only [List.map_toArray, List.map_cons, List.map_nil, h36] <;> rfl) (ent17 _ _) ((cbody_52 _ _ _ _ _ sw (rT.ext sE) (Hd.out)).mono ?_); rintro e w' ⟨A', c', rfl, own, hx⟩; exact ⟨_, rfl, hx, A', c', rfl, own⟩
    · refine stepE rfl fun sdn sa sw sE sd sk => ?_
      obtain ⟨A37, c37, h37, r37⟩ := sk.fact 4 37 rfl (sd 4 rfl)
      exact Runs.conv rfl h37 (run_str r37) ⟨Ext.refl _, rfl⟩
    · refine stepE rfl fun sdn sa sw sE sd sk => ?_
      have h35 : sa.eval (.tmp 35) = .string (str (bodyC checkL x R)) := sk.fact 2 35 rfl (sd 2 rfl)
      have h38 : sa.eval (.tmp 38) = .string (str (bodyC checkL y T)) := sk.fact 5 38 rfl (sd 5 rfl)
      exact Runs.bin rfl h35 h38 (by rfl) (bin_eqs _ _ _) ⟨Ext.refl _, congrArg Value.bool (by simp [Hbb.out])⟩
    · refine stepE rfl fun sdn sa sw sE sd sk => ?_
      have h9 : sa.eval (.tmp 9) = .pointer (some ⟨gc, 0, none⟩) := sk.old 9 rfl
      exact Runs.load rfl h9 (load_part (hBc.ext sE) 0 (vs := [.int .i64 (x), .slice (Ac) (32) (cc)]) rfl Try.underlying24 rfl (by kernel_rfl)) ⟨Ext.refl _, rfl⟩
    · refine stepE rfl fun sdn sa sw sE sd sk => ?_
      have h10 : sa.eval (.tmp 10) = .pointer (some ⟨gd, 0, none⟩) := sk.old 10 rfl
      exact Runs.load rfl h10 (load_part (hBd.ext sE) 0 (vs := [.int .i64 (y), .slice (Ad) (32) (cd)]) rfl Try.underlying24 rfl (by kernel_rfl)) ⟨Ext.refl _, rfl⟩
    · refine stepE rfl fun sdn sa sw sE sd sk => ?_
      have h40 : sa.eval (.tmp 40) = .agg #[.int .i64 (x), .slice (Ac) (32) (cc)] := sk.fact 7 40 rfl (sd 7 rfl)
      have h41 : sa.eval (.tmp 41) = .agg #[.int .i64 (y), .slice (Ad) (32) (cd)] := sk.fact 8 41 rfl (sd 8 rfl)
      refine Runs.call (f := 18) (vs := [.agg #[.int .i64 (x), .slice (Ac) (32) (cc)], .agg #[.int .i64 (y), .slice (Ad) (32) (cd)]]) rfl rfl rfl (by simp only [List.map_toArray, List.map_cons, List.map_nil, h40, h41] <;> rfl) (ent18 _ _) ((csame_any _ _ _ _ _ _ _ _ _ _ sw (rR.ext sE) (rT.ext sE)).mono ?_); rintro e w' ⟨rfl, hx⟩; exact ⟨_, rfl, hx, congrArg Value.bool (Hsm.out)⟩
    · refine stepE rfl fun sdn sa sw sE sd sk => ?_
      have h39 : sa.eval (.tmp 39) = .bool (false) := sk.fact 6 39 rfl (sd 6 rfl)
      have h42 : sa.eval (.tmp 42) = .bool (false) := sk.fact 9 42 rfl (sd 9 rfl)
      exact Runs.bin rfl h39 h42 (by rfl) (bin_neb _ _) ⟨Ext.refl _, congrArg Value.bool (by decide)⟩
    · refine stepE rfl fun sdn sa sw sE sd sk => ?_
      have h43 : sa.eval (.tmp 43) = .bool (false) := sk.fact 10 43 rfl (sd 10 rfl)
      exact Runs.move rfl h43 ⟨Ext.refl _, rfl⟩
    · refine stepY (j := 11) (d := 44) (b := false) rfl rfl rfl (fun v w h => h) fun sdn sa sw sE sd sk => ?_
      have h9 : sa.eval (.tmp 9) = .pointer (some ⟨gc, 0, none⟩) := sk.old 9 rfl
      exact Runs.load rfl h9 (load_part (hBc.ext sE) 0 (vs := [.int .i64 (x), .slice (Ac) (32) (cc)]) rfl Try.underlying24 rfl (by kernel_rfl)) ⟨Ext.refl _, rfl⟩
    · refine stepY (j := 11) (d := 44) (b := false) rfl rfl rfl (fun v w h => h) fun sdn sa sw sE sd sk => ?_
      have h45 : sa.eval (.tmp 45) = .agg #[.int .i64 (x), .slice (Ac) (32) (cc)] := sk.fact 12 45 rfl (sd 12 rfl)
      refine Runs.call (f := 17) (vs := [.agg #[.int .i64 (x), .slice (Ac) (32) (cc)]]) rfl rfl rfl (by simp only [List.map_toArray, List.map_cons, List.map_nil, h45] <;> rfl) (ent17 _ _) ((cbody_52 _ _ _ _ _ sw (rR.ext sE) (Hc.out)).mono ?_); rintro e w' ⟨A', c', rfl, own, hx⟩; exact ⟨_, rfl, hx, A', c', rfl, own⟩
    · refine stepY (j := 11) (d := 44) (b := false) rfl rfl rfl (fun v w h => h) fun sdn sa sw sE sd sk => ?_
      obtain ⟨A46, c46, h46, r46⟩ := sk.fact 13 46 rfl (sd 13 rfl)
      exact Runs.len Try.underlying22 rfl h46 ⟨Ext.refl _, rfl⟩
    · refine stepY (j := 11) (d := 44) (b := false) rfl rfl rfl (fun v w h => h) fun sdn sa sw sE sd sk => ?_
      have h47 : sa.eval (.tmp 47) = .int .i64 ((52 : Nat)) := sk.fact 14 47 rfl (sd 14 rfl)
      exact Runs.bin rfl h47 rfl (by rfl) (bin_neq _ _ _ _) ⟨Ext.refl _, congrArg Value.bool (by decide)⟩
    · refine stepE rfl fun sdn sa sw sE sd sk => ?_
      have h44 : sa.eval (.tmp 44) = .bool (false) := sk.fact 11 44 rfl (sd 11 rfl)
      have h48 : sa.eval (.tmp 48) = .bool (false) := sk.fact 15 48 rfl (sd 15 rfl)
      exact Runs.pick rfl h44 ⟨Ext.refl _, by first | exact h48 | simpa using h48⟩
    intro vals W4 hE4 hv4
    have e0 : vals 0 = .agg #[.int .i64 (x), .slice (Ac) (32) (cc)] := hv4 0 (by omega) 33 rfl
    obtain ⟨A34, c34, e1, r34⟩ := hv4 1 (by omega) 34 rfl
    have e2 : vals 2 = .string (str (bodyC checkL x R)) := hv4 2 (by omega) 35 rfl
    have e3 : vals 3 = .agg #[.int .i64 (y), .slice (Ad) (32) (cd)] := hv4 3 (by omega) 36 rfl
    obtain ⟨A37, c37, e4, r37⟩ := hv4 4 (by omega) 37 rfl
    have e5 : vals 5 = .string (str (bodyC checkL y T)) := hv4 5 (by omega) 38 rfl
    have e6 : vals 6 = .bool (false) := hv4 6 (by omega) 39 rfl
    have e7 : vals 7 = .agg #[.int .i64 (x), .slice (Ac) (32) (cc)] := hv4 7 (by omega) 40 rfl
    have e8 : vals 8 = .agg #[.int .i64 (y), .slice (Ad) (32) (cd)] := hv4 8 (by omega) 41 rfl
    have e9 : vals 9 = .bool (false) := hv4 9 (by omega) 42 rfl
    have e10 : vals 10 = .bool (false) := hv4 10 (by omega) 43 rfl
    have e11 : vals 11 = .bool (false) := hv4 11 (by omega) 44 rfl
    have e12 : vals 12 = .agg #[.int .i64 (x), .slice (Ac) (32) (cc)] := hv4 12 (by omega) 45 rfl
    obtain ⟨A46, c46, e13, r46⟩ := hv4 13 (by omega) 46 rfl
    have e14 : vals 14 = .int .i64 ((52 : Nat)) := hv4 14 (by omega) 47 rfl
    have e15 : vals 15 = .bool (false) := hv4 15 (by omega) 48 rfl
    have e16 : vals 16 = .bool (false) := hv4 16 (by omega) 49 rfl
    simp only [putAll, Act.put, List.take_succ_cons, List.take_zero, List.drop_succ_cons, List.drop_zero, List.drop_nil, List.take_nil, Nat.reduceAdd, List.setIfInBounds_toArray, List.set_cons_succ, List.set_cons_zero, e0, e1, e2, e3, e4, e5, e6, e7, e8, e9, e10, e11, e12, e13, e14, e15, e16]
    clear hv4 e0 e1 e2 e3 e4 e5 e6 e7 e8 e9 e10 e11 e12 e13 e14 e15 e16
    replace hBa := hBa.ext hE4
    replace hBb := hBb.ext hE4
    replace rA := rA.ext hE4
    replace rB := rB.ext hE4
    replace rR := rR.ext hE4
    replace hBc := hBc.ext hE4
    replace hEa := hEa.trans hE4
    have hEn := Ext.new W4 (.cells #[.int .i64 xa, .slice Aa ka ca, .int .i64 xb, .slice Ab kb cb] 24)
    have hBl := Blk.new W4 24 #[.int .i64 xa, .slice Aa ka ca, .int .i64 xb, .slice Ab kb cb]
    have y0 := hBa.cell (i := 0) (v := .int .i64 xa) rfl
    have y1 := hBa.cell (i := 1) (v := .slice Aa ka ca) rfl
    have z0 := hBb.cell (i := 0) (v := .int .i64 xb) rfl
    have z1 := hBb.cell (i := 1) (v := .slice Ab kb cb) rfl
    replace rA := rA.ext hEn
    replace rB := rB.ext hEn
    replace rR := rR.ext hEn
    replace hBc := hBc.ext hEn
    replace hEa := hEa.trans hEn
    clear hEn hE4 hBa hBb rT hBd Hd Hsm Hbb
    go_wp2_with fail
    generalize W4.alloc (.cells #[.int .i64 xa, .slice Aa ka ca, .int .i64 xb, .slice Ab kb cb] 24) = w5 at *
    generalize W4.heap.size = gl at *
    go_loopw [54] (fun i wr => BodyI w5 i wr) (fun i _ => 2 - (intOf i).toNat)
    case atStart => exact ⟨0, by omega, rfl, Ext.refl _⟩
    case round =>
      clear y0 y1 z0 z1
      obtain ⟨k, hk, rfl, hEr⟩ := hrel
      replace hBl := hBl.ext hEr
      replace rA := rA.ext hEr
      replace rB := rB.ext hEr
      replace rR := rR.ext hEr
      replace hBc := hBc.ext hEr
      replace hEa := hEa.trans hEr
      have hcs : k = 0 ∨ k = 1 ∨ k = 2 := by omega
      rcases hcs with rfl | rfl | rfl
      · have y0 := hBl.cell (i := 0) (v := .int .i64 xa) rfl
        have y1 := hBl.cell (i := 1) (v := .slice Aa ka ca) rfl
        have hEn := Ext.new wr (.cells #[.int .i64 xa, .slice Aa ka ca] 24)
        have hBe := Blk.new wr 24 #[.int .i64 xa, .slice Aa ka ca]
        replace rA := rA.ext hEn
        replace hEr := hEr.trans hEn
        clear hEn
        go_upto_region 9 with (fail)
        generalize wr.alloc (.cells #[.int .i64 xa, .slice Aa ka ca] 24) = w6 at *
        generalize wr.heap.size = ge at *
        cases hq : rightC xa Ra with
        | true =>
          refine par_ext (n := 7) (by kernel_rfl) [.is (.agg #[.int .i64 (xa), .slice (Aa) (ka) (ca)]), .is (.bool (true)), .is (.agg #[.int .i64 (xa), .slice (Aa) (ka) (ca)]), .rk (52) (bodyC checkL xa Ra), .is (.int .i64 ((52 : Nat))), .is (.bool (true)), .is (.bool (false))] rfl ⟨?_, ?_, ?_, ?_, ?_, ?_, ?_, trivial⟩ ?_
          · refine stepE rfl fun sdn sa sw sE sd sk => ?_
            have h12 : sa.eval (.tmp 12) = .pointer (some ⟨ge, 0, none⟩) := sk.old 12 rfl
            exact Runs.load rfl h12 (load_part (hBe.ext sE) 0 (vs := [.int .i64 (xa), .slice (Aa) (ka) (ca)]) rfl Try.underlying24 rfl (by kernel_rfl)) ⟨Ext.refl _, rfl⟩
          · refine stepE rfl fun sdn sa sw sE sd sk => ?_
            have h58 : sa.eval (.tmp 58) = .agg #[.int .i64 (xa), .slice (Aa) (ka) (ca)] := sk.fact 0 58 rfl (sd 0 rfl)
            refine Runs.call (f := 19) (vs := [.agg #[.int .i64 (xa), .slice (Aa) (ka) (ca)]]) rfl rfl rfl (by simp only [List.map_toArray, List.map_cons, List.map_nil, h58] <;> rfl) (ent19 _ _) ((cright_any _ _ _ _ _ sw (rA.ext sE)).mono ?_); rintro e w' ⟨rfl, hx⟩; exact ⟨_, rfl, hx, congrArg Value.bool (hq)⟩
          · refine stepE rfl fun sdn sa sw sE sd sk => ?_
            have h12 : sa.eval (.tmp 12) = .pointer (some ⟨ge, 0, none⟩) := sk.old 12 rfl
            exact Runs.load rfl h12 (load_part (hBe.ext sE) 0 (vs := [.int .i64 (xa), .slice (Aa) (ka) (ca)]) rfl Try.underlying24 rfl (by kernel_rfl)) ⟨Ext.refl _, rfl⟩
          · refine stepE rfl fun sdn sa sw sE sd sk => ?_
            have h60 : sa.eval (.tmp 60) = .agg #[.int .i64 (xa), .slice (Aa) (ka) (ca)] := sk.fact 2 60 rfl (sd 2 rfl)
            refine Runs.call (f := 17) (vs := [.agg #[.int .i64 (xa), .slice (Aa) (ka) (ca)]]) rfl rfl rfl (by simp only [List.map_toArray, List.map_cons, List.map_nil, h60] <;> rfl) (ent17 _ _) ((cbody_52 _ _ _ _ _ sw (rA.ext sE) (hq)).mono ?_); rintro e w' ⟨A', c', rfl, own, hx⟩; exact ⟨_, rfl, hx, A', c', rfl, own⟩
          · refine stepE rfl fun sdn sa sw sE sd sk => ?_
            obtain ⟨A61, c61, h61, r61⟩ := sk.fact 3 61 rfl (sd 3 rfl)
            exact Runs.len Try.underlying22 rfl h61 ⟨Ext.refl _, rfl⟩
          · refine stepE rfl fun sdn sa sw sE sd sk => ?_
            have h62 : sa.eval (.tmp 62) = .int .i64 ((52 : Nat)) := sk.fact 4 62 rfl (sd 4 rfl)
            exact Runs.bin rfl h62 rfl (by rfl) (bin_gtr _ _ _ _) ⟨Ext.refl _, congrArg Value.bool (by decide)⟩
          · refine stepE rfl fun sdn sa sw sE sd sk => ?_
            have h59 : sa.eval (.tmp 59) = .bool (true) := sk.fact 1 59 rfl (sd 1 rfl)
            have h63 : sa.eval (.tmp 63) = .bool (true) := sk.fact 5 63 rfl (sd 5 rfl)
            exact Runs.bin rfl h59 h63 (by rfl) (bin_neb _ _) ⟨Ext.refl _, congrArg Value.bool (by decide)⟩
          intro vals W9 hE9 hv9
          have e0 : vals 0 = .agg #[.int .i64 (xa), .slice (Aa) (ka) (ca)] := hv9 0 (by omega) 58 rfl
          have e1 : vals 1 = .bool (true) := hv9 1 (by omega) 59 rfl
          have e2 : vals 2 = .agg #[.int .i64 (xa), .slice (Aa) (ka) (ca)] := hv9 2 (by omega) 60 rfl
          obtain ⟨A61, c61, e3, r61⟩ := hv9 3 (by omega) 61 rfl
          have e4 : vals 4 = .int .i64 ((52 : Nat)) := hv9 4 (by omega) 62 rfl
          have e5 : vals 5 = .bool (true) := hv9 5 (by omega) 63 rfl
          have e6 : vals 6 = .bool (false) := hv9 6 (by omega) 64 rfl
          simp only [putAll, Act.put, List.take_succ_cons, List.take_zero, List.drop_succ_cons, List.drop_zero, List.drop_nil, List.take_nil, Nat.reduceAdd, List.setIfInBounds_toArray, List.set_cons_succ, List.set_cons_zero, e0, e1, e2, e3, e4, e5, e6]
          clear hv9 e0 e1 e2 e3 e4 e5 e6
          go_wp2_with fail
          go_roundw
          case rel => exact ⟨1, by omega, by go_num, hEr.trans hE9⟩
          case measure => simp [intOf]
        | false =>
          refine par_ext (n := 7) (by kernel_rfl) [.is (.agg #[.int .i64 (xa), .slice (Aa) (ka) (ca)]), .is (.bool (false)), .is (.agg #[.int .i64 (xa), .slice (Aa) (ka) (ca)]), .rb (bodyC checkL xa Ra), .is (.int .i64 ((0 : Int))), .is (.bool (false)), .is (.bool (false))] rfl ⟨?_, ?_, ?_, ?_, ?_, ?_, ?_, trivial⟩ ?_
          · refine stepE rfl fun sdn sa sw sE sd sk => ?_
            have h12 : sa.eval (.tmp 12) = .pointer (some ⟨ge, 0, none⟩) := sk.old 12 rfl
            exact Runs.load rfl h12 (load_part (hBe.ext sE) 0 (vs := [.int .i64 (xa), .slice (Aa) (ka) (ca)]) rfl Try.underlying24 rfl (by kernel_rfl)) ⟨Ext.refl _, rfl⟩
          · refine stepE rfl fun sdn sa sw sE sd sk => ?_
            have h58 : sa.eval (.tmp 58) = .agg #[.int .i64 (xa), .slice (Aa) (ka) (ca)] := sk.fact 0 58 rfl (sd 0 rfl)
            refine Runs.call (f := 19) (vs := [.agg #[.int .i64 (xa), .slice (Aa) (ka) (ca)]]) rfl rfl rfl (by simp only [List.map_toArray, List.map_cons, List.map_nil, h58] <;> rfl) (ent19 _ _) ((cright_any _ _ _ _ _ sw (rA.ext sE)).mono ?_); rintro e w' ⟨rfl, hx⟩; exact ⟨_, rfl, hx, congrArg Value.bool (hq)⟩
          · refine stepE rfl fun sdn sa sw sE sd sk => ?_
            have h12 : sa.eval (.tmp 12) = .pointer (some ⟨ge, 0, none⟩) := sk.old 12 rfl
            exact Runs.load rfl h12 (load_part (hBe.ext sE) 0 (vs := [.int .i64 (xa), .slice (Aa) (ka) (ca)]) rfl Try.underlying24 rfl (by kernel_rfl)) ⟨Ext.refl _, rfl⟩
          · refine stepE rfl fun sdn sa sw sE sd sk => ?_
            have h60 : sa.eval (.tmp 60) = .agg #[.int .i64 (xa), .slice (Aa) (ka) (ca)] := sk.fact 2 60 rfl (sd 2 rfl)
            refine Runs.call (f := 17) (vs := [.agg #[.int .i64 (xa), .slice (Aa) (ka) (ca)]]) rfl rfl rfl (by simp only [List.map_toArray, List.map_cons, List.map_nil, h60] <;> rfl) (ent17 _ _) ((cbody_rb _ _ _ _ _ sw (rA.ext sE)).mono ?_); rintro e w' ⟨A', n', c', rfl, own, hx⟩; exact ⟨_, rfl, hx, A', n', c', rfl, own⟩
          · refine stepE rfl fun sdn sa sw sE sd sk => ?_
            obtain ⟨A61, n61, c61, h61, r61⟩ := sk.fact 3 61 rfl (sd 3 rfl)
            obtain rfl : n61 = 0 := by have h9 := r61.len; rw [bodyC_no hq] at h9; exact h9.symm
            exact Runs.len Try.underlying22 rfl h61 ⟨Ext.refl _, rfl⟩
          · refine stepE rfl fun sdn sa sw sE sd sk => ?_
            have h62 : sa.eval (.tmp 62) = .int .i64 ((0 : Int)) := sk.fact 4 62 rfl (sd 4 rfl)
            exact Runs.bin rfl h62 rfl (by rfl) (bin_gtr _ _ _ _) ⟨Ext.refl _, congrArg Value.bool (by decide)⟩
          · refine stepE rfl fun sdn sa sw sE sd sk => ?_
            have h59 : sa.eval (.tmp 59) = .bool (false) := sk.fact 1 59 rfl (sd 1 rfl)
            have h63 : sa.eval (.tmp 63) = .bool (false) := sk.fact 5 63 rfl (sd 5 rfl)
            exact Runs.bin rfl h59 h63 (by rfl) (bin_neb _ _) ⟨Ext.refl _, congrArg Value.bool (by decide)⟩
          intro vals W9 hE9 hv9
          have e0 : vals 0 = .agg #[.int .i64 (xa), .slice (Aa) (ka) (ca)] := hv9 0 (by omega) 58 rfl
          have e1 : vals 1 = .bool (false) := hv9 1 (by omega) 59 rfl
          have e2 : vals 2 = .agg #[.int .i64 (xa), .slice (Aa) (ka) (ca)] := hv9 2 (by omega) 60 rfl
          obtain ⟨A61, n61, c61, e3, r61⟩ := hv9 3 (by omega) 61 rfl
          have e4 : vals 4 = .int .i64 ((0 : Int)) := hv9 4 (by omega) 62 rfl
          have e5 : vals 5 = .bool (false) := hv9 5 (by omega) 63 rfl
          have e6 : vals 6 = .bool (false) := hv9 6 (by omega) 64 rfl
          simp only [putAll, Act.put, List.take_succ_cons, List.take_zero, List.drop_succ_cons, List.drop_zero, List.drop_nil, List.take_nil, Nat.reduceAdd, List.setIfInBounds_toArray, List.set_cons_succ, List.set_cons_zero, e0, e1, e2, e3, e4, e5, e6]
          clear hv9 e0 e1 e2 e3 e4 e5 e6
          go_wp2_with fail
          go_roundw
          case rel => exact ⟨1, by omega, by go_num, hEr.trans hE9⟩
          case measure => simp [intOf]
      · have y0 := hBl.cell (i := 2) (v := .int .i64 xb) rfl
        have y1 := hBl.cell (i := 3) (v := .slice Ab kb cb) rfl
        have hEn := Ext.new wr (.cells #[.int .i64 xb, .slice Ab kb cb] 24)
        have hBe := Blk.new wr 24 #[.int .i64 xb, .slice Ab kb cb]
        replace rB := rB.ext hEn
        replace hEr := hEr.trans hEn
        clear hEn
        go_upto_region 9 with (fail)
        generalize wr.alloc (.cells #[.int .i64 xb, .slice Ab kb cb] 24) = w6 at *
        generalize wr.heap.size = ge at *
        cases hq : rightC xb Rb with
        | true =>
          refine par_ext (n := 7) (by kernel_rfl) [.is (.agg #[.int .i64 (xb), .slice (Ab) (kb) (cb)]), .is (.bool (true)), .is (.agg #[.int .i64 (xb), .slice (Ab) (kb) (cb)]), .rk (52) (bodyC checkL xb Rb), .is (.int .i64 ((52 : Nat))), .is (.bool (true)), .is (.bool (false))] rfl ⟨?_, ?_, ?_, ?_, ?_, ?_, ?_, trivial⟩ ?_
          · refine stepE rfl fun sdn sa sw sE sd sk => ?_
            have h12 : sa.eval (.tmp 12) = .pointer (some ⟨ge, 0, none⟩) := sk.old 12 rfl
            exact Runs.load rfl h12 (load_part (hBe.ext sE) 0 (vs := [.int .i64 (xb), .slice (Ab) (kb) (cb)]) rfl Try.underlying24 rfl (by kernel_rfl)) ⟨Ext.refl _, rfl⟩
          · refine stepE rfl fun sdn sa sw sE sd sk => ?_
            have h58 : sa.eval (.tmp 58) = .agg #[.int .i64 (xb), .slice (Ab) (kb) (cb)] := sk.fact 0 58 rfl (sd 0 rfl)
            refine Runs.call (f := 19) (vs := [.agg #[.int .i64 (xb), .slice (Ab) (kb) (cb)]]) rfl rfl rfl (by simp only [List.map_toArray, List.map_cons, List.map_nil, h58] <;> rfl) (ent19 _ _) ((cright_any _ _ _ _ _ sw (rB.ext sE)).mono ?_); rintro e w' ⟨rfl, hx⟩; exact ⟨_, rfl, hx, congrArg Value.bool (hq)⟩
          · refine stepE rfl fun sdn sa sw sE sd sk => ?_
            have h12 : sa.eval (.tmp 12) = .pointer (some ⟨ge, 0, none⟩) := sk.old 12 rfl
            exact Runs.load rfl h12 (load_part (hBe.ext sE) 0 (vs := [.int .i64 (xb), .slice (Ab) (kb) (cb)]) rfl Try.underlying24 rfl (by kernel_rfl)) ⟨Ext.refl _, rfl⟩
          · refine stepE rfl fun sdn sa sw sE sd sk => ?_
            have h60 : sa.eval (.tmp 60) = .agg #[.int .i64 (xb), .slice (Ab) (kb) (cb)] := sk.fact 2 60 rfl (sd 2 rfl)
            refine Runs.call (f := 17) (vs := [.agg #[.int .i64 (xb), .slice (Ab) (kb) (cb)]]) rfl rfl rfl (by simp only [List.map_toArray, List.map_cons, List.map_nil, h60] <;> rfl) (ent17 _ _) ((cbody_52 _ _ _ _ _ sw (rB.ext sE) (hq)).mono ?_); rintro e w' ⟨A', c', rfl, own, hx⟩; exact ⟨_, rfl, hx, A', c', rfl, own⟩
          · refine stepE rfl fun sdn sa sw sE sd sk => ?_
            obtain ⟨A61, c61, h61, r61⟩ := sk.fact 3 61 rfl (sd 3 rfl)
            exact Runs.len Try.underlying22 rfl h61 ⟨Ext.refl _, rfl⟩
          · refine stepE rfl fun sdn sa sw sE sd sk => ?_
            have h62 : sa.eval (.tmp 62) = .int .i64 ((52 : Nat)) := sk.fact 4 62 rfl (sd 4 rfl)
            exact Runs.bin rfl h62 rfl (by rfl) (bin_gtr _ _ _ _) ⟨Ext.refl _, congrArg Value.bool (by decide)⟩
          · refine stepE rfl fun sdn sa sw sE sd sk => ?_
            have h59 : sa.eval (.tmp 59) = .bool (true) := sk.fact 1 59 rfl (sd 1 rfl)
            have h63 : sa.eval (.tmp 63) = .bool (true) := sk.fact 5 63 rfl (sd 5 rfl)
            exact Runs.bin rfl h59 h63 (by rfl) (bin_neb _ _) ⟨Ext.refl _, congrArg Value.bool (by decide)⟩
          intro vals W9 hE9 hv9
          have e0 : vals 0 = .agg #[.int .i64 (xb), .slice (Ab) (kb) (cb)] := hv9 0 (by omega) 58 rfl
          have e1 : vals 1 = .bool (true) := hv9 1 (by omega) 59 rfl
          have e2 : vals 2 = .agg #[.int .i64 (xb), .slice (Ab) (kb) (cb)] := hv9 2 (by omega) 60 rfl
          obtain ⟨A61, c61, e3, r61⟩ := hv9 3 (by omega) 61 rfl
          have e4 : vals 4 = .int .i64 ((52 : Nat)) := hv9 4 (by omega) 62 rfl
          have e5 : vals 5 = .bool (true) := hv9 5 (by omega) 63 rfl
          have e6 : vals 6 = .bool (false) := hv9 6 (by omega) 64 rfl
          simp only [putAll, Act.put, List.take_succ_cons, List.take_zero, List.drop_succ_cons, List.drop_zero, List.drop_nil, List.take_nil, Nat.reduceAdd, List.setIfInBounds_toArray, List.set_cons_succ, List.set_cons_zero, e0, e1, e2, e3, e4, e5, e6]
          clear hv9 e0 e1 e2 e3 e4 e5 e6
          go_wp2_with fail
          go_roundw
          case rel => exact ⟨2, by omega, by go_num, hEr.trans hE9⟩
          case measure => simp [intOf]
        | false =>
          refine par_ext (n := 7) (by kernel_rfl) [.is (.agg #[.int .i64 (xb), .slice (Ab) (kb) (cb)]), .is (.bool (false)), .is (.agg #[.int .i64 (xb), .slice (Ab) (kb) (cb)]), .rb (bodyC checkL xb Rb), .is (.int .i64 ((0 : Int))), .is (.bool (false)), .is (.bool (false))] rfl ⟨?_, ?_, ?_, ?_, ?_, ?_, ?_, trivial⟩ ?_
          · refine stepE rfl fun sdn sa sw sE sd sk => ?_
            have h12 : sa.eval (.tmp 12) = .pointer (some ⟨ge, 0, none⟩) := sk.old 12 rfl
            exact Runs.load rfl h12 (load_part (hBe.ext sE) 0 (vs := [.int .i64 (xb), .slice (Ab) (kb) (cb)]) rfl Try.underlying24 rfl (by kernel_rfl)) ⟨Ext.refl _, rfl⟩
          · refine stepE rfl fun sdn sa sw sE sd sk => ?_
            have h58 : sa.eval (.tmp 58) = .agg #[.int .i64 (xb), .slice (Ab) (kb) (cb)] := sk.fact 0 58 rfl (sd 0 rfl)
            refine Runs.call (f := 19) (vs := [.agg #[.int .i64 (xb), .slice (Ab) (kb) (cb)]]) rfl rfl rfl (by simp only [List.map_toArray, List.map_cons, List.map_nil, h58] <;> rfl) (ent19 _ _) ((cright_any _ _ _ _ _ sw (rB.ext sE)).mono ?_); rintro e w' ⟨rfl, hx⟩; exact ⟨_, rfl, hx, congrArg Value.bool (hq)⟩
          · refine stepE rfl fun sdn sa sw sE sd sk => ?_
            have h12 : sa.eval (.tmp 12) = .pointer (some ⟨ge, 0, none⟩) := sk.old 12 rfl
            exact Runs.load rfl h12 (load_part (hBe.ext sE) 0 (vs := [.int .i64 (xb), .slice (Ab) (kb) (cb)]) rfl Try.underlying24 rfl (by kernel_rfl)) ⟨Ext.refl _, rfl⟩
          · refine stepE rfl fun sdn sa sw sE sd sk => ?_
            have h60 : sa.eval (.tmp 60) = .agg #[.int .i64 (xb), .slice (Ab) (kb) (cb)] := sk.fact 2 60 rfl (sd 2 rfl)
            refine Runs.call (f := 17) (vs := [.agg #[.int .i64 (xb), .slice (Ab) (kb) (cb)]]) rfl rfl rfl (by simp only [List.map_toArray, List.map_cons, List.map_nil, h60] <;> rfl) (ent17 _ _) ((cbody_rb _ _ _ _ _ sw (rB.ext sE)).mono ?_); rintro e w' ⟨A', n', c', rfl, own, hx⟩; exact ⟨_, rfl, hx, A', n', c', rfl, own⟩
          · refine stepE rfl fun sdn sa sw sE sd sk => ?_
            obtain ⟨A61, n61, c61, h61, r61⟩ := sk.fact 3 61 rfl (sd 3 rfl)
            obtain rfl : n61 = 0 := by have h9 := r61.len; rw [bodyC_no hq] at h9; exact h9.symm
            exact Runs.len Try.underlying22 rfl h61 ⟨Ext.refl _, rfl⟩
          · refine stepE rfl fun sdn sa sw sE sd sk => ?_
            have h62 : sa.eval (.tmp 62) = .int .i64 ((0 : Int)) := sk.fact 4 62 rfl (sd 4 rfl)
            exact Runs.bin rfl h62 rfl (by rfl) (bin_gtr _ _ _ _) ⟨Ext.refl _, congrArg Value.bool (by decide)⟩
          · refine stepE rfl fun sdn sa sw sE sd sk => ?_
            have h59 : sa.eval (.tmp 59) = .bool (false) := sk.fact 1 59 rfl (sd 1 rfl)
            have h63 : sa.eval (.tmp 63) = .bool (false) := sk.fact 5 63 rfl (sd 5 rfl)
            exact Runs.bin rfl h59 h63 (by rfl) (bin_neb _ _) ⟨Ext.refl _, congrArg Value.bool (by decide)⟩
          intro vals W9 hE9 hv9
          have e0 : vals 0 = .agg #[.int .i64 (xb), .slice (Ab) (kb) (cb)] := hv9 0 (by omega) 58 rfl
          have e1 : vals 1 = .bool (false) := hv9 1 (by omega) 59 rfl
          have e2 : vals 2 = .agg #[.int .i64 (xb), .slice (Ab) (kb) (cb)] := hv9 2 (by omega) 60 rfl
          obtain ⟨A61, n61, c61, e3, r61⟩ := hv9 3 (by omega) 61 rfl
          have e4 : vals 4 = .int .i64 ((0 : Int)) := hv9 4 (by omega) 62 rfl
          have e5 : vals 5 = .bool (false) := hv9 5 (by omega) 63 rfl
          have e6 : vals 6 = .bool (false) := hv9 6 (by omega) 64 rfl
          simp only [putAll, Act.put, List.take_succ_cons, List.take_zero, List.drop_succ_cons, List.drop_zero, List.drop_nil, List.take_nil, Nat.reduceAdd, List.setIfInBounds_toArray, List.set_cons_succ, List.set_cons_zero, e0, e1, e2, e3, e4, e5, e6]
          clear hv9 e0 e1 e2 e3 e4 e5 e6
          go_wp2_with fail
          go_roundw
          case rel => exact ⟨2, by omega, by go_num, hEr.trans hE9⟩
          case measure => simp [intOf]
      · skip
        have y0 := hBc.cell (i := 0) (v := .int .i64 x) rfl
        have y1 := hBc.cell (i := 1) (v := .slice Ac 32 cc) rfl
        go_wp2_with fail
        refine (csame_any x x Ac Ac 32 cc 32 cc R R wr rR rR).mono ?_
        rintro e w7 ⟨rfl, hE⟩
        rw [show (decide (x = x) && decide (R = R)) = true by simp]
        go_wp2_with fail
        refine (known10_any w7).mono ?_
        rintro e w8 ⟨rfl, hE8⟩
        go_wp2_with fail
        go_ret
        exact ⟨rfl, (hEa.trans hE).trans hE8⟩
end Go.Proofs.Ythggfbpdhkpkjaa

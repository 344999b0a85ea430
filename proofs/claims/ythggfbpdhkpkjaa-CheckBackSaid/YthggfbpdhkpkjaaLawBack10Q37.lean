/-
  What is written as a signed checkpoint is read as that one. Plain theorems. law10.CheckBodies, walked. law10.CheckBack, walked. What the frames of the statements hand on, in the words of the walks. Plain theorems. What the frames of the statements hand on of bytes that came in, in the words of the walks. Plain theorems.
-/
import Derived.Test.YthggfbpdhkpkjaaLawBack10Q36
import Derived.Test.YthggfbpdhkpkjaaLawBack10Q12
import Derived.Test.YthggfbpdhkpkjaaLawBack10Q5
import Derived.ChangeSlices
import Derived.ChangeArms
namespace Go.Proofs.Ythggfbpdhkpkjaa
set_option maxRecDepth 100000
open Go Go.RowKit
theorem rtake_pre {A B : List UInt8} {z : Int} (h : (A.length : Int) = z) : rtake (A ++ B) false z = (A, B, false) := by
  have hz : z.toNat = A.length := by omega
  unfold rtake
  rw [if_neg (by rintro (h1 | h1 | h1) <;> first | (cases h1; done) | omega | (simp only [List.length_append] at h1; omega)), hz]
  simp
theorem u32i_keyW {x : Int} (h0 : 0 ≤ x) (h1 : x ≤ 256) : u32i (keyW x) = x := by
  unfold u32i keyW
  rw [UInt32.toNat_ofNat']
  omega
theorem putOK_parts {x : Int} {R : List UInt8} {k : Int} {Ps Qs : List (List UInt8)} (h : putOK x R k Ps Qs = true) : rightC x R = true ∧ rightB k Ps Qs = true := by
  unfold putOK at h
  simpa using h
theorem putL_len {x : Int} {R : List UInt8} {k : Int} {Ps Qs : List (List UInt8)} (h : putOK x R k Ps Qs = true) : (putL x R k Ps Qs).length = 2216 := by
  obtain ⟨h1, h2⟩ := putOK_parts h
  rw [putL_yes h]
  have h3 := encS_len h2
  have h4 := (rightC_true h1).2.2
  have h5 : (bytesOf (keyW x)).length = 4 := rfl
  simp only [List.length_append, h3, h4, h5]
/-- one signed checkpoint is read off what it was written as -/
theorem get_put {x : Int} {R : List UInt8} {k : Int} {Ps Qs : List (List UInt8)} (h : putOK x R k Ps Qs = true) (rest : List UInt8) :
    gOK (putL x R k Ps Qs ++ rest) false = true ∧ gX (putL x R k Ps Qs ++ rest) false = x ∧ gR (putL x R k Ps Qs ++ rest) false = R ∧ decX (gY (putL x R k Ps Qs ++ rest) false) = k ∧ decP (gY (putL x R k Ps Qs ++ rest) false) = Ps ∧ decQ (gY (putL x R k Ps Qs ++ rest) false) = Qs ∧ gS3 (putL x R k Ps Qs ++ rest) false = (rest, false) := by
  obtain ⟨h1, h2⟩ := putOK_parts h
  obtain ⟨a0, a1, a2⟩ := rightC_true h1
  have hE := encS_len h2
  have e0 : putL x R k Ps Qs ++ rest = bytesOf (keyW x) ++ (R ++ (encS k Ps Qs ++ rest)) := by rw [putL_yes h]; simp only [List.append_assoc]
  rw [e0]
  have t1 : rtake (bytesOf (keyW x) ++ (R ++ (encS k Ps Qs ++ rest))) false 4 = (bytesOf (keyW x), R ++ (encS k Ps Qs ++ rest), false) := rtake_pre (by rfl)
  have t2 : rtake (R ++ (encS k Ps Qs ++ rest)) false 32 = (R, encS k Ps Qs ++ rest, false) := rtake_pre (by omega)
  have t3 : rtake (encS k Ps Qs ++ rest) false 2180 = (encS k Ps Qs, rest, false) := rtake_pre (by omega)
  have s1 : gS1 (bytesOf (keyW x) ++ (R ++ (encS k Ps Qs ++ rest))) false = (R ++ (encS k Ps Qs ++ rest), false) := by unfold gS1; rw [t1]
  have s2 : gS2 (bytesOf (keyW x) ++ (R ++ (encS k Ps Qs ++ rest))) false = (encS k Ps Qs ++ rest, false) := by unfold gS2; rw [s1, t2]
  have s3 : gS3 (bytesOf (keyW x) ++ (R ++ (encS k Ps Qs ++ rest))) false = (rest, false) := by unfold gS3; rw [s2, t3]
  have gx : gX (bytesOf (keyW x) ++ (R ++ (encS k Ps Qs ++ rest))) false = x := by unfold gX; rw [t1]; show u32i (beNum (bytesOf (keyW x))) = x; rw [beNum_bytesOf, u32i_keyW a0 a1]
  have gr : gR (bytesOf (keyW x) ++ (R ++ (encS k Ps Qs ++ rest))) false = R := by unfold gR; rw [s1, t2]
  have gy : gY (bytesOf (keyW x) ++ (R ++ (encS k Ps Qs ++ rest))) false = encS k Ps Qs := by unfold gY; rw [s2, t3]
  obtain ⟨⟨m, hm, rfl⟩, ⟨hpl, hp32⟩, hql, hq32⟩ := rightB_true h2
  obtain ⟨d1, d2, d3, d4⟩ := dec_enc5 hm hpl hql hp32 hq32
  refine ⟨?_, gx, gr, by rw [gy, d2], by rw [gy, d3], by rw [gy, d4], s3⟩
  rw [gOK_iff, s3, gy, gx]
  exact ⟨rfl, d1, a1⟩
theorem dec_put {x : Int} {R : List UInt8} {k : Int} {Ps Qs : List (List UInt8)} (h : putOK x R k Ps Qs = true) :
    dOK (putL x R k Ps Qs) = true ∧ gX (putL x R k Ps Qs) false = x ∧ gR (putL x R k Ps Qs) false = R ∧ decX (gY (putL x R k Ps Qs) false) = k ∧ decP (gY (putL x R k Ps Qs) false) = Ps ∧ decQ (gY (putL x R k Ps Qs) false) = Qs := by
  obtain ⟨h1, h2, h3, h4, h5, h6, h7⟩ := get_put h []
  rw [List.append_nil] at h1 h2 h3 h4 h5 h6 h7
  refine ⟨?_, h2, h3, h4, h5, h6⟩
  unfold dOK
  rw [h1, h7]
  rfl
theorem rightB_sig (S M : List UInt8) (k : Nat) (hk : k < 16) : rightB (k : Int) (sigP S M k) (pathL S k) = true := by
  have h := verB_own S M k hk
  unfold verB at h
  simp only [Bool.and_eq_true] at h
  exact h.1
theorem putOK_own (S M R : List UInt8) (x : Int) (k : Nat) (hk : k < 16) (hc : rightC x R = true) : putOK x R (k : Int) (sigP S M k) (pathL S k) = true := by
  unfold putOK
  rw [hc, rightB_sig S M k hk]
  rfl
end Go.Proofs.Ythggfbpdhkpkjaa
namespace Go.Proofs.Ythggfbpdhkpkjaa
set_option maxRecDepth 100000
open Go Go.RowKit
theorem cut_z (A : Option Addr) (n c k : Nat) (L : List UInt8) (z : Int) (hz : z = (k : Int)) (w : World) (hr : RB w A n c L) (hk : k ≤ 140737488355328) :
    Calls Try.prog 14 #[.slice A n c, .int .i64 z] w fun e w' => (e = .returned (.slice A (min n k) c) ∧ RB w A (min n k) c (L.take k)) ∧ w = w' := by
  subst hz
  exact cut_any A n c k L w hr hk
theorem rightC_of {x : Int} {R : List UInt8} (h0 : 0 ≤ x) (h1 : x ≤ 256) (h2 : R.length = 32) : rightC x R = true := by
  unfold rightC
  simp [h0, h1, h2]
end Go.Proofs.Ythggfbpdhkpkjaa
namespace Go.Proofs.Ythggfbpdhkpkjaa
set_option maxRecDepth 100000
open Go Go.RowKit
theorem app_wp {o : Oper} {a : Act} {w w' : World} {K : Act → World → Prop} {Q : Exit → Act → World → Prop} {s x : Operand} {u v r : Value} (ho : o.op = .call { callee := .builtin .append, args := #[s, x], argTypes := #[22, 22] }) (hs : a.eval s = u) (hx : a.eval x = v)
    (hrun : (Builtin.append_ #[22, 22] o.type #[u, v]).run Try.prog w = .ok r w') (h : K (a.put o.dst r) w') : o.wp Try.prog a w K Q := by
  unfold Oper.wp execOp
  simp only [ho, resolve, invoke, builtin, Sem.run_bind, Sem.run_pure, Result.andThen_ok, List.map_toArray, List.map_cons, List.map_nil, hs, hx, hrun]
  exact h
theorem bits_xor8c (x y : UInt8) : bits .xor .u8 (u8i x) (u8i y) = u8i (x ^^^ y) := bits_xor8t x y
set_option maxHeartbeats 16000000 in
theorem back10_law (D : Option Addr) (nd cd : Nat) (Ld : List UInt8) (n index size root at' : Int) (t : UInt8) (w : World) (rD : RB w D nd cd Ld) (hn0 : -9223372036854775808 ≤ n) (hn1 : n ≤ 9223372036854775807) (hi0 : -9223372036854775808 ≤ index) (hi1 : index ≤ 9223372036854775807) (hs0 : -9223372036854775808 ≤ size) (hs1 : size ≤ 9223372036854775807) (hr0 : -9223372036854775808 ≤ root) (hr1 : root ≤ 9223372036854775807) (ha0 : -9223372036854775808 ≤ at') (ha1 : at' ≤ 9223372036854775807) :
    Calls Try.prog 5 #[.int .i64 n, .int .i64 index, .int .i64 size, .int .i64 root, .int .i64 at', .int .u8 (u8i t), .slice D nd cd] w fun e w' => e = .returned (.bool true) ∧ Ext w w' := by
  go_enter Try.func5, Try.ntmps5
  have hRl := khash_length root
  have hD0 : 0 < nd → ∀ j, blk D = some j → j < w.heap.size := fun h0 j hj => rb_blk_lt rD h0 j hj
  have HD := Lib.hid hD0
  clear hD0
  have hxw := within_in size 0 256 (by omega)
  go_wp2_with fail
  refine (signed_any n index size root w hn0 hn1 hi0 hi1 hs0 hs1 hr0 hr1).mono ?_
  rintro e w1 ⟨k, hkx, hk, B1, d1, P1, v1, Q1, f1, X, cx, rfl, rR1, rP1, rQ1, rX, hEa⟩
  clear hkx
  generalize within size 0 256 = x at *
  generalize khash root = R at *
  have hc := rightC_of hxw.1 hxw.2 hRl
  generalize seedL n = S at *
  have hv := cverB_own S R x k hk hc
  have hp := putOK_own S (bodyC checkL x R) R x k hk hc
  generalize hPS : sigP S (bodyC checkL x R) k = PS at *
  generalize hQS : pathL S k = QS at *
  obtain ⟨q1, q2, q3, q4, q5, q6⟩ := dec_put hp
  have hpl := putL_len hp
  have Hv := Lib.hid hv
  clear hPS hQS hc hRl hxw hv
  have hEn := Ext.new w1 (.cells #[.int .i64 x, .slice B1 32 d1, .int .i64 (k : Int), .slice P1 64 v1, .slice Q1 4 f1] 41)
  have hB1 := Blk.new w1 41 #[.int .i64 x, .slice B1 32 d1, .int .i64 (k : Int), .slice P1 64 v1, .slice Q1 4 f1]
  replace rD := rD.ext hEa
  replace rR1 := rR1.ext hEn
  replace rP1 := rP1.ext hEn
  replace rQ1 := rQ1.ext hEn
  replace rX := rX.ext hEn
  replace rD := rD.ext hEn
  replace hEa := hEa.trans hEn
  clear hEn
  have Hp := Lib.hid hp
  have Hpl := Lib.hid hpl
  have Hq := Lib.hid (And.intro q1 (And.intro q2 (And.intro q3 (And.intro q4 (And.intro q5 q6)))))
  clear hp hpl q1 q2 q3 q4 q5 q6
  go_wp2_with fail
  generalize w1.alloc (.cells #[.int .i64 x, .slice B1 32 d1, .int .i64 (k : Int), .slice P1 64 v1, .slice Q1 4 f1] 41) = w2 at *
  generalize w1.heap.size = g1 at *
  refine (cencode_any B1 P1 Q1 32 d1 64 v1 4 f1 x (k : Int) R PS QS w2 rR1 rP1 rQ1).mono ?_
  rintro e w3 ⟨G, m, cg, rfl, own, hE⟩
  have he : errV (putOK x R (k : Int) PS QS) 12 = 0 := by rw [Hp.out]; rfl
  rw [he]
  obtain rfl : m = 2216 := own.len.symm.trans Hpl.out
  replace rR1 := rR1.ext hE
  replace rP1 := rP1.ext hE
  replace rQ1 := rQ1.ext hE
  replace rX := rX.ext hE
  replace rD := rD.ext hE
  replace hB1 := hB1.ext hE
  have hwb : w.heap.size ≤ w2.heap.size := hEa.size
  replace hEa := hEa.trans hE
  obtain ⟨q1, q2, q3, q4, q5, q6⟩ := Hq.out
  clear hE he Hq
  generalize putL x R (k : Int) PS QS = M at *
  have hdc := cdecode_any G 2216 cg M w3 own.rb (by omega)
  rw [q2, q3, q4, q5, q6] at hdc
  have Hq1 := Lib.hid q1
  clear q1 q2 q3 q4 q5 q6
  go_wp2_with fail
  refine hdc.mono ?_
  rintro e w4 ⟨hyes, _, hE⟩
  obtain ⟨B2, d2, P2, v2, Q2, f2, rfl, rR2, rP2, rQ2⟩ := hyes Hq1.out
  have hEn := Ext.new w4 (.cells #[.int .i64 x, .slice B2 32 d2, .int .i64 (k : Int), .slice P2 64 v2, .slice Q2 4 f2] 41)
  have hB2 := Blk.new w4 41 #[.int .i64 x, .slice B2 32 d2, .int .i64 (k : Int), .slice P2 64 v2, .slice Q2 4 f2]
  replace hE := hE.trans hEn
  replace rR2 := rR2.ext hEn
  replace rP2 := rP2.ext hEn
  replace rQ2 := rQ2.ext hEn
  replace rR1 := rR1.ext hE
  replace rP1 := rP1.ext hE
  replace rQ1 := rQ1.ext hE
  replace rX := rX.ext hE
  replace rD := rD.ext hE
  replace hB1 := hB1.ext hE
  replace own := own.ext hE
  have hE2 := hE
  replace hEa := hEa.trans hE
  clear hyes hdc hE hEn Hq1 Hp Hpl
  go_upto_region 4 with (fail)
  generalize w4.alloc (.cells #[.int .i64 x, .slice B2 32 d2, .int .i64 (k : Int), .slice P2 64 v2, .slice Q2 4 f2] 41) = w5 at *
  generalize w4.heap.size = g2 at *
  refine seq_ext (n := 23) (by kernel_rfl) [.is (.int .i64 ((0 : Int))), .is (.bool (false)), .is (.bool (false)), .is (.int .i64 ((0 : Int))), .is (.bool (false)), .is (.bool (false)), .is (.bool (false)), .is (.agg #[.int .i64 (x), .slice (B1) (32) (d1), .int .i64 ((k : Int)), .slice (P1) (64) (v1), .slice (Q1) (4) (f1)]), .is (.agg #[.int .i64 (x), .slice (B2) (32) (d2), .int .i64 ((k : Int)), .slice (P2) (64) (v2), .slice (Q2) (4) (f2)]), .is (.bool (true)), .is (.bool (false)), .is (.bool (false)), .is (.bool (false)), .is (.slice (X) (32) (cx)), .is (.agg #[.int .i64 (x), .slice (B2) (32) (d2), .int .i64 ((k : Int)), .slice (P2) (64) (v2), .slice (Q2) (4) (f2)]), .is (.bool (true)), .is (.bool (false)), .is (.bool (false)), .is (.bool (false)), .is (.slice (G) (2216) (cg)), .is (.int .i64 ((2216 : Nat))), .is (.bool (false)), .is (.bool (false))] rfl ⟨?_, ?_, ?_, ?_, ?_, ?_, ?_, ?_, ?_, ?_, ?_, ?_, ?_, ?_, ?_, ?_, ?_, ?_, ?_, ?_, ?_, ?_, ?_, trivial⟩ ?_
  · refine stepE rfl fun sdn sa sw sE sd sk => ?_
    have h18 : sa.eval (.tmp 18) = .int .i64 ((0 : Int)) := sk.old 18 rfl
    exact Runs.move rfl h18 ⟨Ext.refl _, rfl⟩
  · refine stepE rfl fun sdn sa sw sE sd sk => ?_
    have h39 : sa.eval (.tmp 39) = .int .i64 ((0 : Int)) := sk.fact 0 39 rfl (sd 0 rfl)
    exact Runs.bin rfl h39 rfl (by rfl) (bin_neq _ _ _ _) ⟨Ext.refl _, congrArg Value.bool (by decide)⟩
  · refine stepE rfl fun sdn sa sw sE sd sk => ?_
    have h40 : sa.eval (.tmp 40) = .bool (false) := sk.fact 1 40 rfl (sd 1 rfl)
    exact Runs.move rfl h40 ⟨Ext.refl _, rfl⟩
  · refine stepY (j := 2) (d := 41) (b := false) rfl rfl rfl (fun v w h => h) fun sdn sa sw sE sd sk => ?_
    have h20 : sa.eval (.tmp 20) = .int .i64 ((0 : Int)) := sk.old 20 rfl
    exact Runs.move rfl h20 ⟨Ext.refl _, rfl⟩
  · refine stepY (j := 2) (d := 41) (b := false) rfl rfl rfl (fun v w h => h) fun sdn sa sw sE sd sk => ?_
    have h42 : sa.eval (.tmp 42) = .int .i64 ((0 : Int)) := sk.fact 3 42 rfl (sd 3 rfl)
    exact Runs.bin rfl h42 rfl (by rfl) (bin_neq _ _ _ _) ⟨Ext.refl _, congrArg Value.bool (by decide)⟩
  · refine stepE rfl fun sdn sa sw sE sd sk => ?_
    have h41 : sa.eval (.tmp 41) = .bool (false) := sk.fact 2 41 rfl (sd 2 rfl)
    have h43 : sa.eval (.tmp 43) = .bool (false) := sk.fact 4 43 rfl (sd 4 rfl)
    exact Runs.pick rfl h41 ⟨Ext.refl _, by first | exact h43 | simpa using h43⟩
  · refine stepE rfl fun sdn sa sw sE sd sk => ?_
    have h44 : sa.eval (.tmp 44) = .bool (false) := sk.fact 5 44 rfl (sd 5 rfl)
    exact Runs.move rfl h44 ⟨Ext.refl _, rfl⟩
  · refine stepY (j := 6) (d := 45) (b := false) rfl rfl rfl (fun v w h => h) fun sdn sa sw sE sd sk => ?_
    have h15 : sa.eval (.tmp 15) = .pointer (some ⟨g1, 0, none⟩) := sk.old 15 rfl
    exact Runs.load rfl h15 (load_part (hB1.ext sE) 0 (vs := [.int .i64 (x), .slice (B1) (32) (d1), .int .i64 ((k : Int)), .slice (P1) (64) (v1), .slice (Q1) (4) (f1)]) rfl Try.underlying41 rfl (by kernel_rfl)) ⟨Ext.refl _, rfl⟩
  · refine stepY (j := 6) (d := 45) (b := false) rfl rfl rfl (fun v w h => h) fun sdn sa sw sE sd sk => ?_
    have h19 : sa.eval (.tmp 19) = .pointer (some ⟨g2, 0, none⟩) := sk.old 19 rfl
    exact Runs.load rfl h19 (load_part (hB2.ext sE) 0 (vs := [.int .i64 (x), .slice (B2) (32) (d2), .int .i64 ((k : Int)), .slice (P2) (64) (v2), .slice (Q2) (4) (f2)]) rfl Try.underlying41 rfl (by kernel_rfl)) ⟨Ext.refl _, rfl⟩
  · refine stepY (j := 6) (d := 45) (b := false) rfl rfl rfl (fun v w h => h) fun sdn sa sw sE sd sk => ?_
    have h46 : sa.eval (.tmp 46) = .agg #[.int .i64 (x), .slice (B1) (32) (d1), .int .i64 ((k : Int)), .slice (P1) (64) (v1), .slice (Q1) (4) (f1)] := sk.fact 7 46 rfl (sd 7 rfl)
    have h47 : sa.eval (.tmp 47) = .agg #[.int .i64 (x), .slice (B2) (32) (d2), .int .i64 ((k : Int)), .slice (P2) (64) (v2), .slice (Q2) (4) (f2)] := sk.fact 8 47 rfl (sd 8 rfl)
    refine Runs.call (f := 27) (vs := [.agg #[.int .i64 (x), .slice (B1) (32) (d1), .int .i64 ((k : Int)), .slice (P1) (64) (v1), .slice (Q1) (4) (f1)], .agg #[.int .i64 (x), .slice (B2) (32) (d2), .int .i64 ((k : Int)), .slice (P2) (64) (v2), .slice (Q2) (4) (f2)]]) rfl rfl rfl (by simp only [List.map_toArray, List.map_cons, List.map_nil, h46, h47] <;> rfl) (ent27 _ _) ((eq10_true _ _ _ _ _ _ _ _ _ _ _ _ _ _ _ _ _ _ _ _ _ _ _ sw (rR1.ext sE) (rP1.ext sE) (rQ1.ext sE) (rR2.ext sE) (rP2.ext sE) (rQ2.ext sE)).mono ?_); rintro e w' ⟨rfl, hx⟩; exact ⟨_, rfl, hx, rfl⟩
  · refine stepY (j := 6) (d := 45) (b := false) rfl rfl rfl (fun v w h => h) fun sdn sa sw sE sd sk => ?_
    have h48 : sa.eval (.tmp 48) = .bool (true) := sk.fact 9 48 rfl (sd 9 rfl)
    exact Runs.un rfl h48 (by rfl) ⟨Ext.refl _, rfl⟩
  · refine stepE rfl fun sdn sa sw sE sd sk => ?_
    have h45 : sa.eval (.tmp 45) = .bool (false) := sk.fact 6 45 rfl (sd 6 rfl)
    have h49 : sa.eval (.tmp 49) = .bool (false) := sk.fact 10 49 rfl (sd 10 rfl)
    exact Runs.pick rfl h45 ⟨Ext.refl _, by first | exact h49 | simpa using h49⟩
  · refine stepE rfl fun sdn sa sw sE sd sk => ?_
    have h50 : sa.eval (.tmp 50) = .bool (false) := sk.fact 11 50 rfl (sd 11 rfl)
    exact Runs.move rfl h50 ⟨Ext.refl _, rfl⟩
  · refine stepY (j := 12) (d := 51) (b := false) rfl rfl rfl (fun v w h => h) fun sdn sa sw sE sd sk => ?_
    have h16 : sa.eval (.tmp 16) = .slice (X) (32) (cx) := sk.old 16 rfl
    exact Runs.move rfl h16 ⟨Ext.refl _, rfl⟩
  · refine stepY (j := 12) (d := 51) (b := false) rfl rfl rfl (fun v w h => h) fun sdn sa sw sE sd sk => ?_
    have h19 : sa.eval (.tmp 19) = .pointer (some ⟨g2, 0, none⟩) := sk.old 19 rfl
    exact Runs.load rfl h19 (load_part (hB2.ext sE) 0 (vs := [.int .i64 (x), .slice (B2) (32) (d2), .int .i64 ((k : Int)), .slice (P2) (64) (v2), .slice (Q2) (4) (f2)]) rfl Try.underlying41 rfl (by kernel_rfl)) ⟨Ext.refl _, rfl⟩
  · refine stepY (j := 12) (d := 51) (b := false) rfl rfl rfl (fun v w h => h) fun sdn sa sw sE sd sk => ?_
    have h52 : sa.eval (.tmp 52) = .slice (X) (32) (cx) := sk.fact 13 52 rfl (sd 13 rfl)
    have h53 : sa.eval (.tmp 53) = .agg #[.int .i64 (x), .slice (B2) (32) (d2), .int .i64 ((k : Int)), .slice (P2) (64) (v2), .slice (Q2) (4) (f2)] := sk.fact 14 53 rfl (sd 14 rfl)
    refine Runs.call (f := 30) (vs := [.slice (X) (32) (cx), .agg #[.int .i64 (x), .slice (B2) (32) (d2), .int .i64 ((k : Int)), .slice (P2) (64) (v2), .slice (Q2) (4) (f2)]]) rfl rfl rfl (by simp only [List.map_toArray, List.map_cons, List.map_nil, h52, h53] <;> rfl) (ent30 _ _) ((cverify_any _ _ _ _ _ _ _ _ _ _ _ _ _ _ _ _ _ _ sw (rX.ext sE) (rR2.ext sE) (rP2.ext sE) (rQ2.ext sE)).mono ?_); rintro e w' ⟨rfl, hx⟩; exact ⟨_, rfl, hx, congrArg Value.bool (Hv.out)⟩
  · refine stepY (j := 12) (d := 51) (b := false) rfl rfl rfl (fun v w h => h) fun sdn sa sw sE sd sk => ?_
    have h54 : sa.eval (.tmp 54) = .bool (true) := sk.fact 15 54 rfl (sd 15 rfl)
    exact Runs.un rfl h54 (by rfl) ⟨Ext.refl _, rfl⟩
  · refine stepE rfl fun sdn sa sw sE sd sk => ?_
    have h51 : sa.eval (.tmp 51) = .bool (false) := sk.fact 12 51 rfl (sd 12 rfl)
    have h55 : sa.eval (.tmp 55) = .bool (false) := sk.fact 16 55 rfl (sd 16 rfl)
    exact Runs.pick rfl h51 ⟨Ext.refl _, by first | exact h55 | simpa using h55⟩
  · refine stepE rfl fun sdn sa sw sE sd sk => ?_
    have h56 : sa.eval (.tmp 56) = .bool (false) := sk.fact 17 56 rfl (sd 17 rfl)
    exact Runs.move rfl h56 ⟨Ext.refl _, rfl⟩
  · refine stepY (j := 18) (d := 57) (b := false) rfl rfl rfl (fun v w h => h) fun sdn sa sw sE sd sk => ?_
    have h17 : sa.eval (.tmp 17) = .slice (G) (2216) (cg) := sk.old 17 rfl
    exact Runs.move rfl h17 ⟨Ext.refl _, rfl⟩
  · refine stepY (j := 18) (d := 57) (b := false) rfl rfl rfl (fun v w h => h) fun sdn sa sw sE sd sk => ?_
    have h58 : sa.eval (.tmp 58) = .slice (G) (2216) (cg) := sk.fact 19 58 rfl (sd 19 rfl)
    exact Runs.len Try.underlying22 rfl h58 ⟨Ext.refl _, rfl⟩
  · refine stepY (j := 18) (d := 57) (b := false) rfl rfl rfl (fun v w h => h) fun sdn sa sw sE sd sk => ?_
    have h59 : sa.eval (.tmp 59) = .int .i64 ((2216 : Nat)) := sk.fact 20 59 rfl (sd 20 rfl)
    exact Runs.bin rfl h59 rfl (by rfl) (bin_neq _ _ _ _) ⟨Ext.refl _, congrArg Value.bool (by decide)⟩
  · refine stepE rfl fun sdn sa sw sE sd sk => ?_
    have h57 : sa.eval (.tmp 57) = .bool (false) := sk.fact 18 57 rfl (sd 18 rfl)
    have h60 : sa.eval (.tmp 60) = .bool (false) := sk.fact 21 60 rfl (sd 21 rfl)
    exact Runs.pick rfl h57 ⟨Ext.refl _, by first | exact h60 | simpa using h60⟩
  intro vals W4 hE4 hv4
  have e0 : vals 0 = .int .i64 ((0 : Int)) := hv4 0 (by omega) 39 rfl
  have e1 : vals 1 = .bool (false) := hv4 1 (by omega) 40 rfl
  have e2 : vals 2 = .bool (false) := hv4 2 (by omega) 41 rfl
  have e3 : vals 3 = .int .i64 ((0 : Int)) := hv4 3 (by omega) 42 rfl
  have e4 : vals 4 = .bool (false) := hv4 4 (by omega) 43 rfl
  have e5 : vals 5 = .bool (false) := hv4 5 (by omega) 44 rfl
  have e6 : vals 6 = .bool (false) := hv4 6 (by omega) 45 rfl
  have e7 : vals 7 = .agg #[.int .i64 (x), .slice (B1) (32) (d1), .int .i64 ((k : Int)), .slice (P1) (64) (v1), .slice (Q1) (4) (f1)] := hv4 7 (by omega) 46 rfl
  have e8 : vals 8 = .agg #[.int .i64 (x), .slice (B2) (32) (d2), .int .i64 ((k : Int)), .slice (P2) (64) (v2), .slice (Q2) (4) (f2)] := hv4 8 (by omega) 47 rfl
  have e9 : vals 9 = .bool (true) := hv4 9 (by omega) 48 rfl
  have e10 : vals 10 = .bool (false) := hv4 10 (by omega) 49 rfl
  have e11 : vals 11 = .bool (false) := hv4 11 (by omega) 50 rfl
  have e12 : vals 12 = .bool (false) := hv4 12 (by omega) 51 rfl
  have e13 : vals 13 = .slice (X) (32) (cx) := hv4 13 (by omega) 52 rfl
  have e14 : vals 14 = .agg #[.int .i64 (x), .slice (B2) (32) (d2), .int .i64 ((k : Int)), .slice (P2) (64) (v2), .slice (Q2) (4) (f2)] := hv4 14 (by omega) 53 rfl
  have e15 : vals 15 = .bool (true) := hv4 15 (by omega) 54 rfl
  have e16 : vals 16 = .bool (false) := hv4 16 (by omega) 55 rfl
  have e17 : vals 17 = .bool (false) := hv4 17 (by omega) 56 rfl
  have e18 : vals 18 = .bool (false) := hv4 18 (by omega) 57 rfl
  have e19 : vals 19 = .slice (G) (2216) (cg) := hv4 19 (by omega) 58 rfl
  have e20 : vals 20 = .int .i64 ((2216 : Nat)) := hv4 20 (by omega) 59 rfl
  have e21 : vals 21 = .bool (false) := hv4 21 (by omega) 60 rfl
  have e22 : vals 22 = .bool (false) := hv4 22 (by omega) 61 rfl
  simp only [putAll, Act.put, List.take_succ_cons, List.take_zero, List.drop_succ_cons, List.drop_zero, List.drop_nil, List.take_nil, Nat.reduceAdd, List.setIfInBounds_toArray, List.set_cons_succ, List.set_cons_zero, e0, e1, e2, e3, e4, e5, e6, e7, e8, e9, e10, e11, e12, e13, e14, e15, e16, e17, e18, e19, e20, e21, e22]
  clear hv4 e0 e1 e2 e3 e4 e5 e6 e7 e8 e9 e10 e11 e12 e13 e14 e15 e16 e17 e18 e19 e20 e21 e22
  replace own := own.ext hE4
  replace rD := rD.ext hE4
  replace hEa := hEa.trans hE4
  clear hB1 hB2 rR1 rP1 rQ1 rR2 rP2 rQ2 rX Hv hE4 hE2
  obtain ⟨ad, rfl, _⟩ := own.rb.cells (by omega)
  obtain ⟨g, rfl⟩ := own.plain
  have hwi := within_any at' 0 2215 W4 ha0 ha1 (by omega) (by omega) (by omega)
  have hwin := within_in at' 0 2215 (by omega)
  obtain ⟨p, hp⟩ : ∃ p : Nat, within at' 0 2215 = p := ⟨_, (Int.toNat_of_nonneg hwin.1).symm⟩
  rw [hp] at hwi hwin
  have hpk : p < 2216 := by have := hwin.2; omega
  have Hwi := Lib.hid hwi
  clear hwin hp hwi
  go_wp2_with fail
  refine Hwi.out.mono ?_
  rintro e w6 ⟨rfl, rfl⟩
  have y1 := own.cell hpk
  have y2 := own.frozen p
  have y3 := bits_xor8c (ub M p) t
  have hge := own.ge
  obtain ⟨own6, g6⟩ := own.set p (ub M p ^^^ t)
  have hDg : 0 < nd → blk D ≠ some g := by
    intro h0 e
    have h1 := HD.out h0 g e
    omega
  have rD6 := rD.grown g6 hDg
  have hEg := hEa.then_grown g6 (by intro j hj; cases hj; omega)
  clear own rD hEa
  go_wp2_with fail
  generalize W4.setCell ⟨g, p, none⟩ (.int .u8 (u8i (ub M p ^^^ t))) = w7 at *
  clear y1 y2 y3 g6
  generalize M.set p (ub M p ^^^ t) = M2 at *
  refine (reads10_any _ _ _ _ w7 own6.rb (by omega)).mono ?_
  rintro e w8 ⟨rfl, hE⟩
  replace rD6 := rD6.ext hE
  replace own6 := own6.ext hE
  replace hEg := hEg.trans hE
  have hcu := cut_z D nd cd 9 Ld 9 rfl w8 rD6 (by omega)
  clear hE
  go_wp2_with fail
  refine hcu.mono ?_
  rintro e w9 ⟨⟨rfl, rC⟩, rfl⟩
  clear hcu
  have hm9 : min nd 9 ≤ 9 := Nat.min_le_right _ _
  generalize min nd 9 = m9 at *
  generalize Ld.take 9 = L9 at *
  obtain ⟨A3, c3, W3, hrun, own3, g3, _⟩ := run_app 22 (own6.base hwb) rC (by omega) hEg.size
  have hE3 := (own6.base hwb).step hEg g3
  go_wp2_with fail
  refine app_wp rfl rfl rfl hrun ?_
  clear hrun
  go_wp2_with fail
  refine (reads10_any _ _ _ _ W3 own3.rb (by omega)).mono ?_
  rintro e w10 ⟨rfl, hE⟩
  go_wp2_with fail
  refine (known10_any w10).mono ?_
  rintro e w11 ⟨rfl, hE11⟩
  go_wp2_with fail
  go_ret
  exact ⟨rfl, (hE3.trans hE).trans hE11⟩
end Go.Proofs.Ythggfbpdhkpkjaa
namespace Go.Proofs.Ythggfbpdhkpkjaa
set_option maxRecDepth 100000
open Go Go.RowKit
theorem wf_i64 {n : Int} (h : (Lit.int .i64 n).wf = true) : -9223372036854775808 ≤ n ∧ n ≤ 9223372036854775807 := by
  simp only [Lit.wf, Bool.and_eq_true, decide_eq_true_eq] at h
  have e1 : IntKind.i64.min = -9223372036854775808 := by rfl
  have e2 : IntKind.i64.max = 9223372036854775807 := by rfl
  rw [e1, e2] at h
  exact h
theorem wf_u8 {n : Int} (h : (Lit.int .u8 n).wf = true) : u8i (UInt8.ofNat n.toNat) = n := by
  simp only [Lit.wf, Bool.and_eq_true, decide_eq_true_eq] at h
  have e1 : IntKind.u8.min = 0 := by rfl
  have e2 : IntKind.u8.max = 255 := by rfl
  rw [e1, e2] at h
  unfold u8i
  rw [UInt8.toNat_ofNat']
  omega
/-- a row of numbers that came in, as bytes that are read -/
theorem rb_of_row {w : World} {a : Option Addr} {len cap : Nat} {zs : List Int}
    (h : (a = none ∧ len = 0 ∧ cap = 0 ∧ zs = []) ∨ ∃ x, a = some x ∧ len ≤ cap ∧ cap ≤ maxLen ∧ zs.length = cap ∧ (∀ i, i < zs.length → w.cell? (x.add i) = some (.int .u8 (zs.getD i 0))) ∧ ∀ n ∈ zs, (Lit.int .u8 n).wf = true) :
    RB w a len cap ((zs.take len).map fun z => UInt8.ofNat z.toNat) := by
  rcases h with ⟨rfl, rfl, rfl, rfl⟩ | ⟨x, rfl, h1, h2, h3, h4, h5⟩
  · exact RB.nil_ w
  · refine ⟨by simp; omega, h1, h2, fun _ => ⟨x, rfl, fun j hj => ?_⟩⟩
    rw [h4 j (by omega)]
    have hj3 : j < zs.length := by omega
    have e : zs.getD j 0 = zs[j] := by simp [hj3]
    have e2 : ub ((zs.take len).map fun z => UInt8.ofNat z.toNat) j = UInt8.ofNat (zs[j]).toNat := by simp [ub, hj3, hj]
    rw [e, e2, wf_u8 (h5 _ (List.getElem_mem hj3))]
end Go.Proofs.Ythggfbpdhkpkjaa
namespace Go.Proofs.Ythggfbpdhkpkjaa
set_option maxRecDepth 100000
open Go Go.RowKit Go.ChangeShapes Go.WideShapes
variable {H : Type} {enc : TypeId × Value → H} {w : World} {base : Nat} {held : Bool}
theorem row_arg {fuel : Nat} {cs : List Value} {x : DataW H × List MemPlace} (h : DataW.trod enc Try.prog w base (fun _ => true) held fuel 22 cs = some x) :
    ∃ (A : Option Addr) (n c : Nat) (L : List UInt8), cs = [.slice A n c] ∧ RB w A n c L := by
  rcases open_ints Try.underlying22 Try.underlying5 (by kernel_rfl) h with ⟨hcs, _⟩ | ⟨x, l, c, zs, hcs, _, hl, hm, hz, _, hcell, hwz⟩
  · exact ⟨none, 0, 0, [], hcs, RB.nil_ w⟩
  · exact ⟨some x, l, c, _, hcs, rb_of_row (.inr ⟨x, rfl, hl, hm, by simpa using hz, hcell, hwz⟩)⟩
end Go.Proofs.Ythggfbpdhkpkjaa

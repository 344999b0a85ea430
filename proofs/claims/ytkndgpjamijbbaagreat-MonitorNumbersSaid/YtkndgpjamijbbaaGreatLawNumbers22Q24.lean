/-
  manifest.Decode, walked. The reference's Encode and Same of manifests, walked.
-/
import Derived.Test.YtkndgpjamijbbaaGreatLawNumbers22Q23
namespace Go.Proofs.YtkndgpjamijbbaaGreat
set_option maxRecDepth 100000
open Go Go.RowKit
def MP.man (q : Nat) (m : Man) : MP Ext := ⟨fun u w => ∃ F nf cf N nn cn, u = manV m F nf cf N nn cn ∧ RB w F nf cf m.fw ∧ RB w N nn cn m.notes ∧ (0 < nf → blk F ≠ some q) ∧ (0 < nn → blk N ≠ some q),
  fun _ _ _ e ⟨F, nf, cf, N, nn, cn, h1, h2, h3, h4, h5⟩ => ⟨F, nf, cf, N, nn, cn, h1, h2.ext e, h3.ext e, h4, h5⟩⟩
theorem staysq_man (q : Nat) (m : Man) : StaysQ q (MP.man q m) := by
  rintro u w w' g ⟨F, nf, cf, N, nn, cn, h1, h2, h3, h4, h5⟩
  exact ⟨F, nf, cf, N, nn, cn, h1, h2.grown g h4, h3.grown g h5, h4, h5⟩
theorem RB.apart {w : World} {A : Option Addr} {n c : Nat} {L : List UInt8} (h : RB w A n c L) {g : Nat} {t : TypeId} {cs : Array Value} (hb : Blk w g t cs) (hno : ∀ (i : Nat) (x : Int), cs[i]? ≠ some (.int .u8 x)) : 0 < n → blk A ≠ some g := by
  intro hn e
  obtain ⟨ad, rfl, hc⟩ := h.cells hn
  have h1 := hc 0 hn
  have h2 : ad.block = g := by simpa [blk] using e
  unfold World.cell? at h1
  have h3 : (ad.add 0).block = ad.block := rfl
  rw [h3, h2, show w.heap[g]? = _ from hb] at h1
  by_cases hs : (ad.add 0).spot.isSome = true
  · simp [hs] at h1
  · simp only [hs] at h1
    exact hno _ _ h1
theorem man_no (s : ByteArray) (x : Int) (F : Option Addr) (nf cf : Nat) (N : Option Addr) (nn cn : Nat) (i : Nat) (y : Int) : (#[.string s, .int .u32 x, .slice F nf cf, .slice N nn cn] : Array Value)[i]? ≠ some (.int .u8 y) := by
  rcases i with _ | _ | _ | _ | i <;> simp
theorem set4 {w : World} {g : Nat} {t : TypeId} {a0 a1 a2 a3 : Value} (h : Blk w g t #[a0, a1, a2, a3]) (b0 b1 b2 b3 : Value) :
    Blk ((((w.setCell ⟨g, 0, none⟩ b0).setCell ⟨g, 1, none⟩ b1).setCell ⟨g, 2, none⟩ b2).setCell ⟨g, 3, none⟩ b3) g t #[b0, b1, b2, b3] ∧ w.grownBy ((((w.setCell ⟨g, 0, none⟩ b0).setCell ⟨g, 1, none⟩ b1).setCell ⟨g, 2, none⟩ b2).setCell ⟨g, 3, none⟩ b3) (some g) :=
  ⟨(((h.set 0 b0).set 1 b1).set 2 b2).set 3 b3, (((grownBy_setCell w ⟨g, 0, none⟩ _).trans (grownBy_setCell _ ⟨g, 1, none⟩ _)).trans (grownBy_setCell _ ⟨g, 2, none⟩ _)).trans (grownBy_setCell _ ⟨g, 3, none⟩ _)⟩
theorem results_ct {P : Program} {fn : Func} {p u : Tmp} {ty : TypeId} (h : fn.results = #[.cell p ty, .tmp u]) (tmps : Array Value) (w : World) (g : Nat) (t : TypeId) (cs : Array Value) (d : TypeDesc)
    (hp : tmps.getD p undef = .pointer (some ⟨g, 0, none⟩)) (hg : Blk w g t cs) (hu : P.underlying ty = some d) (hd : (match d with | .struct _ | .array _ _ => true | _ => false) = true) (hi : (P.info? ty).map (·.size) = some cs.size) :
    (results fn tmps).run P w = .ok (.tuple #[.agg cs, tmps.getD u undef]) w := by
  have hp' : tmps[p]?.getD undef = .pointer (some ⟨g, 0, none⟩) := by simpa using hp
  simp [results, h, hp', asAddr, run_loadVar_row w g t ty cs (0, 0) d hg hu hd hi]
def decT (t1 t2 t3 t4 t5 : List UInt8 × Bool) : Nat → List UInt8 × Bool
  | 0 => t1
  | 1 => t2
  | 2 => t3
  | 3 => t4
  | _ => t5
def decS (b q : Nat) (T : Nat → List UInt8 × Bool) (k : Nat) (w : World) : Prop := RdrS w b q (T k).1 (T k).2
set_option maxHeartbeats 4000000 in
theorem mdec_any (A : Option Addr) (n c : Nat) (b : List UInt8) (w : World) (hr : RB w A n c b) (hn : n ≤ 140737488355328) :
    Calls Tryz.prog 50 #[.slice A n c] w fun e w' =>
      (decOK b = true → ∃ F nf cf N nn cn, e = .returned (.tuple #[manV (readM b).man F nf cf N nn cn, .int .i64 0]) ∧ RB w' F nf cf (readM b).man.fw ∧ RB w' N nn cn (readM b).man.notes) ∧
      (decOK b = false → e = .returned (.tuple #[.agg #[.string ⟨#[]⟩, .int .u32 0, .slice none 0 0, .slice none 0 0], .int .i64 12])) ∧ Ext w w' := by
  go_enter Tryz.func50, Tryz.ntmps50
  go_wp2_with fail
  obtain ⟨wI, hwI⟩ : ∃ wI, wI = w.alloc (.cells #[.string ⟨#[]⟩, .int .u32 0, .slice none 0 0, .slice none 0 0] 58) := ⟨_, rfl⟩
  have hB0 : Blk wI w.heap.size 58 #[.string ⟨#[]⟩, .int .u32 0, .slice none 0 0, .slice none 0 0] := by rw [hwI]; exact Blk.new w _ _
  have hEw : Ext w wI := by rw [hwI]; exact Ext.new w _
  rw [← hwI]
  clear hwI
  refine (rread_any A n c b wI (hr.ext hEw) hn).mono ?_
  rintro e w1 ⟨q, rfl, hR1, hE1⟩
  have hqI : wI.heap.size ≤ q := by obtain ⟨_, _, _, _, h⟩ := hR1; exact h.base
  go_wp2_with fail
  obtain ⟨t1, ht1⟩ : ∃ t1, t1 = rtake b false 1 := ⟨_, rfl⟩
  obtain ⟨t2, ht2⟩ : ∃ t2, t2 = rbytes t1.2.1 t1.2.2 20 := ⟨_, rfl⟩
  obtain ⟨t3, ht3⟩ : ∃ t3, t3 = rtake t2.2.1 t2.2.2 4 := ⟨_, rfl⟩
  obtain ⟨t4, ht4⟩ : ∃ t4, t4 = rtake t3.2.1 t3.2.2 32 := ⟨_, rfl⟩
  obtain ⟨t5, ht5⟩ : ∃ t5, t5 = rbytes t4.2.1 t4.2.2 64 := ⟨_, rfl⟩
  have hread : readM b = { first := (beNum t1.1).toUInt8, man := ⟨t2.1, beNum t3.1, t4.1, t5.1⟩, left := t5.2.1, bad := t5.2.2 } := by rw [ht5, ht4, ht3, ht2, ht1]; rfl
  have Hread := Lib.hid hread
  clear hread
  refine (rbyte_any w1 wI.heap.size q b false hR1).mono ?_
  rintro e w0 ⟨rfl, hR0, hG0⟩
  rw [← ht1] at hR0 ⊢
  have hEI : Ext wI w0 := hE1.then_grown hG0 (by intro k hk; cases hk; exact hqI)
  have hq0 : q < w0.heap.size := by obtain ⟨_, _, _, _, h⟩ := hR0; exact h.blk.lt
  have Ht2 := Lib.hid ht2
  have Ht3 := Lib.hid ht3
  have Ht4 := Lib.hid ht4
  have Ht5 := Lib.hid ht5
  clear ht1 ht2 ht3 ht4 ht5 hR1 hG0
  go_upto_region 3 with (fail)
  have hS0 : decS wI.heap.size q (decT t1.2 t2.2 t3.2 t4.2 t5.2) 0 w0.drew := RdrS.later hR0 (Ext.refl w0).drew
  have hSx : ∀ k w w', Ext w w' → decS wI.heap.size q (decT t1.2 t2.2 t3.2 t4.2 t5.2) k w → decS wI.heap.size q (decT t1.2 t2.2 t3.2 t4.2 t5.2) k w' := fun k w w' e h => RdrS.later h e
  have hStay : StaysQL q [.is (.pointer (some ⟨q, 0, none⟩)), .rbn (q) (t2.1), .is (.string (str (t2.1))), .is (.pointer (some ⟨q, 0, none⟩)), .is (.int .u32 (u32i (beNum t3.1))), .is (.pointer (some ⟨q, 0, none⟩)), .rbn (q) (t4.1), .is (.pointer (some ⟨q, 0, none⟩)), .rbn (q) (t5.1), .man q ⟨t2.1, beNum t3.1, t4.1, t5.1⟩, .blkn q 58 #[.string ⟨#[]⟩, .int .u32 0, .slice none 0 0, .slice none 0 0] w0.heap.size] := ⟨staysq_is _ _, staysq_rbn _ _, staysq_is _ _, staysq_is _ _, staysq_is _ _, staysq_is _ _, staysq_rbn _ _, staysq_is _ _, staysq_rbn _ _, staysq_man _ _, staysq_blkn _ _ _ _, trivial⟩
  refine par_chain (n := 11) (q := q) [1, 4, 6, 8] (decS wI.heap.size q (decT t1.2 t2.2 t3.2 t4.2 t5.2)) hEI hS0 (by kernel_rfl) [.is (.pointer (some ⟨q, 0, none⟩)), .rbn (q) (t2.1), .is (.string (str (t2.1))), .is (.pointer (some ⟨q, 0, none⟩)), .is (.int .u32 (u32i (beNum t3.1))), .is (.pointer (some ⟨q, 0, none⟩)), .rbn (q) (t4.1), .is (.pointer (some ⟨q, 0, none⟩)), .rbn (q) (t5.1), .man q ⟨t2.1, beNum t3.1, t4.1, t5.1⟩, .blkn q 58 #[.string ⟨#[]⟩, .int .u32 0, .slice none 0 0, .slice none 0 0] w0.heap.size] rfl rfl ⟨?_, ?_, ?_, ?_, ?_, ?_, ?_, ?_, ?_, ?_, ?_, trivial⟩ ?_
  · refine stepEC rfl rfl hSx fun sdn sa sw sG sE sd sk => ?_
    have h4 : sa.eval (.tmp 4) = .pointer (some ⟨q, 0, none⟩) := sk.old 4 rfl
    exact Runs.move rfl h4 ⟨Ext.refl _, rfl⟩
  · refine stepCC (j := 0) rfl rfl (by decide) (.inl rfl) hStay hqI fun sdn sa sw sG sE sS sd sk => ?_
    have h11 : sa.eval (.tmp 11) = .pointer (some ⟨q, 0, none⟩) := sk.fact 0 11 rfl (sd 0 rfl)
    have hcon := rbytes_any sw wI.heap.size q t1.2.1 t1.2.2 20 sS (by omega) (by omega)
    rw [← Ht2.out] at hcon
    refine Runs.call (f := 73) (vs := [.pointer (some ⟨q, 0, none⟩), .int .i64 (20 : Int)]) rfl rfl rfl (by simp only [List.map_toArray, List.map_cons, List.map_nil, h11] <;> rfl) (ent73 _ _) (hcon.mono ?_); rintro e w' ⟨⟨B, m, d, rfl, own⟩, h3, h4⟩; exact ⟨_, rfl, h4, h3, B, m, d, rfl, own.rb, fun hm e => by have := (own.lt e).1; have := sG.size; omega⟩
  · refine stepEC rfl rfl hSx fun sdn sa sw sG sE sd sk => ?_
    obtain ⟨A12, n12, c12, h12, r12, q12⟩ := sk.fact 1 12 rfl (sd 1 rfl)
    exact Runs.conv rfl h12 (run_str r12) ⟨Ext.refl _, rfl⟩
  · refine stepEC rfl rfl hSx fun sdn sa sw sG sE sd sk => ?_
    have h4 : sa.eval (.tmp 4) = .pointer (some ⟨q, 0, none⟩) := sk.old 4 rfl
    exact Runs.move rfl h4 ⟨Ext.refl _, rfl⟩
  · refine stepCC (j := 1) rfl rfl (by decide) (.inr ⟨1, rfl, rfl⟩) hStay hqI fun sdn sa sw sG sE sS sd sk => ?_
    have h14 : sa.eval (.tmp 14) = .pointer (some ⟨q, 0, none⟩) := sk.fact 3 14 rfl (sd 3 rfl)
    have hcon := rnum_any sw wI.heap.size q t2.2.1 t2.2.2 sS
    rw [← Ht3.out] at hcon
    refine Runs.call (f := 74) (vs := [.pointer (some ⟨q, 0, none⟩)]) rfl rfl rfl (by simp only [List.map_toArray, List.map_cons, List.map_nil, h14] <;> rfl) (ent74 _ _) (hcon.mono ?_); rintro e w' ⟨rfl, h3, h4⟩; exact ⟨_, rfl, h4, h3, rfl⟩
  · refine stepEC rfl rfl hSx fun sdn sa sw sG sE sd sk => ?_
    have h4 : sa.eval (.tmp 4) = .pointer (some ⟨q, 0, none⟩) := sk.old 4 rfl
    exact Runs.move rfl h4 ⟨Ext.refl _, rfl⟩
  · refine stepCC (j := 2) rfl rfl (by decide) (.inr ⟨4, rfl, rfl⟩) hStay hqI fun sdn sa sw sG sE sS sd sk => ?_
    have h16 : sa.eval (.tmp 16) = .pointer (some ⟨q, 0, none⟩) := sk.fact 5 16 rfl (sd 5 rfl)
    have hcon := rraw_any sw wI.heap.size q t3.2.1 t3.2.2 32 sS (by omega) (by omega)
    rw [← Ht4.out] at hcon
    refine Runs.call (f := 75) (vs := [.pointer (some ⟨q, 0, none⟩), .int .i64 (32 : Int)]) rfl rfl rfl (by simp only [List.map_toArray, List.map_cons, List.map_nil, h16] <;> rfl) (ent75 _ _) (hcon.mono ?_); rintro e w' ⟨⟨B, m, d, rfl, own⟩, h3, h4⟩; exact ⟨_, rfl, h4, h3, B, m, d, rfl, own.rb, fun hm e => by have := (own.lt e).1; have := sG.size; omega⟩
  · refine stepEC rfl rfl hSx fun sdn sa sw sG sE sd sk => ?_
    have h4 : sa.eval (.tmp 4) = .pointer (some ⟨q, 0, none⟩) := sk.old 4 rfl
    exact Runs.move rfl h4 ⟨Ext.refl _, rfl⟩
  · refine stepCC (j := 3) rfl rfl (by decide) (.inr ⟨6, rfl, rfl⟩) hStay hqI fun sdn sa sw sG sE sS sd sk => ?_
    have h18 : sa.eval (.tmp 18) = .pointer (some ⟨q, 0, none⟩) := sk.fact 7 18 rfl (sd 7 rfl)
    have hcon := rbytes_any sw wI.heap.size q t4.2.1 t4.2.2 64 sS (by omega) (by omega)
    rw [← Ht5.out] at hcon
    refine Runs.call (f := 73) (vs := [.pointer (some ⟨q, 0, none⟩), .int .i64 (64 : Int)]) rfl rfl rfl (by simp only [List.map_toArray, List.map_cons, List.map_nil, h18] <;> rfl) (ent73 _ _) (hcon.mono ?_); rintro e w' ⟨⟨B, m, d, rfl, own⟩, h3, h4⟩; exact ⟨_, rfl, h4, h3, B, m, d, rfl, own.rb, fun hm e => by have := (own.lt e).1; have := sG.size; omega⟩
  · refine stepEC rfl rfl hSx fun sdn sa sw sG sE sd sk => ?_
    have h13 : sa.eval (.tmp 13) = .string (str (t2.1)) := sk.fact 2 13 rfl (sd 2 rfl)
    have h15 : sa.eval (.tmp 15) = .int .u32 (u32i (beNum t3.1)) := sk.fact 4 15 rfl (sd 4 rfl)
    obtain ⟨A17, n17, c17, h17, r17, q17⟩ := sk.fact 6 17 rfl (sd 6 rfl)
    obtain ⟨A19, n19, c19, h19, r19, q19⟩ := sk.fact 8 19 rfl (sd 8 rfl)
    refine Runs.of_run (r := manV ⟨t2.1, beNum t3.1, t4.1, t5.1⟩ A17 n17 c17 A19 n19 c19) (w' := sw) ?_ ⟨Ext.refl _, _, _, _, _, _, _, rfl, r17, r19, q17, q19⟩
    unfold execOp manV
    simp only [List.map_toArray, List.map_cons, List.map_nil, h13, h15, h17, h19]
    go_simp
  · refine stepEC rfl rfl hSx fun sdn sa sw sG sE sd sk => ?_
    refine Runs.of_run (r := .pointer (some ⟨sw.heap.size, 0, none⟩)) (w' := sw.alloc (.cells #[.string ⟨#[]⟩, .int .u32 0, .slice none 0 0, .slice none 0 0] 58)) ?_ ⟨Ext.new _ _, _, rfl, Blk.new _ _ _, (by have := sG.size; omega), (by have := sG.size; omega)⟩
    unfold execOp
    go_simp
  intro vals W1 hG hE hS hv
  have e0 : vals 0 = .pointer (some ⟨q, 0, none⟩) := hv 0 (by omega) 11 rfl
  obtain ⟨A12, n12, c12, e1, r12, q12⟩ := hv 1 (by omega) 12 rfl
  have e2 : vals 2 = .string (str (t2.1)) := hv 2 (by omega) 13 rfl
  have e3 : vals 3 = .pointer (some ⟨q, 0, none⟩) := hv 3 (by omega) 14 rfl
  have e4 : vals 4 = .int .u32 (u32i (beNum t3.1)) := hv 4 (by omega) 15 rfl
  have e5 : vals 5 = .pointer (some ⟨q, 0, none⟩) := hv 5 (by omega) 16 rfl
  obtain ⟨A17, n17, c17, e6, r17, q17⟩ := hv 6 (by omega) 17 rfl
  have e7 : vals 7 = .pointer (some ⟨q, 0, none⟩) := hv 7 (by omega) 18 rfl
  obtain ⟨A19, n19, c19, e8, r19, q19⟩ := hv 8 (by omega) 19 rfl
  obtain ⟨F20, f20, g20, N20, n20, k20, e9, r20, u20, x20, y20⟩ := hv 9 (by omega) 20 rfl
  obtain ⟨b6, e10, r6, q6, x6⟩ := hv 10 (by omega) 6 rfl
  simp only [putAll, Act.put, List.take_succ_cons, List.take_zero, List.drop_succ_cons, List.drop_zero, List.drop_nil, List.take_nil, Nat.reduceAdd, List.setIfInBounds_toArray, List.set_cons_succ, List.set_cons_zero, e0, e1, e2, e3, e4, e5, e6, e7, e8, e9, e10]
  clear hv e0 e1 e2 e3 e4 e5 e6 e7 e8 e9 e10
  have hS' : RdrS W1 wI.heap.size q t5.2.1 t5.2.2 := hS
  have hEw1 : Ext w W1 := hEw.trans hE
  have hb2 := hB0.ext hE
  have z0 := r6.frozen 0
  have z1 := r6.frozen 1
  have z2 := r6.frozen 2
  have z3 := r6.frozen 3
  have y0 := r6.cell (i := 0) rfl
  have y1 := r6.cell (i := 1) rfl
  have y2 := r6.cell (i := 2) rfl
  have y3 := r6.cell (i := 3) rfl
  have y4 := hb2.cell (i := 0) rfl
  have y5 := hb2.cell (i := 1) rfl
  have y6 := hb2.cell (i := 2) rfl
  have y7 := hb2.cell (i := 3) rfl
  have z4 := hb2.frozen 0
  have z5 := hb2.frozen 1
  have z6 := hb2.frozen 2
  have z7 := hb2.frozen 3
  have hwI : w.heap.size < wI.heap.size := hB0.lt
  have hne : b6 ≠ w.heap.size := by have := hEI.size; omega
  clear hS hStay hS0 hSx hR0
  by_cases hf : (beNum t1.1).toUInt8 = 77
  · have d1 : (u8i ((beNum t1.1).toUInt8) != 77) = false := by rw [hf]; rfl
    have Hf := Lib.hid hf
    clear hf
    unfold manV
    go_wp2_with fail
    obtain ⟨s1, s2⟩ := set4 r6 (.string (str t2.1)) (.int .u32 (u32i (beNum t3.1))) (.slice F20 f20 g20) (.slice N20 n20 k20)
    generalize World.setCell _ _ _ = W2 at s1 s2 ⊢
    obtain ⟨A9, n9, c9, hn9, hR9⟩ := hS'
    have hbq := hR9.blk.grown s2 (by intro e; cases e; exact q6 rfl)
    have hl9 := hR9.rb.len
    have hF2 := r20.grown s2 (r20.apart r6 (man_no _ _ _ _ _ _ _ _))
    have hN2 := u20.grown s2 (u20.apart r6 (man_no _ _ _ _ _ _ _ _))
    have hnm : t2.1.length ≤ 9223372036854775807 := by have h1 := r12.len; have h2 := r12.room; have h3 := r12.cap; unfold maxLen at h3; omega
    have hEw2 : Ext w W2 := hEw1.then_grown s2 (by intro k hk; cases hk; omega)
    have hb3 := hb2.grown s2 (by intro e; cases e; exact hne rfl)
    clear hR9 hb2 r12 r17 r19 q17 q19 q12 x20 y20 y0 y1 y2 y3 y4 y5 y6 y7 z0 z1 z2 z3 z4 z5 z6 z7 s2 r6 x6 hG hE hEI hq0 hE1 hEw hB0 hEw1
    have y0 := s1.cell (i := 0) rfl
    have y1 := s1.cell (i := 1) rfl
    have y2 := s1.cell (i := 2) rfl
    have y3 := s1.cell (i := 3) rfl
    refine (rend_blk W2 q A9 n9 c9 _ _ hbq hl9 hn9).mono ?_
    rintro e w' ⟨rfl, rfl⟩
    cases hx : (!t5.2.2 && t5.2.1.isEmpty) with
    | false =>
      have y4 := hb3.cell (i := 0) rfl
      have y5 := hb3.cell (i := 1) rfl
      have y6 := hb3.cell (i := 2) rfl
      have y7 := hb3.cell (i := 3) rfl
      have z4 := hb3.frozen 0
      have z5 := hb3.frozen 1
      have z6 := hb3.frozen 2
      have z7 := hb3.frozen 3
      go_wp2_with fail
      have hno : decOK b = false := by unfold decOK; rw [Hread.out]; simp only [hx]; simp
      obtain ⟨s3, s4⟩ := set4 hb3 (.string ⟨#[]⟩) (.int .u32 0) (.slice none 0 0) (.slice none 0 0)
      refine bodyPost_ret (results_ct rfl _ _ w.heap.size _ _ _ rfl s3 Tryz.underlying58 rfl rfl) rfl ?_
      exact ⟨fun h => by rw [hno] at h; exact absurd h (by simp), fun _ => rfl, hEw2.then_grown s4 (by intro k hk; cases hk; exact Nat.le_refl _)⟩
    | true =>
      go_wp2_with fail
      refine (right_any ⟨t2.1, beNum t3.1, t4.1, t5.1⟩ F20 N20 f20 g20 n20 k20 W2 hnm hF2.len hN2.len).mono ?_
      rintro e w3 ⟨rfl, hE3⟩
      have hb4 := hb3.ext hE3
      have s5 := s1.ext hE3
      have y0 := s5.cell (i := 0) rfl
      have y1 := s5.cell (i := 1) rfl
      have y2 := s5.cell (i := 2) rfl
      have y3 := s5.cell (i := 3) rfl
      have y4 := hb4.cell (i := 0) rfl
      have y5 := hb4.cell (i := 1) rfl
      have y6 := hb4.cell (i := 2) rfl
      have y7 := hb4.cell (i := 3) rfl
      have z4 := hb4.frozen 0
      have z5 := hb4.frozen 1
      have z6 := hb4.frozen 2
      have z7 := hb4.frozen 3
      cases hr : rightM ⟨t2.1, beNum t3.1, t4.1, t5.1⟩ with
      | false =>
        go_wp2_with fail
        have hno : decOK b = false := by unfold decOK; rw [Hread.out]; simp only [hr]; simp
        obtain ⟨s3, s4⟩ := set4 hb4 (.string ⟨#[]⟩) (.int .u32 0) (.slice none 0 0) (.slice none 0 0)
        refine bodyPost_ret (results_ct rfl _ _ w.heap.size _ _ _ rfl s3 Tryz.underlying58 rfl rfl) rfl ?_
        exact ⟨fun h => by rw [hno] at h; exact absurd h (by simp), fun _ => rfl, (hEw2.trans hE3).then_grown s4 (by intro k hk; cases hk; exact Nat.le_refl _)⟩
      | true =>
        go_wp2_with fail
        have hok : decOK b = true := by unfold decOK; rw [Hread.out]; simp only [hr, hx, Hf.out]; rfl
        obtain ⟨s3, s4⟩ := set4 hb4 (.string (str t2.1)) (.int .u32 (u32i (beNum t3.1))) (.slice F20 f20 g20) (.slice N20 n20 k20)
        have hF4 := (hF2.ext hE3).grown s4 ((hF2.ext hE3).apart hb4 (man_no _ _ _ _ _ _ _ _))
        have hN4 := (hN2.ext hE3).grown s4 ((hN2.ext hE3).apart hb4 (man_no _ _ _ _ _ _ _ _))
        refine bodyPost_ret (results_ct rfl _ _ w.heap.size _ _ _ rfl s3 Tryz.underlying58 rfl rfl) rfl ?_
        refine ⟨fun _ => ⟨F20, f20, g20, N20, n20, k20, ?_, ?_, ?_⟩, fun h => by rw [hok] at h; exact absurd h (by simp), (hEw2.trans hE3).then_grown s4 (by intro k hk; cases hk; exact Nat.le_refl _)⟩
        · rw [Hread.out]; rfl
        · rw [Hread.out]; exact hF4
        · rw [Hread.out]; exact hN4
  · have d1 : (u8i ((beNum t1.1).toUInt8) != 77) = true := by rw [bne_iff_ne]; intro h; exact hf (u8i_inj h)
    have Hf := Lib.hid hf
    clear hf
    unfold manV
    go_wp2_with fail
    have hno : decOK b = false := by unfold decOK; rw [Hread.out]; simp [Hf.out]
    obtain ⟨s1, s2⟩ := set4 r6 (.string (str t2.1)) (.int .u32 (u32i (beNum t3.1))) (.slice F20 f20 g20) (.slice N20 n20 k20)
    obtain ⟨s3, s4⟩ := set4 (hb2.grown s2 (by intro e; cases e; exact hne rfl)) (.string ⟨#[]⟩) (.int .u32 0) (.slice none 0 0) (.slice none 0 0)
    refine bodyPost_ret (results_ct rfl _ _ w.heap.size _ _ _ rfl s3 Tryz.underlying58 rfl rfl) rfl ?_
    exact ⟨fun h => by rw [hno] at h; exact absurd h (by simp), fun _ => rfl, (hEw1.then_grown s2 (by intro k hk; cases hk; omega)).then_grown s4 (by intro k hk; cases hk; exact Nat.le_refl _)⟩
end Go.Proofs.YtkndgpjamijbbaaGreat
namespace Go.Proofs.YtkndgpjamijbbaaGreat
set_option maxRecDepth 100000
open Go Go.RowKit
/-- a full byte slice that reads as L -/
def MP.full (L : List UInt8) : MP Ext := ⟨fun u w => ∃ A, u = .slice (some A) 1 1 ∧ RB w (some A) 1 1 L, fun _ _ _ e ⟨A, h1, h2⟩ => ⟨A, h1, h2.ext e⟩⟩
theorem Runs.conv1 {P : Program} {o : Oper} {ρ : Operand → Value} {w w' : World} {G : Value → World → Prop} {s t : TypeId} {x : Operand} {u r : Value} (ho : o.op = .convert s t x) (hx : ρ x = u) (hr : (convert s t u).run P w = .ok r w') (h : G r w') : Runs P o ρ w G := by
  refine Runs.of_run (r := r) (w' := w') ?_ h
  unfold execOp
  simp only [ho, hx, Sem.run_bind, hr, Result.andThen_ok, Sem.run_pure]
set_option maxHeartbeats 2000000 in
theorem renc_any (m : Man) (F N : Option Addr) (nf cf nn cn : Nat) (w : World) (hF : RB w F nf cf m.fw) (hN : RB w N nn cn m.notes) (hs : m.name.length ≤ 60000) (hnf : nf ≤ 60000) (hnn : nn ≤ 60000) :
    Calls Tryz.prog 53 #[manV m F nf cf N nn cn] w fun e w' => ∃ A' k c', e = .returned (.slice A' k c') ∧ OB w' w.heap.size A' k c' (encM m) ∧ Ext w w' := by
  unfold manV
  go_enter Tryz.func53, Tryz.ntmps53
  go_upto_region 1 with (fail)
  obtain ⟨w0, hw0⟩ : ∃ w0, w0 = w.alloc (.cells #[.string (str m.name), .int .u32 (u32i m.ver), .slice F nf cf, .slice N nn cn] 58) := ⟨_, rfl⟩
  have hB : Blk w0 w.heap.size 58 #[.string (str m.name), .int .u32 (u32i m.ver), .slice F nf cf, .slice N nn cn] := by rw [hw0]; exact Blk.new w _ _
  have hE0 : Ext w w0 := by rw [hw0]; exact Ext.new w _
  rw [← hw0]
  clear hw0
  have hlt0 : w.heap.size < w0.heap.size := hB.lt
  refine par_ext (n := 7) (by kernel_rfl) [.full ([77]), .is (.pointer (some ⟨w.heap.size, 0, none⟩)), .is (.string (str (m.name))), .rb (m.name), .ob (w0.heap.size) ([77] ++ (be2 m.name.length ++ m.name)), .is (.pointer (some ⟨w.heap.size, 1, none⟩)), .is (.int .u32 (u32i (m.ver)))] rfl ⟨?_, ?_, ?_, ?_, ?_, ?_, ?_, trivial⟩ ?_
  · refine stepE rfl fun sdn sa sw sE sd sk => ?_
    exact Runs.lit1 rfl rfl (fun w1 e1 o1 => ⟨e1, _, rfl, o1.rb⟩)
  · refine stepE rfl fun sdn sa sw sE sd sk => ?_
    have h1 : sa.eval (.tmp 1) = .pointer (some ⟨w.heap.size, 0, none⟩) := sk.old 1 rfl
    refine Runs.of_run (r := .pointer (some ⟨w.heap.size, 0, none⟩)) (w' := sw) ?_ ⟨Ext.refl _, rfl⟩
    unfold execOp
    simp only [h1]
    go_simp
  · refine stepE rfl fun sdn sa sw sE sd sk => ?_
    have h5 : sa.eval (.tmp 5) = .pointer (some ⟨w.heap.size, 0, none⟩) := sk.fact 1 5 rfl (sd 1 rfl)
    exact Runs.load rfl h5 (run_load1 Tryz.underlying9 rfl ((hB.ext sE).cell (i := 0) rfl)) ⟨Ext.refl _, rfl⟩
  · refine stepE rfl fun sdn sa sw sE sd sk => ?_
    have h6 : sa.eval (.tmp 6) = .string (str (m.name)) := sk.fact 2 6 rfl (sd 2 rfl)
    obtain ⟨c9, w9, hr9, h91, h92, _⟩ := run_conv_bytes sw m.name (by omega); exact Runs.conv1 rfl h6 hr9 ⟨h92, _, _, _, rfl, h91⟩
  · refine stepE rfl fun sdn sa sw sE sd sk => ?_
    obtain ⟨A4, h4, r4⟩ := sk.fact 0 4 rfl (sd 0 rfl)
    obtain ⟨A7, n7, c7, h7, r7⟩ := sk.fact 3 7 rfl (sd 3 rfl)
    have hl7 := r7.len; refine Runs.call (f := 80) (vs := [.slice (some A4) 1 1, .slice A7 n7 c7]) rfl rfl rfl (by simp only [List.map_toArray, List.map_cons, List.map_nil, h4, h7] <;> rfl) (ent80 _ _) ((r1bytes_full sw A4 1 _ A7 n7 c7 m.name r4 r7 (by omega) (by omega)).mono ?_); rintro e w' ⟨A', c', rfl, o1, e1⟩; exact ⟨_, rfl, e1, _, _, _, rfl, by have := o1.base sE.size; rw [hl7]; exact this⟩
  · refine stepE rfl fun sdn sa sw sE sd sk => ?_
    have h1 : sa.eval (.tmp 1) = .pointer (some ⟨w.heap.size, 0, none⟩) := sk.old 1 rfl
    refine Runs.of_run (r := .pointer (some ⟨w.heap.size, 1, none⟩)) (w' := sw) ?_ ⟨Ext.refl _, rfl⟩
    unfold execOp
    simp only [h1]
    go_simp
  · refine stepE rfl fun sdn sa sw sE sd sk => ?_
    have h9 : sa.eval (.tmp 9) = .pointer (some ⟨w.heap.size, 1, none⟩) := sk.fact 5 9 rfl (sd 5 rfl)
    exact Runs.load rfl h9 (run_load1 Tryz.underlying56 rfl ((hB.ext sE).cell (i := 1) rfl)) ⟨Ext.refl _, rfl⟩
  intro vals W1 hE hv
  obtain ⟨A4, e0, r4⟩ := hv 0 (by omega) 4 rfl
  have e1 : vals 1 = .pointer (some ⟨w.heap.size, 0, none⟩) := hv 1 (by omega) 5 rfl
  have e2 : vals 2 = .string (str (m.name)) := hv 2 (by omega) 6 rfl
  obtain ⟨A7, n7, c7, e3, r7⟩ := hv 3 (by omega) 7 rfl
  obtain ⟨A8, n8, c8, e4, r8⟩ := hv 4 (by omega) 8 rfl
  have e5 : vals 5 = .pointer (some ⟨w.heap.size, 1, none⟩) := hv 5 (by omega) 9 rfl
  have e6 : vals 6 = .int .u32 (u32i (m.ver)) := hv 6 (by omega) 10 rfl
  simp only [putAll, Act.put, List.take_succ_cons, List.take_zero, List.drop_succ_cons, List.drop_zero, List.drop_nil, List.take_nil, Nat.reduceAdd, List.setIfInBounds_toArray, List.set_cons_succ, List.set_cons_zero, e0, e1, e2, e3, e4, e5, e6]
  clear hv e0 e1 e2 e3 e4 e5 e6
  have hl8 : n8 = 3 + m.name.length := by have := r8.len; simp [be2_length] at this; omega
  have Hl8 := Lib.hid hl8
  clear hl8
  go_wp2_with fail
  have hl8 := Hl8.out
  obtain ⟨n, hn⟩ : ∃ n, n8 + 4 = n := ⟨_, rfl⟩
  obtain ⟨X8, hX8, r8'⟩ : ∃ X8, X8 = [77] ++ (be2 m.name.length ++ m.name) ∧ OB W1 w0.heap.size A8 n8 c8 X8 := ⟨_, rfl, r8⟩
  obtain ⟨X, hX⟩ : ∃ X, X8 ++ beBytes m.ver 4 = X := ⟨_, rfl⟩
  have HX8 := Lib.hid hX8
  clear hX8
  refine (r1num_to w0 W1 A8 n8 c8 X8 m.ver hE r8' (by omega) hn hX).mono ?_
  rintro e W2 ⟨A, c, rfl, own2, hE2⟩
  have hne : some w.heap.size ≠ blk A := by intro e; have := (own2.lt e.symm).1; omega
  have hBW := hB.ext hE2
  have Hn := Lib.hid hn
  have hn9 : n ≤ 70000 := by omega
  have HX := Lib.hid hX
  clear r4 r7 r8 r8' hE hl8 hn hX Hl8
  go_upto_region 2 with (fail)
  refine par_app (n := 6) 3 hE2 own2 (by kernel_rfl) [.is (.slice (A) (n) (c)), .is (.pointer (some ⟨w.heap.size, 2, none⟩)), .is (.slice (F) (nf) (cf)), .app (w0.heap.size) (W2.heap.size) (A) (n + nf) (X ++ m.fw), .is (.pointer (some ⟨w.heap.size, 3, none⟩)), .is (.slice (N) (nn) (cn))] rfl ⟨?_, ?_, ?_, ?_, ?_, ?_, trivial⟩ ?_
  · refine stepEA rfl (by decide) fun sdn sa sw sG sE sd sk => ?_
    have h3 : sa.eval (.tmp 3) = .slice (A) (n) (c) := sk.old 3 rfl
    exact Runs.move rfl h3 ⟨Ext.refl _, rfl⟩
  · refine stepEA rfl (by decide) fun sdn sa sw sG sE sd sk => ?_
    have h1 : sa.eval (.tmp 1) = .pointer (some ⟨w.heap.size, 0, none⟩) := sk.old 1 rfl
    refine Runs.of_run (r := .pointer (some ⟨w.heap.size, 2, none⟩)) (w' := sw) ?_ ⟨Ext.refl _, rfl⟩
    unfold execOp
    simp only [h1]
    go_simp
  · refine stepEA rfl (by decide) fun sdn sa sw sG sE sd sk => ?_
    have h13 : sa.eval (.tmp 13) = .pointer (some ⟨w.heap.size, 2, none⟩) := sk.fact 1 13 rfl (sd 1 rfl)
    exact Runs.load rfl h13 (run_load1 Tryz.underlying26 rfl ((hBW.grown sG hne).cell (i := 2) rfl)) ⟨Ext.refl _, rfl⟩
  · refine stepApp (N := n + nf) (q := W2.heap.size) rfl rfl (by omega) rfl rfl (Nat.le_refl _) ⟨.inr (stays_is _ _), .inr (stays_is _ _), .inr (stays_is _ _), .inl rfl, .inr (stays_is _ _), .inr (stays_is _ _), trivial⟩ fun sdn sa sw sG sE sd sk => ?_
    have h12 : sa.eval (.tmp 12) = .slice (A) (n) (c) := sk.fact 0 12 rfl (sd 0 rfl)
    have h14 : sa.eval (.tmp 14) = .slice (F) (nf) (cf) := sk.fact 2 14 rfl (sd 2 rfl)
    exact ⟨h12, F, nf, cf, h14, hF.ext (hE0.trans sE), rfl⟩
  · refine stepEA rfl (by decide) fun sdn sa sw sG sE sd sk => ?_
    have h1 : sa.eval (.tmp 1) = .pointer (some ⟨w.heap.size, 0, none⟩) := sk.old 1 rfl
    refine Runs.of_run (r := .pointer (some ⟨w.heap.size, 3, none⟩)) (w' := sw) ?_ ⟨Ext.refl _, rfl⟩
    unfold execOp
    simp only [h1]
    go_simp
  · refine stepEA rfl (by decide) fun sdn sa sw sG sE sd sk => ?_
    have h16 : sa.eval (.tmp 16) = .pointer (some ⟨w.heap.size, 3, none⟩) := sk.fact 4 16 rfl (sd 4 rfl)
    exact Runs.load rfl h16 (run_load1 Tryz.underlying26 rfl ((hBW.grown sG hne).cell (i := 3) rfl)) ⟨Ext.refl _, rfl⟩
  intro vals W3 hG hE hv
  have e0 : vals 0 = .slice (A) (n) (c) := hv 0 (by omega) 12 rfl
  have e1 : vals 1 = .pointer (some ⟨w.heap.size, 2, none⟩) := hv 1 (by omega) 13 rfl
  have e2 : vals 2 = .slice (F) (nf) (cf) := hv 2 (by omega) 14 rfl
  obtain ⟨A15, c15, e3, o15, b15⟩ := hv 3 (by omega) 15 rfl
  have e4 : vals 4 = .pointer (some ⟨w.heap.size, 3, none⟩) := hv 4 (by omega) 16 rfl
  have e5 : vals 5 = .slice (N) (nn) (cn) := hv 5 (by omega) 17 rfl
  simp only [putAll, Act.put, List.take_succ_cons, List.take_zero, List.drop_succ_cons, List.drop_zero, List.drop_nil, List.take_nil, Nat.reduceAdd, List.setIfInBounds_toArray, List.set_cons_succ, List.set_cons_zero, e0, e1, e2, e3, e4, e5]
  clear hv e0 e1 e2 e3 e4 e5
  go_wp2_with fail
  have hNW := hN.ext (hE0.trans hE)
  have hdis : 0 < nn → blk N ≠ blk A15 := by
    intro h0 e
    obtain ⟨ad, hA, _⟩ := hN.cells h0
    have h1 : blk N = some ad.block := by rw [hA]; rfl
    have h2 := hN.blk_lt h0 _ h1
    have h3 := (o15.lt (e.symm.trans h1)).1
    omega
  have hNl := hN.len
  obtain ⟨N5, hN5⟩ : ∃ N5, n + nf + (2 + nn) = N5 := ⟨_, rfl⟩
  obtain ⟨X5, hX5⟩ : ∃ X5, (X ++ m.fw) ++ (be2 nn ++ m.notes) = X5 := ⟨_, rfl⟩
  refine (r1bytes_to w0 W3 A15 (n + nf) c15 _ N nn cn m.notes hE o15 hNW hdis (by omega) (by omega) hN5 hX5).mono ?_
  rintro e W4 ⟨A4, c4, rfl, own4, hE4⟩
  have HX5 := Lib.hid hX5
  have HNl := Lib.hid hNl
  clear hX5 hNl hN5
  go_wp2_with fail
  go_ret
  refine ⟨A4, N5, c4, rfl, ?_, hE0.trans hE4⟩
  have e5 : X5 = encM m := by
    have e3 := HNl.out
    subst e3
    rw [← HX5.out, ← HX.out, HX8.out]
    simp only [encM, List.append_assoc]
  rw [← e5]
  exact own4.base hE0.size
end Go.Proofs.YtkndgpjamijbbaaGreat

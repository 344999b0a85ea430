/-
  law4.OnceTurned, walked.
-/
import Derived.Test.YtmgnigofilkfmaaRoot4
import Derived.Test.YtmgnigofilkfmaaOBack
namespace Go.Proofs.Ytmgnigofilkfmaa
set_option maxRecDepth 100000
open Go Go.RowKit
theorem bitvec_u8t (x : UInt8) : BitVec.ofInt (IntKind.u8).bits (x.toNat : Int) = x.toBitVec := by
  apply BitVec.eq_of_toNat_eq
  have := x.toNat_lt
  simp [IntKind.bits]
theorem bits_xor8t (x y : UInt8) : bits .xor .u8 (u8i x) (u8i y) = u8i (x ^^^ y) := by
  have h1 : BitVec.ofInt (IntKind.u8).bits (u8i x) = x.toBitVec := bitvec_u8t x
  have h2 : BitVec.ofInt (IntKind.u8).bits (u8i y) = y.toBitVec := bitvec_u8t y
  unfold bits
  simp only [h1, h2]
  have h3 := (x ^^^ y).toNat_lt
  show IntKind.u8.wrap ((x ^^^ y).toNat : Int) = u8i (x ^^^ y)
  rw [IntKind.wrap_u8]
  unfold u8i
  omega
theorem OBC.plain {w : World} {base n c : Nat} {ad : Addr} {Ls : List (List UInt8)} (h : OBC w base (some ad) n c Ls) : ∃ g, ad = ⟨g, 0, none⟩ := by
  obtain ⟨vs, h1, _⟩ := h
  rcases h1.2 with ⟨e, _⟩ | ⟨g', cap, cur, e, _⟩
  · cases e
  · injection e with e1 e2 e3
    injection e1 with e1
    exact ⟨g', e1⟩
theorem OBC.frozen {w : World} {base n c g : Nat} {Ls : List (List UInt8)} (h : OBC w base (some ⟨g, 0, none⟩) n c Ls) (i : Nat) : w.frozen? ⟨g, i, none⟩ = false := by
  obtain ⟨vs, h1, _⟩ := h
  exact World.ownsRow.frozenAt h1 i
theorem lb_set {Ls : List (List UInt8)} {i j : Nat} {Y : List UInt8} (hi : i < Ls.length) : lb (Ls.set i Y) j = if j = i then Y else lb Ls j := by
  unfold lb
  by_cases h : j = i
  · subst h; simp [hi]
  · rw [if_neg h]; simp [List.getElem?_set, Ne.symm h]
theorem OBC.turn {w0 w5 a : World} {base n c g g5 c5 : Nat} {Ls : List (List UInt8)} {Y : List UInt8} (h : OBC w0 base (some ⟨g, 0, none⟩) n c Ls) (hE : Ext w0 w5) (h5 : OB w5 w0.heap.size (some ⟨g5, 0, none⟩) 32 c5 Y) (i : Nat) (hi : i < n) (ha : Ext a w0) (hab : a.heap.size ≤ base) :
    (w5.setCell ⟨g, i, none⟩ (.slice (some ⟨g5, 0, none⟩) 32 c5)).cell? ⟨g, i, none⟩ = some (.slice (some ⟨g5, 0, none⟩) 32 c5) ∧ OB (w5.setCell ⟨g, i, none⟩ (.slice (some ⟨g5, 0, none⟩) 32 c5)) w0.heap.size (some ⟨g5, 0, none⟩) 32 c5 Y ∧
    ∀ b : UInt8, RBB ((w5.setCell ⟨g, i, none⟩ (.slice (some ⟨g5, 0, none⟩) 32 c5)).setCell ⟨g5, 7, none⟩ (.int .u8 (u8i b))) (some ⟨g, 0, none⟩) n c (Ls.set i (Y.set 7 b)) ∧ Ext a ((w5.setCell ⟨g, i, none⟩ (.slice (some ⟨g5, 0, none⟩) 32 c5)).setCell ⟨g5, 7, none⟩ (.int .u8 (u8i b))) := by
  have hr := h.rbb
  have hlt := h.lt (k := g) rfl
  have hge := h5.ge
  obtain ⟨vs, h1, h2, h3⟩ := h
  have hvl : vs.length = n := by have := h1.1; omega
  have k1 : w5.ownsRow base 22 1 (.slice (some ⟨g, 0, none⟩) n c) n vs := World.ownsRow.kept h1 (hE.grownBy none) (by cases hb : Value.ownBlock (.slice (some ⟨g, 0, none⟩) n c) <;> simp)
  have s := World.ownsRow.stored k1 i (.slice (some ⟨g5, 0, none⟩) 32 c5)
  have h56 : OB (w5.setCell ⟨g, i, none⟩ (.slice (some ⟨g5, 0, none⟩) 32 c5)) w0.heap.size (some ⟨g5, 0, none⟩) 32 c5 Y := h5.grown s.2 (.inr (by intro e; injection e with e; have e' : g5 = g := e; omega))
  refine ⟨?_, h56, fun b => ?_⟩
  · have := World.ownsRow.cells s.1 (g := g) rfl i (.slice (some ⟨g5, 0, none⟩) 32 c5) (by simp [hvl, hi])
    rw [add_plain] at this
    exact this
  · have s2 := h56.set 7 b
    have k2 := World.ownsRow.kept s.1 s2.2 (.inr (by rw [ownBlock_slice]; intro e; injection e with e; have e' : g = g5 := e; omega))
    refine ⟨⟨by simp [h2], hr.room, hr.cap, fun _ => ⟨_, rfl, fun j hj => ?_⟩⟩, Ext.then_grown (Ext.then_grown (ha.trans hE) s.2 (by intro k hk; cases hk; omega)) s2.2 (by intro k hk; cases hk; have := ha.size; omega)⟩
    rw [lb_set (by omega)]
    by_cases hji : j = i
    · subst hji
      rw [if_pos rfl]
      exact ⟨_, _, _, World.ownsRow.cells k2 (g := g) rfl j (.slice (some ⟨g5, 0, none⟩) 32 c5) (by simp [hvl, hj]), s2.1.rb⟩
    · rw [if_neg hji]
      obtain ⟨B, m, d, h4, h5', h6⟩ := h3 j hj
      refine ⟨B, m, d, World.ownsRow.cells k2 (g := g) rfl j _ (by rw [List.getElem?_set_ne (Ne.symm hji)]; exact h4), ((h5'.ext hE).grown s.2 h6).grown s2.2 ?_⟩
      intro hm e
      have := rb_blk_lt h5' hm _ e
      omega
set_option maxHeartbeats 4000000 in
theorem turned_law (B : Option Addr) (m e' : Nat) (Q : List UInt8) (key at' : Int) (t : UInt8) (w : World) (hq : RB w B m e' Q) (hk0 : -9223372036854775808 ≤ key) (hk1 : key ≤ 9223372036854775807) (ha0 : -9223372036854775808 ≤ at') (ha1 : at' ≤ 9223372036854775807) :
    Calls Try.prog 13 #[.int .i64 key, .slice B m e', .int .i64 at', .int .u8 (u8i t)] w fun e w' => e = .returned (.bool true) ∧ Ext w w' := by
  obtain ⟨i, hi⟩ : ∃ i : Nat, within at' 0 63 = i := ⟨_, (Int.toNat_of_nonneg (within_in at' 0 63 (by omega)).1).symm⟩
  have hi63 : i < 64 := by have := (within_in at' 0 63 (by omega)).2; omega
  have hwi := fun w => within_any at' 0 63 w ha0 ha1 (by omega) (by omega) (by omega)
  rw [hi] at hwi
  have Hwi := Lib.hid hwi
  clear hwi hi ha0 ha1
  have hsd := seed_any key w hk0 hk1
  have Hsd := Lib.hid hsd
  clear hsd hk0 hk1
  go_enter Try.func13, Try.ntmps13
  go_wp2_with fail
  refine Hsd.out.mono ?_
  rintro e w1 ⟨A1, c1, rfl, own1, hE1⟩
  clear Hsd
  obtain ⟨S, hS⟩ : ∃ S, S = seedL key := ⟨_, rfl⟩
  rw [← hS] at own1
  clear hS
  have rS1 := own1.rb
  have hc2 := cut_any B m e' 50 Q w1 (hq.ext hE1) (by omega)
  have e50 : ((50 : Nat) : Int) = 50 := rfl
  rw [e50] at hc2
  go_wp2_with fail
  refine hc2.mono ?_
  rintro e w1 ⟨⟨rfl, rM⟩, rfl⟩
  clear hc2 e50 hq own1
  have hm1 : min m 50 ≤ 50 := by omega
  generalize min m 50 = m at *
  generalize Q.take 50 = M at *
  go_wp2_with fail
  refine (r4sign_any A1 B 32 c1 m e' S M key _ rS1 (by omega) rM (by omega)).mono ?_
  rintro e w3 ⟨P, d, rfl, own, hE3⟩
  obtain ⟨ad, rfl, _⟩ := own.rbb.cells (by omega)
  obtain ⟨g, rfl⟩ := own.plain
  obtain ⟨LS, hLS⟩ : ∃ LS, LS = (List.range 64).map (partS (digestW M) S key) := ⟨_, rfl⟩
  have hrs := root_sign M S key
  rw [← hLS] at own hrs
  clear hLS
  go_wp2_with fail
  refine (Hwi.out w3).mono ?_
  rintro e w4 ⟨rfl, rfl⟩
  clear Hwi
  obtain ⟨ad, had, hcs⟩ := own.rbb.cells (by omega)
  injection had with had
  subst had
  obtain ⟨E, z, y, hcell, hrE⟩ := hcs i hi63
  rw [add_plain] at hcell
  have hz : z = 32 := by rw [← hrE.len]; exact hrs.1.2 i hi63
  subst hz
  clear hcs
  have hEl := Ext.new w3 (.cells #[] 5)
  have own0 := OB.lit w3 [] rfl (Nat.zero_le _)
  have y0 := hEl.cell hcell
  go_upto_region 6 with (refine app_own (w0 := w3) (N := 32) (LM := lb LS i) rfl rfl rfl rfl hEl own0 (hrE.ext hEl) (by omega) rfl (by omega) ?_; intro A5 c5 w5 own5 hE5; have y1 := hE5.cell hcell; have y2 := (own.ext hE5).frozen i)
  obtain ⟨ad5, rfl, _⟩ := own5.rb.cells (by omega)
  obtain ⟨g5, rfl⟩ := own5.plain
  have hT := OBC.turn own hE5 own5 i hi63 hE3 (Nat.le_refl _)
  obtain ⟨w6, hw6⟩ : ∃ w6, w6 = w5.setCell ⟨g, i, none⟩ (.slice (some ⟨g5, 0, none⟩) 32 c5) := ⟨_, rfl⟩
  rw [← hw6] at hT ⊢
  obtain ⟨z1, own6, hT⟩ := hT
  have HT := Lib.hid hT
  have z2 := own6.cell (i := 7) (by omega)
  have z3 := own6.frozen 7
  have z4 := bits_xor8t (ub (lb LS i) 7) t
  clear hT hw6 y0 y1 y2 hcell own0 hEl hrE
  go_upto_region 7 with (fail)
  obtain ⟨r7, hE7⟩ := HT.out (ub (lb LS i) 7 ^^^ t)
  obtain ⟨w7, hw7⟩ : ∃ w7, w7 = w6.setCell ⟨g5, 7, none⟩ (.int .u8 (u8i (ub (lb LS i) 7 ^^^ t))) := ⟨_, rfl⟩
  rw [← hw7] at r7 hE7 ⊢
  obtain ⟨LT, hLT⟩ : ∃ LT, LT = LS.set i ((lb LS i).set 7 (ub (lb LS i) 7 ^^^ t)) := ⟨_, rfl⟩
  rw [← hLT] at r7
  have hok : rootOK LT := by
    rw [hLT]
    refine ⟨by rw [List.length_set]; exact hrs.1.1, fun j hj => ?_⟩
    rw [lb_set (by rw [hrs.1.1]; exact hi63)]
    by_cases hji : j = i
    · rw [if_pos hji, List.length_set]; exact hrs.1.2 i hi63
    · rw [if_neg hji]; exact hrs.1.2 j hj
  have h0 : t = 0 → rootV M LT = publicL S key := by
    intro h
    rw [← hrs.2, hLT, h]
    congr 1
    apply List.ext_getElem (by simp)
    intro j h1 h2
    by_cases hji : i = j
    · subst hji
      have e1 : LS[i] = lb LS i := by simp [lb, h2]
      have hl : 7 < (lb LS i).length := by rw [hrs.1.2 i hi63]; omega
      rw [List.getElem_set_self, e1, UInt8.xor_zero, show ub (lb LS i) 7 = (lb LS i)[7] from by simp [ub, hl], List.set_getElem_self]
    · rw [List.getElem_set_ne hji]
  have H0 := Lib.hid h0
  have Hok := Lib.hid hok
  clear h0 hok hLT hw7 z1 z2 z3 z4 HT own6 own5 hE5 own hrs
  have rM7 := rM.ext hE7
  go_wp2_with fail
  refine (root_any B _ m e' 64 d M LT w7 rM7 (by omega) r7).mono ?_
  rintro e w8 ⟨h1, _, hE8⟩
  obtain ⟨A8, c8, rfl, own8⟩ := h1 Hok.out
  clear h1
  have rM8 := rM7.ext hE8
  have r7' := r7.ext hE8
  go_wp2_with fail
  refine (r4root_any B _ m e' 64 d M LT w8 rM8 (by omega) r7').mono ?_
  rintro e w9 ⟨h1, _, hE9⟩
  obtain ⟨A9, c9, rfl, own9⟩ := h1 Hok.out
  have r8 := own8.rb.ext hE9
  have r9 := own9.rb
  have hE19 := (hE7.trans hE8).trans hE9
  have rS9 := rS1.ext hE19
  have hE09 := hE1.trans hE19
  obtain ⟨V, hV⟩ : ∃ V, V = rootV M LT := ⟨_, rfl⟩
  rw [← hV] at r8 r9
  have HV := Lib.hid hV
  clear hV h1 own8 own9 rM8 rM7 r7 r7' hE7 hE8 hE9 hE19 rS1 rM Hok hE1 hE3
  by_cases ht : t = 0
  · have Ht : Go.RowKit.Hid (decide (u8i t ≠ 0) = false) := Lib.hid (by rw [ht]; rfl)
    obtain rfl : V = publicL S key := HV.out.trans (H0.out ht)
    clear ht HV H0
    go_upto_region 9 with (fail)
    refine par_ext (n := 28) (by kernel_rfl) [.is (.bool (true)), .is (.bool (true)), .is (.bool (true)), .is (.bool (true)), .is (.bool (true)), .is (.slice (A8) (32) (c8)), .is (.string (str (publicL S key))), .is (.slice (A9) (32) (c9)), .is (.string (str (publicL S key))), .is (.bool (true)), .is (.bool (true)), .is (.bool (true)), .is (.int .u8 (u8i (t))), .is (.bool (false)), .is (.bool (false)), .is (.slice (A8) (32) (c8)), .is (.string (str (publicL S key))), .is (.slice (A1) (32) (c1)), .is (.int .i64 (key)), .rb (publicL S key), .is (.string (str (publicL S key))), .is (.bool (true)), .is (.bool (true)), .is (.bool (true)), .is (.bool (true)), .is (.bool (true)), .is (.bool (true)), .is (.bool (true))] rfl ⟨?_, ?_, ?_, ?_, ?_, ?_, ?_, ?_, ?_, ?_, ?_, ?_, ?_, ?_, ?_, ?_, ?_, ?_, ?_, ?_, ?_, ?_, ?_, ?_, ?_, ?_, ?_, ?_, trivial⟩ ?_
    · refine stepE rfl fun sdn sa sw sE sd sk => ?_
      have h13 : sa.eval (.tmp 13) = .bool (true) := sk.old 13 rfl
      exact Runs.move rfl h13 ⟨Ext.refl _, rfl⟩
    · refine stepE rfl fun sdn sa sw sE sd sk => ?_
      have h59 : sa.eval (.tmp 59) = .bool (true) := sk.fact 0 59 rfl (sd 0 rfl)
      exact Runs.move rfl h59 ⟨Ext.refl _, rfl⟩
    · refine stepY (j := 1) (d := 60) (b := true) rfl rfl rfl (fun v w h => h) fun sdn sa sw sE sd sk => ?_
      have h15 : sa.eval (.tmp 15) = .bool (true) := sk.old 15 rfl
      exact Runs.move rfl h15 ⟨Ext.refl _, rfl⟩
    · refine stepE rfl fun sdn sa sw sE sd sk => ?_
      have h60 : sa.eval (.tmp 60) = .bool (true) := sk.fact 1 60 rfl (sd 1 rfl)
      have h61 : sa.eval (.tmp 61) = .bool (true) := sk.fact 2 61 rfl (sd 2 rfl)
      exact Runs.pick rfl h60 ⟨Ext.refl _, by first | exact h61 | simpa using h61⟩
    · refine stepE rfl fun sdn sa sw sE sd sk => ?_
      have h62 : sa.eval (.tmp 62) = .bool (true) := sk.fact 3 62 rfl (sd 3 rfl)
      exact Runs.move rfl h62 ⟨Ext.refl _, rfl⟩
    · refine stepY (j := 4) (d := 63) (b := true) rfl rfl rfl (fun v w h => h) fun sdn sa sw sE sd sk => ?_
      have h12 : sa.eval (.tmp 12) = .slice (A8) (32) (c8) := sk.old 12 rfl
      exact Runs.move rfl h12 ⟨Ext.refl _, rfl⟩
    · refine stepY (j := 4) (d := 63) (b := true) rfl rfl rfl (fun v w h => h) fun sdn sa sw sE sd sk => ?_
      have h64 : sa.eval (.tmp 64) = .slice (A8) (32) (c8) := sk.fact 5 64 rfl (sd 5 rfl)
      exact Runs.conv rfl h64 (run_str (r8.ext sE)) ⟨Ext.refl _, rfl⟩
    · refine stepY (j := 4) (d := 63) (b := true) rfl rfl rfl (fun v w h => h) fun sdn sa sw sE sd sk => ?_
      have h14 : sa.eval (.tmp 14) = .slice (A9) (32) (c9) := sk.old 14 rfl
      exact Runs.move rfl h14 ⟨Ext.refl _, rfl⟩
    · refine stepY (j := 4) (d := 63) (b := true) rfl rfl rfl (fun v w h => h) fun sdn sa sw sE sd sk => ?_
      have h66 : sa.eval (.tmp 66) = .slice (A9) (32) (c9) := sk.fact 7 66 rfl (sd 7 rfl)
      exact Runs.conv rfl h66 (run_str (r9.ext sE)) ⟨Ext.refl _, rfl⟩
    · refine stepY (j := 4) (d := 63) (b := true) rfl rfl rfl (fun v w h => h) fun sdn sa sw sE sd sk => ?_
      have h65 : sa.eval (.tmp 65) = .string (str (publicL S key)) := sk.fact 6 65 rfl (sd 6 rfl)
      have h67 : sa.eval (.tmp 67) = .string (str (publicL S key)) := sk.fact 8 67 rfl (sd 8 rfl)
      exact Runs.bin rfl h65 h67 (by rfl) (bin_eqs _ _ _) ⟨Ext.refl _, congrArg Value.bool (by simp)⟩
    · refine stepE rfl fun sdn sa sw sE sd sk => ?_
      have h63 : sa.eval (.tmp 63) = .bool (true) := sk.fact 4 63 rfl (sd 4 rfl)
      have h68 : sa.eval (.tmp 68) = .bool (true) := sk.fact 9 68 rfl (sd 9 rfl)
      exact Runs.pick rfl h63 ⟨Ext.refl _, by first | exact h68 | simpa using h68⟩
    · refine stepE rfl fun sdn sa sw sE sd sk => ?_
      have h69 : sa.eval (.tmp 69) = .bool (true) := sk.fact 10 69 rfl (sd 10 rfl)
      exact Runs.move rfl h69 ⟨Ext.refl _, rfl⟩
    · refine stepY (j := 11) (d := 70) (b := true) rfl rfl rfl (fun v w h => h) fun sdn sa sw sE sd sk => ?_
      have h3 : sa.eval (.tmp 3) = .int .u8 (u8i (t)) := sk.old 3 rfl
      exact Runs.move rfl h3 ⟨Ext.refl _, rfl⟩
    · refine stepY (j := 11) (d := 70) (b := true) rfl rfl rfl (fun v w h => h) fun sdn sa sw sE sd sk => ?_
      have h71 : sa.eval (.tmp 71) = .int .u8 (u8i (t)) := sk.fact 12 71 rfl (sd 12 rfl)
      exact Runs.bin rfl h71 rfl (by rfl) (bin_neq _ _ _ _) ⟨Ext.refl _, congrArg Value.bool Ht.out⟩
    · refine stepY (j := 11) (d := 70) (b := true) rfl rfl rfl (fun v w h => h) fun sdn sa sw sE sd sk => ?_
      have h72 : sa.eval (.tmp 72) = .bool (false) := sk.fact 13 72 rfl (sd 13 rfl)
      exact Runs.move rfl h72 ⟨Ext.refl _, rfl⟩
    · refine stepY (j := 14) (d := 73) (b := false) rfl rfl rfl (fun v w h => h) fun sdn sa sw sE sd sk => ?_
      have h12 : sa.eval (.tmp 12) = .slice (A8) (32) (c8) := sk.old 12 rfl
      exact Runs.move rfl h12 ⟨Ext.refl _, rfl⟩
    · refine stepY (j := 14) (d := 73) (b := false) rfl rfl rfl (fun v w h => h) fun sdn sa sw sE sd sk => ?_
      have h74 : sa.eval (.tmp 74) = .slice (A8) (32) (c8) := sk.fact 15 74 rfl (sd 15 rfl)
      exact Runs.conv rfl h74 (run_str (r8.ext sE)) ⟨Ext.refl _, rfl⟩
    · refine stepY (j := 14) (d := 73) (b := false) rfl rfl rfl (fun v w h => h) fun sdn sa sw sE sd sk => ?_
      have h9 : sa.eval (.tmp 9) = .slice (A1) (32) (c1) := sk.old 9 rfl
      exact Runs.move rfl h9 ⟨Ext.refl _, rfl⟩
    · refine stepY (j := 14) (d := 73) (b := false) rfl rfl rfl (fun v w h => h) fun sdn sa sw sE sd sk => ?_
      have h0 : sa.eval (.tmp 0) = .int .i64 (key) := sk.old 0 rfl
      exact Runs.move rfl h0 ⟨Ext.refl _, rfl⟩
    · refine stepY (j := 14) (d := 73) (b := false) rfl rfl rfl (fun v w h => h) fun sdn sa sw sE sd sk => ?_
      have h76 : sa.eval (.tmp 76) = .slice (A1) (32) (c1) := sk.fact 17 76 rfl (sd 17 rfl)
      have h77 : sa.eval (.tmp 77) = .int .i64 (key) := sk.fact 18 77 rfl (sd 18 rfl)
      refine Runs.call (f := 38) (vs := [.slice (A1) (32) (c1), .int .i64 (key)]) rfl rfl rfl (by simp only [List.map_toArray, List.map_cons, List.map_nil, h76, h77] <;> rfl) (ent38 _ _) ((public_any _ _ _ _ key sw (rS9.ext sE) (by omega)).mono ?_); rintro e w' ⟨A', c', rfl, own, hx⟩; exact ⟨_, rfl, hx, A', 32, c', rfl, own.rb⟩
    · refine stepY (j := 14) (d := 73) (b := false) rfl rfl rfl (fun v w h => h) fun sdn sa sw sE sd sk => ?_
      obtain ⟨A78, n78, c78, h78, r78⟩ := sk.fact 19 78 rfl (sd 19 rfl)
      exact Runs.conv rfl h78 (run_str r78) ⟨Ext.refl _, rfl⟩
    · refine stepY (j := 14) (d := 73) (b := false) rfl rfl rfl (fun v w h => h) fun sdn sa sw sE sd sk => ?_
      have h75 : sa.eval (.tmp 75) = .string (str (publicL S key)) := sk.fact 16 75 rfl (sd 16 rfl)
      have h79 : sa.eval (.tmp 79) = .string (str (publicL S key)) := sk.fact 20 79 rfl (sd 20 rfl)
      exact Runs.bin rfl h75 h79 (by rfl) (bin_eqs _ _ _) ⟨Ext.refl _, congrArg Value.bool (by simp)⟩
    · refine stepY (j := 11) (d := 70) (b := true) rfl rfl rfl (fun v w h => h) fun sdn sa sw sE sd sk => ?_
      have h73 : sa.eval (.tmp 73) = .bool (false) := sk.fact 14 73 rfl (sd 14 rfl)
      have h80 : sa.eval (.tmp 80) = .bool (true) := sk.fact 21 80 rfl (sd 21 rfl)
      exact Runs.pick rfl h73 ⟨Ext.refl _, by first | exact h80 | simpa using h80⟩
    · refine stepE rfl fun sdn sa sw sE sd sk => ?_
      have h70 : sa.eval (.tmp 70) = .bool (true) := sk.fact 11 70 rfl (sd 11 rfl)
      have h81 : sa.eval (.tmp 81) = .bool (true) := sk.fact 22 81 rfl (sd 22 rfl)
      exact Runs.pick rfl h70 ⟨Ext.refl _, by first | exact h81 | simpa using h81⟩
    · refine stepE rfl fun sdn sa sw sE sd sk => ?_
      have h82 : sa.eval (.tmp 82) = .bool (true) := sk.fact 23 82 rfl (sd 23 rfl)
      exact Runs.move rfl h82 ⟨Ext.refl _, rfl⟩
    · refine stepY (j := 24) (d := 83) (b := true) rfl rfl rfl (fun v w h => h) fun sdn sa sw sE sd sk => ?_
      refine Runs.call (f := 40) (vs := []) rfl rfl rfl (by simp only [List.map_toArray, List.map_cons, List.map_nil] <;> rfl) (ent40 _ _) ((known4_any sw).mono ?_); rintro e w' ⟨rfl, hx⟩; exact ⟨_, rfl, hx, rfl⟩
    · refine stepE rfl fun sdn sa sw sE sd sk => ?_
      have h83 : sa.eval (.tmp 83) = .bool (true) := sk.fact 24 83 rfl (sd 24 rfl)
      have h84 : sa.eval (.tmp 84) = .bool (true) := sk.fact 25 84 rfl (sd 25 rfl)
      exact Runs.pick rfl h83 ⟨Ext.refl _, by first | exact h84 | simpa using h84⟩
    · refine stepE rfl fun sdn sa sw sE sd sk => ?_
      have h85 : sa.eval (.tmp 85) = .bool (true) := sk.fact 26 85 rfl (sd 26 rfl)
      exact Runs.assign rfl h85 ⟨Ext.refl _, rfl⟩
    intro vals W9 hE hv
    have e0 : vals 0 = .bool (true) := hv 0 (by omega) 59 rfl
    have e1 : vals 1 = .bool (true) := hv 1 (by omega) 60 rfl
    have e2 : vals 2 = .bool (true) := hv 2 (by omega) 61 rfl
    have e3 : vals 3 = .bool (true) := hv 3 (by omega) 62 rfl
    have e4 : vals 4 = .bool (true) := hv 4 (by omega) 63 rfl
    have e5 : vals 5 = .slice (A8) (32) (c8) := hv 5 (by omega) 64 rfl
    have e6 : vals 6 = .string (str (publicL S key)) := hv 6 (by omega) 65 rfl
    have e7 : vals 7 = .slice (A9) (32) (c9) := hv 7 (by omega) 66 rfl
    have e8 : vals 8 = .string (str (publicL S key)) := hv 8 (by omega) 67 rfl
    have e9 : vals 9 = .bool (true) := hv 9 (by omega) 68 rfl
    have e10 : vals 10 = .bool (true) := hv 10 (by omega) 69 rfl
    have e11 : vals 11 = .bool (true) := hv 11 (by omega) 70 rfl
    have e12 : vals 12 = .int .u8 (u8i (t)) := hv 12 (by omega) 71 rfl
    have e13 : vals 13 = .bool (false) := hv 13 (by omega) 72 rfl
    have e14 : vals 14 = .bool (false) := hv 14 (by omega) 73 rfl
    have e15 : vals 15 = .slice (A8) (32) (c8) := hv 15 (by omega) 74 rfl
    have e16 : vals 16 = .string (str (publicL S key)) := hv 16 (by omega) 75 rfl
    have e17 : vals 17 = .slice (A1) (32) (c1) := hv 17 (by omega) 76 rfl
    have e18 : vals 18 = .int .i64 (key) := hv 18 (by omega) 77 rfl
    obtain ⟨A78, n78, c78, e19, r78⟩ := hv 19 (by omega) 78 rfl
    have e20 : vals 20 = .string (str (publicL S key)) := hv 20 (by omega) 79 rfl
    have e21 : vals 21 = .bool (true) := hv 21 (by omega) 80 rfl
    have e22 : vals 22 = .bool (true) := hv 22 (by omega) 81 rfl
    have e23 : vals 23 = .bool (true) := hv 23 (by omega) 82 rfl
    have e24 : vals 24 = .bool (true) := hv 24 (by omega) 83 rfl
    have e25 : vals 25 = .bool (true) := hv 25 (by omega) 84 rfl
    have e26 : vals 26 = .bool (true) := hv 26 (by omega) 85 rfl
    have e27 : vals 27 = .bool (true) := hv 27 (by omega) 8 rfl
    simp only [putAll, Act.put, List.take_succ_cons, List.take_zero, List.drop_succ_cons, List.drop_zero, List.drop_nil, List.take_nil, Nat.reduceAdd, List.setIfInBounds_toArray, List.set_cons_succ, List.set_cons_zero, e0, e1, e2, e3, e4, e5, e6, e7, e8, e9, e10, e11, e12, e13, e14, e15, e16, e17, e18, e19, e20, e21, e22, e23, e24, e25, e26, e27]
    clear hv e0 e1 e2 e3 e4 e5 e6 e7 e8 e9 e10 e11 e12 e13 e14 e15 e16 e17 e18 e19 e20 e21 e22 e23 e24 e25 e26 e27
    go_wp2_with fail
    go_ret
    exact ⟨rfl, hE09.trans hE⟩
  · have Ht : Go.RowKit.Hid (decide (u8i t ≠ 0) = true) := Lib.hid (by
      rw [decide_eq_true_iff]
      intro e
      exact ht (u8i_inj (e.trans (rfl : (0 : Int) = u8i 0))))
    clear ht HV H0
    go_upto_region 9 with (fail)
    refine par_ext (n := 28) (by kernel_rfl) [.is (.bool (true)), .is (.bool (true)), .is (.bool (true)), .is (.bool (true)), .is (.bool (true)), .is (.slice (A8) (32) (c8)), .is (.string (str (V))), .is (.slice (A9) (32) (c9)), .is (.string (str (V))), .is (.bool (true)), .is (.bool (true)), .is (.bool (true)), .is (.int .u8 (u8i (t))), .is (.bool (true)), .is (.bool (true)), .is undef, .is undef, .is undef, .is undef, .is undef, .is undef, .is undef, .is (.bool (true)), .is (.bool (true)), .is (.bool (true)), .is (.bool (true)), .is (.bool (true)), .is (.bool (true))] rfl ⟨?_, ?_, ?_, ?_, ?_, ?_, ?_, ?_, ?_, ?_, ?_, ?_, ?_, ?_, ?_, ?_, ?_, ?_, ?_, ?_, ?_, ?_, ?_, ?_, ?_, ?_, ?_, ?_, trivial⟩ ?_
    · refine stepE rfl fun sdn sa sw sE sd sk => ?_
      have h13 : sa.eval (.tmp 13) = .bool (true) := sk.old 13 rfl
      exact Runs.move rfl h13 ⟨Ext.refl _, rfl⟩
    · refine stepE rfl fun sdn sa sw sE sd sk => ?_
      have h59 : sa.eval (.tmp 59) = .bool (true) := sk.fact 0 59 rfl (sd 0 rfl)
      exact Runs.move rfl h59 ⟨Ext.refl _, rfl⟩
    · refine stepY (j := 1) (d := 60) (b := true) rfl rfl rfl (fun v w h => h) fun sdn sa sw sE sd sk => ?_
      have h15 : sa.eval (.tmp 15) = .bool (true) := sk.old 15 rfl
      exact Runs.move rfl h15 ⟨Ext.refl _, rfl⟩
    · refine stepE rfl fun sdn sa sw sE sd sk => ?_
      have h60 : sa.eval (.tmp 60) = .bool (true) := sk.fact 1 60 rfl (sd 1 rfl)
      have h61 : sa.eval (.tmp 61) = .bool (true) := sk.fact 2 61 rfl (sd 2 rfl)
      exact Runs.pick rfl h60 ⟨Ext.refl _, by first | exact h61 | simpa using h61⟩
    · refine stepE rfl fun sdn sa sw sE sd sk => ?_
      have h62 : sa.eval (.tmp 62) = .bool (true) := sk.fact 3 62 rfl (sd 3 rfl)
      exact Runs.move rfl h62 ⟨Ext.refl _, rfl⟩
    · refine stepY (j := 4) (d := 63) (b := true) rfl rfl rfl (fun v w h => h) fun sdn sa sw sE sd sk => ?_
      have h12 : sa.eval (.tmp 12) = .slice (A8) (32) (c8) := sk.old 12 rfl
      exact Runs.move rfl h12 ⟨Ext.refl _, rfl⟩
    · refine stepY (j := 4) (d := 63) (b := true) rfl rfl rfl (fun v w h => h) fun sdn sa sw sE sd sk => ?_
      have h64 : sa.eval (.tmp 64) = .slice (A8) (32) (c8) := sk.fact 5 64 rfl (sd 5 rfl)
      exact Runs.conv rfl h64 (run_str (r8.ext sE)) ⟨Ext.refl _, rfl⟩
    · refine stepY (j := 4) (d := 63) (b := true) rfl rfl rfl (fun v w h => h) fun sdn sa sw sE sd sk => ?_
      have h14 : sa.eval (.tmp 14) = .slice (A9) (32) (c9) := sk.old 14 rfl
      exact Runs.move rfl h14 ⟨Ext.refl _, rfl⟩
    · refine stepY (j := 4) (d := 63) (b := true) rfl rfl rfl (fun v w h => h) fun sdn sa sw sE sd sk => ?_
      have h66 : sa.eval (.tmp 66) = .slice (A9) (32) (c9) := sk.fact 7 66 rfl (sd 7 rfl)
      exact Runs.conv rfl h66 (run_str (r9.ext sE)) ⟨Ext.refl _, rfl⟩
    · refine stepY (j := 4) (d := 63) (b := true) rfl rfl rfl (fun v w h => h) fun sdn sa sw sE sd sk => ?_
      have h65 : sa.eval (.tmp 65) = .string (str (V)) := sk.fact 6 65 rfl (sd 6 rfl)
      have h67 : sa.eval (.tmp 67) = .string (str (V)) := sk.fact 8 67 rfl (sd 8 rfl)
      exact Runs.bin rfl h65 h67 (by rfl) (bin_eqs _ _ _) ⟨Ext.refl _, congrArg Value.bool (by simp)⟩
    · refine stepE rfl fun sdn sa sw sE sd sk => ?_
      have h63 : sa.eval (.tmp 63) = .bool (true) := sk.fact 4 63 rfl (sd 4 rfl)
      have h68 : sa.eval (.tmp 68) = .bool (true) := sk.fact 9 68 rfl (sd 9 rfl)
      exact Runs.pick rfl h63 ⟨Ext.refl _, by first | exact h68 | simpa using h68⟩
    · refine stepE rfl fun sdn sa sw sE sd sk => ?_
      have h69 : sa.eval (.tmp 69) = .bool (true) := sk.fact 10 69 rfl (sd 10 rfl)
      exact Runs.move rfl h69 ⟨Ext.refl _, rfl⟩
    · refine stepY (j := 11) (d := 70) (b := true) rfl rfl rfl (fun v w h => h) fun sdn sa sw sE sd sk => ?_
      have h3 : sa.eval (.tmp 3) = .int .u8 (u8i (t)) := sk.old 3 rfl
      exact Runs.move rfl h3 ⟨Ext.refl _, rfl⟩
    · refine stepY (j := 11) (d := 70) (b := true) rfl rfl rfl (fun v w h => h) fun sdn sa sw sE sd sk => ?_
      have h71 : sa.eval (.tmp 71) = .int .u8 (u8i (t)) := sk.fact 12 71 rfl (sd 12 rfl)
      exact Runs.bin rfl h71 rfl (by rfl) (bin_neq _ _ _ _) ⟨Ext.refl _, congrArg Value.bool Ht.out⟩
    · refine stepY (j := 11) (d := 70) (b := true) rfl rfl rfl (fun v w h => h) fun sdn sa sw sE sd sk => ?_
      have h72 : sa.eval (.tmp 72) = .bool (true) := sk.fact 13 72 rfl (sd 13 rfl)
      exact Runs.move rfl h72 ⟨Ext.refl _, rfl⟩
    · exact stepN (j := 14) (d := 73) (b := true) rfl rfl rfl (fun v w h => h) fun w => rfl
    · exact stepN (j := 14) (d := 73) (b := true) rfl rfl rfl (fun v w h => h) fun w => rfl
    · exact stepN (j := 14) (d := 73) (b := true) rfl rfl rfl (fun v w h => h) fun w => rfl
    · exact stepN (j := 14) (d := 73) (b := true) rfl rfl rfl (fun v w h => h) fun w => rfl
    · exact stepN (j := 14) (d := 73) (b := true) rfl rfl rfl (fun v w h => h) fun w => rfl
    · exact stepN (j := 14) (d := 73) (b := true) rfl rfl rfl (fun v w h => h) fun w => rfl
    · exact stepN (j := 14) (d := 73) (b := true) rfl rfl rfl (fun v w h => h) fun w => rfl
    · refine stepY (j := 11) (d := 70) (b := true) rfl rfl rfl (fun v w h => h) fun sdn sa sw sE sd sk => ?_
      have h73 : sa.eval (.tmp 73) = .bool (true) := sk.fact 14 73 rfl (sd 14 rfl)
      exact Runs.pick rfl h73 ⟨Ext.refl _, rfl⟩
    · refine stepE rfl fun sdn sa sw sE sd sk => ?_
      have h70 : sa.eval (.tmp 70) = .bool (true) := sk.fact 11 70 rfl (sd 11 rfl)
      have h81 : sa.eval (.tmp 81) = .bool (true) := sk.fact 22 81 rfl (sd 22 rfl)
      exact Runs.pick rfl h70 ⟨Ext.refl _, by first | exact h81 | simpa using h81⟩
    · refine stepE rfl fun sdn sa sw sE sd sk => ?_
      have h82 : sa.eval (.tmp 82) = .bool (true) := sk.fact 23 82 rfl (sd 23 rfl)
      exact Runs.move rfl h82 ⟨Ext.refl _, rfl⟩
    · refine stepY (j := 24) (d := 83) (b := true) rfl rfl rfl (fun v w h => h) fun sdn sa sw sE sd sk => ?_
      refine Runs.call (f := 40) (vs := []) rfl rfl rfl (by simp only [List.map_toArray, List.map_cons, List.map_nil] <;> rfl) (ent40 _ _) ((known4_any sw).mono ?_); rintro e w' ⟨rfl, hx⟩; exact ⟨_, rfl, hx, rfl⟩
    · refine stepE rfl fun sdn sa sw sE sd sk => ?_
      have h83 : sa.eval (.tmp 83) = .bool (true) := sk.fact 24 83 rfl (sd 24 rfl)
      have h84 : sa.eval (.tmp 84) = .bool (true) := sk.fact 25 84 rfl (sd 25 rfl)
      exact Runs.pick rfl h83 ⟨Ext.refl _, by first | exact h84 | simpa using h84⟩
    · refine stepE rfl fun sdn sa sw sE sd sk => ?_
      have h85 : sa.eval (.tmp 85) = .bool (true) := sk.fact 26 85 rfl (sd 26 rfl)
      exact Runs.assign rfl h85 ⟨Ext.refl _, rfl⟩
    intro vals W9 hE hv
    have e0 : vals 0 = .bool (true) := hv 0 (by omega) 59 rfl
    have e1 : vals 1 = .bool (true) := hv 1 (by omega) 60 rfl
    have e2 : vals 2 = .bool (true) := hv 2 (by omega) 61 rfl
    have e3 : vals 3 = .bool (true) := hv 3 (by omega) 62 rfl
    have e4 : vals 4 = .bool (true) := hv 4 (by omega) 63 rfl
    have e5 : vals 5 = .slice (A8) (32) (c8) := hv 5 (by omega) 64 rfl
    have e6 : vals 6 = .string (str (V)) := hv 6 (by omega) 65 rfl
    have e7 : vals 7 = .slice (A9) (32) (c9) := hv 7 (by omega) 66 rfl
    have e8 : vals 8 = .string (str (V)) := hv 8 (by omega) 67 rfl
    have e9 : vals 9 = .bool (true) := hv 9 (by omega) 68 rfl
    have e10 : vals 10 = .bool (true) := hv 10 (by omega) 69 rfl
    have e11 : vals 11 = .bool (true) := hv 11 (by omega) 70 rfl
    have e12 : vals 12 = .int .u8 (u8i (t)) := hv 12 (by omega) 71 rfl
    have e13 : vals 13 = .bool (true) := hv 13 (by omega) 72 rfl
    have e14 : vals 14 = .bool (true) := hv 14 (by omega) 73 rfl
    have e22 : vals 22 = .bool (true) := hv 22 (by omega) 81 rfl
    have e23 : vals 23 = .bool (true) := hv 23 (by omega) 82 rfl
    have e24 : vals 24 = .bool (true) := hv 24 (by omega) 83 rfl
    have e25 : vals 25 = .bool (true) := hv 25 (by omega) 84 rfl
    have e26 : vals 26 = .bool (true) := hv 26 (by omega) 85 rfl
    have e27 : vals 27 = .bool (true) := hv 27 (by omega) 8 rfl
    simp only [putAll, Act.put, List.take_succ_cons, List.take_zero, List.drop_succ_cons, List.drop_zero, List.drop_nil, List.take_nil, Nat.reduceAdd, List.setIfInBounds_toArray, List.set_cons_succ, List.set_cons_zero, e0, e1, e2, e3, e4, e5, e6, e7, e8, e9, e10, e11, e12, e13, e14, e22, e23, e24, e25, e26, e27]
    clear hv e0 e1 e2 e3 e4 e5 e6 e7 e8 e9 e10 e11 e12 e13 e14 e22 e23 e24 e25 e26 e27
    go_wp2_with fail
    go_ret
    exact ⟨rfl, hE09.trans hE⟩
end Go.Proofs.Ytmgnigofilkfmaa

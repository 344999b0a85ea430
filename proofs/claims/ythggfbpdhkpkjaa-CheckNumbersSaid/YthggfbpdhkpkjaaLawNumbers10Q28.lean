/-
  check.Put, check.Encode; ref10's Put, walked.
-/
import Derived.Test.YthggfbpdhkpkjaaLawNumbers10Q27
import Derived.Test.YthggfbpdhkpkjaaLawNumbers10Q24
namespace Go.Proofs.Ythggfbpdhkpkjaa
set_option maxRecDepth 100000
open Go Go.RowKit
noncomputable def putOK (x : Int) (R : List UInt8) (k : Int) (Ps Qs : List (List UInt8)) : Bool := rightC x R && rightB k Ps Qs
noncomputable def putL (x : Int) (R : List UInt8) (k : Int) (Ps Qs : List (List UInt8)) : List UInt8 := if putOK x R k Ps Qs = true then bytesOf (keyW x) ++ (R ++ encS k Ps Qs) else []
/-- an errno: none, or that one -/
def errV (b : Bool) (e : Int) : Int := if b = true then 0 else e
theorem putL_yes {x : Int} {R : List UInt8} {k : Int} {Ps Qs : List (List UInt8)} (h : putOK x R k Ps Qs = true) : putL x R k Ps Qs = bytesOf (keyW x) ++ (R ++ encS k Ps Qs) := by unfold putL; rw [if_pos h]
theorem putL_no {x : Int} {R : List UInt8} {k : Int} {Ps Qs : List (List UInt8)} (h : putOK x R k Ps Qs = false) : putL x R k Ps Qs = [] := by unfold putL; rw [h]; rfl
theorem Wtr.ext_ {w w' : World} {base p n c : Nat} {A : Option Addr} {L : List UInt8} (h : Wtr w base p A n c L) (e : Ext w w') : Wtr w' base p A n c L := ⟨h.blk.ext e, h.own.ext e, h.ne, h.base⟩
theorem Wtr.ext {w w' : World} {base p n c : Nat} {A : Option Addr} {L : List UInt8} (h : Wtr w base p A n c L) (e : Ext w w') : Wtr w' base p A n c L := h.ext_ e
theorem Wtr.lt_ {w : World} {base p n c : Nat} {A : Option Addr} {L : List UInt8} (h : Wtr w base p A n c L) : p < w.heap.size ∧ ∀ k, Go.Proofs.Ythggfbpdhkpkjaa.blk A = some k → k < w.heap.size := ⟨h.blk.lt, fun k hk => (h.own.lt hk).2⟩
theorem Blk.chg_ {w w' : World} {g : Nat} {t : TypeId} {cs : Array Value} {p : Nat} {A : Option Addr} (h : Blk w g t cs) (k : Chg w w' p A) (h1 : g ≠ p) (h2 : blk A ≠ some g) : Blk w' g t cs := (k.block g h.lt h1 h2).trans h
theorem WP.of_ext {wI w w' : World} {p n c : Nat} {A : Option Addr} {L : List UInt8} (h : Wtr w wI.heap.size p A n c L) (e : Ext w w') : WP wI w p A n L w' := ⟨A, c, h.ext_ e, e.chg _ _, Later.refl _ _⟩
theorem WP.pre {wI w w1 w2 : World} {p N : Nat} {A : Option Addr} {M : List UInt8} (e : Ext w w1) (h : WP wI w1 p A N M w2) : WP wI w p A N M w2 := by
  obtain ⟨A', c', k1, k2, k3⟩ := h
  refine ⟨A', c', k1, (e.chg p A).trans (Later.refl _ _) k2, ?_⟩
  rcases k3 with k | k | ⟨q, k, hq⟩
  · exact .inl k
  · exact .inr (.inl k)
  · exact .inr (.inr ⟨q, k, Nat.le_trans e.size hq⟩)
set_option maxHeartbeats 4000000 in
theorem cput_any (wI w : World) (p n0 c0 : Nat) (A0 : Option Addr) (X0 : List UInt8) (B P Q : Option Addr) (n d np cp nq cq : Nat) (x k : Int) (R : List UInt8) (PS QS : List (List UInt8)) (hEI : Ext wI w) (hW : Wtr w wI.heap.size p A0 n0 c0 X0) (hn : n0 ≤ 1000000) (rR : RB w B n d R) (ha : Away B n p A0) (rP : RBB w P np cp PS) (rQ : RBB w Q nq cq QS) :
    Calls Try.prog 23 #[.pointer (some ⟨p, 0, none⟩), .agg #[.int .i64 x, .slice B n d, .int .i64 k, .slice P np cp, .slice Q nq cq]] w fun e w' => e = .returned (.bool (putOK x R k PS QS)) ∧ WP wI w p A0 (n0 + (putL x R k PS QS).length) (X0 ++ putL x R k PS QS) w' := by
  have hck := fun w' => conv_key (P := Try.prog) (w := w') Try.underlying3 Try.underlying101 x
  have hE := Ext.new w (.cells #[.int .i64 x, .slice B n d, .int .i64 k, .slice P np cp, .slice Q nq cq] 41)
  have hB := Blk.new w 41 #[.int .i64 x, .slice B n d, .int .i64 k, .slice P np cp, .slice Q nq cq]
  have hpw := hW.lt_
  go_enter Try.func23, Try.ntmps23
  go_wp2_with fail
  refine (sencode_any k P Q np cp nq cq PS QS _ (rP.ext hE) (rQ.ext hE)).mono ?_
  rintro e w2 ⟨hyes, hno, hE2⟩
  replace hB := hB.ext hE2
  replace hE := hE.trans hE2
  have hsz := (Ext.new w (.cells #[.int .i64 x, .slice B n d, .int .i64 k, .slice P np cp, .slice Q nq cq] 41)).size
  clear hE2 rP rQ
  cases hb : rightB k PS QS with
  | false =>
    obtain rfl := hno hb
    have hv : putOK x R k PS QS = false := by unfold putOK; rw [hb]; simp
    have hl : putL x R k PS QS = [] := putL_no hv
    have Hv := Lib.hid hv
    have Hl := Lib.hid hl
    clear hyes hno hck hb hv hl
    go_wp2_with fail
    go_ret
    rw [Hv.out, Hl.out]
    exact ⟨rfl, by simpa using WP.of_ext hW hE⟩
  | true =>
    obtain ⟨G, dg, rfl, own⟩ := hyes hb
    clear hyes hno
    have y0 := hB.cell (i := 0) (v := .int .i64 x) rfl
    have y1 := hB.cell (i := 1) (v := .slice B n d) rfl
    have Hb := Lib.hid hb
    clear hb
    go_wp2_with fail
    refine (cright_any x B n d R w2 (rR.ext hE)).mono ?_
    rintro e w3 ⟨rfl, hE3⟩
    replace hB := hB.ext hE3
    replace hE := hE.trans hE3
    replace own := own.ext hE3
    clear hE3 y0 y1
    cases hc : rightC x R with
    | false =>
      have hv : putOK x R k PS QS = false := by unfold putOK; rw [hc]; simp
      have hl : putL x R k PS QS = [] := putL_no hv
      have Hv := Lib.hid hv
      have Hl := Lib.hid hl
      clear hck hv hl hc
      go_wp2_with fail
      go_ret
      rw [Hv.out, Hl.out]
      exact ⟨rfl, by simpa using WP.of_ext hW hE⟩
    | true =>
      have hv : putOK x R k PS QS = true := by unfold putOK; rw [hc, Hb.out]; rfl
      have hl := putL_yes hv
      have h32 := (rightC_true hc).2.2
      obtain rfl : n = 32 := rR.len.symm.trans h32
      have Hl2 := own.len
      have hlen : (bytesOf (keyW x) ++ (R ++ encS k PS QS)).length = 4 + 32 + 2180 := by
        have h4 : (bytesOf (keyW x)).length = 4 := rfl
        simp only [List.length_append, h4, h32, Hl2]
      have Hlen := Lib.hid hlen
      have Hv := Lib.hid hv
      have Hl := Lib.hid hl
      have Happ := Lib.hid (show X0 ++ (bytesOf (keyW x) ++ (R ++ encS k PS QS)) = X0 ++ beBytes (keyW x) 4 ++ R ++ encS k PS QS by rw [beBytes_four]; simp only [List.append_assoc])
      clear hv hl hlen h32 Hl2 hc Hb
      have hW3 := hW.ext_ hE
      have rR3 := rR.ext hE
      have hEI3 := hEI.trans hE
      have y0 := hB.cell (i := 0) (v := .int .i64 x) rfl
      have y1 := hB.cell (i := 1) (v := .slice B 32 d) rfl
      have hgs := hB.lt
      have hWn := wnum_any wI w3 p n0 c0 A0 X0 (keyW x) hEI3 hW3 (by omega)
      have HWn := Lib.hid hWn
      clear hWn
      go_wp2_with fail
      refine HWn.out.mono ?_
      rintro e w4 ⟨rfl, A4, c4, hW4, hC4, hL4⟩
      have hB4 := hB.chg_ hC4 (by omega) (fun e => by have := hpw.2 _ e; omega)
      have rR4 := rR3.chg hC4 ha
      have ha4 := ha.later hL4 (fun h0 q hq => rR3.blk_lt h0 q hq)
      have rG := own.rb
      have haG : Away G 2180 p A0 := fun _ q hq => by have := (own.lt hq).1; exact ⟨by omega, fun e => by have := hpw.2 _ e; omega⟩
      have rG4 := rG.chg hC4 haG
      have haG4 := haG.later hL4 (fun h0 q hq => rG.blk_lt h0 q hq)
      have hEI4 := hW3.chg_ext hEI3 hC4
      have y0 := hB4.cell (i := 0) (v := .int .i64 x) rfl
      have y1 := hB4.cell (i := 1) (v := .slice B 32 d) rfl
      have hWn := wraw_any wI w4 p (n0 + 4) c4 32 d A4 B (X0 ++ beBytes (keyW x) 4) R hEI4 hW4 rR4 (by omega)
      have HWr := Lib.hid hWn
      clear hWn HWn hB rG hck
      go_wp2_with fail
      refine HWr.out.mono ?_
      rintro e w5 ⟨rfl, A5, c5, hW5, hC5, hL5⟩
      have rG5 := rG4.chg hC5 haG4
      have hEI5 := hW4.chg_ext hEI4 hC5
      have hWn := wraw_any wI w5 p (n0 + 4 + 32) c5 2180 dg A5 G (X0 ++ beBytes (keyW x) 4 ++ R) (encS k PS QS) hEI5 hW5 rG5 (by omega)
      have HWs := Lib.hid hWn
      clear hWn HWr y0 y1
      go_wp2_with fail
      refine HWs.out.mono ?_
      rintro e w6 ⟨rfl, k6⟩
      go_wp2_with fail
      go_ret
      rw [Hv.out, Hl.out, Hlen.out, Happ.out]
      refine ⟨rfl, ?_⟩
      have k4 := WP.trans hW4 hC4 hL4 (k6.trans hW5 hC5 hL5)
      exact WP.pre hE (by simpa [Nat.add_assoc] using k4)
theorem encS_len {k : Int} {PS QS : List (List UInt8)} (h : rightB k PS QS = true) : (encS k PS QS).length = 2180 := by
  obtain ⟨_, ⟨hpl, hp32⟩, hql, hq32⟩ := rightB_true h
  unfold encS
  have hL : (PS ++ QS).length = 68 := by rw [List.length_append, hpl, hql]
  have hf := flatten_take_len (PS ++ QS) 68 (by omega) (fun i hi => by
    by_cases h64 : i < 64
    · unfold lb
      rw [List.getD_eq_getElem?_getD, List.getElem?_append_left (by omega), ← List.getD_eq_getElem?_getD]
      exact hp32 i (by omega)
    · unfold lb
      rw [List.getD_eq_getElem?_getD, List.getElem?_append_right (by omega), ← List.getD_eq_getElem?_getD, hpl]
      exact hq32 (i - 64) (by omega))
  rw [List.take_of_length_le (by omega)] at hf
  simp only [List.length_append, hf]
  rfl
set_option maxHeartbeats 2000000 in
theorem cencode_any (B P Q : Option Addr) (n d np cp nq cq : Nat) (x k : Int) (R : List UInt8) (PS QS : List (List UInt8)) (w : World) (rR : RB w B n d R) (rP : RBB w P np cp PS) (rQ : RBB w Q nq cq QS) :
    Calls Try.prog 28 #[.agg #[.int .i64 x, .slice B n d, .int .i64 k, .slice P np cp, .slice Q nq cq]] w fun e w' => ∃ G m c, e = .returned (.tuple #[.slice G m c, .int .i64 (errV (putOK x R k PS QS) 12)]) ∧ OB w' w.heap.size G m c (putL x R k PS QS) ∧ Ext w w' := by
  have hE := Ext.new w (.cells #[.int .i64 x, .slice B n d, .int .i64 k, .slice P np cp, .slice Q nq cq] 41)
  have hB := Blk.new w 41 #[.int .i64 x, .slice B n d, .int .i64 k, .slice P np cp, .slice Q nq cq]
  go_enter Try.func28, Try.ntmps28
  go_wp2_with fail
  generalize w.alloc (.cells #[.int .i64 x, .slice B n d, .int .i64 k, .slice P np cp, .slice Q nq cq] 41) = w1 at *
  refine (wnew_any w1).mono ?_
  rintro e w2 ⟨p, rfl, hW, hE2⟩
  replace hB := hB.ext hE2
  have y0 := hB.cell (i := 0) (v := .int .i64 x) rfl
  have y1 := hB.cell (i := 1) (v := .slice B n d) rfl
  have y2 := hB.cell (i := 2) (v := .int .i64 k) rfl
  have y3 := hB.cell (i := 3) (v := .slice P np cp) rfl
  have y4 := hB.cell (i := 4) (v := .slice Q nq cq) rfl
  have ha := hW.away (rR.ext hE)
  have hEw := hE.trans hE2
  go_wp2_with fail
  refine (cput_any w1 w2 p 0 0 none [] B P Q n d np cp nq cq x k R PS QS hE2 hW (by omega) (rR.ext hEw) ha (rP.ext hEw) (rQ.ext hEw)).mono ?_
  rintro e w3 ⟨rfl, A3, c3, hW3, hC3, hL3⟩
  have hE3 := hW.chg_ext hE2 hC3
  have hEf := hE.trans hE3
  clear y0 y1 y2 y3 y4 hB hW hL3 ha hC3
  rw [List.nil_append, Nat.zero_add] at hW3
  cases hv : putOK x R k PS QS with
  | false =>
    have hl := putL_no hv
    have Hv := Lib.hid hv
    have Hl := Lib.hid hl
    clear hv hl hW3
    go_wp2_with fail
    go_ret2
    rw [Hv.out, Hl.out]
    exact ⟨none, 0, 0, rfl, OB.none_ _ _, hEf⟩
  | true =>
    have hlen : (putL x R k PS QS).length ≤ 1000000 := by
      have hcr : rightC x R = true ∧ rightB k PS QS = true := by unfold putOK at hv; simpa using hv
      rw [putL_yes hv]
      have h32 := (rightC_true hcr.1).2.2
      have h4 : (bytesOf (keyW x)).length = 4 := rfl
      have h5 := encS_len hcr.2
      simp only [List.length_append, h4, h32, h5]
      decide
    have Hv := Lib.hid hv
    clear hv
    obtain ⟨M, hM⟩ : ∃ M, M = putL x R k PS QS := ⟨_, rfl⟩
    rw [← hM] at hW3 hlen
    have HM := Lib.hid hM
    clear hM
    go_wp2_with fail
    refine (wdone_any w3 _ p _ _ _ _ hW3 (by omega)).mono ?_
    rintro e w4 ⟨G, dg, rfl, own, hE4⟩
    go_wp2_with fail
    go_ret2
    rw [Hv.out, ← HM.out]
    exact ⟨G, _, dg, rfl, own.base hEf.size, hEf.trans hE4⟩
set_option maxHeartbeats 4000000 in
theorem rcput_any (B P Q : Option Addr) (n d np cp nq cq : Nat) (x k : Int) (R : List UInt8) (PS QS : List (List UInt8)) (w : World) (rR : RB w B n d R) (rP : RBB w P np cp PS) (rQ : RBB w Q nq cq QS) :
    Calls Try.prog 33 #[.slice none 0 0, .agg #[.int .i64 x, .slice B n d, .int .i64 k, .slice P np cp, .slice Q nq cq]] w fun e w' => ∃ G m c, e = .returned (.tuple #[.slice G m c, .bool (putOK x R k PS QS)]) ∧ RB w' G m c (putL x R k PS QS) ∧ Ext w w' := by
  have hck := fun w' => conv_key (P := Try.prog) (w := w') Try.underlying3 Try.underlying101 x
  have hE := Ext.new w (.cells #[.int .i64 x, .slice B n d, .int .i64 k, .slice P np cp, .slice Q nq cq] 41)
  have hB := Blk.new w 41 #[.int .i64 x, .slice B n d, .int .i64 k, .slice P np cp, .slice Q nq cq]
  replace rR := rR.ext hE
  replace rP := rP.ext hE
  replace rQ := rQ.ext hE
  go_enter Try.func33, Try.ntmps33
  go_wp2_with fail
  generalize w.alloc (.cells #[.int .i64 x, .slice B n d, .int .i64 k, .slice P np cp, .slice Q nq cq] 41) = w1 at *
  refine (rcright_any x B n d R w1 rR).mono ?_
  rintro e w2 ⟨rfl, hE2⟩
  replace hB := hB.ext hE2
  replace hE := hE.trans hE2
  replace rR := rR.ext hE2
  replace rP := rP.ext hE2
  replace rQ := rQ.ext hE2
  clear hE2
  cases hc : rightC x R with
  | false =>
    have hv : putOK x R k PS QS = false := by unfold putOK; rw [hc]; simp
    have hl := putL_no hv
    have Hv := Lib.hid hv
    have Hl := Lib.hid hl
    clear hc hv hl hck
    go_wp2_with fail
    go_ret2
    rw [Hv.out, Hl.out]
    exact ⟨none, 0, 0, rfl, RB.nil_ _, hE⟩
  | true =>
    have y2 := hB.cell (i := 2) (v := .int .i64 k) rfl
    have y3 := hB.cell (i := 3) (v := .slice P np cp) rfl
    have y4 := hB.cell (i := 4) (v := .slice Q nq cq) rfl
    have Hc := Lib.hid hc
    clear hc
    go_wp2_with fail
    refine (rright_any k P Q np cp nq cq PS QS w2 rP rQ).mono ?_
    rintro e w3 ⟨rfl, hE2⟩
    replace hB := hB.ext hE2
    replace hE := hE.trans hE2
    replace rR := rR.ext hE2
    replace rP := rP.ext hE2
    replace rQ := rQ.ext hE2
    clear hE2 y2 y3 y4
    cases hb : rightB k PS QS with
    | false =>
      have hv : putOK x R k PS QS = false := by unfold putOK; rw [hb]; simp
      have hl := putL_no hv
      have Hv := Lib.hid hv
      have Hl := Lib.hid hl
      clear hv hl hck hb
      go_wp2_with fail
      go_ret2
      rw [Hv.out, Hl.out]
      exact ⟨none, 0, 0, rfl, RB.nil_ _, hE⟩
    | true =>
      have hv : putOK x R k PS QS = true := by unfold putOK; rw [hb, Hc.out]; rfl
      have hl := putL_yes hv
      have h32 := (rightC_true Hc.out).2.2
      obtain rfl : n = 32 := rR.len.symm.trans h32
      have Hv := Lib.hid hv
      have Hl := Lib.hid hl
      have Hb := Lib.hid hb
      clear hv hl h32 hb
      go_upto_region 3 with (fail)
      have hSt9 : ∀ j m, ([.is (.slice (none) (0) (0)), .is (.pointer (some ⟨w.heap.size, 0, none⟩)), .is (.pointer (some ⟨w.heap.size, 0, none⟩)), .is (.int .i64 (x)), .is (.int .u32 (u32i (keyW x))), .om (w3.heap.size) (4) (bytesOf (keyW x)), .is (.pointer (some ⟨w.heap.size, 0, none⟩)), .is (.pointer (some ⟨w.heap.size, 1, none⟩)), .is (.slice (B) (32) (d)), .om (w3.heap.size) (4 + 32) (bytesOf (keyW x) ++ R), .is (.pointer (some ⟨w.heap.size, 2, none⟩)), .is (.agg #[.int .i64 (k), .slice (P) (np) (cp), .slice (Q) (nq) (cq)]), .rk (2180) (encS k PS QS)] : List (MP Ext))[j]? = some m → j ≠ 9 → ([(12, 9)] : List (Nat × Nat)).contains (j, 9) = false → ApOK w3.heap.size 4 m := by
        intro j m hm h7 h12
        rcases j with _ | _ | _ | _ | _ | _ | _ | _ | _ | _ | _ | _ | _ | j
        · injection hm with hm; subst hm; exact apok_is _ _ _
        · injection hm with hm; subst hm; exact apok_is _ _ _
        · injection hm with hm; subst hm; exact apok_is _ _ _
        · injection hm with hm; subst hm; exact apok_is _ _ _
        · injection hm with hm; subst hm; exact apok_is _ _ _
        · injection hm with hm; subst hm; exact apok_om (Nat.le_refl _) _
        · injection hm with hm; subst hm; exact apok_is _ _ _
        · injection hm with hm; subst hm; exact apok_is _ _ _
        · injection hm with hm; subst hm; exact apok_is _ _ _
        · exact absurd rfl h7
        · injection hm with hm; subst hm; exact apok_is _ _ _
        · injection hm with hm; subst hm; exact apok_is _ _ _
        · exact absurd h12 (by decide)
        · simp at hm
      refine par_ap (n := 13) [(12, 9)] (by kernel_rfl) [.is (.slice (none) (0) (0)), .is (.pointer (some ⟨w.heap.size, 0, none⟩)), .is (.pointer (some ⟨w.heap.size, 0, none⟩)), .is (.int .i64 (x)), .is (.int .u32 (u32i (keyW x))), .om (w3.heap.size) (4) (bytesOf (keyW x)), .is (.pointer (some ⟨w.heap.size, 0, none⟩)), .is (.pointer (some ⟨w.heap.size, 1, none⟩)), .is (.slice (B) (32) (d)), .om (w3.heap.size) (4 + 32) (bytesOf (keyW x) ++ R), .is (.pointer (some ⟨w.heap.size, 2, none⟩)), .is (.agg #[.int .i64 (k), .slice (P) (np) (cp), .slice (Q) (nq) (cq)]), .rk (2180) (encS k PS QS)] rfl ⟨?_, ?_, ?_, ?_, ?_, ?_, ?_, ?_, ?_, ?_, ?_, ?_, ?_, trivial⟩ ?_
      · refine stepEP rfl (by decide) fun sdn sa sw sE sd sk => ?_
        have h0 : sa.eval (.tmp 0) = .slice (none) (0) (0) := sk.old 0 rfl
        exact Runs.move rfl h0 ⟨Ext.refl _, rfl⟩
      · refine stepEP rfl (by decide) fun sdn sa sw sE sd sk => ?_
        have h3 : sa.eval (.tmp 3) = .pointer (some ⟨w.heap.size, 0, none⟩) := sk.old 3 rfl
        refine Runs.of_run (r := .pointer (some ⟨w.heap.size, 0, none⟩)) (w' := sw) ?_ ⟨Ext.refl _, rfl⟩
        unfold execOp
        simp only [h3]
        go_simp
      · refine stepEP rfl (by decide) fun sdn sa sw sE sd sk => ?_
        have h18 : sa.eval (.tmp 18) = .pointer (some ⟨w.heap.size, 0, none⟩) := sk.fact 1 18 rfl (sd 1 rfl)
        refine Runs.of_run (r := .pointer (some ⟨w.heap.size, 0, none⟩)) (w' := sw) ?_ ⟨Ext.refl _, rfl⟩
        unfold execOp
        simp only [h18]
        go_simp
      · refine stepEP rfl (by decide) fun sdn sa sw sE sd sk => ?_
        have h19 : sa.eval (.tmp 19) = .pointer (some ⟨w.heap.size, 0, none⟩) := sk.fact 2 19 rfl (sd 2 rfl)
        exact Runs.load rfl h19 (run_load1 Try.underlying3 rfl ((hB.ext sE).cell (i := 0) rfl)) ⟨Ext.refl _, rfl⟩
      · refine stepEP rfl (by decide) fun sdn sa sw sE sd sk => ?_
        have h20 : sa.eval (.tmp 20) = .int .i64 (x) := sk.fact 3 20 rfl (sd 3 rfl)
        exact Runs.conv rfl h20 (conv_key Try.underlying3 Try.underlying101 x) ⟨Ext.refl _, rfl⟩
      · refine stepEP rfl (by decide) fun sdn sa sw sE sd sk => ?_
        have h17 : sa.eval (.tmp 17) = .slice (none) (0) (0) := sk.fact 0 17 rfl (sd 0 rfl)
        have h21 : sa.eval (.tmp 21) = .int .u32 (u32i (keyW x)) := sk.fact 4 21 rfl (sd 4 rfl)
        refine Runs.call (f := 82) (vs := [.slice (none) (0) (0), .int .u32 (u32i (keyW x))]) rfl rfl rfl (by simp only [List.map_toArray, List.map_cons, List.map_nil, h17, h21] <;> rfl) (ent82 _ _) ((num4_any (keyW x) sw).mono ?_); rintro e w' ⟨A', c', rfl, om, hx⟩; exact ⟨_, rfl, hx, A', c', rfl, OM.of_ob (om.base sE.size) (by omega)⟩
      · refine stepEP rfl (by decide) fun sdn sa sw sE sd sk => ?_
        have h3 : sa.eval (.tmp 3) = .pointer (some ⟨w.heap.size, 0, none⟩) := sk.old 3 rfl
        refine Runs.of_run (r := .pointer (some ⟨w.heap.size, 0, none⟩)) (w' := sw) ?_ ⟨Ext.refl _, rfl⟩
        unfold execOp
        simp only [h3]
        go_simp
      · refine stepEP rfl (by decide) fun sdn sa sw sE sd sk => ?_
        have h23 : sa.eval (.tmp 23) = .pointer (some ⟨w.heap.size, 0, none⟩) := sk.fact 6 23 rfl (sd 6 rfl)
        refine Runs.of_run (r := .pointer (some ⟨w.heap.size, 1, none⟩)) (w' := sw) ?_ ⟨Ext.refl _, rfl⟩
        unfold execOp
        simp only [h23]
        go_simp
      · refine stepEP rfl (by decide) fun sdn sa sw sE sd sk => ?_
        have h24 : sa.eval (.tmp 24) = .pointer (some ⟨w.heap.size, 1, none⟩) := sk.fact 7 24 rfl (sd 7 rfl)
        exact Runs.load rfl h24 (run_load1 Try.underlying22 rfl ((hB.ext sE).cell (i := 1) rfl)) ⟨Ext.refl _, rfl⟩
      · refine stepAP (n := 4) rfl (by decide) hSt9 fun sdn sa sw sE sd sk => ?_
        obtain ⟨A22, c22, h22, o22⟩ := sk.fact 5 22 rfl (sd 5 rfl)
        have h25 : sa.eval (.tmp 25) = .slice (B) (32) (d) := sk.fact 8 25 rfl (sd 8 rfl)
        refine Runs.appm rfl h22 h25 o22 (rR.ext sE) (by omega) sE.size (by omega) (fun A' c' w' h1 h2 => ⟨h2, A', c', rfl, h1⟩)
      · refine stepEP rfl (by decide) fun sdn sa sw sE sd sk => ?_
        have h3 : sa.eval (.tmp 3) = .pointer (some ⟨w.heap.size, 0, none⟩) := sk.old 3 rfl
        refine Runs.of_run (r := .pointer (some ⟨w.heap.size, 2, none⟩)) (w' := sw) ?_ ⟨Ext.refl _, rfl⟩
        unfold execOp
        simp only [h3]
        go_simp
      · refine stepEP rfl (by decide) fun sdn sa sw sE sd sk => ?_
        have h27 : sa.eval (.tmp 27) = .pointer (some ⟨w.heap.size, 2, none⟩) := sk.fact 10 27 rfl (sd 10 rfl)
        exact Runs.load rfl h27 (load_part (hB.ext sE) 2 (vs := [.int .i64 (k), .slice (P) (np) (cp), .slice (Q) (nq) (cq)]) rfl Try.underlying39 rfl (by kernel_rfl)) ⟨Ext.refl _, rfl⟩
      · refine stepEP rfl (by decide) fun sdn sa sw sE sd sk => ?_
        have h28 : sa.eval (.tmp 28) = .agg #[.int .i64 (k), .slice (P) (np) (cp), .slice (Q) (nq) (cq)] := sk.fact 11 28 rfl (sd 11 rfl)
        refine Runs.call (f := 59) (vs := [.agg #[.int .i64 (k), .slice (P) (np) (cp), .slice (Q) (nq) (cq)]]) rfl rfl rfl (by simp only [List.map_toArray, List.map_cons, List.map_nil, h28] <;> rfl) (ent59 _ _) ((rencode_any _ _ _ _ _ _ _ _ _ sw (rP.ext sE) (rQ.ext sE) Hb.out).mono ?_); rintro e w' ⟨A', c', rfl, own, hx⟩; exact ⟨_, rfl, hx, A', c', rfl, own.rb⟩
      intro vals W3 hE3 hv3
      have e0 : vals 0 = .slice (none) (0) (0) := hv3 0 (by omega) 17 rfl
      have e1 : vals 1 = .pointer (some ⟨w.heap.size, 0, none⟩) := hv3 1 (by omega) 18 rfl
      have e2 : vals 2 = .pointer (some ⟨w.heap.size, 0, none⟩) := hv3 2 (by omega) 19 rfl
      have e3 : vals 3 = .int .i64 (x) := hv3 3 (by omega) 20 rfl
      have e4 : vals 4 = .int .u32 (u32i (keyW x)) := hv3 4 (by omega) 21 rfl
      obtain ⟨A22, c22, e5, o22⟩ := hv3 5 (by omega) 22 rfl
      have e6 : vals 6 = .pointer (some ⟨w.heap.size, 0, none⟩) := hv3 6 (by omega) 23 rfl
      have e7 : vals 7 = .pointer (some ⟨w.heap.size, 1, none⟩) := hv3 7 (by omega) 24 rfl
      have e8 : vals 8 = .slice (B) (32) (d) := hv3 8 (by omega) 25 rfl
      obtain ⟨A26, c26, e9, o26⟩ := hv3 9 (by omega) 26 rfl
      have e10 : vals 10 = .pointer (some ⟨w.heap.size, 2, none⟩) := hv3 10 (by omega) 27 rfl
      have e11 : vals 11 = .agg #[.int .i64 (k), .slice (P) (np) (cp), .slice (Q) (nq) (cq)] := hv3 11 (by omega) 28 rfl
      obtain ⟨A29, c29, e12, r29⟩ := hv3 12 (by omega) 29 rfl
      simp only [putAll, Act.put, List.take_succ_cons, List.take_zero, List.drop_succ_cons, List.drop_zero, List.drop_nil, List.take_nil, Nat.reduceAdd, List.setIfInBounds_toArray, List.set_cons_succ, List.set_cons_zero, e0, e1, e2, e3, e4, e5, e6, e7, e8, e9, e10, e11, e12]
      clear hv3 e0 e1 e2 e3 e4 e5 e6 e7 e8 e9 e10 e11 e12
      go_wp2_with (refine appm_law (N := 4 + 32 + 2180) (LM := bytesOf (keyW x) ++ (R ++ encS k PS QS)) rfl rfl rfl rfl hE3 o26 r29 (by omega) rfl (by simp) (by omega) ?_; intro A6 c6 w6 own6 hE6 hg6)
      go_ret2
      rw [Hv.out, Hl.out]
      exact ⟨A6, _, c6, rfl, own6.rb, hE.trans hE6⟩
end Go.Proofs.Ythggfbpdhkpkjaa

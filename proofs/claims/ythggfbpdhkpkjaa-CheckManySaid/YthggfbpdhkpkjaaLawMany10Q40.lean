/-
  CheckMany, walked (under way).
-/
import Derived.Test.YthggfbpdhkpkjaaLawMany10Q38
import Derived.Test.YthggfbpdhkpkjaaLawMany10Q39
import Derived.Test.YthggfbpdhkpkjaaLawMany10Q5
namespace Go.Proofs.Ythggfbpdhkpkjaa
set_option maxRecDepth 100000
open Go Go.RowKit
theorem run_idx_sl5 {P : Program} {w : World} {t e : TypeId} {i0 : TypeInfo} (ht : P.underlying t = some (.slice e)) (hi : P.info? e = some i0) (hs : i0.size = 5) {ad : Addr} {n c : Nat} {k : IntKind} {i : Int} (j : Nat) (hj : i = (j : Int)) (h1 : j < n) :
    (Instr.indexAt t (.slice (some ad) n c) (.int k i)).run P w = .ok (.pointer (some (ad.add (j * 5)))) w := by
  subst hj
  have := run_idx_sl (P := P) (w := w) ht hi hs (ad := ad) (n := n) (c := c) (k := k) (i := (j : Int)) (by omega) (by omega)
  simpa using this
noncomputable def infS : TypeInfo := (Try.prog.info? 41).getD default
theorem infS_eq : Try.prog.info? 41 = some infS := by kernel_rfl
theorem infS_size : infS.size = 5 := by kernel_rfl
theorem load_sg {w : World} {p : Addr} {v0 v1 v2 v3 v4 : Value} (h0 : w.cell? p = some v0) (h1 : w.cell? (p.add 1) = some v1) (h2 : w.cell? (p.add 2) = some v2) (h3 : w.cell? (p.add 3) = some v3) (h4 : w.cell? (p.add 4) = some v4) :
    (Instr.loadAt 41 (.pointer (some p))).run Try.prog w = .ok (.agg #[v0, v1, v2, v3, v4]) w := by
  have e1 : w.cell? ⟨p.block, p.off + 1, none⟩ = some v1 := h1
  have e2 : w.cell? ⟨p.block, p.off + 2, none⟩ = some v2 := h2
  have e3 : w.cell? ⟨p.block, p.off + 3, none⟩ = some v3 := h3
  have e4 : w.cell? ⟨p.block, p.off + 4, none⟩ = some v4 := h4
  go_simp
noncomputable def mx (zs : List Int) (i : Nat) : Int := within (zs.getD i 0) 0 256
noncomputable def mG (S : List UInt8) (zs : List Int) (i : Nat) : SG := ⟨mx zs i, khash (i : Int), (i : Int), sigP S (bodyC checkL (mx zs i) (khash (i : Int))) i, pathL S i⟩
noncomputable def mGs (S : List UInt8) (zs : List Int) (k : Nat) : List SG := (List.range k).map (mG S zs)
noncomputable def putG (g : SG) : List UInt8 := putL g.x g.R g.k g.ps g.qs
noncomputable def putGs (gs : List SG) : List UInt8 := (gs.map putG).flatten
theorem mGs_snoc (S : List UInt8) (zs : List Int) (k : Nat) : mGs S zs (k + 1) = mGs S zs k ++ [mG S zs k] := range_snoc _ _
theorem putGs_snoc (gs : List SG) (g : SG) : putGs (gs ++ [g]) = putGs gs ++ putG g := by
  unfold putGs
  simp
theorem putGs_cons (g : SG) (gs : List SG) : putGs (g :: gs) = putG g ++ putGs gs := by
  unfold putGs
  simp
theorem mG_ok (S : List UInt8) (zs : List Int) {i : Nat} (hi : i < 16) : putOK (mG S zs i).x (mG S zs i).R (mG S zs i).k (mG S zs i).ps (mG S zs i).qs = true := by
  have h := within_in (zs.getD i 0) 0 256 (by omega)
  exact putOK_own S (bodyC checkL (mx zs i) (khash (i : Int))) (khash (i : Int)) (mx zs i) i hi (rightC_of h.1 h.2 (khash_length _))
theorem mGs_drop (S : List UInt8) (zs : List Int) {k m : Nat} (h : k < m) : (mGs S zs m).drop k = mG S zs k :: (mGs S zs m).drop (k + 1) := by
  have hl : (mGs S zs m).length = m := by unfold mGs; simp
  rw [List.drop_eq_getElem_cons (by omega)]
  congr 1
  unfold mGs
  simp
theorem sg_mGs (S : List UInt8) (zs : List Int) {k m : Nat} (h : k < m) : sg_ (mGs S zs m) k = mG S zs k := by
  unfold sg_ mGs
  simp [h]
theorem got_none : gOK [] false = false := by
  cases h : gOK [] false with
  | false => rfl
  | true =>
    have h1 := ((gOK_iff [] false).1 h).1
    have h2 : (gS3 [] false).2 = true := by rfl
    rw [h2] at h1
    cases h1
theorem Wtr.grown_ {w w' : World} {base p n c : Nat} {A : Option Addr} {L : List UInt8} (h : Wtr w base p A n c L) {row : Option Nat} (e : w.grownBy w' row) (h1 : some p ≠ row) (h2 : Go.Proofs.Ythggfbpdhkpkjaa.blk A = none ∨ Go.Proofs.Ythggfbpdhkpkjaa.blk A ≠ row) : Wtr w' base p A n c L := ⟨h.blk.grown e h1, h.own.grown e h2, h.ne, h.base⟩
def ManyI (w w1 : World) (m p : Nat) (S : List UInt8) (zs : List Int) (i l : Value) (wr : World) : Prop :=
  ∃ (k n0 c0 cO : Nat) (A O : Option Addr) (vs : List SV), k ≤ m ∧ i = .int .i64 k ∧ l = .slice O k cO ∧ Wtr wr w.heap.size p A n0 c0 (putGs (mGs S zs k)) ∧ n0 ≤ 2216 * k ∧ OSG wr w1.heap.size (fun j => j ≠ p ∧ blk A ≠ some j) O k cO vs (mGs S zs k) ∧ w1.heap.size ≤ wr.heap.size ∧ Ext w wr
def GotI (w : World) (base q b m cO : Nat) (O : Option Addr) (vs : List SV) (S : List UInt8) (zs : List Int) (i : Value) (wr : World) : Prop :=
  ∃ k : Nat, k ≤ m ∧ i = .int .i64 k ∧ RdrS wr base q (putGs ((mGs S zs m).drop k)) false ∧ OSG wr b (fun j => j ≠ q) O m cO vs (mGs S zs m) ∧ Ext w wr
set_option maxHeartbeats 16000000 in
theorem many10_any (n : Int) (hn0 : -9223372036854775808 ≤ n) (hn1 : n ≤ 9223372036854775807) (A : Option Addr) (nz cz : Nat) (zs : List Int) (w : World) (hz : RI w A nz cz zs) :
    Calls Try.prog 4 #[.int .i64 n, .slice A nz cz] w fun e w' => e = .returned (.bool true) ∧ Ext w w' := by
  have hroom := hz.room
  have hcap := hz.cap
  unfold maxLen at hcap
  go_enter Try.func4, Try.ntmps4
  go_wp2_with fail
  refine (wnew_any w).mono ?_
  rintro e w1 ⟨p, rfl, hW, hE⟩
  have hw01 := hE.size
  go_wp2_with fail
  go_loopw [7, 6] (fun i l wr => ManyI w w1 (min nz 5) p (seedL n) zs i l wr) (fun i _ _ => min nz 5 - (intOf i).toNat)
  case atStart => exact ⟨0, 0, 0, 0, none, none, [], by omega, rfl, rfl, hW, by omega, OSG.none_ _ _ _, Nat.le_refl _, hE⟩
  case round =>
    clear hW hE
    obtain ⟨k, n0, c0, cO, A0, O, vs, hk, rfl, rfl, hW, hn0', own, hw1r, hEr⟩ := hrel
    by_cases hlt : k < min nz 5
    · have hki : (k : Int) < (nz : Int) := by omega
      have hk5 : (k : Int) < 5 := by omega
      obtain ⟨ad, rfl, hcl⟩ := (hz.ext hEr).cells (by omega)
      obtain ⟨q0, r0, r1⟩ := hcl k (by omega)
      have hG : mG (seedL n) zs k = ⟨within (zs.getD k 0) 0 256, khash (k : Int), (k : Int), sigP (seedL n) (bodyC checkL (within (zs.getD k 0) 0 256) (khash (k : Int))) k, pathL (seedL n) k⟩ := rfl
      have hp := mG_ok (seedL n) zs (i := k) (by omega)
      rw [hG] at hp
      have HG := Lib.hid hG
      clear hG hcl
      generalize zs.getD k 0 = z at *
      go_wp2_with fail
      refine (signed_e n (k : Int) z (k : Int) wr hn0 hn1 (by omega) (by omega) r0 r1 (by omega) (by omega)).mono ?_
      rintro e w2 ⟨kk, hkk, hk16, B, d, P, d1, Q, d2, X, cx, rfl, rR, hbB, rP, rQ, hE⟩
      have hw : within (k : Int) 0 15 = (k : Int) := by unfold within; rw [if_pos (by omega)]
      obtain rfl : k = kk := by omega
      clear hkk hw q0 r0 r1
      have hp' : putOK (within z 0 256) (khash (k : Int)) (k : Int) (sigP (seedL n) (bodyC checkL (within z 0 256) (khash (k : Int))) k) (pathL (seedL n) k) = true := hp
      clear hp
      generalize sigP (seedL n) (bodyC checkL (within z 0 256) (khash (k : Int))) k = PS at *
      generalize pathL (seedL n) k = QS at *
      generalize within z 0 256 = x at *
      generalize khash (k : Int) = R at *
      have hEn := Ext.new w2 (.cells #[.int .i64 x, .slice B 32 d, .int .i64 (k : Int), .slice P 64 d1, .slice Q 4 d2] 41)
      have hB8 := Blk.new w2 41 #[.int .i64 x, .slice B 32 d, .int .i64 (k : Int), .slice P 64 d1, .slice Q 4 d2]
      have hg8 := hE.size
      have hEz := hE.trans hEn
      replace rR := rR.ext hEn
      replace rP := rP.ext hEn
      replace rQ := rQ.ext hEn
      have hpw := hW.lt_
      have hW3 := hW.ext_ hEz
      have own3 := own.ext hEz
      have hfr : ∀ j, wr.heap.size ≤ j → (j ≠ p ∧ blk A0 ≠ some j) := fun j hj => ⟨by omega, fun e => by have := hpw.2 _ e; omega⟩
      have sv : SVR _ (fun j => j ≠ p ∧ blk A0 ≠ some j) (⟨x, B, d, (k : Int), P, d1, Q, d2⟩ : SV) (⟨x, R, (k : Int), PS, QS⟩ : SG) := ⟨rfl, rfl, rR, fun j hj => hfr j (hbB j hj), rP.imp (fun j _ h => hfr j h), rQ.imp (fun j _ h => hfr j h)⟩
      have hP := cput_any w _ p n0 c0 A0 _ B P Q 32 d 64 d1 4 d2 x (k : Int) R PS QS (hEr.trans hEz) hW3 (by omega) rR (fun _ j hj => hfr j (hbB j hj)) rP.rbb rQ.rbb
      rw [hp', putL_len hp'] at hP
      have HP := Lib.hid hP
      have hEI3 := hEr.trans hEz
      clear hP hp' hE hEn own hW rR rP rQ hbB
      have y0 := hB8.cell (i := 0) (v := .int .i64 x) rfl
      have y1 := hB8.cell (i := 1) (v := .slice B 32 d) rfl
      have y2 := hB8.cell (i := 2) (v := .int .i64 (k : Int)) rfl
      have y3 := hB8.cell (i := 3) (v := .slice P 64 d1) rfl
      have y4 := hB8.cell (i := 4) (v := .slice Q 4 d2) rfl
      go_wp2_with fail
      refine HP.out.mono ?_
      generalize w2.alloc (.cells #[.int .i64 x, .slice B 32 d, .int .i64 (k : Int), .slice P 64 d1, .slice Q 4 d2] 41) = w3 at *
      generalize w2.heap.size = g8 at *
      rintro e w4 ⟨rfl, A4, c4, hW4, hC4, hL4⟩
      clear y0 y1 y2 y3 y4 HP
      have hE4 := hW3.chg_ext hEI3 hC4
      have hfr8 := hfr g8 hg8
      have hkp : ∀ j, j < w3.heap.size → (j ≠ p ∧ blk A0 ≠ some j) → w4.heap[j]? = w3.heap[j]? := fun j h hj => hC4.block j h hj.1 hj.2
      have himp : ∀ j, j < w3.heap.size → (j ≠ p ∧ blk A0 ≠ some j) → ((j ≠ p ∧ blk A0 ≠ some j) ∧ (j ≠ p ∧ blk A4 ≠ some j)) := by
        intro j hj h
        refine ⟨h, h.1, fun e => ?_⟩
        rcases hL4 with h4 | h4 | ⟨q, h4, hq⟩
        · exact h.2 (h4.symm.trans e)
        · rw [h4] at e
          cases e
        · rw [h4] at e
          injection e with e
          omega
      have own4 := ((own3.imp himp).keep (fun j h hh => hkp j h hh.1) (fun j hj => hkp j (own3.lt hj).2 ⟨fun e => own3.ne_blk hW3.blk (by decide) (by rw [hj, e]), fun e => by
        obtain ⟨cs, hcs⟩ := row_type hW3.own (k := j) (by rw [ownBlock_slice]; exact e)
        exact own3.ne_blk hcs (by decide) hj⟩)).imp (fun j _ h => h.2)
      have sv4 := ((sv.imp himp).keep (fun j h hh => hkp j h hh.1)).imp (fun j _ h => h.2)
      have hB84 := hB8.chg_ hC4 hfr8.1 hfr8.2
      have hs34 : w3.heap.size ≤ w4.heap.size := hC4.size
      have hs3 : wr.heap.size ≤ w3.heap.size := hEz.size
      clear own3 sv hB8 hW3 hkp himp hC4 hL4 hfr hfr8
      have hEx := Ext.new w4 (.cells #[.int .i64 x, .slice B 32 d, .int .i64 (k : Int), .slice P 64 d1, .slice Q 4 d2] 41)
      have hBx : Blk (w4.alloc (.cells #[.int .i64 x, .slice B 32 d, .int .i64 (k : Int), .slice P 64 d1, .slice Q 4 d2] 41)) w4.heap.size 41 (SV.cells ⟨x, B, d, (k : Int), P, d1, Q, d2⟩).toArray := Blk.new w4 _ _
      have own5 := own4.ext hEx
      have sv5 := sv4.ext hEx
      have hW5 := hW4.ext_ hEx
      have hE5 := hE4.trans hEx
      have hb5 : w1.heap.size ≤ (w4.alloc (.cells #[.int .i64 x, .slice B 32 d, .int .i64 (k : Int), .slice P 64 d1, .slice Q 4 d2] 41)).heap.size := by have := hEx.size; omega
      have y0 := hB84.cell (i := 0) (v := .int .i64 x) rfl
      have y1 := hB84.cell (i := 1) (v := .slice B 32 d) rfl
      have y2 := hB84.cell (i := 2) (v := .int .i64 (k : Int)) rfl
      have y3 := hB84.cell (i := 3) (v := .slice P 64 d1) rfl
      have y4 := hB84.cell (i := 4) (v := .slice Q 4 d2) rfl
      have hnp : some p ≠ blk O := fun e => own5.ne_blk hW5.blk (by decide) e.symm
      have hnA : blk A4 = none ∨ blk A4 ≠ blk O := by
        cases hA : blk A4 with
        | none => exact .inl rfl
        | some j =>
          refine .inr fun e => ?_
          obtain ⟨cs, hcs⟩ := row_type hW5.own (k := j) (by rw [ownBlock_slice]; exact hA)
          exact own5.ne_blk hcs (by decide) e.symm
      go_wp2_with (refine appsg_law rfl rfl rfl rfl hBx own5 sv5 hb5 (by omega) ?_; intro O5 c5 w5 own6 g5)
      have hW6 := hW5.grown_ g5 hnp hnA
      have hE6 := hE5.then_grown g5 (fun b hb => Nat.le_trans hw01 (own5.lt hb).1)
      have hb6 : w1.heap.size ≤ w5.heap.size := Nat.le_trans hb5 g5.size
      go_roundw
      case rel =>
        refine ⟨k + 1, n0 + 2216, c4, c5, A4, O5, vs ++ [⟨x, B, d, (k : Int), P, d1, Q, d2⟩], by omega, by go_num, rfl, ?_, by omega, ?_, hb6, hE6⟩
        · rw [mGs_snoc, putGs_snoc, HG.out]
          exact hW6
        · rw [mGs_snoc, HG.out]
          exact own6
      case measure => simp [intOf]; omega
    · by_cases hpn : k < nz
      · have a1 : (k : Int) < (nz : Int) := by omega
        have a2 : ¬ ((k : Int) < 5) := by omega
        have hk5 : k ≤ 5 := by omega
        clear hlt hpn hk
        go_wp2_with fail
        refine (wdone_any wr w.heap.size p n0 c0 A0 _ hW (by omega)).mono ?_
        rintro e w2 ⟨B, d, rfl, oB, hE⟩
        have own2 := own.ext hE
        have hE2 := hEr.trans hE
        have hwl : w2.heap.size ≤ w2.heap.size := Nat.le_refl _
        clear hW own hE hEr
        go_wp2_with fail
        refine (rread_any B n0 d _ w2 oB.rb (by omega)).mono ?_
        rintro e w3 ⟨q, rfl, hR, hE⟩
        have hqb := hR.blk_.1
        have own3 := (own2.imp (ψ := fun j => j ≠ q) (fun j h _ => by omega)).ext hE
        have hE3 := hE2.trans hE
        have hwq : w.heap.size ≤ q := Nat.le_trans hE2.size hqb
        clear own2 hE2 hE oB
        go_wp2_with fail
        go_loopw [11] (fun i wr => GotI w w2.heap.size q w1.heap.size k cO O vs (seedL n) zs i wr) (fun i _ => k - (intOf i).toNat)
        case atStart => exact ⟨0, by omega, rfl, hR, own3, hE3⟩
        case round =>
          clear hR own3 hE3
          obtain ⟨i, hi, rfl, hR, own, hEr⟩ := hrel
          by_cases hik : i < k
          · have hiki : (i : Int) < (k : Int) := by omega
            have hp := mG_ok (seedL n) zs (i := i) (by omega)
            have hd := mGs_drop (seedL n) zs hik
            rw [hd, putGs_cons] at hR
            have hgp := get_put hp (putGs ((mGs (seedL n) zs k).drop (i + 1)))
            obtain ⟨gO, hO, hkc, hcm, hcl⟩ := own.at_ hik
            subst hO
            unfold maxLen at hcm
            have hel := own.2.2.2 i hik
            rw [sg_mGs _ _ hik] at hel
            have hR' : RdrS wr w2.heap.size q (putL (mG (seedL n) zs i).x (mG (seedL n) zs i).R (mG (seedL n) zs i).k (mG (seedL n) zs i).ps (mG (seedL n) zs i).qs ++ putGs ((mGs (seedL n) zs k).drop (i + 1))) false := hR
            clear hR hd hp
            obtain ⟨rest, hrest⟩ : ∃ r, r = putGs ((mGs (seedL n) zs k).drop (i + 1)) := ⟨_, rfl⟩
            rw [← hrest] at hR' hgp
            have Hrest := Lib.hid hrest
            clear hrest
            generalize mG (seedL n) zs i = g at *
            generalize sv_ vs i = v at *
            obtain ⟨x, R, kx, PS, QS⟩ := g
            obtain ⟨x', B', d', k', P', cp', Q', cq'⟩ := v
            have ex : x = x' := hel.x
            have ek : kx = k' := hel.k
            subst ex ek
            obtain ⟨p1, p2, p3, p4, p5, p6, p7⟩ := hgp
            have hG := cget_any wr w2.heap.size q _ false hR'
            have p2' : gX (putL x R kx PS QS ++ rest) false = x := p2
            have p3' : gR (putL x R kx PS QS ++ rest) false = R := p3
            have p4' : decX (gY (putL x R kx PS QS ++ rest) false) = kx := p4
            have p5' : decP (gY (putL x R kx PS QS ++ rest) false) = PS := p5
            have p6' : decQ (gY (putL x R kx PS QS ++ rest) false) = QS := p6
            have p7' : gS3 (putL x R kx PS QS ++ rest) false = (rest, false) := p7
            have HG := Lib.hid hG
            have Hp := Lib.hid (And.intro p1 (And.intro p2' (And.intro p3' (And.intro p4' (And.intro p5' (And.intro p6' p7'))))))
            have hbq := hR'.blk_.2
            clear p1 p2 p3 p4 p5 p6 p7 p2' p3' p4' p5' p6' p7' hG hR'
            go_wp2_with fail
            refine HG.out.mono ?_
            rintro e v1 ⟨hyes, _, hR1, hGr⟩
            obtain ⟨p1, p2, p3, p4, p5, p6, p7⟩ := Hp.out
            have p1' : gOK (putL x R kx PS QS ++ rest) false = true := p1
            obtain ⟨B1, d2, P1, v2, Q1, f2, rfl, rR1, oP1, oQ1⟩ := hyes p1'
            rw [p2, p4]
            rw [p3] at rR1
            rw [p5] at oP1
            rw [p6] at oQ1
            rw [p7] at hR1
            obtain ⟨cs, hBq, hnoq⟩ := hbq
            have own1 := own.keep (w' := v1) (fun j h hj => hGr.block j h (fun e => by injection e with e; exact hj e)) (fun j hj => hGr.block j (own.lt hj).2 (fun e => by injection e with e; exact own.ne_blk hBq (by decide) (by rw [hj, e])))
            have hcl1 := fun i' u hu => (show v1.cell? ⟨gO, i * 5 + i', none⟩ = some u from (World.cell?_of_block (a := ⟨gO, i * 5 + i', none⟩) (hGr.block gO (own.lt rfl).2 (fun e => by injection e with e; exact own.ne_blk hBq (by decide) (by rw [← e]; rfl)))).trans (hcl i' u hu))
            have hel1 := hel.keep (w' := v1) (fun j h hj => hGr.block j h (fun e => by injection e with e; exact hj e))
            have hE1 := hEr.then_grown hGr (by intro j hj; cases hj; exact hwq)
            clear Hp HG hyes hGr hBq hnoq own hcl hel hEr p1 p2 p3 p4 p5 p6 p7 p1'
            have hEn := Ext.new v1 (.cells #[.int .i64 x, .slice B1 32 d2, .int .i64 kx, .slice P1 64 v2, .slice Q1 4 f2] 41)
            have hB12 := Blk.new v1 41 #[.int .i64 x, .slice B1 32 d2, .int .i64 kx, .slice P1 64 v2, .slice Q1 4 f2]
            have rP1 := oP1.rbb.ext hEn
            have rQ1 := oQ1.rbb.ext hEn
            replace rR1 := rR1.ext hEn
            replace own1 := own1.ext hEn
            replace hel1 := hel1.ext hEn
            replace hR1 := hR1.later hEn
            have hE12 := hE1.trans hEn
            go_upto_region 19 with (fail)
            have k0 : (v1.alloc (.cells #[.int .i64 x, .slice B1 32 d2, .int .i64 kx, .slice P1 64 v2, .slice Q1 4 f2] 41)).cell? ((⟨gO, 0, none⟩ : Addr).add (i * 5)) = some (.int .i64 x) := by rw [add_plain]; exact hEn.cell (hcl1 0 _ rfl)
            have k1 : (v1.alloc (.cells #[.int .i64 x, .slice B1 32 d2, .int .i64 kx, .slice P1 64 v2, .slice Q1 4 f2] 41)).cell? (((⟨gO, 0, none⟩ : Addr).add (i * 5)).add 1) = some (.slice B' 32 d') := by rw [add_plain]; simpa [Addr.add] using hEn.cell (hcl1 1 _ rfl)
            have k2 : (v1.alloc (.cells #[.int .i64 x, .slice B1 32 d2, .int .i64 kx, .slice P1 64 v2, .slice Q1 4 f2] 41)).cell? (((⟨gO, 0, none⟩ : Addr).add (i * 5)).add 2) = some (.int .i64 kx) := by rw [add_plain]; simpa [Addr.add] using hEn.cell (hcl1 2 _ rfl)
            have k3 : (v1.alloc (.cells #[.int .i64 x, .slice B1 32 d2, .int .i64 kx, .slice P1 64 v2, .slice Q1 4 f2] 41)).cell? (((⟨gO, 0, none⟩ : Addr).add (i * 5)).add 3) = some (.slice P' 64 cp') := by rw [add_plain]; simpa [Addr.add] using hEn.cell (hcl1 3 _ rfl)
            have k4 : (v1.alloc (.cells #[.int .i64 x, .slice B1 32 d2, .int .i64 kx, .slice P1 64 v2, .slice Q1 4 f2] 41)).cell? (((⟨gO, 0, none⟩ : Addr).add (i * 5)).add 4) = some (.slice Q' 4 cq') := by rw [add_plain]; simpa [Addr.add] using hEn.cell (hcl1 4 _ rfl)
            generalize v1.alloc (.cells #[.int .i64 x, .slice B1 32 d2, .int .i64 kx, .slice P1 64 v2, .slice Q1 4 f2] 41) = v3 at *
            generalize v1.heap.size = g12 at *
            have rB' : RB v3 B' 32 d' R := hel1.r
            have rP' : RBB v3 P' 64 cp' PS := hel1.ps.rbb
            have rQ' : RBB v3 Q' 4 cq' QS := hel1.qs.rbb
            clear hel1 hcl1 hEn hE1 oP1 oQ1
            refine par_ext (n := 11) (by kernel_rfl) [.is (.bool (true)), .is (.bool (false)), .is (.bool (false)), .is (.agg #[.int .i64 (x), .slice (B1) (32) (d2), .int .i64 (kx), .slice (P1) (64) (v2), .slice (Q1) (4) (f2)]), .is (.slice ((some ⟨gO, 0, none⟩)) (k) (cO)), .is (.int .i64 ((i : Int))), .is (.pointer (some ((⟨gO, 0, none⟩ : Addr).add (i * 5)))), .is (.agg #[.int .i64 (x), .slice (B') (32) (d'), .int .i64 (kx), .slice (P') (64) (cp'), .slice (Q') (4) (cq')]), .is (.bool (true)), .is (.bool (false)), .is (.bool (false))] rfl ⟨?_, ?_, ?_, ?_, ?_, ?_, ?_, ?_, ?_, ?_, ?_, trivial⟩ ?_
            · refine stepE rfl fun sdn sa sw sE sd sk => ?_
              have h13 : sa.eval (.tmp 13) = .bool (true) := sk.old 13 rfl
              exact Runs.move rfl h13 ⟨Ext.refl _, rfl⟩
            · refine stepE rfl fun sdn sa sw sE sd sk => ?_
              have h64 : sa.eval (.tmp 64) = .bool (true) := sk.fact 0 64 rfl (sd 0 rfl)
              exact Runs.un rfl h64 (by rfl) ⟨Ext.refl _, rfl⟩
            · refine stepE rfl fun sdn sa sw sE sd sk => ?_
              have h65 : sa.eval (.tmp 65) = .bool (false) := sk.fact 1 65 rfl (sd 1 rfl)
              exact Runs.move rfl h65 ⟨Ext.refl _, rfl⟩
            · refine stepY (j := 2) (d := 66) (b := false) rfl rfl rfl (fun v w h => h) fun sdn sa sw sE sd sk => ?_
              have h12 : sa.eval (.tmp 12) = .pointer (some ⟨g12, 0, none⟩) := sk.old 12 rfl
              exact Runs.load rfl h12 (load_part (hB12.ext sE) 0 (vs := [.int .i64 (x), .slice (B1) (32) (d2), .int .i64 (kx), .slice (P1) (64) (v2), .slice (Q1) (4) (f2)]) rfl Try.underlying41 rfl (by kernel_rfl)) ⟨Ext.refl _, rfl⟩
            · refine stepY (j := 2) (d := 66) (b := false) rfl rfl rfl (fun v w h => h) fun sdn sa sw sE sd sk => ?_
              have h6 : sa.eval (.tmp 6) = .slice ((some ⟨gO, 0, none⟩)) (k) (cO) := sk.old 6 rfl
              exact Runs.move rfl h6 ⟨Ext.refl _, rfl⟩
            · refine stepY (j := 2) (d := 66) (b := false) rfl rfl rfl (fun v w h => h) fun sdn sa sw sE sd sk => ?_
              have h11 : sa.eval (.tmp 11) = .int .i64 ((i : Int)) := sk.old 11 rfl
              exact Runs.move rfl h11 ⟨Ext.refl _, rfl⟩
            · refine stepY (j := 2) (d := 66) (b := false) rfl rfl rfl (fun v w h => h) fun sdn sa sw sE sd sk => ?_
              have h68 : sa.eval (.tmp 68) = .slice ((some ⟨gO, 0, none⟩)) (k) (cO) := sk.fact 4 68 rfl (sd 4 rfl)
              have h69 : sa.eval (.tmp 69) = .int .i64 ((i : Int)) := sk.fact 5 69 rfl (sd 5 rfl)
              exact Runs.idx rfl h68 h69 (run_idx_sl5 Try.underlying36 infS_eq infS_size i (by omega) (by omega)) ⟨Ext.refl _, rfl⟩
            · refine stepY (j := 2) (d := 66) (b := false) rfl rfl rfl (fun v w h => h) fun sdn sa sw sE sd sk => ?_
              have h70 : sa.eval (.tmp 70) = .pointer (some ((⟨gO, 0, none⟩ : Addr).add (i * 5))) := sk.fact 6 70 rfl (sd 6 rfl)
              exact Runs.load rfl h70 (load_sg (sE.cell k0) (sE.cell k1) (sE.cell k2) (sE.cell k3) (sE.cell k4)) ⟨Ext.refl _, rfl⟩
            · refine stepY (j := 2) (d := 66) (b := false) rfl rfl rfl (fun v w h => h) fun sdn sa sw sE sd sk => ?_
              have h67 : sa.eval (.tmp 67) = .agg #[.int .i64 (x), .slice (B1) (32) (d2), .int .i64 (kx), .slice (P1) (64) (v2), .slice (Q1) (4) (f2)] := sk.fact 3 67 rfl (sd 3 rfl)
              have h71 : sa.eval (.tmp 71) = .agg #[.int .i64 (x), .slice (B') (32) (d'), .int .i64 (kx), .slice (P') (64) (cp'), .slice (Q') (4) (cq')] := sk.fact 7 71 rfl (sd 7 rfl)
              refine Runs.call (f := 27) (vs := [.agg #[.int .i64 (x), .slice (B1) (32) (d2), .int .i64 (kx), .slice (P1) (64) (v2), .slice (Q1) (4) (f2)], .agg #[.int .i64 (x), .slice (B') (32) (d'), .int .i64 (kx), .slice (P') (64) (cp'), .slice (Q') (4) (cq')]]) rfl rfl rfl (by simp only [List.map_toArray, List.map_cons, List.map_nil, h67, h71] <;> rfl) (ent27 _ _) ((eq10_true _ _ _ _ _ _ _ _ _ _ _ _ _ _ _ _ _ _ _ _ _ _ _ sw (rR1.ext sE) (rP1.ext sE) (rQ1.ext sE) (rB'.ext sE) (rP'.ext sE) (rQ'.ext sE)).mono ?_); rintro e w' ⟨rfl, hx⟩; exact ⟨_, rfl, hx, rfl⟩
            · refine stepY (j := 2) (d := 66) (b := false) rfl rfl rfl (fun v w h => h) fun sdn sa sw sE sd sk => ?_
              have h72 : sa.eval (.tmp 72) = .bool (true) := sk.fact 8 72 rfl (sd 8 rfl)
              exact Runs.un rfl h72 (by rfl) ⟨Ext.refl _, rfl⟩
            · refine stepE rfl fun sdn sa sw sE sd sk => ?_
              have h66 : sa.eval (.tmp 66) = .bool (false) := sk.fact 2 66 rfl (sd 2 rfl)
              have h73 : sa.eval (.tmp 73) = .bool (false) := sk.fact 9 73 rfl (sd 9 rfl)
              exact Runs.pick rfl h66 ⟨Ext.refl _, by first | exact h73 | simpa using h73⟩
            intro vals W19 hE19 hv19
            have e0 : vals 0 = .bool (true) := hv19 0 (by omega) 64 rfl
            have e1 : vals 1 = .bool (false) := hv19 1 (by omega) 65 rfl
            have e2 : vals 2 = .bool (false) := hv19 2 (by omega) 66 rfl
            have e3 : vals 3 = .agg #[.int .i64 (x), .slice (B1) (32) (d2), .int .i64 (kx), .slice (P1) (64) (v2), .slice (Q1) (4) (f2)] := hv19 3 (by omega) 67 rfl
            have e4 : vals 4 = .slice ((some ⟨gO, 0, none⟩)) (k) (cO) := hv19 4 (by omega) 68 rfl
            have e5 : vals 5 = .int .i64 ((i : Int)) := hv19 5 (by omega) 69 rfl
            have e6 : vals 6 = .pointer (some ((⟨gO, 0, none⟩ : Addr).add (i * 5))) := hv19 6 (by omega) 70 rfl
            have e7 : vals 7 = .agg #[.int .i64 (x), .slice (B') (32) (d'), .int .i64 (kx), .slice (P') (64) (cp'), .slice (Q') (4) (cq')] := hv19 7 (by omega) 71 rfl
            have e8 : vals 8 = .bool (true) := hv19 8 (by omega) 72 rfl
            have e9 : vals 9 = .bool (false) := hv19 9 (by omega) 73 rfl
            have e10 : vals 10 = .bool (false) := hv19 10 (by omega) 74 rfl
            simp only [putAll, Act.put, List.take_succ_cons, List.take_zero, List.drop_succ_cons, List.drop_zero, List.drop_nil, List.take_nil, Nat.reduceAdd, List.setIfInBounds_toArray, List.set_cons_succ, List.set_cons_zero, e0, e1, e2, e3, e4, e5, e6, e7, e8, e9, e10]
            clear hv19 e0 e1 e2 e3 e4 e5 e6 e7 e8 e9 e10
            have own2 := own1.ext hE19
            have hR2 := hR1.later hE19
            go_wp2_with fail
            go_roundw
            case rel => exact ⟨i + 1, by omega, by go_num, by rw [← Hrest.out]; exact hR2, own2, hE12.trans hE19⟩
            case measure => simp [intOf]; omega
          · obtain rfl : i = k := by omega
            have hd : (mGs (seedL n) zs i).drop i = [] := List.drop_of_length_le (by unfold mGs; simp)
            rw [hd] at hR
            have hR0 : RdrS wr w2.heap.size q [] false := hR
            have hG := cget_any wr w2.heap.size q [] false hR0
            clear hR hd own
            go_wp2_with fail
            refine hG.mono ?_
            rintro e v1 ⟨_, hno, _, hGr⟩
            obtain rfl := hno got_none
            have hE1 := hEr.then_grown hGr (by intro j hj; cases hj; exact hwq)
            have hEn := Ext.new v1 (.cells #[.int .i64 0, .slice none 0 0, .int .i64 0, .slice none 0 0, .slice none 0 0] 41)
            clear hno hGr hG hR0
            go_wp2_with fail
            refine (known10_any _).mono ?_
            rintro e v2 ⟨rfl, hEz⟩
            go_wp2_with fail
            go_ret
            exact ⟨rfl, (hE1.trans hEn).trans hEz⟩
      · have a1 : ¬ ((k : Int) < (nz : Int)) := by omega
        have hk5 : k ≤ 5 := by omega
        clear hlt hpn hk
        go_wp2_with fail
        refine (wdone_any wr w.heap.size p n0 c0 A0 _ hW (by omega)).mono ?_
        rintro e w2 ⟨B, d, rfl, oB, hE⟩
        have own2 := own.ext hE
        have hE2 := hEr.trans hE
        have hwl : w2.heap.size ≤ w2.heap.size := Nat.le_refl _
        clear hW own hE hEr
        go_wp2_with fail
        refine (rread_any B n0 d _ w2 oB.rb (by omega)).mono ?_
        rintro e w3 ⟨q, rfl, hR, hE⟩
        have hqb := hR.blk_.1
        have own3 := (own2.imp (ψ := fun j => j ≠ q) (fun j h _ => by omega)).ext hE
        have hE3 := hE2.trans hE
        have hwq : w.heap.size ≤ q := Nat.le_trans hE2.size hqb
        clear own2 hE2 hE oB
        go_wp2_with fail
        go_loopw [11] (fun i wr => GotI w w2.heap.size q w1.heap.size k cO O vs (seedL n) zs i wr) (fun i _ => k - (intOf i).toNat)
        case atStart => exact ⟨0, by omega, rfl, hR, own3, hE3⟩
        case round =>
          clear hR own3 hE3
          obtain ⟨i, hi, rfl, hR, own, hEr⟩ := hrel
          by_cases hik : i < k
          · have hiki : (i : Int) < (k : Int) := by omega
            have hp := mG_ok (seedL n) zs (i := i) (by omega)
            have hd := mGs_drop (seedL n) zs hik
            rw [hd, putGs_cons] at hR
            have hgp := get_put hp (putGs ((mGs (seedL n) zs k).drop (i + 1)))
            obtain ⟨gO, hO, hkc, hcm, hcl⟩ := own.at_ hik
            subst hO
            unfold maxLen at hcm
            have hel := own.2.2.2 i hik
            rw [sg_mGs _ _ hik] at hel
            have hR' : RdrS wr w2.heap.size q (putL (mG (seedL n) zs i).x (mG (seedL n) zs i).R (mG (seedL n) zs i).k (mG (seedL n) zs i).ps (mG (seedL n) zs i).qs ++ putGs ((mGs (seedL n) zs k).drop (i + 1))) false := hR
            clear hR hd hp
            obtain ⟨rest, hrest⟩ : ∃ r, r = putGs ((mGs (seedL n) zs k).drop (i + 1)) := ⟨_, rfl⟩
            rw [← hrest] at hR' hgp
            have Hrest := Lib.hid hrest
            clear hrest
            generalize mG (seedL n) zs i = g at *
            generalize sv_ vs i = v at *
            obtain ⟨x, R, kx, PS, QS⟩ := g
            obtain ⟨x', B', d', k', P', cp', Q', cq'⟩ := v
            have ex : x = x' := hel.x
            have ek : kx = k' := hel.k
            subst ex ek
            obtain ⟨p1, p2, p3, p4, p5, p6, p7⟩ := hgp
            have hG := cget_any wr w2.heap.size q _ false hR'
            have p2' : gX (putL x R kx PS QS ++ rest) false = x := p2
            have p3' : gR (putL x R kx PS QS ++ rest) false = R := p3
            have p4' : decX (gY (putL x R kx PS QS ++ rest) false) = kx := p4
            have p5' : decP (gY (putL x R kx PS QS ++ rest) false) = PS := p5
            have p6' : decQ (gY (putL x R kx PS QS ++ rest) false) = QS := p6
            have p7' : gS3 (putL x R kx PS QS ++ rest) false = (rest, false) := p7
            have HG := Lib.hid hG
            have Hp := Lib.hid (And.intro p1 (And.intro p2' (And.intro p3' (And.intro p4' (And.intro p5' (And.intro p6' p7'))))))
            have hbq := hR'.blk_.2
            clear p1 p2 p3 p4 p5 p6 p7 p2' p3' p4' p5' p6' p7' hG hR'
            go_wp2_with fail
            refine HG.out.mono ?_
            rintro e v1 ⟨hyes, _, hR1, hGr⟩
            obtain ⟨p1, p2, p3, p4, p5, p6, p7⟩ := Hp.out
            have p1' : gOK (putL x R kx PS QS ++ rest) false = true := p1
            obtain ⟨B1, d2, P1, v2, Q1, f2, rfl, rR1, oP1, oQ1⟩ := hyes p1'
            rw [p2, p4]
            rw [p3] at rR1
            rw [p5] at oP1
            rw [p6] at oQ1
            rw [p7] at hR1
            obtain ⟨cs, hBq, hnoq⟩ := hbq
            have own1 := own.keep (w' := v1) (fun j h hj => hGr.block j h (fun e => by injection e with e; exact hj e)) (fun j hj => hGr.block j (own.lt hj).2 (fun e => by injection e with e; exact own.ne_blk hBq (by decide) (by rw [hj, e])))
            have hcl1 := fun i' u hu => (show v1.cell? ⟨gO, i * 5 + i', none⟩ = some u from (World.cell?_of_block (a := ⟨gO, i * 5 + i', none⟩) (hGr.block gO (own.lt rfl).2 (fun e => by injection e with e; exact own.ne_blk hBq (by decide) (by rw [← e]; rfl)))).trans (hcl i' u hu))
            have hel1 := hel.keep (w' := v1) (fun j h hj => hGr.block j h (fun e => by injection e with e; exact hj e))
            have hE1 := hEr.then_grown hGr (by intro j hj; cases hj; exact hwq)
            clear Hp HG hyes hGr hBq hnoq own hcl hel hEr p1 p2 p3 p4 p5 p6 p7 p1'
            have hEn := Ext.new v1 (.cells #[.int .i64 x, .slice B1 32 d2, .int .i64 kx, .slice P1 64 v2, .slice Q1 4 f2] 41)
            have hB12 := Blk.new v1 41 #[.int .i64 x, .slice B1 32 d2, .int .i64 kx, .slice P1 64 v2, .slice Q1 4 f2]
            have rP1 := oP1.rbb.ext hEn
            have rQ1 := oQ1.rbb.ext hEn
            replace rR1 := rR1.ext hEn
            replace own1 := own1.ext hEn
            replace hel1 := hel1.ext hEn
            replace hR1 := hR1.later hEn
            have hE12 := hE1.trans hEn
            go_upto_region 19 with (fail)
            have k0 : (v1.alloc (.cells #[.int .i64 x, .slice B1 32 d2, .int .i64 kx, .slice P1 64 v2, .slice Q1 4 f2] 41)).cell? ((⟨gO, 0, none⟩ : Addr).add (i * 5)) = some (.int .i64 x) := by rw [add_plain]; exact hEn.cell (hcl1 0 _ rfl)
            have k1 : (v1.alloc (.cells #[.int .i64 x, .slice B1 32 d2, .int .i64 kx, .slice P1 64 v2, .slice Q1 4 f2] 41)).cell? (((⟨gO, 0, none⟩ : Addr).add (i * 5)).add 1) = some (.slice B' 32 d') := by rw [add_plain]; simpa [Addr.add] using hEn.cell (hcl1 1 _ rfl)
            have k2 : (v1.alloc (.cells #[.int .i64 x, .slice B1 32 d2, .int .i64 kx, .slice P1 64 v2, .slice Q1 4 f2] 41)).cell? (((⟨gO, 0, none⟩ : Addr).add (i * 5)).add 2) = some (.int .i64 kx) := by rw [add_plain]; simpa [Addr.add] using hEn.cell (hcl1 2 _ rfl)
            have k3 : (v1.alloc (.cells #[.int .i64 x, .slice B1 32 d2, .int .i64 kx, .slice P1 64 v2, .slice Q1 4 f2] 41)).cell? (((⟨gO, 0, none⟩ : Addr).add (i * 5)).add 3) = some (.slice P' 64 cp') := by rw [add_plain]; simpa [Addr.add] using hEn.cell (hcl1 3 _ rfl)
            have k4 : (v1.alloc (.cells #[.int .i64 x, .slice B1 32 d2, .int .i64 kx, .slice P1 64 v2, .slice Q1 4 f2] 41)).cell? (((⟨gO, 0, none⟩ : Addr).add (i * 5)).add 4) = some (.slice Q' 4 cq') := by rw [add_plain]; simpa [Addr.add] using hEn.cell (hcl1 4 _ rfl)
            generalize v1.alloc (.cells #[.int .i64 x, .slice B1 32 d2, .int .i64 kx, .slice P1 64 v2, .slice Q1 4 f2] 41) = v3 at *
            generalize v1.heap.size = g12 at *
            have rB' : RB v3 B' 32 d' R := hel1.r
            have rP' : RBB v3 P' 64 cp' PS := hel1.ps.rbb
            have rQ' : RBB v3 Q' 4 cq' QS := hel1.qs.rbb
            clear hel1 hcl1 hEn hE1 oP1 oQ1
            refine par_ext (n := 11) (by kernel_rfl) [.is (.bool (true)), .is (.bool (false)), .is (.bool (false)), .is (.agg #[.int .i64 (x), .slice (B1) (32) (d2), .int .i64 (kx), .slice (P1) (64) (v2), .slice (Q1) (4) (f2)]), .is (.slice ((some ⟨gO, 0, none⟩)) (k) (cO)), .is (.int .i64 ((i : Int))), .is (.pointer (some ((⟨gO, 0, none⟩ : Addr).add (i * 5)))), .is (.agg #[.int .i64 (x), .slice (B') (32) (d'), .int .i64 (kx), .slice (P') (64) (cp'), .slice (Q') (4) (cq')]), .is (.bool (true)), .is (.bool (false)), .is (.bool (false))] rfl ⟨?_, ?_, ?_, ?_, ?_, ?_, ?_, ?_, ?_, ?_, ?_, trivial⟩ ?_
            · refine stepE rfl fun sdn sa sw sE sd sk => ?_
              have h13 : sa.eval (.tmp 13) = .bool (true) := sk.old 13 rfl
              exact Runs.move rfl h13 ⟨Ext.refl _, rfl⟩
            · refine stepE rfl fun sdn sa sw sE sd sk => ?_
              have h64 : sa.eval (.tmp 64) = .bool (true) := sk.fact 0 64 rfl (sd 0 rfl)
              exact Runs.un rfl h64 (by rfl) ⟨Ext.refl _, rfl⟩
            · refine stepE rfl fun sdn sa sw sE sd sk => ?_
              have h65 : sa.eval (.tmp 65) = .bool (false) := sk.fact 1 65 rfl (sd 1 rfl)
              exact Runs.move rfl h65 ⟨Ext.refl _, rfl⟩
            · refine stepY (j := 2) (d := 66) (b := false) rfl rfl rfl (fun v w h => h) fun sdn sa sw sE sd sk => ?_
              have h12 : sa.eval (.tmp 12) = .pointer (some ⟨g12, 0, none⟩) := sk.old 12 rfl
              exact Runs.load rfl h12 (load_part (hB12.ext sE) 0 (vs := [.int .i64 (x), .slice (B1) (32) (d2), .int .i64 (kx), .slice (P1) (64) (v2), .slice (Q1) (4) (f2)]) rfl Try.underlying41 rfl (by kernel_rfl)) ⟨Ext.refl _, rfl⟩
            · refine stepY (j := 2) (d := 66) (b := false) rfl rfl rfl (fun v w h => h) fun sdn sa sw sE sd sk => ?_
              have h6 : sa.eval (.tmp 6) = .slice ((some ⟨gO, 0, none⟩)) (k) (cO) := sk.old 6 rfl
              exact Runs.move rfl h6 ⟨Ext.refl _, rfl⟩
            · refine stepY (j := 2) (d := 66) (b := false) rfl rfl rfl (fun v w h => h) fun sdn sa sw sE sd sk => ?_
              have h11 : sa.eval (.tmp 11) = .int .i64 ((i : Int)) := sk.old 11 rfl
              exact Runs.move rfl h11 ⟨Ext.refl _, rfl⟩
            · refine stepY (j := 2) (d := 66) (b := false) rfl rfl rfl (fun v w h => h) fun sdn sa sw sE sd sk => ?_
              have h68 : sa.eval (.tmp 68) = .slice ((some ⟨gO, 0, none⟩)) (k) (cO) := sk.fact 4 68 rfl (sd 4 rfl)
              have h69 : sa.eval (.tmp 69) = .int .i64 ((i : Int)) := sk.fact 5 69 rfl (sd 5 rfl)
              exact Runs.idx rfl h68 h69 (run_idx_sl5 Try.underlying36 infS_eq infS_size i (by omega) (by omega)) ⟨Ext.refl _, rfl⟩
            · refine stepY (j := 2) (d := 66) (b := false) rfl rfl rfl (fun v w h => h) fun sdn sa sw sE sd sk => ?_
              have h70 : sa.eval (.tmp 70) = .pointer (some ((⟨gO, 0, none⟩ : Addr).add (i * 5))) := sk.fact 6 70 rfl (sd 6 rfl)
              exact Runs.load rfl h70 (load_sg (sE.cell k0) (sE.cell k1) (sE.cell k2) (sE.cell k3) (sE.cell k4)) ⟨Ext.refl _, rfl⟩
            · refine stepY (j := 2) (d := 66) (b := false) rfl rfl rfl (fun v w h => h) fun sdn sa sw sE sd sk => ?_
              have h67 : sa.eval (.tmp 67) = .agg #[.int .i64 (x), .slice (B1) (32) (d2), .int .i64 (kx), .slice (P1) (64) (v2), .slice (Q1) (4) (f2)] := sk.fact 3 67 rfl (sd 3 rfl)
              have h71 : sa.eval (.tmp 71) = .agg #[.int .i64 (x), .slice (B') (32) (d'), .int .i64 (kx), .slice (P') (64) (cp'), .slice (Q') (4) (cq')] := sk.fact 7 71 rfl (sd 7 rfl)
              refine Runs.call (f := 27) (vs := [.agg #[.int .i64 (x), .slice (B1) (32) (d2), .int .i64 (kx), .slice (P1) (64) (v2), .slice (Q1) (4) (f2)], .agg #[.int .i64 (x), .slice (B') (32) (d'), .int .i64 (kx), .slice (P') (64) (cp'), .slice (Q') (4) (cq')]]) rfl rfl rfl (by simp only [List.map_toArray, List.map_cons, List.map_nil, h67, h71] <;> rfl) (ent27 _ _) ((eq10_true _ _ _ _ _ _ _ _ _ _ _ _ _ _ _ _ _ _ _ _ _ _ _ sw (rR1.ext sE) (rP1.ext sE) (rQ1.ext sE) (rB'.ext sE) (rP'.ext sE) (rQ'.ext sE)).mono ?_); rintro e w' ⟨rfl, hx⟩; exact ⟨_, rfl, hx, rfl⟩
            · refine stepY (j := 2) (d := 66) (b := false) rfl rfl rfl (fun v w h => h) fun sdn sa sw sE sd sk => ?_
              have h72 : sa.eval (.tmp 72) = .bool (true) := sk.fact 8 72 rfl (sd 8 rfl)
              exact Runs.un rfl h72 (by rfl) ⟨Ext.refl _, rfl⟩
            · refine stepE rfl fun sdn sa sw sE sd sk => ?_
              have h66 : sa.eval (.tmp 66) = .bool (false) := sk.fact 2 66 rfl (sd 2 rfl)
              have h73 : sa.eval (.tmp 73) = .bool (false) := sk.fact 9 73 rfl (sd 9 rfl)
              exact Runs.pick rfl h66 ⟨Ext.refl _, by first | exact h73 | simpa using h73⟩
            intro vals W19 hE19 hv19
            have e0 : vals 0 = .bool (true) := hv19 0 (by omega) 64 rfl
            have e1 : vals 1 = .bool (false) := hv19 1 (by omega) 65 rfl
            have e2 : vals 2 = .bool (false) := hv19 2 (by omega) 66 rfl
            have e3 : vals 3 = .agg #[.int .i64 (x), .slice (B1) (32) (d2), .int .i64 (kx), .slice (P1) (64) (v2), .slice (Q1) (4) (f2)] := hv19 3 (by omega) 67 rfl
            have e4 : vals 4 = .slice ((some ⟨gO, 0, none⟩)) (k) (cO) := hv19 4 (by omega) 68 rfl
            have e5 : vals 5 = .int .i64 ((i : Int)) := hv19 5 (by omega) 69 rfl
            have e6 : vals 6 = .pointer (some ((⟨gO, 0, none⟩ : Addr).add (i * 5))) := hv19 6 (by omega) 70 rfl
            have e7 : vals 7 = .agg #[.int .i64 (x), .slice (B') (32) (d'), .int .i64 (kx), .slice (P') (64) (cp'), .slice (Q') (4) (cq')] := hv19 7 (by omega) 71 rfl
            have e8 : vals 8 = .bool (true) := hv19 8 (by omega) 72 rfl
            have e9 : vals 9 = .bool (false) := hv19 9 (by omega) 73 rfl
            have e10 : vals 10 = .bool (false) := hv19 10 (by omega) 74 rfl
            simp only [putAll, Act.put, List.take_succ_cons, List.take_zero, List.drop_succ_cons, List.drop_zero, List.drop_nil, List.take_nil, Nat.reduceAdd, List.setIfInBounds_toArray, List.set_cons_succ, List.set_cons_zero, e0, e1, e2, e3, e4, e5, e6, e7, e8, e9, e10]
            clear hv19 e0 e1 e2 e3 e4 e5 e6 e7 e8 e9 e10
            have own2 := own1.ext hE19
            have hR2 := hR1.later hE19
            go_wp2_with fail
            go_roundw
            case rel => exact ⟨i + 1, by omega, by go_num, by rw [← Hrest.out]; exact hR2, own2, hE12.trans hE19⟩
            case measure => simp [intOf]; omega
          · obtain rfl : i = k := by omega
            have hd : (mGs (seedL n) zs i).drop i = [] := List.drop_of_length_le (by unfold mGs; simp)
            rw [hd] at hR
            have hR0 : RdrS wr w2.heap.size q [] false := hR
            have hG := cget_any wr w2.heap.size q [] false hR0
            clear hR hd own
            go_wp2_with fail
            refine hG.mono ?_
            rintro e v1 ⟨_, hno, _, hGr⟩
            obtain rfl := hno got_none
            have hE1 := hEr.then_grown hGr (by intro j hj; cases hj; exact hwq)
            have hEn := Ext.new v1 (.cells #[.int .i64 0, .slice none 0 0, .int .i64 0, .slice none 0 0, .slice none 0 0] 41)
            clear hno hGr hG hR0
            go_wp2_with fail
            refine (known10_any _).mono ?_
            rintro e v2 ⟨rfl, hEz⟩
            go_wp2_with fail
            go_ret
            exact ⟨rfl, (hE1.trans hEn).trans hEz⟩
end Go.Proofs.Ythggfbpdhkpkjaa

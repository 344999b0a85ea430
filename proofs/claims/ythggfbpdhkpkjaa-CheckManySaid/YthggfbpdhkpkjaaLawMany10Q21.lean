/-
  sign.Sign, walked. Rows of unlike types lie in unlike blocks. Plain theorems.
-/
import Derived.Test.YthggfbpdhkpkjaaLawMany10Q20
namespace Go.Proofs.Ythggfbpdhkpkjaa
set_option maxRecDepth 100000
open Go Go.RowKit
theorem grown_set (w : World) (a : Addr) (u : Value) : w.grownBy (w.setCell a u) (some a.block) := ⟨rfl, rfl, rfl, by simp [World.setCell], fun i _ hne => Below.heap_setCell w a u i fun e => hne (by rw [e])⟩
theorem bin_xor1 {P : Program} {w : World} (t : TypeId) (q : Nat) (hq : q < 16) : (binOp .xor t (.int .i64 (q : Int)) (.int .i64 1)).run P w = .ok (.int .i64 ((q + 1 - 2 * (q % 2) : Nat) : Int)) w := by
  have h : q = 0 ∨ q = 1 ∨ q = 2 ∨ q = 3 ∨ q = 4 ∨ q = 5 ∨ q = 6 ∨ q = 7 ∨ q = 8 ∨ q = 9 ∨ q = 10 ∨ q = 11 ∨ q = 12 ∨ q = 13 ∨ q = 14 ∨ q = 15 := by omega
  rcases h with rfl | rfl | rfl | rfl | rfl | rfl | rfl | rfl | rfl | rfl | rfl | rfl | rfl | rfl | rfl | rfl
  all_goals rfl
theorem results_sig {P : Program} {fn : Func} {p u : Tmp} {ty : TypeId} (h : fn.results = #[.cell p ty, .tmp u]) (tmps : Array Value) (w : World) (g : Nat) (t : TypeId) (cs : Array Value) (d : TypeDesc)
    (hp : tmps.getD p undef = .pointer (some ⟨g, 0, none⟩)) (hg : Blk w g t cs) (hu : P.underlying ty = some d) (hd : (match d with | .struct _ | .array _ _ => true | _ => false) = true) (hi : (P.info? ty).map (·.size) = some cs.size) :
    (results fn tmps).run P w = .ok (.tuple #[.agg cs, tmps.getD u undef]) w := by
  have hp' : tmps[p]?.getD undef = .pointer (some ⟨g, 0, none⟩) := by simpa using hp
  simp [results, h, hp', asAddr, run_loadVar_row w g t ty cs (0, 0) d hg hu hd hi]
def sliceLen : Value → Nat
  | .slice _ n _ => n
  | _ => 0
def SignI (w1 : World) (S : List UInt8) (k dp : Nat) (Pp : Option Addr) (v i : Value) (wr : World) : Prop :=
  ∃ (h d dq b2 : Nat) (P Q : Option Addr), h ≤ 4 ∧ i = .int .i64 ((k / 2 ^ h : Nat) : Int) ∧ v = .slice P (16 / 2 ^ h) d ∧ OBD wr b2 P (16 / 2 ^ h) d (lev S h) ∧ (∀ q, blk Q = some q → q < b2) ∧
    w1.heap.size + 1 ≤ b2 ∧ OBD wr (w1.heap.size + 1) Q h dq ((List.range h).map (pathB S k)) ∧ Blk wr w1.heap.size 39 #[.int .i64 (k : Int), .slice Pp 64 dp, .slice Q h dq] ∧ Ext w1 wr
theorem OBC.base {w : World} {base base' n c : Nat} {A : Option Addr} {Ls : List (List UInt8)} (h : OBC w base A n c Ls) (hb : base' ≤ base) : OBC w base' A n c Ls := by
  obtain ⟨vs, h1, h2⟩ := h
  exact ⟨vs, ownsRow_base h1 hb, h2⟩
set_option maxHeartbeats 4000000 in
theorem ssign_own (A B : Option Addr) (c m e' k : Nat) (S M : List UInt8) (w : World) (hr : RB w A 32 c S) (hm : RB w B m e' M) (hmn : m ≤ 140737488355000) (hk : k < 16) :
    Calls Try.prog 83 #[.slice A 32 c, .int .i64 (k : Int), .slice B m e'] w fun e w' => ∃ P d Q d', e = .returned (.tuple #[.agg #[.int .i64 (k : Int), .slice P 64 d, .slice Q 4 d'], .int .i64 0]) ∧ OBC w' w.heap.size P 64 d ((List.range 64).map (partS (digestW M) S k)) ∧ OBC w' w.heap.size Q 4 d' (pathL S k) ∧ Ext w w' := by
  have hki : (k : Int) < 16 := by omega
  have hk0 : ¬ ((k : Int) < 0) := by omega
  go_enter Try.func83, Try.ntmps83
  go_wp2_with fail
  have hE0 := Ext.new w (.cells #[.int .i64 0, .slice none 0 0, .slice none 0 0] 39)
  have hB6 := Blk.new w 39 #[.int .i64 0, .slice none 0 0, .slice none 0 0]
  refine (sign_own A B 32 c m e' S M k _ (hr.ext hE0) (by omega) (hm.ext hE0) hmn).mono ?_
  rintro e w1 ⟨P1, d1, rfl, own1, hE1⟩
  have hB6 := hB6.ext hE1
  have hE01 := hE0.trans hE1
  have rS1 := hr.ext hE01
  have hlt6 := hB6.lt
  have hs1 : (w.alloc (.cells #[.int .i64 0, .slice none 0 0, .slice none 0 0] 39)).heap.size = w.heap.size + 1 := World.size_alloc _ _
  rw [hs1] at own1
  clear hE1 hr hm hs1
  have hE2 := Ext.new w1 (.cells #[.int .i64 (k : Int), .slice P1 64 d1, .slice none 0 0] 39)
  have hB8 := Blk.new w1 39 #[.int .i64 (k : Int), .slice P1 64 d1, .slice none 0 0]
  go_wp2_with fail
  refine (leaves_own A 32 c S _ (rS1.ext hE2) (by omega)).mono ?_
  rintro e w3 ⟨P3, d3, rfl, own3, hE3⟩
  have hB8 := hB8.ext hE3
  have hE13 := hE2.trans hE3
  have hs2 : (w1.alloc (.cells #[.int .i64 (k : Int), .slice P1 64 d1, .slice none 0 0] 39)).heap.size = w1.heap.size + 1 := World.size_alloc _ _
  rw [hs2] at own3
  go_wp2_with fail
  go_loopw [9, 10] (fun v i wr => SignI w1 S k d1 P1 v i wr) (fun v _ _ => sliceLen v)
  case atStart => exact ⟨0, d3, 0, w1.heap.size + 1, P3, none, by omega, by simp, rfl, own3, (fun q hq => by cases hq), Nat.le_refl _, OBD.none_ _ _, hB8, hE13⟩
  case round =>
    clear own3 hB8 hE13 hE2 hE3 hs2
    obtain ⟨h, d, dq, b2, P, Q, hh, rfl, rfl, own, hQb, hb2, ownQ, hB8, hEr⟩ := hrel
    have hlt8 := hB8.lt
    by_cases hlt : h < 4
    · obtain ⟨p1, p2, p3, p4⟩ := pow_step hlt
      obtain ⟨s1, s2, s3⟩ := step_lt hk hlt
      have hq16 : k / 2 ^ h < 16 := Nat.lt_of_le_of_lt (Nat.div_le_self _ _) hk
      have hpB : pathB S k h = lb (lev S h) (k / 2 ^ h + 1 - 2 * (k / 2 ^ h % 2)) := rfl
      have hpre : ∀ (w' : World) (P' : Option Addr) (b' d' : Nat), OBD w' b' P' (16 / 2 ^ h / 2) d' (upL (lev S h)) → OBD w' b' P' (16 / 2 ^ (h + 1)) d' (lev S (h + 1)) := by
        intro w' P' b' d' h'
        rw [p3] at h'
        exact h'
      have hsn := range_snoc (pathB S k) h
      have Hsn := Lib.hid hsn
      have Hpre := Lib.hid hpre
      have Hs3 := Lib.hid s3
      have HN := Lib.hid p3
      have hab := fun (w' : World) (own' : OBD w' b2 P (16 / 2 ^ h) d (lev S h)) => above_own P _ d b2 _ w' own' p1 p2
      have Hab := Lib.hid hab
      have h5 : 1 < 16 / 2 ^ h := by omega
      clear hsn hpre hab p1 p2 p3 s2 s3 p4
      rw [hpB] at Hsn
      clear hpB
      generalize k / 2 ^ h = q at *
      generalize lev S h = LV at *
      generalize 16 / 2 ^ h = N at *
      have hN : (1 : Int) < (N : Int) := by omega
      obtain ⟨g, rfl⟩ := own.plain (by omega)
      obtain ⟨g1, d9, hc1, o1⟩ := own.cell (j := q + 1 - 2 * (q % 2)) s1
      have r1 := o1.rb
      obtain ⟨Y, hY⟩ : ∃ Y, Y = lb LV (q + 1 - 2 * (q % 2)) := ⟨_, rfl⟩
      rw [← hY] at r1 o1 Hsn
      clear hY
      have y1 : wr.cell? ⟨w1.heap.size, 2, none⟩ = some (.slice Q h dq) := hB8.cell (i := 2) rfl
      go_upto_region 10 with (fail)
      refine par_ext (n := 8) (by kernel_rfl) [.is (.pointer (some ⟨w1.heap.size, 2, none⟩)), .is (.slice (Q) (h) (dq)), .is (.slice (some ⟨g, 0, none⟩) (N) (d)), .is (.int .i64 (((q : Nat) : Int))), .is (.int .i64 (((q + 1 - 2 * (q % 2) : Nat) : Int))), .is (.pointer (some ((⟨g, 0, none⟩ : Addr).add ((q + 1 - 2 * (q % 2)))))), .is (.slice (some ⟨g1, 0, none⟩) (32) (d9)), .one1 (.slice (some ⟨g1, 0, none⟩) (32) (d9))] rfl ⟨?_, ?_, ?_, ?_, ?_, ?_, ?_, ?_, trivial⟩ ?_
      · refine stepE rfl fun sdn sa sw sE sd sk => ?_
        have h8 : sa.eval (.tmp 8) = .pointer (some ⟨w1.heap.size, 0, none⟩) := sk.old 8 rfl
        refine Runs.of_run (r := .pointer (some ⟨w1.heap.size, 2, none⟩)) (w' := sw) ?_ ⟨Ext.refl _, rfl⟩
        unfold execOp
        simp only [h8]
        go_simp
      · refine stepE rfl fun sdn sa sw sE sd sk => ?_
        have h38 : sa.eval (.tmp 38) = .pointer (some ⟨w1.heap.size, 2, none⟩) := sk.fact 0 38 rfl (sd 0 rfl)
        exact Runs.load rfl h38 (run_load1 Try.underlying37 rfl (sE.cell y1)) ⟨Ext.refl _, rfl⟩
      · refine stepE rfl fun sdn sa sw sE sd sk => ?_
        have h9 : sa.eval (.tmp 9) = .slice (some ⟨g, 0, none⟩) (N) (d) := sk.old 9 rfl
        exact Runs.move rfl h9 ⟨Ext.refl _, rfl⟩
      · refine stepE rfl fun sdn sa sw sE sd sk => ?_
        have h10 : sa.eval (.tmp 10) = .int .i64 (((q : Nat) : Int)) := sk.old 10 rfl
        exact Runs.move rfl h10 ⟨Ext.refl _, rfl⟩
      · refine stepE rfl fun sdn sa sw sE sd sk => ?_
        have h41 : sa.eval (.tmp 41) = .int .i64 (((q : Nat) : Int)) := sk.fact 3 41 rfl (sd 3 rfl)
        exact Runs.bin rfl h41 rfl (eqGuard_bin rfl) (bin_xor1 _ q hq16) ⟨Ext.refl _, rfl⟩
      · refine stepE rfl fun sdn sa sw sE sd sk => ?_
        have h40 : sa.eval (.tmp 40) = .slice (some ⟨g, 0, none⟩) (N) (d) := sk.fact 2 40 rfl (sd 2 rfl)
        have h42 : sa.eval (.tmp 42) = .int .i64 (((q + 1 - 2 * (q % 2) : Nat) : Int)) := sk.fact 4 42 rfl (sd 4 rfl)
        exact Runs.idx rfl h40 h42 (run_idx_sl1 Try.underlying37 infZZ_eq infZZ_size ((q + 1 - 2 * (q % 2))) (by omega) (by omega)) ⟨Ext.refl _, rfl⟩
      · refine stepE rfl fun sdn sa sw sE sd sk => ?_
        have h43 : sa.eval (.tmp 43) = .pointer (some ((⟨g, 0, none⟩ : Addr).add ((q + 1 - 2 * (q % 2))))) := sk.fact 5 43 rfl (sd 5 rfl)
        exact Runs.load rfl h43 (run_load1 Try.underlying22 rfl (sE.cell hc1)) ⟨Ext.refl _, rfl⟩
      · refine stepE rfl fun sdn sa sw sE sd sk => ?_
        have h44 : sa.eval (.tmp 44) = .slice (some ⟨g1, 0, none⟩) (32) (d9) := sk.fact 6 44 rfl (sd 6 rfl)
        exact Runs.one1 rfl h44 (fun w1 e1 b1 => ⟨e1, _, rfl, b1⟩)
      intro vals W1 hE hv
      have e0 : vals 0 = .pointer (some ⟨w1.heap.size, 2, none⟩) := hv 0 (by omega) 38 rfl
      have e1 : vals 1 = .slice (Q) (h) (dq) := hv 1 (by omega) 39 rfl
      have e2 : vals 2 = .slice (some ⟨g, 0, none⟩) (N) (d) := hv 2 (by omega) 40 rfl
      have e3 : vals 3 = .int .i64 (((q : Nat) : Int)) := hv 3 (by omega) 41 rfl
      have e4 : vals 4 = .int .i64 (((q + 1 - 2 * (q % 2) : Nat) : Int)) := hv 4 (by omega) 42 rfl
      have e5 : vals 5 = .pointer (some ((⟨g, 0, none⟩ : Addr).add ((q + 1 - 2 * (q % 2))))) := hv 5 (by omega) 43 rfl
      have e6 : vals 6 = .slice (some ⟨g1, 0, none⟩) (32) (d9) := hv 6 (by omega) 44 rfl
      obtain ⟨x45, e7, hc45⟩ := hv 7 (by omega) 45 rfl
      simp only [putAll, Act.put, List.take_succ_cons, List.take_zero, List.drop_succ_cons, List.drop_zero, List.drop_nil, List.take_nil, Nat.reduceAdd, List.setIfInBounds_toArray, List.set_cons_succ, List.set_cons_zero, e0, e1, e2, e3, e4, e5, e6, e7]
      clear hv e0 e1 e2 e3 e4 e5 e6 e7
      have ownQ1 := ownQ.ext hE
      have hB81 := hB8.ext hE
      have own1 := own.ext hE
      have hEw := hEr.trans hE
      have hne : some g1 ≠ blk Q := by
        intro e
        have h1 := o1.ge
        have h2 := hQb _ e.symm
        omega
      have hsz := hE.size
      have hne8 : some w1.heap.size ≠ blk Q := by
        intro e
        have h1 := (ownQ.lt e.symm).1
        omega
      go_wp2_with (refine appbd_law (base := w1.heap.size + 1) (Y := Y) rfl rfl rfl rfl hc45 ownQ1 ((o1.ext hE).base hb2) hne (by omega) (by omega) ?_; intro Q5 d5 w5 ownQ5 g5; have hB85 := hB81.grown g5 hne8; have y5 := hB85.cell (i := 2) (v := .slice Q h dq) rfl; have y6 := hB85.frozen 2)
      have own5 := own1.grown g5 hQb
      have hE5 := hEw.then_grown g5 (fun b hb => by have := (ownQ1.lt hb).1; omega)
      have own6 := own5.grown (grown_set w5 ⟨w1.heap.size, 2, none⟩ (.slice Q5 (h + 1) d5)) (fun b hb => by cases hb; exact hb2)
      have ownQ6 := ownQ5.grown (grown_set w5 ⟨w1.heap.size, 2, none⟩ (.slice Q5 (h + 1) d5)) (fun b hb => by cases hb; exact Nat.lt_succ_self _)
      have hB86 := hB85.set 2 (.slice Q5 (h + 1) d5)
      have hE6 := hE5.set (p := ⟨w1.heap.size, 2, none⟩) (Nat.le_refl _) (.slice Q5 (h + 1) d5)
      clear hB81 own1 hEw ownQ1 own5 hE5 ownQ5 g5 hB85
      go_wp2_with fail
      refine (Hab.out _ own6).mono ?_
      rintro e w7 ⟨P7, d7, rfl, own7, hE7⟩
      have hq7 := fun b (hb : blk Q5 = some b) => (ownQ6.lt hb).2
      have hl6 := hB86.lt
      go_wp2_with fail
      go_roundw
      case rel =>
        refine ⟨h + 1, d7, d5, _, P7, Q5, by omega, ?_, ?_, Hpre.out _ _ _ _ own7, hq7, ?_, ?_, hB86.ext hE7, hE6.trans hE7⟩
        · rw [Hs3.out]; go_num
        · rw [HN.out]
        · omega
        · rw [Hsn.out]; exact ownQ6.ext hE7
      case measure => simp [sliceLen]; omega
    · obtain rfl : h = 4 := by omega
      have z0 : wr.cell? ⟨w1.heap.size, 0, none⟩ = some (.int .i64 (k : Int)) := hB8.cell (i := 0) rfl
      have z1 : wr.cell? ⟨w1.heap.size, 1, none⟩ = some (.slice P1 64 d1) := hB8.cell (i := 1) rfl
      have z2 : wr.cell? ⟨w1.heap.size, 2, none⟩ = some (.slice Q 4 dq) := hB8.cell (i := 2) rfl
      have hB6r := hB6.ext hEr
      have f0 := hB6r.frozen 0
      have f1 := hB6r.frozen 1
      have f2 := hB6r.frozen 2
      have x0 := hB6r.cell (i := 0) rfl
      have x1 := hB6r.cell (i := 1) rfl
      have x2 := hB6r.cell (i := 2) rfl
      have e4 : (Value.slice P (16 / 2 ^ 4) d) = .slice P 1 d := rfl
      rw [e4]
      clear e4
      go_wp2_with fail
      have g1 := fun (w' : World) (u : Value) (i : Nat) => grown_set w' ⟨w.heap.size, i, none⟩ u
      have oP := own1.ext hEr
      have oP3 := ((oP.grown (g1 _ (.int .i64 (k : Int)) 0) (fun b hb => by cases hb; exact Nat.lt_succ_self _)).grown (g1 _ (.slice P1 64 d1) 1) (fun b hb => by cases hb; exact Nat.lt_succ_self _)).grown (g1 _ (.slice Q 4 dq) 2) (fun b hb => by cases hb; exact Nat.lt_succ_self _)
      have hq' : ∀ b, (some w.heap.size : Option Nat) = some b → b < w1.heap.size + 1 := fun b hb => by cases hb; omega
      have oQ3 := ((ownQ.grown (g1 _ (.int .i64 (k : Int)) 0) hq').grown (g1 _ (.slice P1 64 d1) 1) hq').grown (g1 _ (.slice Q 4 dq) 2) hq'
      have hEf := (((hE01.trans hEr).set (p := ⟨w.heap.size, 0, none⟩) (Nat.le_refl _) (.int .i64 (k : Int))).set (p := ⟨w.heap.size, 1, none⟩) (Nat.le_refl _) (.slice P1 64 d1)).set (p := ⟨w.heap.size, 2, none⟩) (Nat.le_refl _) (.slice Q 4 dq)
      have hBf := ((hB6r.set 0 (.int .i64 (k : Int))).set 1 (.slice P1 64 d1)).set 2 (.slice Q 4 dq)
      clear oP ownQ hEr hB8 hB6 hB6r z0 z1 z2 x0 x1 x2 f0 f1 f2 own
      refine bodyPost_ret (results_sig rfl _ _ w.heap.size _ _ _ rfl hBf Try.underlying39 rfl rfl) rfl ?_
      exact ⟨P1, d1, Q, dq, rfl, oP3.obc.base (Nat.le_succ _), oQ3.obc.base (by omega), hEf⟩
end Go.Proofs.Ythggfbpdhkpkjaa
namespace Go.Proofs.Ythggfbpdhkpkjaa
set_option maxRecDepth 100000
open Go Go.RowKit
/-- the block of this number holds cells of another type than byte slices and bytes -/
def Other (w : World) (k : Nat) : Prop := ∃ cs t fr, w.heap[k]? = some (.cells cs t fr) ∧ t ≠ 22 ∧ t ≠ 5
theorem Blk.other {w : World} {g : Nat} {t : TypeId} {cs : Array Value} (h : Blk w g t cs) (h1 : t ≠ 22) (h2 : t ≠ 5) : Other w g := ⟨cs, t, (0, 0), h, h1, h2⟩
theorem row_type {w : World} {base : Nat} {e : TypeId} {s : Nat} {v : Value} {n : Nat} {xs : List Value} (h : w.ownsRow base e s v n xs) {k : Nat} (hk : v.ownBlock = some k) : ∃ cs, w.heap[k]? = some (.cells cs e (0, 0)) := by
  rcases h.2 with ⟨e, _⟩ | ⟨g, cap, cur, e, _, h1, _⟩
  · rw [e] at hk; cases hk
  · rw [e] at hk
    have h2 : some g = some k := hk
    injection h2 with h2
    subst h2
    exact ⟨cur, h1⟩
theorem row_other {w : World} {base : Nat} {e : TypeId} {s : Nat} {v : Value} {n : Nat} {xs : List Value} (h : w.ownsRow base e s v n xs) (h1 : e ≠ 22) (h2 : e ≠ 5) {k : Nat} (hk : v.ownBlock = some k) : Other w k := by
  obtain ⟨cs, hc⟩ := row_type h hk
  exact ⟨cs, e, (0, 0), hc, h1, h2⟩
theorem row_ne {w : World} {base : Nat} {e : TypeId} {s : Nat} {v : Value} {n : Nat} {xs : List Value} (h : w.ownsRow base e s v n xs) {k : Nat} {cs : Array Value} {t : TypeId} {fr : Nat × Nat} (hk : w.heap[k]? = some (.cells cs t fr)) (ht : t ≠ e) : v.ownBlock ≠ some k := by
  intro he
  obtain ⟨cs', hc⟩ := row_type h he
  rw [hc] at hk
  injection hk with hk
  injection hk with _ h2
  exact ht h2.symm
theorem OB.other {w : World} {base g n c : Nat} {L : List UInt8} (h : OB w base (some ⟨g, 0, none⟩) n c L) {k : Nat} (hk : Other w k) : some g ≠ some k := by
  obtain ⟨cs, t, fr, h1, h2, h3⟩ := hk
  have := row_ne h h1 h3
  rw [ownBlock_slice] at this
  exact this
theorem OBD.far {w w' : World} {base n c : Nat} {A : Option Addr} {Ls : List (List UInt8)} (h : OBD w base A n c Ls) {row : Option Nat} (e : w.grownBy w' row) (ht : ∀ k, row = some k → Other w k) : OBD w' base A n c Ls := by
  obtain ⟨vs, h1, h2, h3⟩ := h
  refine ⟨vs, World.ownsRow.kept h1 e ?_, h2, fun j hj => ?_⟩
  · cases row with
    | none => cases hb : Value.ownBlock (.slice A n c) <;> simp
    | some k =>
      obtain ⟨cs, t, fr, g1, g2, g3⟩ := ht k rfl
      exact .inr (row_ne h1 g1 g2)
  · obtain ⟨g, d, h4, h5, h6⟩ := h3 j hj
    refine ⟨g, d, h4, h5.grown e (.inr fun e' => ?_), h6⟩
    cases row with
    | none => cases e'
    | some k => exact h5.other (ht k rfl) e'
theorem RB.apart5 {w : World} {A : Option Addr} {n c : Nat} {L : List UInt8} (h : RB w A n c L) {g : Nat} {t : TypeId} {cs : Array Value} (hb : Blk w g t cs) (hno : ∀ (i : Nat) (x : Int), cs[i]? ≠ some (.int .u8 x)) : 0 < n → blk A ≠ some g := by
  intro hn e
  obtain ⟨ad, rfl, hc⟩ := h.cells hn
  have h1 := hc 0 hn
  have h2 : ad.block = g := by simpa [blk] using e
  unfold World.cell? at h1
  have h3 : (ad.add 0).block = ad.block := rfl
  rw [h3, h2, show w.heap[g]? = _ from hb] at h1
  by_cases hs : (ad.add 0).spot.isSome = true
  · simp [hs] at h1
  · simp only [hs] at h1
    exact hno _ _ h1
theorem sig_no (x : Int) (P Q : Option Addr) (np cp nq cq i : Nat) (y : Int) : (#[.int .i64 x, .slice P np cp, .slice Q nq cq] : Array Value)[i]? ≠ some (.int .u8 y) := by
  rcases i with _ | _ | _ | i <;> simp
theorem OBC.far {w w' : World} {base n c : Nat} {A : Option Addr} {Ls : List (List UInt8)} (h : OBC w base A n c Ls) {g : Nat} {t : TypeId} {cs : Array Value} (hb : Blk w g t cs) (ht : t ≠ 22) (hno : ∀ (i : Nat) (x : Int), cs[i]? ≠ some (.int .u8 x)) (e : w.grownBy w' (some g)) : OBC w' base A n c Ls := by
  obtain ⟨vs, h1, h2, h3⟩ := h
  refine ⟨vs, World.ownsRow.kept h1 e (.inr (row_ne h1 hb ht)), h2, fun j hj => ?_⟩
  obtain ⟨B, m, d, h4, h5, h6⟩ := h3 j hj
  exact ⟨B, m, d, h4, h5.grown e (h5.apart5 hb hno), h6⟩
/-- the levels of an owner's tree, each a row of the call's own -/
def LevO (w : World) (b : Nat) (A : Option Addr) (n c : Nat) (S : List UInt8) : Prop :=
  ∃ vs : List Value, w.ownsRow b 37 1 (.slice A n c) n vs ∧ ∀ j, j < n → ∃ g d, vs[j]? = some (.slice (some ⟨g, 0, none⟩) (16 / 2 ^ j) d) ∧ OBD w b (some ⟨g, 0, none⟩) (16 / 2 ^ j) d (lev S j)
theorem LevO.none_ (w : World) (b : Nat) (S : List UInt8) : LevO w b none 0 0 S := ⟨[], World.ownsRow_nil w _ _ _, fun j hj => absurd hj (Nat.not_lt_zero _)⟩
theorem LevO.lt {w : World} {b n c : Nat} {A : Option Addr} {S : List UInt8} (h : LevO w b A n c S) {k : Nat} (hk : blk A = some k) : b ≤ k ∧ k < w.heap.size := by
  obtain ⟨vs, h1, _⟩ := h
  exact World.ownsRow.lt h1 k (by rw [ownBlock_slice]; exact hk)
theorem LevO.other {w : World} {b n c : Nat} {A : Option Addr} {S : List UInt8} (h : LevO w b A n c S) {k : Nat} (hk : blk A = some k) : Other w k := by
  obtain ⟨vs, h1, _⟩ := h
  exact row_other h1 (by decide) (by decide) (by rw [ownBlock_slice]; exact hk)
theorem LevO.ext {w w' : World} {b n c : Nat} {A : Option Addr} {S : List UInt8} (h : LevO w b A n c S) (e : Ext w w') : LevO w' b A n c S := by
  obtain ⟨vs, h1, h3⟩ := h
  refine ⟨vs, World.ownsRow.kept h1 (e.grownBy none) ?_, fun j hj => ?_⟩
  · cases hb : Value.ownBlock (.slice A n c) <;> simp
  · obtain ⟨g, d, h4, h5⟩ := h3 j hj
    exact ⟨g, d, h4, h5.ext e⟩
theorem LevO.far {w w' : World} {b n c : Nat} {A : Option Addr} {S : List UInt8} (h : LevO w b A n c S) {g : Nat} {t : TypeId} {cs : Array Value} (hb : Blk w g t cs) (h1 : t ≠ 37) (h2 : t ≠ 22) (h3 : t ≠ 5) (e : w.grownBy w' (some g)) : LevO w' b A n c S := by
  obtain ⟨vs, r1, r3⟩ := h
  refine ⟨vs, World.ownsRow.kept r1 e (.inr (row_ne r1 hb h1)), fun j hj => ?_⟩
  obtain ⟨g', d, h4, h5⟩ := r3 j hj
  exact ⟨g', d, h4, h5.far e (fun k hk => by cases hk; exact hb.other h2 h3)⟩
theorem LevO.cell {w : World} {b n c g : Nat} {S : List UInt8} (h : LevO w b (some ⟨g, 0, none⟩) n c S) {j : Nat} (hj : j < n) :
    ∃ g' d', w.cell? ((⟨g, 0, none⟩ : Addr).add j) = some (.slice (some ⟨g', 0, none⟩) (16 / 2 ^ j) d') ∧ OBD w b (some ⟨g', 0, none⟩) (16 / 2 ^ j) d' (lev S j) := by
  obtain ⟨vs, h1, h3⟩ := h
  obtain ⟨g', d', h4, h5⟩ := h3 j hj
  exact ⟨g', d', World.ownsRow.cells h1 (g := g) (by rw [ownBlock_slice]; rfl) j _ h4, h5⟩
theorem LevO.plain {w : World} {b n c : Nat} {A : Option Addr} {S : List UInt8} (h : LevO w b A n c S) (hn : 0 < n) : ∃ g, A = some ⟨g, 0, none⟩ := by
  obtain ⟨vs, h1, _⟩ := h
  rcases h1.2 with ⟨_, h0⟩ | ⟨g, cap, cur, e, _⟩
  · omega
  · injection e with e1
    exact ⟨g, e1⟩
theorem LevO.room {w : World} {b n c : Nat} {A : Option Addr} {S : List UInt8} (h : LevO w b A n c S) : n ≤ c := by
  obtain ⟨vs, h1, _⟩ := h
  rcases h1.2 with ⟨e, h0⟩ | ⟨g, cap, cur, e, _, _, h2, _⟩
  · omega
  · injection e with e1 e2 e3
    omega
theorem LevO.base {w : World} {b b' n c : Nat} {A : Option Addr} {S : List UInt8} (h : LevO w b A n c S) (hb : b' ≤ b) : LevO w b' A n c S := by
  obtain ⟨vs, h1, h3⟩ := h
  refine ⟨vs, ownsRow_base h1 hb, fun j hj => ?_⟩
  obtain ⟨g, d, h4, h5⟩ := h3 j hj
  exact ⟨g, d, h4, h5.base hb⟩
theorem info_sss : (Try.prog.info? 37).map (fun i => (i.zero, i.size, i.bytes)) = some (some (.slice none 0 0), 1, 24) := by kernel_rfl
theorem appl_law {ops : Array Oper} {rest : List Oper} {o : Oper} {a : Act} {Q : Exit → Act → World → Prop} {w : World} (hgd : o.guard = none) {s x : Operand} (ho : o.op = .call { callee := .builtin .append, args := #[s, x], argTypes := #[72, 72] })
    {A : Option Addr} {n c : Nat} (hs : a.eval s = .slice A n c) {ad : Addr} (hx : a.eval x = .slice (some ad) 1 1) {b : Nat} {S : List UInt8} {g d : Nat} (hcell : w.cell? (ad.add 0) = some (.slice (some ⟨g, 0, none⟩) (16 / 2 ^ n) d))
    (hown : LevO w b A n c S) (hB : OBD w b (some ⟨g, 0, none⟩) (16 / 2 ^ n) d (lev S n)) (hbase : b ≤ w.heap.size) (hnk : n + 1 ≤ 1000000)
    (h : ∀ A' c' w', LevO w' b A' (n + 1) c' S → OBD w' b (some ⟨g, 0, none⟩) (16 / 2 ^ n) d (lev S n) → w.grownBy w' (blk A) → wpList Try.prog ops Q rest (a.put o.dst (.slice A' (n + 1) c')) w') : wpList Try.prog ops Q (o :: rest) a w := by
  obtain ⟨i0, hi0, hz0, hz1, hz2⟩ := info_parts info_sss
  have hoth := fun k (hk : blk A = some k) => hown.other hk
  obtain ⟨vs, h1, h3⟩ := hown
  obtain ⟨v', w', hrun, r1, r2, _, r4⟩ := run_append_own_at (P := Try.prog) w b 72 o.type 37 i0 (.slice none 0 0) 1 24 Try.underlying72 hi0 hz0 hz1 hz2 rfl (by decide) (.slice A n c) n vs h1 ad 1 1 [.slice (some ⟨g, 0, none⟩) (16 / 2 ^ n) d] rfl
    (by
      intro j u hu
      rcases j with _ | j
      · injection hu with hu
        subst hu
        exact hcell
      · cases hu) (by simp [Value.oneCell']) (small_maxLen hnk) (by omega) hbase
  obtain ⟨A', c', rfl⟩ : ∃ A' c', v' = .slice A' (n + 1) c' := by
    rcases r1.2 with ⟨_, h0⟩ | ⟨g, cap, _, rfl, _⟩
    · omega
    · exact ⟨_, cap, rfl⟩
  rw [ownBlock_slice] at r2
  have hvl : vs.length = n := by have := h1.1; omega
  refine run_law hgd (v := .slice A' (n + 1) c') (w' := w') ?_ (h A' c' w' ⟨vs ++ [.slice (some ⟨g, 0, none⟩) (16 / 2 ^ n) d], r1, fun j hj => ?_⟩ (hB.far r2 hoth) r2)
  · unfold execOp
    simp only [ho, resolve, invoke, builtin, Sem.run_bind, Sem.run_pure, Result.andThen_ok, List.map_toArray, List.map_cons, List.map_nil, hs, hx, hrun]
  · by_cases hjn : j < n
    · obtain ⟨g', d', h4, h5⟩ := h3 j hjn
      exact ⟨g', d', by rw [List.getElem?_append_left (by omega)]; exact h4, h5.far r2 hoth⟩
    · obtain rfl : j = n := by omega
      exact ⟨g, d, by rw [List.getElem?_append_right (by omega), hvl]; simp, hB.far r2 hoth⟩
end Go.Proofs.Ythggfbpdhkpkjaa

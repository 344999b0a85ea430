/-
  ref5's Sign: its path's row lies behind its parts' row; the path's elements were there before.
-/
import Derived.Test.YtkndgpjamijbbaaLawForg26Q22
import Derived.Test.YtkndgpjamijbbaaLawForg26Q20
namespace Go.Proofs.Ytkndgpjamijbbaa
set_option maxRecDepth 100000
open Go Go.RowKit
def OBL (w : World) (base b : Nat) (A : Option Addr) (n c : Nat) (Ls : List (List UInt8)) : Prop :=
  ∃ vs : List Value, w.ownsRow base 22 1 (.slice A n c) n vs ∧ Ls.length = n ∧ ∀ j, j < n → ∃ B m d, vs[j]? = some (.slice B m d) ∧ RB w B m d (lb Ls j) ∧ (0 < m → blk B ≠ blk A ∧ ∀ k, blk B = some k → k < b)
section
variable {w w' : World} {base b n c : Nat} {A : Option Addr} {Ls : List (List UInt8)}
theorem OBL.none_ (w : World) (base b : Nat) : OBL w base b none 0 0 [] := ⟨[], World.ownsRow_nil w _ _ _, rfl, fun j hj => absurd hj (Nat.not_lt_zero _)⟩
theorem OBL.obc (h : OBL w base b A n c Ls) : OBC w base A n c Ls := by
  obtain ⟨vs, h1, h2, h3⟩ := h
  refine ⟨vs, h1, h2, fun j hj => ?_⟩
  obtain ⟨B, m, d, h4, h5, h6⟩ := h3 j hj
  exact ⟨B, m, d, h4, h5, fun hm => (h6 hm).1⟩
theorem OBL.lt (h : OBL w base b A n c Ls) {k : Nat} (hk : blk A = some k) : base ≤ k ∧ k < w.heap.size := h.obc.lt hk
theorem OBL.ext (h : OBL w base b A n c Ls) (e : Ext w w') : OBL w' base b A n c Ls := by
  obtain ⟨vs, h1, h2, h3⟩ := h
  refine ⟨vs, World.ownsRow.kept h1 (e.grownBy none) ?_, h2, fun j hj => ?_⟩
  · cases hb : Value.ownBlock (.slice A n c) <;> simp
  · obtain ⟨B, m, d, h4, h5, h6⟩ := h3 j hj
    exact ⟨B, m, d, h4, h5.ext e, h6⟩
theorem OBL.far (h : OBL w base b A n c Ls) {g : Nat} {t : TypeId} {cs : Array Value} (hb : Blk w g t cs) (ht : t ≠ 22) (hno : ∀ (i : Nat) (x : Int), cs[i]? ≠ some (.int .u8 x)) (e : w.grownBy w' (some g)) : OBL w' base b A n c Ls := by
  obtain ⟨vs, h1, h2, h3⟩ := h
  refine ⟨vs, World.ownsRow.kept h1 e (.inr (row_ne h1 hb ht)), h2, fun j hj => ?_⟩
  obtain ⟨B, m, d, h4, h5, h6⟩ := h3 j hj
  exact ⟨B, m, d, h4, h5.grown e (h5.apart5 hb hno), h6⟩
end
theorem appbl_law {ops : Array Oper} {rest : List Oper} {o : Oper} {a : Act} {Q : Exit → Act → World → Prop} {w : World} (hgd : o.guard = none) {s x : Operand} (ho : o.op = .call { callee := .builtin .append, args := #[s, x], argTypes := #[23, 23] })
    {A : Option Addr} {n c : Nat} (hs : a.eval s = .slice A n c) {ad : Addr} (hx : a.eval x = .slice (some ad) 1 1) {base b : Nat} {Ls : List (List UInt8)} {B : Option Addr} {m d : Nat} {Y : List UInt8} (hcell : w.cell? (ad.add 0) = some (.slice B m d))
    (hown : OBL w base b A n c Ls) (hB : RB w B m d Y) (hne : 0 < m → blk B ≠ blk A ∧ ∀ k, blk B = some k → k < b) (hbase : base ≤ w.heap.size) (hnk : n + 1 ≤ 1000000)
    (h : ∀ A' c' w', OBL w' base b A' (n + 1) c' (Ls ++ [Y]) → w.grownBy w' (blk A) → wpList Try.prog ops Q rest (a.put o.dst (.slice A' (n + 1) c')) w') : wpList Try.prog ops Q (o :: rest) a w := by
  obtain ⟨vs, h1, h2, h3⟩ := hown
  obtain ⟨i0, hi0, hz0, hz1, hz2⟩ := info_parts info_bb'
  obtain ⟨v', w', hrun, r1, r2, _, r4⟩ := run_append_own_at (P := Try.prog) w base 23 o.type 22 i0 (.slice none 0 0) 1 24 Try.underlying23 hi0 hz0 hz1 hz2 rfl (by decide) (.slice A n c) n vs h1 ad 1 1 [.slice B m d] rfl
    (by
      intro j u hu
      rcases j with _ | j
      · injection hu with hu
        subst hu
        exact hcell
      · cases hu) (by simp [Value.oneCell']) (small_maxLen hnk) (by omega) hbase
  obtain ⟨A', c', rfl⟩ : ∃ A' c', v' = .slice A' (n + 1) c' := by
    rcases r1.2 with ⟨_, h0⟩ | ⟨g, cap, _, rfl, _⟩
    · omega
    · exact ⟨_, cap, rfl⟩
  rw [ownBlock_slice] at r2 r4
  rw [ownBlock_slice] at r4
  have hne' : ∀ (B' : Option Addr) (m' d' : Nat) (Y' : List UInt8), RB w B' m' d' Y' → (0 < m' → blk B' ≠ blk A) → (0 < m' → blk B' ≠ blk A') := by
    intro B' m' d' Y' hb hn hm e
    rcases r4 with r4 | r4
    · exact hn hm (e.trans r4)
    · have := rb_blk_lt hb hm _ (e.trans r4)
      omega
  have hvl : vs.length = n := by have := h1.1; omega
  refine run_law hgd (v := .slice A' (n + 1) c') (w' := w') ?_ (h A' c' w' ⟨vs ++ [.slice B m d], r1, by rw [List.length_append]; simp; omega, fun j hj => ?_⟩ r2)
  · unfold execOp
    simp only [ho, resolve, invoke, builtin, Sem.run_bind, Sem.run_pure, Result.andThen_ok, List.map_toArray, List.map_cons, List.map_nil, hs, hx, hrun]
  · by_cases hjn : j < n
    · obtain ⟨B', m', d', h4, h5, h6⟩ := h3 j hjn
      refine ⟨B', m', d', by rw [List.getElem?_append_left (by omega)]; exact h4, ?_, fun hm => ⟨hne' _ _ _ _ h5 (fun hm => (h6 hm).1) hm, (h6 hm).2⟩⟩
      have e : lb (Ls ++ [Y]) j = lb Ls j := by unfold lb; simp [List.getElem?_append_left (show j < Ls.length by omega)]
      rw [e]
      exact h5.grown r2 (fun hm => (h6 hm).1)
    · obtain rfl : j = n := by omega
      refine ⟨B, m, d, by rw [List.getElem?_append_right (by omega), hvl]; simp, ?_, fun hm => ⟨hne' _ _ _ _ hB (fun hm => (hne hm).1) hm, (hne hm).2⟩⟩
      have e : lb (Ls ++ [Y]) j = Y := by unfold lb; simp [← h2]
      rw [e]
      exact hB.grown r2 (fun hm => (hne hm).1)

def RSignL (b : Nat) (w1 : World) (S : List UInt8) (k dp : Nat) (Pp : Option Addr) (i : Value) (wr : World) : Prop :=
  ∃ (h dq : Nat) (Q : Option Addr), h ≤ 4 ∧ i = .int .i64 h ∧ OBL wr w1.heap.size b Q h dq ((List.range h).map (pathB S k)) ∧ Blk wr w1.heap.size 42 #[.int .i64 (k : Int), .slice Pp 64 dp, .slice Q h dq] ∧ Ext w1 wr
set_option maxHeartbeats 4000000 in
theorem rsign_l (B : Option Addr) (g b m e' k : Nat) (S M : List UInt8) (w : World) (ho : OwnR w b g S) (hm : RB w B m e' M) (hmn : m ≤ 140737488355000) (hk : k < 16) :
    Calls Try.prog 25 #[.pointer (some ⟨g, 0, none⟩), .int .i64 (k : Int), .slice B m e'] w fun e w' => ∃ P d Q d', e = .returned (.agg #[.int .i64 (k : Int), .slice P 64 d, .slice Q 4 d']) ∧ OBC w' w.heap.size P 64 d ((List.range 64).map (partS (digestW M) S k)) ∧ (∃ q1, (∀ x, blk P = some x → x < q1) ∧ w.heap.size ≤ q1 ∧ OBL w' q1 w.heap.size Q 4 d' (pathL S k)) ∧ Ext w w' := by
  have hki : (k : Int) < 16 := by omega
  obtain ⟨A, c, LA, lc, h1, h2, h3⟩ := ho
  have h30 := h3
  obtain ⟨gl, rfl⟩ := h3.plain (by omega)
  go_enter Try.func25, Try.ntmps25
  have hE0 := Ext.new w (.cells #[.int .i64 0, .slice none 0 0, .slice none 0 0] 42)
  have hB6 := Blk.new w 42 #[.int .i64 0, .slice none 0 0, .slice none 0 0]
  have y0 := (h2.ext hE0).cell (i := 0) rfl
  go_wp2_with fail
  refine (r4sign_any A B 32 c m e' S M k _ (h1.ext hE0) (by omega) (hm.ext hE0) hmn).mono ?_
  rintro e w1 ⟨P1, d1, rfl, own1, hE1⟩
  have hB6 := hB6.ext hE1
  have hE01 := hE0.trans hE1
  have h2 := h2.ext hE01
  have h3 := h3.ext hE01
  have hlt6 := hB6.lt
  clear hE1 hm y0 hE0 h1
  have hE2 := Ext.new w1 (.cells #[.int .i64 (k : Int), .slice P1 64 d1, .slice none 0 0] 42)
  have hB8 := Blk.new w1 42 #[.int .i64 (k : Int), .slice P1 64 d1, .slice none 0 0]
  go_wp2_with fail
  go_loopw [8] (fun i wr => RSignL w.heap.size w1 S k d1 P1 i wr) (fun i _ => 4 - (intOf i).toNat)
  case atStart => exact ⟨0, 0, none, by omega, rfl, OBL.none_ _ _ _, hB8, hE2⟩
  case round =>
    clear hB8 hE2
    obtain ⟨h, dq, Q, hh, rfl, ownQ, hB8, hEr⟩ := hrel
    have hlt8 := hB8.lt
    by_cases hlt : h < 4
    · have hhi : (h : Int) < 4 := by omega
      obtain ⟨s1, s2, s3⟩ := step_lt hk hlt
      have hq16 : k / 2 ^ h < 16 := Nat.lt_of_le_of_lt (Nat.div_le_self _ _) hk
      have hpB : pathB S k h = lb (lev S h) (k / 2 ^ h + 1 - 2 * (k / 2 ^ h % 2)) := rfl
      have hsn := range_snoc (pathB S k) h
      rw [hpB] at hsn
      have Hsn := Lib.hid hsn
      obtain ⟨gP, dP, hcP, oP⟩ := h30.cell (j := h) (by omega)
      obtain ⟨g1, d9, hc1, o1⟩ := oP.cell (j := k / 2 ^ h + 1 - 2 * (k / 2 ^ h % 2)) s1
      have hgo1 : g1 < w.heap.size := (o1.lt rfl).2
      have hEwr := hE01.trans hEr
      replace hcP := hEwr.cell hcP
      replace hc1 := hEwr.cell hc1
      replace o1 := o1.ext hEwr
      clear hEwr
      have r1 := o1.rb
      obtain ⟨Y, hY⟩ : ∃ Y, Y = lb (lev S h) (k / 2 ^ h + 1 - 2 * (k / 2 ^ h % 2)) := ⟨_, rfl⟩
      rw [← hY] at r1 o1 Hsn
      obtain ⟨q, hq⟩ : ∃ q, q = k / 2 ^ h := ⟨_, rfl⟩
      rw [← hq] at hc1 s1 hq16
      have Hq := Lib.hid hq
      obtain ⟨N, hN⟩ : ∃ N, N = 16 / 2 ^ h := ⟨_, rfl⟩
      rw [← hN] at hcP s1
      clear hY hsn hpB s2 s3 hq hN oP
      have y1 : wr.cell? ⟨w1.heap.size, 2, none⟩ = some (.slice Q h dq) := hB8.cell (i := 2) rfl
      have y2 : wr.cell? ⟨g, 1, none⟩ = some (.slice (some ⟨gl, 0, none⟩) 5 lc) := (h2.ext hEr).cell (i := 1) rfl
      go_upto_region 5 with (fail)
      refine par_ext (n := 17) (by kernel_rfl) [.is (.pointer (some ⟨w1.heap.size, 2, none⟩)), .is (.slice (Q) (h) (dq)), .is (.pointer (some ⟨g, 0, none⟩)), .is (.pointer (some ⟨g, 0, none⟩)), .is (.pointer (some ⟨g, 1, none⟩)), .is (.slice (some ⟨gl, 0, none⟩) (5) (lc)), .is (.int .i64 (((h : Nat) : Int))), .is (.pointer (some ((⟨gl, 0, none⟩ : Addr).add (h)))), .is (.slice (some ⟨gP, 0, none⟩) (N) (dP)), .is (.int .i64 (((k : Nat) : Int))), .is (.int .i64 (((h : Nat) : Int))), .is (.int .u64 ((h : Nat) : Int)), .is (.int .i64 (((q : Nat) : Int))), .is (.int .i64 (((q + 1 - 2 * (q % 2) : Nat) : Int))), .is (.pointer (some ((⟨gP, 0, none⟩ : Addr).add ((q + 1 - 2 * (q % 2)))))), .is (.slice (some ⟨g1, 0, none⟩) (32) (d9)), .one1 (.slice (some ⟨g1, 0, none⟩) (32) (d9))] rfl ⟨?_, ?_, ?_, ?_, ?_, ?_, ?_, ?_, ?_, ?_, ?_, ?_, ?_, ?_, ?_, ?_, ?_, trivial⟩ ?_
      · refine stepE rfl fun sdn sa sw sE sd sk => ?_
        have h7 : sa.eval (.tmp 7) = .pointer (some ⟨w1.heap.size, 0, none⟩) := sk.old 7 rfl
        refine Runs.of_run (r := .pointer (some ⟨w1.heap.size, 2, none⟩)) (w' := sw) ?_ ⟨Ext.refl _, rfl⟩
        unfold execOp
        simp only [h7]
        go_simp
      · refine stepE rfl fun sdn sa sw sE sd sk => ?_
        have h22 : sa.eval (.tmp 22) = .pointer (some ⟨w1.heap.size, 2, none⟩) := sk.fact 0 22 rfl (sd 0 rfl)
        exact Runs.load rfl h22 (run_load1 Try.underlying23 rfl (sE.cell y1)) ⟨Ext.refl _, rfl⟩
      · refine stepE rfl fun sdn sa sw sE sd sk => ?_
        have h0 : sa.eval (.tmp 0) = .pointer (some ⟨g, 0, none⟩) := sk.old 0 rfl
        exact Runs.move rfl h0 ⟨Ext.refl _, rfl⟩
      · refine stepE rfl fun sdn sa sw sE sd sk => ?_
        have h24 : sa.eval (.tmp 24) = .pointer (some ⟨g, 0, none⟩) := sk.fact 2 24 rfl (sd 2 rfl)
        exact Runs.nil_ rfl h24 ⟨Ext.refl _, rfl⟩
      · refine stepE rfl fun sdn sa sw sE sd sk => ?_
        have h25 : sa.eval (.tmp 25) = .pointer (some ⟨g, 0, none⟩) := sk.fact 3 25 rfl (sd 3 rfl)
        refine Runs.of_run (r := .pointer (some ⟨g, 1, none⟩)) (w' := sw) ?_ ⟨Ext.refl _, rfl⟩
        unfold execOp
        simp only [h25]
        go_simp
      · refine stepE rfl fun sdn sa sw sE sd sk => ?_
        have h26 : sa.eval (.tmp 26) = .pointer (some ⟨g, 1, none⟩) := sk.fact 4 26 rfl (sd 4 rfl)
        exact Runs.load rfl h26 (run_load1 Try.underlying33 rfl (sE.cell y2)) ⟨Ext.refl _, rfl⟩
      · refine stepE rfl fun sdn sa sw sE sd sk => ?_
        have h8 : sa.eval (.tmp 8) = .int .i64 (((h : Nat) : Int)) := sk.old 8 rfl
        exact Runs.move rfl h8 ⟨Ext.refl _, rfl⟩
      · refine stepE rfl fun sdn sa sw sE sd sk => ?_
        have h27 : sa.eval (.tmp 27) = .slice (some ⟨gl, 0, none⟩) (5) (lc) := sk.fact 5 27 rfl (sd 5 rfl)
        have h28 : sa.eval (.tmp 28) = .int .i64 (((h : Nat) : Int)) := sk.fact 6 28 rfl (sd 6 rfl)
        exact Runs.idx rfl h27 h28 (run_idx_sl1 Try.underlying33 infYY_eq infYY_size (h) (by omega) (by omega)) ⟨Ext.refl _, rfl⟩
      · refine stepE rfl fun sdn sa sw sE sd sk => ?_
        have h29 : sa.eval (.tmp 29) = .pointer (some ((⟨gl, 0, none⟩ : Addr).add (h))) := sk.fact 7 29 rfl (sd 7 rfl)
        exact Runs.load rfl h29 (run_load1 Try.underlying23 rfl (sE.cell hcP)) ⟨Ext.refl _, rfl⟩
      · refine stepE rfl fun sdn sa sw sE sd sk => ?_
        have h1 : sa.eval (.tmp 1) = .int .i64 (((k : Nat) : Int)) := sk.old 1 rfl
        exact Runs.move rfl h1 ⟨Ext.refl _, rfl⟩
      · refine stepE rfl fun sdn sa sw sE sd sk => ?_
        have h8 : sa.eval (.tmp 8) = .int .i64 (((h : Nat) : Int)) := sk.old 8 rfl
        exact Runs.move rfl h8 ⟨Ext.refl _, rfl⟩
      · refine stepE rfl fun sdn sa sw sE sd sk => ?_
        have h32 : sa.eval (.tmp 32) = .int .i64 (((h : Nat) : Int)) := sk.fact 10 32 rfl (sd 10 rfl)
        exact Runs.conv rfl h32 (conv_i64_u64 Try.underlying3 Try.underlying91 _ h rfl (by omega)) ⟨Ext.refl _, rfl⟩
      · refine stepE rfl fun sdn sa sw sE sd sk => ?_
        have h31 : sa.eval (.tmp 31) = .int .i64 (((k : Nat) : Int)) := sk.fact 9 31 rfl (sd 9 rfl)
        have h33 : sa.eval (.tmp 33) = .int .u64 ((h : Nat) : Int) := sk.fact 11 33 rfl (sd 11 rfl)
        exact Runs.bin rfl h31 h33 (eqGuard_bin rfl) (bin_shrI _ k h (by omega)) ⟨Ext.refl _, congrArg (fun z : Nat => Value.int .i64 (z : Int)) Hq.out.symm⟩
      · refine stepE rfl fun sdn sa sw sE sd sk => ?_
        have h34 : sa.eval (.tmp 34) = .int .i64 (((q : Nat) : Int)) := sk.fact 12 34 rfl (sd 12 rfl)
        exact Runs.bin rfl h34 rfl (eqGuard_bin rfl) (bin_xor1 _ q hq16) ⟨Ext.refl _, rfl⟩
      · refine stepE rfl fun sdn sa sw sE sd sk => ?_
        have h30 : sa.eval (.tmp 30) = .slice (some ⟨gP, 0, none⟩) (N) (dP) := sk.fact 8 30 rfl (sd 8 rfl)
        have h35 : sa.eval (.tmp 35) = .int .i64 (((q + 1 - 2 * (q % 2) : Nat) : Int)) := sk.fact 13 35 rfl (sd 13 rfl)
        exact Runs.idx rfl h30 h35 (run_idx_sl1 Try.underlying23 infZZ_eq infZZ_size ((q + 1 - 2 * (q % 2))) (by omega) (by omega)) ⟨Ext.refl _, rfl⟩
      · refine stepE rfl fun sdn sa sw sE sd sk => ?_
        have h36 : sa.eval (.tmp 36) = .pointer (some ((⟨gP, 0, none⟩ : Addr).add ((q + 1 - 2 * (q % 2))))) := sk.fact 14 36 rfl (sd 14 rfl)
        exact Runs.load rfl h36 (run_load1 Try.underlying22 rfl (sE.cell hc1)) ⟨Ext.refl _, rfl⟩
      · refine stepE rfl fun sdn sa sw sE sd sk => ?_
        have h37 : sa.eval (.tmp 37) = .slice (some ⟨g1, 0, none⟩) (32) (d9) := sk.fact 15 37 rfl (sd 15 rfl)
        exact Runs.one1 rfl h37 (fun w1 e1 b1 => ⟨e1, _, rfl, b1⟩)
      intro vals W1 hE hv
      have e0 : vals 0 = .pointer (some ⟨w1.heap.size, 2, none⟩) := hv 0 (by omega) 22 rfl
      have e1 : vals 1 = .slice (Q) (h) (dq) := hv 1 (by omega) 23 rfl
      have e2 : vals 2 = .pointer (some ⟨g, 0, none⟩) := hv 2 (by omega) 24 rfl
      have e3 : vals 3 = .pointer (some ⟨g, 0, none⟩) := hv 3 (by omega) 25 rfl
      have e4 : vals 4 = .pointer (some ⟨g, 1, none⟩) := hv 4 (by omega) 26 rfl
      have e5 : vals 5 = .slice (some ⟨gl, 0, none⟩) (5) (lc) := hv 5 (by omega) 27 rfl
      have e6 : vals 6 = .int .i64 (((h : Nat) : Int)) := hv 6 (by omega) 28 rfl
      have e7 : vals 7 = .pointer (some ((⟨gl, 0, none⟩ : Addr).add (h))) := hv 7 (by omega) 29 rfl
      have e8 : vals 8 = .slice (some ⟨gP, 0, none⟩) (N) (dP) := hv 8 (by omega) 30 rfl
      have e9 : vals 9 = .int .i64 (((k : Nat) : Int)) := hv 9 (by omega) 31 rfl
      have e10 : vals 10 = .int .i64 (((h : Nat) : Int)) := hv 10 (by omega) 32 rfl
      have e11 : vals 11 = .int .u64 ((h : Nat) : Int) := hv 11 (by omega) 33 rfl
      have e12 : vals 12 = .int .i64 (((q : Nat) : Int)) := hv 12 (by omega) 34 rfl
      have e13 : vals 13 = .int .i64 (((q + 1 - 2 * (q % 2) : Nat) : Int)) := hv 13 (by omega) 35 rfl
      have e14 : vals 14 = .pointer (some ((⟨gP, 0, none⟩ : Addr).add ((q + 1 - 2 * (q % 2))))) := hv 14 (by omega) 36 rfl
      have e15 : vals 15 = .slice (some ⟨g1, 0, none⟩) (32) (d9) := hv 15 (by omega) 37 rfl
      obtain ⟨x38, e16, hc38⟩ := hv 16 (by omega) 38 rfl
      simp only [putAll, Act.put, List.take_succ_cons, List.take_zero, List.drop_succ_cons, List.drop_zero, List.drop_nil, List.take_nil, Nat.reduceAdd, List.setIfInBounds_toArray, List.set_cons_succ, List.set_cons_zero, e0, e1, e2, e3, e4, e5, e6, e7, e8, e9, e10, e11, e12, e13, e14, e15, e16]
      clear hv e0 e1 e2 e3 e4 e5 e6 e7 e8 e9 e10 e11 e12 e13 e14 e15 e16
      have ownQ1 := ownQ.ext hE
      have hB81 := hB8.ext hE
      have hEw := hEr.trans hE
      have hne : 0 < 32 → blk (some ⟨g1, 0, none⟩) ≠ blk Q := by
        intro _ e
        obtain ⟨vs, r1', _⟩ := ownQ
        obtain ⟨cs, hcs⟩ := row_type o1 (k := g1) (by rw [ownBlock_slice]; rfl)
        exact row_ne r1' hcs (by decide) (by rw [ownBlock_slice]; exact e.symm)
      have hne8 : some w1.heap.size ≠ blk Q := by
        intro e
        obtain ⟨vs, r1', _⟩ := ownQ
        exact row_ne r1' hB8 (by decide) (by rw [ownBlock_slice]; exact e.symm)
      go_wp2_with (refine appbl_law (base := w1.heap.size) (b := w.heap.size) (Y := Y) rfl rfl rfl rfl hc38 ownQ1 (r1.ext hE) (fun h0 => ⟨hne h0, fun k' hk' => by cases hk'; exact hgo1⟩) hEw.size (by omega) ?_; intro Q5 d5 w5 ownQ5 g5; have hB85 := hB81.grown g5 hne8; have y5 := hB85.cell (i := 2) (v := .slice Q h dq) rfl; have y6 := hB85.frozen 2)
      have gs := grown_set w5 ⟨w1.heap.size, 2, none⟩ (.slice Q5 (h + 1) d5)
      have ownQ6 := ownQ5.far hB85 (by decide) (sig_no _ _ _ _ _ _ _) gs
      have hB86 := hB85.set 2 (.slice Q5 (h + 1) d5)
      have hE6 := (hEw.then_grown g5 (fun b hb => (ownQ1.lt hb).1)).set (p := ⟨w1.heap.size, 2, none⟩) (Nat.le_refl _) (.slice Q5 (h + 1) d5)
      clear hB81 hEw ownQ1 ownQ5 g5 hB85 y5 y6 gs y1 y2 hcP hc1 o1 r1
      go_roundw
      case rel => exact ⟨h + 1, d5, Q5, by omega, by go_num, by rw [Hsn.out]; exact ownQ6, hB86, hE6⟩
      case measure => simp [intOf]; omega
    · obtain rfl : h = 4 := by omega
      have z0 : wr.cell? ⟨w1.heap.size, 0, none⟩ = some (.int .i64 (k : Int)) := hB8.cell (i := 0) rfl
      have z1 : wr.cell? ⟨w1.heap.size, 1, none⟩ = some (.slice P1 64 d1) := hB8.cell (i := 1) rfl
      have z2 : wr.cell? ⟨w1.heap.size, 2, none⟩ = some (.slice Q 4 dq) := hB8.cell (i := 2) rfl
      have hB6r := hB6.ext hEr
      have f0 := hB6r.frozen 0
      have f1 := hB6r.frozen 1
      have f2 := hB6r.frozen 2
      have x0 := hB6r.cell (i := 0) rfl
      have x1 := hB6r.cell (i := 1) rfl
      have x2 := hB6r.cell (i := 2) rfl
      go_wp2_with fail
      have g1 := fun (w' : World) (u : Value) (i : Nat) => grown_set w' ⟨w.heap.size, i, none⟩ u
      have b1 := hB6r.set 0 (.int .i64 (k : Int))
      have b2 := b1.set 1 (.slice P1 64 d1)
      have b3 := b2.set 2 (.slice Q 4 dq)
      have oP := own1.ext hEr
      have oP3 := ((oP.far hB6r (by decide) (sig_no _ _ _ _ _ _ _) (g1 _ (.int .i64 (k : Int)) 0)).far b1 (by decide) (sig_no _ _ _ _ _ _ _) (g1 _ (.slice P1 64 d1) 1)).far b2 (by decide) (sig_no _ _ _ _ _ _ _) (g1 _ (.slice Q 4 dq) 2)
      have oQ3 := ((ownQ.far hB6r (by decide) (sig_no _ _ _ _ _ _ _) (g1 _ (.int .i64 (k : Int)) 0)).far b1 (by decide) (sig_no _ _ _ _ _ _ _) (g1 _ (.slice P1 64 d1) 1)).far b2 (by decide) (sig_no _ _ _ _ _ _ _) (g1 _ (.slice Q 4 dq) 2)
      have hEf := (((hE01.trans hEr).set (p := ⟨w.heap.size, 0, none⟩) (Nat.le_refl _) (.int .i64 (k : Int))).set (p := ⟨w.heap.size, 1, none⟩) (Nat.le_refl _) (.slice P1 64 d1)).set (p := ⟨w.heap.size, 2, none⟩) (Nat.le_refl _) (.slice Q 4 dq)
      clear oP ownQ hEr hB8 hB6 hB6r z0 z1 z2 x0 x1 x2 f0 f1 f2
      refine bodyPost_ret (results_cell_row rfl _ _ w.heap.size _ _ _ _ rfl b3 Try.underlying42 rfl rfl) rfl ?_
      exact ⟨P1, d1, Q, dq, rfl, oP3.base (by rw [World.size_alloc]; omega), ⟨w1.heap.size, fun x hx => (own1.lt hx).2, hE01.size, oQ3⟩, hEf⟩
end Go.Proofs.Ytkndgpjamijbbaa

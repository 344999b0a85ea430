/-
  book.Same of alarms, walked; two monitors in memory. A region that draws its order and stores a call's value into a block of the call's own, in whatever order beside the rest. Plain theorems.
-/
import Derived.Test.YtkndgpjamijbbaaGreatLawNumbers22Q33
import Derived.Test.YtkndgpjamijbbaaGreatLawNumbers22Q27
namespace Go.Proofs.YtkndgpjamijbbaaGreat
set_option maxRecDepth 100000
open Go Go.RowKit
theorem signed22_q (q : Nat) (g b : Nat) (S : List UInt8) (A : Option Addr) (n c : Nat) (Ls : List (List UInt8)) (hq : q = n % 16) (w : World) (o1 : OwnR w b g S) (rA : RBB w A n c Ls) (hn : n ≤ 256) (hb : ∀ a ∈ Ls, a.length ≤ 1000000) :
    Calls Tryz.prog 14 #[.pointer (some ⟨g, 0, none⟩), .slice A n c] w fun e w' => ∃ B d P d1 Q d2, e = .returned (.agg #[.int .i64 (n : Int), .slice B 32 d, .int .i64 (q : Int), .slice P 64 d1, .slice Q 4 d2]) ∧ Sgd w' w.heap.size S (rootL (Ls.map leafH)) n q B d P d1 Q d2 ∧ Ext w w' := by
  subst hq
  exact signed22_any g b S A n c Ls w o1 rA hn hb
/-- a slice of alarms reads as al -/
structure RAl (w : World) (A : Option Addr) (n c : Nat) (al : List (Int × Int)) : Prop where
  len : al.length = n
  room : n ≤ c
  cap : c ≤ maxLen
  cells : 0 < n → ∃ ad, A = some ad ∧ ∀ j, j < n → w.cell? (ad.add (j * 2)) = some (.int .i64 (al.getD j (0, 0)).1) ∧ w.cell? ((ad.add (j * 2)).add 1) = some (.int .i64 (al.getD j (0, 0)).2)
theorem RAl.ext {w w' : World} {A : Option Addr} {n c : Nat} {al : List (Int × Int)} (h : RAl w A n c al) (e : Ext w w') : RAl w' A n c al :=
  ⟨h.len, h.room, h.cap, fun hn => by
    obtain ⟨ad, h1, h2⟩ := h.cells hn
    exact ⟨ad, h1, fun j hj => ⟨e.cell (h2 j hj).1, e.cell (h2 j hj).2⟩⟩⟩
theorem alC_at : ∀ (al : List (Int × Int)) (j : Nat), j < al.length → (alC al)[j * 2]? = some (.int .i64 (al.getD j (0, 0)).1) ∧ (alC al)[j * 2 + 1]? = some (.int .i64 (al.getD j (0, 0)).2)
  | [], j, h => absurd h (Nat.not_lt_zero _)
  | a :: r, 0, _ => ⟨rfl, rfl⟩
  | a :: r, j + 1, h => by
    have h1 := alC_at r j (Nat.lt_of_succ_lt_succ h)
    have e : alC (a :: r) = .int .i64 a.1 :: .int .i64 a.2 :: alC r := rfl
    rw [e, show (j + 1) * 2 = j * 2 + 1 + 1 by omega]
    simpa using h1
theorem OwP.ral {w : World} {base n c : Nat} {A : Option Addr} {al : List (Int × Int)} (h : OwP isI1 54 2 w base A n c (alC al)) : RAl w A n c al := by
  have hl : al.length = n := by have h1 := h.1; rw [alC_len] at h1; omega
  refine ⟨hl, h.room.1, h.room.2, fun hn => ?_⟩
  obtain ⟨g, rfl, hc⟩ := h.at_ hn (by decide)
  refine ⟨⟨g, 0, none⟩, rfl, fun j hj => ?_⟩
  have h2 := alC_at al j (by omega)
  rw [add_plain]
  exact ⟨hc _ _ h2.1, hc _ _ h2.2⟩
theorem run_idx_sl2 {P : Program} {w : World} {t e : TypeId} {i0 : TypeInfo} (ht : P.underlying t = some (.slice e)) (hi : P.info? e = some i0) (hs : i0.size = 2) {ad : Addr} {n c : Nat} {k : IntKind} {i : Int} (j : Nat) (hj : i = (j : Int)) (h1 : j < n) :
    (Instr.indexAt t (.slice (some ad) n c) (.int k i)).run P w = .ok (.pointer (some (ad.add (j * 2)))) w := by
  subst hj
  have := run_idx_sl (P := P) (w := w) ht hi hs (ad := ad) (n := n) (c := c) (k := k) (i := (j : Int)) (by omega) (by omega)
  simpa using this
noncomputable def infAl : TypeInfo := (Tryz.prog.info? 54).getD default
theorem infAl_eq : Tryz.prog.info? 54 = some infAl := by kernel_rfl
theorem infAl_size : infAl.size = 2 := by kernel_rfl
theorem load_al {w : World} {p : Addr} {v0 v1 : Value} (h0 : w.cell? p = some v0) (h1 : w.cell? (p.add 1) = some v1) :
    (Instr.loadAt 54 (.pointer (some p))).run Tryz.prog w = .ok (.agg #[v0, v1]) w := by
  have e1 : w.cell? ⟨p.block, p.off + 1, none⟩ = some v1 := h1
  go_simp
theorem bin_neal (w : World) (x y : Int × Int) : (binOp .neq 54 (.agg #[.int .i64 x.1, .int .i64 x.2]) (.agg #[.int .i64 y.1, .int .i64 y.2])).run Tryz.prog w = .ok (.bool (decide (x ≠ y))) w := by
  obtain ⟨a, b⟩ := x
  obtain ⟨c, d⟩ := y
  by_cases h : a = c
  · subst h
    by_cases k : b = d
    · subst k
      go_simp
    · have k' : (decide ((a, b) ≠ (a, d))) = true := decide_eq_true (fun e => k (by injection e))
      rw [k']
      go_simp
  · have k' : (decide ((a, b) ≠ (c, d))) = true := decide_eq_true (fun e => h (by injection e))
    rw [k']
    go_simp
def SaiA (w : World) (xs ys : List (Int × Int)) (i : Value) (wr : World) : Prop := ∃ k : Nat, k ≤ xs.length ∧ i = .int .i64 k ∧ xs.take k = ys.take k ∧ Ext w wr
theorem takes_a (Ls : List (Int × Int)) {k : Nat} (h : k < Ls.length) : Ls.take (k + 1) = Ls.take k ++ [Ls.getD k (0, 0)] := by
  rw [List.take_succ_eq_append_getElem h]
  simp [h]
set_option maxHeartbeats 4000000 in
theorem samea_any (A B : Option Addr) (n c m d : Nat) (xs ys : List (Int × Int)) (w : World) (rA0 : RAl w A n c xs) (rB0 : RAl w B m d ys) :
    Calls Tryz.prog 26 #[.slice A n c, .slice B m d] w fun e w' => e = .returned (.bool (decide (xs = ys))) ∧ Ext w w' := by
  have hcap := rA0.cap
  have hroom := rA0.room
  have hcapB := rB0.cap
  have hroomB := rB0.room
  unfold maxLen at hcap hcapB
  have hl := rA0.len
  have hlB := rB0.len
  have Hl := Lib.hid hl
  have HlB := Lib.hid hlB
  clear hl hlB
  go_enter Tryz.func26, Tryz.ntmps26
  by_cases hnm : n = m
  · subst hnm
    go_wp2_with fail
    go_loopw [5] (fun i wr => SaiA w xs ys i wr) (fun i _ => n - (intOf i).toNat)
    case atStart => exact ⟨0, by omega, rfl, rfl, Ext.refl _⟩
    case round =>
      obtain ⟨k, hk, rfl, hall, hEr⟩ := hrel
      rw [Hl.out] at hk
      have Hall := Lib.hid hall
      clear hall
      by_cases hlt : k < n
      · have hki : (k : Int) < (n : Int) := by omega
        obtain ⟨ad, rfl, hc⟩ := rA0.cells (by omega)
        have hcell := hEr.cell (hc k hlt).1
        have hcelb := hEr.cell (hc k hlt).2
        obtain ⟨bd, rfl, hc2⟩ := rB0.cells (by omega)
        have hcell2 := hEr.cell (hc2 k hlt).1
        have hcelb2 := hEr.cell (hc2 k hlt).2
        clear hc hc2
        go_upto_region 6 with (fail)
        by_cases h32 : xs.getD k (0, 0) = ys.getD k (0, 0)
        · have H32 := Lib.hid h32
          replace h32 : decide (xs.getD k (0, 0) ≠ ys.getD k (0, 0)) = false := decide_eq_false (fun h => h h32)
          refine par_ext (n := 9) (by kernel_rfl) [.is (.slice ((some ad)) (n) (c)), .is (.int .i64 (((k : Nat) : Int))), .is (.pointer (some (ad.add (k * 2)))), .is (.agg #[.int .i64 ((xs.getD k (0, 0)).1), .int .i64 ((xs.getD k (0, 0)).2)]), .is (.slice ((some bd)) (n) (d)), .is (.int .i64 (((k : Nat) : Int))), .is (.pointer (some (bd.add (k * 2)))), .is (.agg #[.int .i64 ((ys.getD k (0, 0)).1), .int .i64 ((ys.getD k (0, 0)).2)]), .is (.bool (false))] rfl ⟨?_, ?_, ?_, ?_, ?_, ?_, ?_, ?_, ?_, trivial⟩ ?_
          · refine stepE rfl fun sdn sa sw sE sd sk => ?_
            have h0 : sa.eval (.tmp 0) = .slice ((some ad)) (n) (c) := sk.old 0 rfl
            exact Runs.move rfl h0 ⟨Ext.refl _, rfl⟩
          · refine stepE rfl fun sdn sa sw sE sd sk => ?_
            have h5 : sa.eval (.tmp 5) = .int .i64 (((k : Nat) : Int)) := sk.old 5 rfl
            exact Runs.move rfl h5 ⟨Ext.refl _, rfl⟩
          · refine stepE rfl fun sdn sa sw sE sd sk => ?_
            have h17 : sa.eval (.tmp 17) = .slice ((some ad)) (n) (c) := sk.fact 0 17 rfl (sd 0 rfl)
            have h18 : sa.eval (.tmp 18) = .int .i64 (((k : Nat) : Int)) := sk.fact 1 18 rfl (sd 1 rfl)
            exact Runs.idx rfl h17 h18 (run_idx_sl2 Tryz.underlying34 infAl_eq infAl_size (k) (by omega) (by omega)) ⟨Ext.refl _, rfl⟩
          · refine stepE rfl fun sdn sa sw sE sd sk => ?_
            have h19 : sa.eval (.tmp 19) = .pointer (some (ad.add (k * 2))) := sk.fact 2 19 rfl (sd 2 rfl)
            exact Runs.load rfl h19 (load_al (sE.cell hcell) (sE.cell hcelb)) ⟨Ext.refl _, rfl⟩
          · refine stepE rfl fun sdn sa sw sE sd sk => ?_
            have h1 : sa.eval (.tmp 1) = .slice ((some bd)) (n) (d) := sk.old 1 rfl
            exact Runs.move rfl h1 ⟨Ext.refl _, rfl⟩
          · refine stepE rfl fun sdn sa sw sE sd sk => ?_
            have h5 : sa.eval (.tmp 5) = .int .i64 (((k : Nat) : Int)) := sk.old 5 rfl
            exact Runs.move rfl h5 ⟨Ext.refl _, rfl⟩
          · refine stepE rfl fun sdn sa sw sE sd sk => ?_
            have h21 : sa.eval (.tmp 21) = .slice ((some bd)) (n) (d) := sk.fact 4 21 rfl (sd 4 rfl)
            have h22 : sa.eval (.tmp 22) = .int .i64 (((k : Nat) : Int)) := sk.fact 5 22 rfl (sd 5 rfl)
            exact Runs.idx rfl h21 h22 (run_idx_sl2 Tryz.underlying34 infAl_eq infAl_size (k) (by omega) (by omega)) ⟨Ext.refl _, rfl⟩
          · refine stepE rfl fun sdn sa sw sE sd sk => ?_
            have h23 : sa.eval (.tmp 23) = .pointer (some (bd.add (k * 2))) := sk.fact 6 23 rfl (sd 6 rfl)
            exact Runs.load rfl h23 (load_al (sE.cell hcell2) (sE.cell hcelb2)) ⟨Ext.refl _, rfl⟩
          · refine stepE rfl fun sdn sa sw sE sd sk => ?_
            have h20 : sa.eval (.tmp 20) = .agg #[.int .i64 ((xs.getD k (0, 0)).1), .int .i64 ((xs.getD k (0, 0)).2)] := sk.fact 3 20 rfl (sd 3 rfl)
            have h24 : sa.eval (.tmp 24) = .agg #[.int .i64 ((ys.getD k (0, 0)).1), .int .i64 ((ys.getD k (0, 0)).2)] := sk.fact 7 24 rfl (sd 7 rfl)
            exact Runs.bin rfl h20 h24 (by first | rfl | go_simp | (unfold eqGuard; go_simp)) (bin_neal _ _ _) ⟨Ext.refl _, congrArg Value.bool (h32)⟩
          intro vals W6 hE6 hv6
          have e0 : vals 0 = .slice ((some ad)) (n) (c) := hv6 0 (by omega) 17 rfl
          have e1 : vals 1 = .int .i64 (((k : Nat) : Int)) := hv6 1 (by omega) 18 rfl
          have e2 : vals 2 = .pointer (some (ad.add (k * 2))) := hv6 2 (by omega) 19 rfl
          have e3 : vals 3 = .agg #[.int .i64 ((xs.getD k (0, 0)).1), .int .i64 ((xs.getD k (0, 0)).2)] := hv6 3 (by omega) 20 rfl
          have e4 : vals 4 = .slice ((some bd)) (n) (d) := hv6 4 (by omega) 21 rfl
          have e5 : vals 5 = .int .i64 (((k : Nat) : Int)) := hv6 5 (by omega) 22 rfl
          have e6 : vals 6 = .pointer (some (bd.add (k * 2))) := hv6 6 (by omega) 23 rfl
          have e7 : vals 7 = .agg #[.int .i64 ((ys.getD k (0, 0)).1), .int .i64 ((ys.getD k (0, 0)).2)] := hv6 7 (by omega) 24 rfl
          have e8 : vals 8 = .bool (false) := hv6 8 (by omega) 25 rfl
          simp only [putAll, Act.put, List.take_succ_cons, List.take_zero, List.drop_succ_cons, List.drop_zero, List.drop_nil, List.take_nil, Nat.reduceAdd, List.setIfInBounds_toArray, List.set_cons_succ, List.set_cons_zero, e0, e1, e2, e3, e4, e5, e6, e7, e8]
          clear hv6 e0 e1 e2 e3 e4 e5 e6 e7 e8
          clear h32
          go_wp2_with fail
          go_roundw
          case rel =>
            refine ⟨k + 1, by rw [Hl.out]; omega, by go_num, ?_, hEr.trans hE6⟩
            rw [takes_a xs (by rw [Hl.out]; omega), takes_a ys (by rw [HlB.out]; omega), Hall.out, H32.out]
          case measure => simp [intOf]; omega
        · have hno : ¬ xs = ys := fun e => h32 (by rw [e])
          have Hno := Lib.hid hno
          replace h32 : decide (xs.getD k (0, 0) ≠ ys.getD k (0, 0)) = true := decide_eq_true h32
          clear hno
          refine par_ext (n := 9) (by kernel_rfl) [.is (.slice ((some ad)) (n) (c)), .is (.int .i64 (((k : Nat) : Int))), .is (.pointer (some (ad.add (k * 2)))), .is (.agg #[.int .i64 ((xs.getD k (0, 0)).1), .int .i64 ((xs.getD k (0, 0)).2)]), .is (.slice ((some bd)) (n) (d)), .is (.int .i64 (((k : Nat) : Int))), .is (.pointer (some (bd.add (k * 2)))), .is (.agg #[.int .i64 ((ys.getD k (0, 0)).1), .int .i64 ((ys.getD k (0, 0)).2)]), .is (.bool (true))] rfl ⟨?_, ?_, ?_, ?_, ?_, ?_, ?_, ?_, ?_, trivial⟩ ?_
          · refine stepE rfl fun sdn sa sw sE sd sk => ?_
            have h0 : sa.eval (.tmp 0) = .slice ((some ad)) (n) (c) := sk.old 0 rfl
            exact Runs.move rfl h0 ⟨Ext.refl _, rfl⟩
          · refine stepE rfl fun sdn sa sw sE sd sk => ?_
            have h5 : sa.eval (.tmp 5) = .int .i64 (((k : Nat) : Int)) := sk.old 5 rfl
            exact Runs.move rfl h5 ⟨Ext.refl _, rfl⟩
          · refine stepE rfl fun sdn sa sw sE sd sk => ?_
            have h17 : sa.eval (.tmp 17) = .slice ((some ad)) (n) (c) := sk.fact 0 17 rfl (sd 0 rfl)
            have h18 : sa.eval (.tmp 18) = .int .i64 (((k : Nat) : Int)) := sk.fact 1 18 rfl (sd 1 rfl)
            exact Runs.idx rfl h17 h18 (run_idx_sl2 Tryz.underlying34 infAl_eq infAl_size (k) (by omega) (by omega)) ⟨Ext.refl _, rfl⟩
          · refine stepE rfl fun sdn sa sw sE sd sk => ?_
            have h19 : sa.eval (.tmp 19) = .pointer (some (ad.add (k * 2))) := sk.fact 2 19 rfl (sd 2 rfl)
            exact Runs.load rfl h19 (load_al (sE.cell hcell) (sE.cell hcelb)) ⟨Ext.refl _, rfl⟩
          · refine stepE rfl fun sdn sa sw sE sd sk => ?_
            have h1 : sa.eval (.tmp 1) = .slice ((some bd)) (n) (d) := sk.old 1 rfl
            exact Runs.move rfl h1 ⟨Ext.refl _, rfl⟩
          · refine stepE rfl fun sdn sa sw sE sd sk => ?_
            have h5 : sa.eval (.tmp 5) = .int .i64 (((k : Nat) : Int)) := sk.old 5 rfl
            exact Runs.move rfl h5 ⟨Ext.refl _, rfl⟩
          · refine stepE rfl fun sdn sa sw sE sd sk => ?_
            have h21 : sa.eval (.tmp 21) = .slice ((some bd)) (n) (d) := sk.fact 4 21 rfl (sd 4 rfl)
            have h22 : sa.eval (.tmp 22) = .int .i64 (((k : Nat) : Int)) := sk.fact 5 22 rfl (sd 5 rfl)
            exact Runs.idx rfl h21 h22 (run_idx_sl2 Tryz.underlying34 infAl_eq infAl_size (k) (by omega) (by omega)) ⟨Ext.refl _, rfl⟩
          · refine stepE rfl fun sdn sa sw sE sd sk => ?_
            have h23 : sa.eval (.tmp 23) = .pointer (some (bd.add (k * 2))) := sk.fact 6 23 rfl (sd 6 rfl)
            exact Runs.load rfl h23 (load_al (sE.cell hcell2) (sE.cell hcelb2)) ⟨Ext.refl _, rfl⟩
          · refine stepE rfl fun sdn sa sw sE sd sk => ?_
            have h20 : sa.eval (.tmp 20) = .agg #[.int .i64 ((xs.getD k (0, 0)).1), .int .i64 ((xs.getD k (0, 0)).2)] := sk.fact 3 20 rfl (sd 3 rfl)
            have h24 : sa.eval (.tmp 24) = .agg #[.int .i64 ((ys.getD k (0, 0)).1), .int .i64 ((ys.getD k (0, 0)).2)] := sk.fact 7 24 rfl (sd 7 rfl)
            exact Runs.bin rfl h20 h24 (by first | rfl | go_simp | (unfold eqGuard; go_simp)) (bin_neal _ _ _) ⟨Ext.refl _, congrArg Value.bool (h32)⟩
          intro vals W6 hE6 hv6
          have e0 : vals 0 = .slice ((some ad)) (n) (c) := hv6 0 (by omega) 17 rfl
          have e1 : vals 1 = .int .i64 (((k : Nat) : Int)) := hv6 1 (by omega) 18 rfl
          have e2 : vals 2 = .pointer (some (ad.add (k * 2))) := hv6 2 (by omega) 19 rfl
          have e3 : vals 3 = .agg #[.int .i64 ((xs.getD k (0, 0)).1), .int .i64 ((xs.getD k (0, 0)).2)] := hv6 3 (by omega) 20 rfl
          have e4 : vals 4 = .slice ((some bd)) (n) (d) := hv6 4 (by omega) 21 rfl
          have e5 : vals 5 = .int .i64 (((k : Nat) : Int)) := hv6 5 (by omega) 22 rfl
          have e6 : vals 6 = .pointer (some (bd.add (k * 2))) := hv6 6 (by omega) 23 rfl
          have e7 : vals 7 = .agg #[.int .i64 ((ys.getD k (0, 0)).1), .int .i64 ((ys.getD k (0, 0)).2)] := hv6 7 (by omega) 24 rfl
          have e8 : vals 8 = .bool (true) := hv6 8 (by omega) 25 rfl
          simp only [putAll, Act.put, List.take_succ_cons, List.take_zero, List.drop_succ_cons, List.drop_zero, List.drop_nil, List.take_nil, Nat.reduceAdd, List.setIfInBounds_toArray, List.set_cons_succ, List.set_cons_zero, e0, e1, e2, e3, e4, e5, e6, e7, e8]
          clear hv6 e0 e1 e2 e3 e4 e5 e6 e7 e8
          clear h32
          go_wp2_with fail
          go_ret
          rw [decide_eq_false Hno.out]
          exact ⟨rfl, hEr.trans hE6⟩
      · obtain rfl : k = n := by omega
        have hyes : xs = ys := by
          have h := Hall.out
          rwa [List.take_of_length_le (by rw [Hl.out]; omega), List.take_of_length_le (by rw [HlB.out]; omega)] at h
        have Hy := Lib.hid hyes
        clear hyes
        go_wp2_with fail
        go_ret
        rw [decide_eq_true Hy.out]
        exact ⟨rfl, hEr⟩
  · have hnm2 : ¬ (n : Int) = (m : Int) := by omega
    have hno : ¬ xs = ys := fun e => hnm (by rw [← Hl.out, ← HlB.out, e])
    have Hno := Lib.hid hno
    clear hno
    go_wp2_with fail
    go_ret
    rw [decide_eq_false Hno.out]
    exact ⟨rfl, Ext.refl _⟩
/-- a monitor stays where other blocks are turned -/
theorem MonD.keepD {w : World} {base g : Nat} {φ ρ ψ : Nat → Prop} {s : MSt} (h : MonD w base φ ρ g s) (hs : NoB ψ w) (h1 : ∀ k, φ k → ¬ ψ k) (h2 : ∀ k, ρ k → ¬ ψ k) : Keep ψ (fun w => MonD w base φ ρ g s) w := by
  intro w' u
  obtain ⟨G, I, V, Al, R, P, Q, cg, ci, cv, ca, nr, cr, np, cp, nq, cq, vs, rfl, rfl, hA⟩ := h
  refine ⟨G, I, V, Al, R, P, Q, cg, ci, cv, ca, nr, cr, np, cp, nq, cq, vs, rfl, rfl, hA.ge, hA.blk.upd u (h1 g (.inl rfl)), hA.row.upd u (fun k hk => h1 k (.inr (.inl hk))), fun j hj => ?_, hA.als.upd u (fun k hk => h1 k (.inr (.inr hk))), (hA.rG.keepS hs).at_ u, (hA.rV.keepS hs (fun hn k hk => h2 k (.inl ⟨hn, hk⟩))).at_ u, hA.nV, (hA.rR.keepS hs).at_ u, (hA.rP.keepS hs (fun hn k hk => h2 k (.inr (.inl ⟨hn, hk⟩)))).at_ u, hA.nP, (hA.rQ.keepS hs (fun hn k hk => h2 k (.inr (.inr ⟨hn, hk⟩)))).at_ u, hA.nQ⟩
  obtain ⟨B, m, d, h5, h6⟩ := hA.el j hj
  exact ⟨B, m, d, h5, (h6.keepS hs).at_ u⟩
theorem MonD.rlt {w : World} {base g : Nat} {φ ρ : Nat → Prop} {s : MSt} (h : MonD w base φ ρ g s) {k : Nat} (hk : ρ k) : k < w.heap.size := by
  obtain ⟨G, I, V, Al, R, P, Q, cg, ci, cv, ca, nr, cr, np, cp, nq, cq, vs, rfl, rfl, hA⟩ := h
  rcases hk with ⟨hn, hk⟩ | ⟨hn, hk⟩ | ⟨hn, hk⟩
  · exact hA.rV.blk_lt hn hk
  · exact hA.rP.blk_lt hn hk
  · exact hA.rQ.blk_lt hn hk
theorem MonD.new_none {w : World} {base g k : Nat} {φ ρ : Nat → Prop} {L : List UInt8} (h : MonD w base φ ρ g (newM L)) (hk : ρ k) : False := by
  obtain ⟨G, I, V, Al, R, P, Q, cg, ci, cv, ca, nr, cr, np, cp, nq, cq, vs, rfl, rfl, hA⟩ := h
  have e1 : np = 0 := hA.rP.len.symm
  have e2 : nq = 0 := hA.rQ.len.symm
  rcases hk with ⟨hn, _⟩ | ⟨hn, _⟩ | ⟨hn, _⟩
  · exact absurd hn (Nat.lt_irrefl 0)
  · omega
  · omega
/-- two monitors, apart; U: the blocks that either turns -/
def TwoM (w : World) (base : Nat) (U : Nat → Prop) (ga : Nat) (sa : MSt) (gb : Nat) (sb : MSt) : Prop :=
  ∃ φa ρa φb ρb, U = (fun k => φa k ∨ φb k) ∧ MonD w base φa ρa ga sa ∧ MonD w base φb ρb gb sb ∧ (∀ k, φa k → ¬ φb k) ∧ (∀ k, ρa k → ¬ φb k) ∧ ∀ k, ρb k → ¬ φa k
section
variable {w w' : World} {base ga gb : Nat} {U : Nat → Prop} {sa sb : MSt}
theorem TwoM.symm (h : TwoM w base U ga sa gb sb) : TwoM w base U gb sb ga sa := by
  obtain ⟨φa, ρa, φb, ρb, rfl, h1, h2, h3, h4, h5⟩ := h
  exact ⟨φb, ρb, φa, ρa, funext fun k => propext Or.comm, h2, h1, fun k hb ha => h3 k ha hb, h5, h4⟩
theorem TwoM.ext (h : TwoM w base U ga sa gb sb) (e : Ext w w') : TwoM w' base U ga sa gb sb := by
  obtain ⟨φa, ρa, φb, ρb, h0, h1, h2, h3⟩ := h
  exact ⟨φa, ρa, φb, ρb, h0, h1.ext e, h2.ext e, h3⟩
theorem TwoM.nob (h : TwoM w base U ga sa gb sb) : NoB U w := by
  obtain ⟨φa, ρa, φb, ρb, rfl, h1, h2, h3⟩ := h
  exact fun k hk => hk.elim (fun h => h1.toR.nob k h) (fun h => h2.toR.nob k h)
theorem TwoM.lt (h : TwoM w base U ga sa gb sb) {k : Nat} (hk : U k) : base ≤ k ∧ k < w.heap.size := by
  obtain ⟨φa, ρa, φb, ρb, rfl, h1, h2, h3⟩ := h
  exact hk.elim (fun h => h1.toR.lt h) (fun h => h2.toR.lt h)
theorem TwoM.a (h : TwoM w base U ga sa gb sb) : ∃ φ, MonR w base φ ga sa := by
  obtain ⟨φa, ρa, φb, ρb, rfl, h1, h2, h3⟩ := h
  exact ⟨φa, h1.toR⟩
def TwoP (w : World) (base : Nat) (U : Nat → Prop) (ga : Nat) (sa : MSt) (gb : Nat) (sb : MSt) (v : Value) (e : Ending) (w' : World) : Prop :=
  e = .returned v ∧ ∃ U', TwoM w' base U' ga sa gb sb ∧ Upd U w w' ∧ ∀ k, k < w.heap.size → U' k → U k
theorem TwoP.symm {v : Value} {e : Ending} (h : TwoP w base U ga sa gb sb v e w') : TwoP w base U gb sb ga sa v e w' := by
  obtain ⟨h1, U', h2, h3⟩ := h
  exact ⟨h1, U', h2.symm, h3⟩
theorem TwoP.go {a : World} {sa0 sb0 : MSt} {v : Value} {e : Ending} (h : TwoP w base U ga sa gb sb v e w') (hM : TwoM w base U ga sa0 gb sb0) (hE : Ext a w) (hb : a.heap.size ≤ base) :
    ∃ U', e = .returned v ∧ TwoM w' base U' ga sa gb sb ∧ Upd U w w' ∧ (∀ k, k < w.heap.size → U' k → U k) ∧ Ext a w' := by
  obtain ⟨h1, U', h2, h3, h4⟩ := h
  exact ⟨U', h1, h2, h3, h4, Upd.ext hE h3 (fun k hk => Nat.le_trans hb (hM.lt hk).1)⟩
/-- one of two is turned -/
theorem TwoM.step {sa' : MSt} {φa ρa φb ρb φ' ρ' : Nat → Prop} (h1 : MonD w base φa ρa ga sa) (h2 : MonD w base φb ρb gb sb) (h3 : ∀ k, φa k → ¬ φb k) (h4 : ∀ k, ρa k → ¬ φb k) (h5 : ∀ k, ρb k → ¬ φa k)
    (k1 : MonD w' base φ' ρ' ga sa') (k2 : Upd φa w w') (k3 : ∀ k, k < w.heap.size → φ' k → φa k) (k4 : ∀ k, k < w.heap.size → ρ' k → ρa k) :
    TwoM w' base (fun k => φ' k ∨ φb k) ga sa' gb sb ∧ Upd (fun k => φa k ∨ φb k) w w' ∧ ∀ k, k < w.heap.size → (φ' k ∨ φb k) → φa k ∨ φb k := by
  refine ⟨⟨φ', ρ', φb, ρb, rfl, k1, (h2.keepD h1.toR.nob (fun k hb ha => h3 k ha hb) h5).at_ k2, fun k ha hb => h3 k (k3 k (h2.toR.lt hb).2 ha) hb, fun k ha hb => h4 k (k4 k (h2.toR.lt hb).2 ha) hb, fun k hb ha => h5 k hb (k3 k (h2.rlt hb) ha)⟩, k2.mono (fun k _ h => .inl h), fun k hk h => h.imp (k3 k hk) id⟩
end
end Go.Proofs.YtkndgpjamijbbaaGreat
namespace Go.Proofs.YtkndgpjamijbbaaGreat
set_option maxRecDepth 100000
open Go Go.RowKit
def J1s (φ : Nat → Prop) (w0 : World) (N k c t : Nat) (Z : Value → World → Prop) (done : Nat → Bool) (a : Act) (w : World) : Prop :=
  Upd φ w0 w ∧ a.tmps.size = N ∧ (done k = false → Ext w0 w) ∧ (done k = true → done c = true ∧ Z (a.eval (.tmp t)) w)
section
variable {P : Program} {ops : Array Oper} {H : List Tmp} {φ : Nat → Prop} {F : List (MP (Upd φ))} {a0 : Act} {w0 : World} {i N k c t : Nat} {o : Oper} {Z : Value → World → Prop}
theorem stepS1 (hZ : ∀ v w w', Ext w w' → Z v w → Z v w') (ho : o.guard = none) (hi : (i != k && (i != c && o.dst != some t)) = true) (h : ∀ (done : Nat → Bool) (a : Act) (w : World), Upd φ w0 w → (∀ j, (depsOf o).contains j = true → done j = true) → Known ops H F a0 done a w →
    Runs P o a.eval w fun v w' => Ext w w' ∧ factAt F i v w') : StepOKA P ops H F (J1s φ w0 N k c t Z) a0 i o := by
  intro done a w hJ _ hd hk
  simp only [Bool.and_eq_true, bne_iff_ne, ne_eq] at hi
  rw [if_pos (by simp [Region.wanted, ho])]
  refine (h done a w hJ.1 (deps_done hd) hk).mono fun v w' hg => ⟨fun j _ u hu => factAt_keep (Upd.of_ext hg.1) j u hu, ⟨hJ.1.trans (Upd.of_ext hg.1), by rw [put_size]; exact hJ.2.1, fun hf => ?_, fun hf => ?_⟩, hg.2⟩
  · unfold setDone at hf
    rw [if_neg (Ne.symm hi.1)] at hf
    exact (hJ.2.2.1 hf).trans hg.1
  · unfold setDone at hf ⊢
    rw [if_neg (Ne.symm hi.1)] at hf
    rw [if_neg (Ne.symm hi.2.1)]
    have e : (a.put o.dst v).eval (.tmp t) = a.eval (.tmp t) := put_get_ne _ _ _ _ hi.2.2
    rw [e]
    exact ⟨(hJ.2.2.2 hf).1, hZ _ _ _ hg.1 (hJ.2.2.2 hf).2⟩
theorem stepSV (ho : o.guard = none) (hck : c ≠ k) (h : ∀ (done : Nat → Bool) (a : Act) (w : World), Ext w0 w → (∀ j, (depsOf o).contains j = true → done j = true) → Known ops H F a0 done a w →
    Runs P o a.eval w fun v w' => Ext w w' ∧ factAt F c v w') : StepOKA P ops H F (J1s φ w0 N k c t Z) a0 c o := by
  intro done a w hJ hn hd hk
  have hkf : done k = false := by
    cases hdk : done k with
    | false => rfl
    | true =>
      have := (hJ.2.2.2 hdk).1
      rw [hn] at this
      cases this
  rw [if_pos (by simp [Region.wanted, ho])]
  refine (h done a w (hJ.2.2.1 hkf) (deps_done hd) hk).mono fun v w' hg => ⟨fun j _ u hu => factAt_keep (Upd.of_ext hg.1) j u hu, ⟨hJ.1.trans (Upd.of_ext hg.1), by rw [put_size]; exact hJ.2.1, fun hf => ?_, fun hf => ?_⟩, hg.2⟩
  · exact (hJ.2.2.1 hkf).trans hg.1
  · unfold setDone at hf
    rw [if_neg (Ne.symm hck), hkf] at hf
    cases hf
theorem stepSS (ho : o.guard = none) (hod : o.dst = none) (hdep : (depsOf o).contains c = true) (hck : c ≠ k) (h : ∀ (done : Nat → Bool) (a : Act) (w : World), Ext w0 w → (∀ j, (depsOf o).contains j = true → done j = true) → Known ops H F a0 done a w →
    Runs P o a.eval w fun v w' => Upd φ w w' ∧ Z (a.eval (.tmp t)) w' ∧ factAt F k v w') : StepOKA P ops H F (J1s φ w0 N k c t Z) a0 k o := by
  intro done a w hJ hn hd hk
  have hd' := deps_done hd
  rw [if_pos (by simp [Region.wanted, ho])]
  refine (h done a w (hJ.2.2.1 hn) hd' hk).mono fun v w' hg => ⟨fun j _ u hu => factAt_keep hg.1 j u hu, ⟨hJ.1.trans hg.1, by rw [put_size]; exact hJ.2.1, fun hf => ?_, fun _ => ?_⟩, hg.2.2⟩
  · unfold setDone at hf
    rw [if_pos rfl] at hf
    cases hf
  · have e : (a.put o.dst v).eval (.tmp t) = a.eval (.tmp t) := put_get_ne _ _ _ _ (by rw [hod]; simp)
    rw [e]
    unfold setDone
    rw [if_neg hck]
    exact ⟨hd' c hdep, hg.2.1⟩
end
theorem Runs.storeRow {t e : TypeId} {i0 : TypeInfo} (hi : Tryz.prog.info? t = some i0) {o : Oper} {ρ : Operand → Value} {w : World} {G : Value → World → Prop} {p q : Operand} {g : Nat} {old cs : Array Value} (ho : o.op = .store t p q) (hp : ρ p = .pointer (some ⟨g, 0, none⟩)) (hq : ρ q = .agg cs) (hg : Blk w g e old) (h1 : cs.size = old.size) (hs : i0.size = cs.size) (hone : ∀ v ∈ cs.toList, v.oneCell' = true)
    (h : ∀ v w', Blk w' g e cs → w.grownBy w' (some g) → G v w') : Runs Tryz.prog o ρ w G := by
  obtain ⟨w', hr, k1, k2, _⟩ := run_store_row (P := Tryz.prog) hi hg h1 hs hone
  unfold Runs execOp
  simp only [ho, hp, hq, Sem.run_bind, hr, Result.andThen_ok, Sem.run_pure]
  exact h undef w' k1 k2
theorem par_st {ops : Array Oper} {id n : Nat} {a : Act} {w : World} {Q : Exit → Act → World → Prop} (φ : Nat → Prop) (k c t : Nat) (Z : Value → World → Prop)
    (hB : parB ops n = true) (F : List (MP (Upd φ)))
    (hsz : (dsts ops).all (fun t => decide (t < a.tmps.size)) = true) (ht : dstAt ops c = some t) (hkn : k < n) (hcn : c < n)
    (steps : StepsOKA Tryz.prog ops ((ops.toList.take n).filterMap (·.dst)) F (J1s φ w a.tmps.size k c t Z) a 0 (ops.toList.take n))
    (fin : ∀ (vals : Nat → Value) (w' : World), Upd φ w w' → Z (vals c) w' → (∀ j, j < n → ∀ d, dstAt ops j = some d → factAt F j (vals j) w') → wpList Tryz.prog ops Q (ops.toList.drop n) (putAll a 0 (ops.toList.take n) vals) w') :
    (Code.region id ops true).wp Tryz.prog Q a w := by
  refine par_regionA (by kernel_rfl) hB F (J1s φ w a.tmps.size k c t Z) ⟨Upd.of_ext (Ext.refl w).drew, rfl, fun _ => (Ext.refl w).drew, fun h => by cases h⟩ (fun t ht => by simpa using List.all_eq_true.1 hsz t ht) steps ?_
  rintro vals w' ⟨a', ⟨h1, _, _, h3⟩, h4⟩ h5
  refine fin vals w' h1 ?_ h5
  rw [h4 c t ht]
  exact (h3 (by simpa using hkn)).2
end Go.Proofs.YtkndgpjamijbbaaGreat

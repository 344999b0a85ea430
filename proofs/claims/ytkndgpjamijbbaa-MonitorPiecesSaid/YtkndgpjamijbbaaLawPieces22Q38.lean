/-
  MonitorRefused, walked (under way). book.Same of alarms, walked; two monitors in memory. What the frames of the statements hand on, in the words of the walks. Plain theorems.
-/
import Derived.Test.YtkndgpjamijbbaaLawPieces22Q36
import Derived.Test.YtkndgpjamijbbaaLawPieces22Q37
import Derived.Test.YtkndgpjamijbbaaLawPieces22Q5
namespace Go.Proofs.Ytkndgpjamijbbaa
set_option maxRecDepth 100000
open Go Go.RowKit
theorem Sgd.ext {w w' : World} {b : Nat} {S R : List UInt8} {n k : Nat} {B P Q : Option Addr} {d d1 d2 : Nat} (h : Sgd w b S R n k B d P d1 Q d2) (e : Ext w w') : Sgd w' b S R n k B d P d1 Q d2 := ⟨h.1.ext e, h.2.1.ext e, h.2.2.ext e⟩
theorem Sgd.base_ {w : World} {b b' : Nat} {S R : List UInt8} {n k : Nat} {B P Q : Option Addr} {d d1 d2 : Nat} (h : Sgd w b S R n k B d P d1 Q d2) (hb : b' ≤ b) : Sgd w b' S R n k B d P d1 Q d2 := ⟨h.1, h.2.1.base_ hb, h.2.2.base_ hb⟩
/-- a signed checkpoint of a log's own, made in a region -/
def MP.sgd (b : Nat) (S R : List UInt8) (n k : Nat) : MP Ext := ⟨fun u w => ∃ B d P d1 Q d2, u = .agg #[.int .i64 (n : Int), .slice B 32 d, .int .i64 (k : Int), .slice P 64 d1, .slice Q 4 d2] ∧ Sgd w b S R n k B d P d1 Q d2,
  fun _ _ _ e ⟨B, d, P, d1, Q, d2, h1, h2⟩ => ⟨B, d, P, d1, Q, d2, h1, h2.ext e⟩⟩
theorem within_nat2 (x lo hi : Int) (h0 : 0 ≤ lo) (h1 : lo ≤ hi) : ∃ n : Nat, within x lo hi = (n : Int) ∧ lo ≤ (n : Int) ∧ (n : Int) ≤ hi := by
  have h := within_in x lo hi h1
  exact ⟨(within x lo hi).toNat, (Int.toNat_of_nonneg (by omega)).symm, by rw [Int.toNat_of_nonneg (by omega)]; exact h.1, by rw [Int.toNat_of_nonneg (by omega)]; exact h.2⟩
theorem Keep.imp {φ : Nat → Prop} {X Y : World → Prop} {w : World} (h : Keep φ X w) (hi : ∀ w', X w' → Y w') : Keep φ Y w := fun w' u => hi w' (h w' u)
/-- feeding what a log's own checkpoint goes with; the items' sizes matter only where their number fits -/
theorem feed_sgdw (w : World) (base g : Nat) (φ ρ : Nat → Prop) (s : MSt) (hM : MonD w base φ ρ g s) (b n k : Nat) (B P Q A : Option Addr) (d d1 d2 m c : Nat) (S R : List UInt8) (ITS : List (List UInt8)) (hS : Sgd w b S R n k B d P d1 Q d2) (hb : ∀ q, φ q → q < b) (kI : Keep φ (fun w => RBB w A m c ITS) w) (hits : ((ITS.length : Nat) : Int) = (n : Int) - (s.its.length : Nat) → ∀ a ∈ ITS, a.length ≤ 1000000) (hal : s.al.length ≤ 100000) :
    Calls Try.prog 37 #[.pointer (some ⟨g, 0, none⟩), .agg #[.int .i64 (n : Int), .slice B 32 d, .int .i64 (k : Int), .slice P 64 d1, .slice Q 4 d2], .slice A m c] w fun e w' => FeedD w base φ ρ g (feedS s n R k (sigP S (bodyC checkL (n : Int) R) k) (pathL S k) ITS) (feedE s n R k (sigP S (bodyC checkL (n : Int) R) k) (pathL S k) ITS) e w' := by
  obtain ⟨h1, h2, h3⟩ := hS
  have hs := hM.toR.nob
  exact feed_anyd w base g φ ρ s hM n k B P Q A 32 d 64 d1 4 d2 m c R _ _ ITS (h1.keepS hs)
    (h2.rbb.keepS hs (fun _ q hq hp => by have := (h2.lt hq).1; have := hb q hp; omega))
    (h3.rbb.keepS hs (fun _ q hq hp => by have := (h3.lt hq).1; have := hb q hp; omega)) kI hits hal
theorem msize_k (w : World) (base g k : Nat) (φ : Nat → Prop) (s : MSt) (h : MonR w base φ g s) (hk : s.its.length = k) :
    Calls Try.prog 43 #[.pointer (some ⟨g, 0, none⟩)] w fun e w' => e = .returned (.int .i64 (k : Int)) ∧ w' = w := by
  subst hk
  exact msize_any w base g φ s h
theorem malarms_0 (w : World) (base g : Nat) (φ : Nat → Prop) (s : MSt) (h : MonR w base φ g s) (hk : s.al = []) :
    Calls Try.prog 41 #[.pointer (some ⟨g, 0, none⟩)] w fun e w' => ∃ B d, e = .returned (.slice B 0 d) ∧ RB w' B 0 d [] ∧ Ext w w' := by
  have h1 := malarms_any w base g φ s h (by rw [hk]; exact Nat.zero_le _)
  rw [hk] at h1
  exact h1.mono fun e w' ⟨B, d, h2, h3, h4⟩ => ⟨B, d, h2, ⟨rfl, h3.room.1, h3.room.2, fun h => absurd h (Nat.lt_irrefl 0)⟩, h4⟩
end Go.Proofs.Ytkndgpjamijbbaa
namespace Go.Proofs.Ytkndgpjamijbbaa
set_option maxRecDepth 100000
open Go Go.RowKit
theorem wanted_of {ops : Array Oper} {a : Act} {o : Oper} {j d : Nat} {b : Bool} (ho : o.guard = some (j, b)) (hj : dstAt ops j = some d) (hv : a.eval (.tmp d) = .bool b) : Region.wanted o (yielded ops a.tmps) = true := by
  simp [Region.wanted, ho, yielded_of hj hv]
theorem signed22_q (q : Nat) (g b : Nat) (S : List UInt8) (A : Option Addr) (n c : Nat) (Ls : List (List UInt8)) (hq : q = n % 16) (w : World) (o1 : OwnR w b g S) (rA : RBB w A n c Ls) (hn : n ≤ 256) (hb : ∀ a ∈ Ls, a.length ≤ 1000000) :
    Calls Try.prog 38 #[.pointer (some ⟨g, 0, none⟩), .slice A n c] w fun e w' => ∃ B d P d1 Q d2, e = .returned (.agg #[.int .i64 (n : Int), .slice B 32 d, .int .i64 (q : Int), .slice P 64 d1, .slice Q 4 d2]) ∧ Sgd w' w.heap.size S (rootL (Ls.map leafH)) n q B d P d1 Q d2 ∧ Ext w w' := by
  subst hq
  exact signed22_any g b S A n c Ls w o1 rA hn hb
/-- the operation at which a region is cut, with where it puts its value -/
theorem seg_call {P : Program} {ops : Array Oper} {n : Nat} {a : Act} {w : World} {Q : Exit → Act → World → Prop} {o : Oper} (d : Tmp) {G : Value → World → Prop} (hB : segB ops n (n + 1) = true) (ho : ops[n]? = some o) (hd : o.dst = some d) (hg : Region.wanted o (yielded ops a.tmps) = true) (hr : Runs P o a.eval w G)
    (fin : ∀ v w', G v w' → wpAny P .any ops Q (ops.size - (n + 1)) (headListed ops.size (n + 1)) (a.put (some d) v) w') : wpAny P .any ops Q (ops.size - n) (headListed ops.size n) a w :=
  seg_one hB ho hg hr (fun v w' h => by rw [hd]; exact fin v w' h)
/-- a slice of alarms reads as al -/
structure RAl (w : World) (A : Option Addr) (n c : Nat) (al : List (Int × Int)) : Prop where
  len : al.length = n
  room : n ≤ c
  cap : c ≤ maxLen
  cells : 0 < n → ∃ ad, A = some ad ∧ ∀ j, j < n → w.cell? (ad.add (j * 2)) = some (.int .i64 (al.getD j (0, 0)).1) ∧ w.cell? ((ad.add (j * 2)).add 1) = some (.int .i64 (al.getD j (0, 0)).2)
theorem RAl.ext {w w' : World} {A : Option Addr} {n c : Nat} {al : List (Int × Int)} (h : RAl w A n c al) (e : Ext w w') : RAl w' A n c al :=
  ⟨h.len, h.room, h.cap, fun hn => by
    obtain ⟨ad, h1, h2⟩ := h.cells hn
    exact ⟨ad, h1, fun j hj => ⟨e.cell (h2 j hj).1, e.cell (h2 j hj).2⟩⟩⟩
theorem alC_at : ∀ (al : List (Int × Int)) (j : Nat), j < al.length → (alC al)[j * 2]? = some (.int .i64 (al.getD j (0, 0)).1) ∧ (alC al)[j * 2 + 1]? = some (.int .i64 (al.getD j (0, 0)).2)
  | [], j, h => absurd h (Nat.not_lt_zero _)
  | a :: r, 0, _ => ⟨rfl, rfl⟩
  | a :: r, j + 1, h => by
    have h1 := alC_at r j (Nat.lt_of_succ_lt_succ h)
    have e : alC (a :: r) = .int .i64 a.1 :: .int .i64 a.2 :: alC r := rfl
    rw [e, show (j + 1) * 2 = j * 2 + 1 + 1 by omega]
    simpa using h1
theorem OwP.ral {w : World} {base n c : Nat} {A : Option Addr} {al : List (Int × Int)} (h : OwP isI1 75 2 w base A n c (alC al)) : RAl w A n c al := by
  have hl : al.length = n := by have h1 := h.1; rw [alC_len] at h1; omega
  refine ⟨hl, h.room.1, h.room.2, fun hn => ?_⟩
  obtain ⟨g, rfl, hc⟩ := h.at_ hn (by decide)
  refine ⟨⟨g, 0, none⟩, rfl, fun j hj => ?_⟩
  have h2 := alC_at al j (by omega)
  rw [add_plain]
  exact ⟨hc _ _ h2.1, hc _ _ h2.2⟩
theorem run_idx_sl2 {P : Program} {w : World} {t e : TypeId} {i0 : TypeInfo} (ht : P.underlying t = some (.slice e)) (hi : P.info? e = some i0) (hs : i0.size = 2) {ad : Addr} {n c : Nat} {k : IntKind} {i : Int} (j : Nat) (hj : i = (j : Int)) (h1 : j < n) :
    (Instr.indexAt t (.slice (some ad) n c) (.int k i)).run P w = .ok (.pointer (some (ad.add (j * 2)))) w := by
  subst hj
  have := run_idx_sl (P := P) (w := w) ht hi hs (ad := ad) (n := n) (c := c) (k := k) (i := (j : Int)) (by omega) (by omega)
  simpa using this
noncomputable def infAl : TypeInfo := (Try.prog.info? 75).getD default
theorem infAl_eq : Try.prog.info? 75 = some infAl := by kernel_rfl
theorem infAl_size : infAl.size = 2 := by kernel_rfl
theorem load_al {w : World} {p : Addr} {v0 v1 : Value} (h0 : w.cell? p = some v0) (h1 : w.cell? (p.add 1) = some v1) :
    (Instr.loadAt 75 (.pointer (some p))).run Try.prog w = .ok (.agg #[v0, v1]) w := by
  have e1 : w.cell? ⟨p.block, p.off + 1, none⟩ = some v1 := h1
  go_simp
theorem bin_neal (w : World) (x y : Int × Int) : (binOp .neq 75 (.agg #[.int .i64 x.1, .int .i64 x.2]) (.agg #[.int .i64 y.1, .int .i64 y.2])).run Try.prog w = .ok (.bool (decide (x ≠ y))) w := by
  obtain ⟨a, b⟩ := x
  obtain ⟨c, d⟩ := y
  by_cases h : a = c
  · subst h
    by_cases k : b = d
    · subst k
      go_simp
    · have k' : (decide ((a, b) ≠ (a, d))) = true := decide_eq_true (fun e => k (by injection e))
      rw [k']
      go_simp
  · have k' : (decide ((a, b) ≠ (c, d))) = true := decide_eq_true (fun e => h (by injection e))
    rw [k']
    go_simp
def SaiA (w : World) (xs ys : List (Int × Int)) (i : Value) (wr : World) : Prop := ∃ k : Nat, k ≤ xs.length ∧ i = .int .i64 k ∧ xs.take k = ys.take k ∧ Ext w wr
theorem takes_a (Ls : List (Int × Int)) {k : Nat} (h : k < Ls.length) : Ls.take (k + 1) = Ls.take k ++ [Ls.getD k (0, 0)] := by
  rw [List.take_succ_eq_append_getElem h]
  simp [h]
set_option maxHeartbeats 4000000 in
theorem samea_any (A B : Option Addr) (n c m d : Nat) (xs ys : List (Int × Int)) (w : World) (rA0 : RAl w A n c xs) (rB0 : RAl w B m d ys) :
    Calls Try.prog 45 #[.slice A n c, .slice B m d] w fun e w' => e = .returned (.bool (decide (xs = ys))) ∧ Ext w w' := by
  have hcap := rA0.cap
  have hroom := rA0.room
  have hcapB := rB0.cap
  have hroomB := rB0.room
  unfold maxLen at hcap hcapB
  have hl := rA0.len
  have hlB := rB0.len
  have Hl := Lib.hid hl
  have HlB := Lib.hid hlB
  clear hl hlB
  go_enter Try.func45, Try.ntmps45
  by_cases hnm : n = m
  · subst hnm
    go_wp2_with fail
    go_loopw [5] (fun i wr => SaiA w xs ys i wr) (fun i _ => n - (intOf i).toNat)
    case atStart => exact ⟨0, by omega, rfl, rfl, Ext.refl _⟩
    case round =>
      obtain ⟨k, hk, rfl, hall, hEr⟩ := hrel
      rw [Hl.out] at hk
      have Hall := Lib.hid hall
      clear hall
      by_cases hlt : k < n
      · have hki : (k : Int) < (n : Int) := by omega
        obtain ⟨ad, rfl, hc⟩ := rA0.cells (by omega)
        have hcell := hEr.cell (hc k hlt).1
        have hcelb := hEr.cell (hc k hlt).2
        obtain ⟨bd, rfl, hc2⟩ := rB0.cells (by omega)
        have hcell2 := hEr.cell (hc2 k hlt).1
        have hcelb2 := hEr.cell (hc2 k hlt).2
        clear hc hc2
        go_upto_region 6 with (fail)
        by_cases h32 : xs.getD k (0, 0) = ys.getD k (0, 0)
        · have H32 := Lib.hid h32
          replace h32 : decide (xs.getD k (0, 0) ≠ ys.getD k (0, 0)) = false := decide_eq_false (fun h => h h32)
          refine par_ext (n := 9) (by kernel_rfl) [.is (.slice ((some ad)) (n) (c)), .is (.int .i64 (((k : Nat) : Int))), .is (.pointer (some (ad.add (k * 2)))), .is (.agg #[.int .i64 ((xs.getD k (0, 0)).1), .int .i64 ((xs.getD k (0, 0)).2)]), .is (.slice ((some bd)) (n) (d)), .is (.int .i64 (((k : Nat) : Int))), .is (.pointer (some (bd.add (k * 2)))), .is (.agg #[.int .i64 ((ys.getD k (0, 0)).1), .int .i64 ((ys.getD k (0, 0)).2)]), .is (.bool (false))] rfl ⟨?_, ?_, ?_, ?_, ?_, ?_, ?_, ?_, ?_, trivial⟩ ?_
          · refine stepE rfl fun sdn sa sw sE sd sk => ?_
            have h0 : sa.eval (.tmp 0) = .slice ((some ad)) (n) (c) := sk.old 0 rfl
            exact Runs.move rfl h0 ⟨Ext.refl _, rfl⟩
          · refine stepE rfl fun sdn sa sw sE sd sk => ?_
            have h5 : sa.eval (.tmp 5) = .int .i64 (((k : Nat) : Int)) := sk.old 5 rfl
            exact Runs.move rfl h5 ⟨Ext.refl _, rfl⟩
          · refine stepE rfl fun sdn sa sw sE sd sk => ?_
            have h17 : sa.eval (.tmp 17) = .slice ((some ad)) (n) (c) := sk.fact 0 17 rfl (sd 0 rfl)
            have h18 : sa.eval (.tmp 18) = .int .i64 (((k : Nat) : Int)) := sk.fact 1 18 rfl (sd 1 rfl)
            exact Runs.idx rfl h17 h18 (run_idx_sl2 Try.underlying72 infAl_eq infAl_size (k) (by omega) (by omega)) ⟨Ext.refl _, rfl⟩
          · refine stepE rfl fun sdn sa sw sE sd sk => ?_
            have h19 : sa.eval (.tmp 19) = .pointer (some (ad.add (k * 2))) := sk.fact 2 19 rfl (sd 2 rfl)
            exact Runs.load rfl h19 (load_al (sE.cell hcell) (sE.cell hcelb)) ⟨Ext.refl _, rfl⟩
          · refine stepE rfl fun sdn sa sw sE sd sk => ?_
            have h1 : sa.eval (.tmp 1) = .slice ((some bd)) (n) (d) := sk.old 1 rfl
            exact Runs.move rfl h1 ⟨Ext.refl _, rfl⟩
          · refine stepE rfl fun sdn sa sw sE sd sk => ?_
            have h5 : sa.eval (.tmp 5) = .int .i64 (((k : Nat) : Int)) := sk.old 5 rfl
            exact Runs.move rfl h5 ⟨Ext.refl _, rfl⟩
          · refine stepE rfl fun sdn sa sw sE sd sk => ?_
            have h21 : sa.eval (.tmp 21) = .slice ((some bd)) (n) (d) := sk.fact 4 21 rfl (sd 4 rfl)
            have h22 : sa.eval (.tmp 22) = .int .i64 (((k : Nat) : Int)) := sk.fact 5 22 rfl (sd 5 rfl)
            exact Runs.idx rfl h21 h22 (run_idx_sl2 Try.underlying72 infAl_eq infAl_size (k) (by omega) (by omega)) ⟨Ext.refl _, rfl⟩
          · refine stepE rfl fun sdn sa sw sE sd sk => ?_
            have h23 : sa.eval (.tmp 23) = .pointer (some (bd.add (k * 2))) := sk.fact 6 23 rfl (sd 6 rfl)
            exact Runs.load rfl h23 (load_al (sE.cell hcell2) (sE.cell hcelb2)) ⟨Ext.refl _, rfl⟩
          · refine stepE rfl fun sdn sa sw sE sd sk => ?_
            have h20 : sa.eval (.tmp 20) = .agg #[.int .i64 ((xs.getD k (0, 0)).1), .int .i64 ((xs.getD k (0, 0)).2)] := sk.fact 3 20 rfl (sd 3 rfl)
            have h24 : sa.eval (.tmp 24) = .agg #[.int .i64 ((ys.getD k (0, 0)).1), .int .i64 ((ys.getD k (0, 0)).2)] := sk.fact 7 24 rfl (sd 7 rfl)
            exact Runs.bin rfl h20 h24 (by first | rfl | go_simp | (unfold eqGuard; go_simp)) (bin_neal _ _ _) ⟨Ext.refl _, congrArg Value.bool (h32)⟩
          intro vals W6 hE6 hv6
          have e0 : vals 0 = .slice ((some ad)) (n) (c) := hv6 0 (by omega) 17 rfl
          have e1 : vals 1 = .int .i64 (((k : Nat) : Int)) := hv6 1 (by omega) 18 rfl
          have e2 : vals 2 = .pointer (some (ad.add (k * 2))) := hv6 2 (by omega) 19 rfl
          have e3 : vals 3 = .agg #[.int .i64 ((xs.getD k (0, 0)).1), .int .i64 ((xs.getD k (0, 0)).2)] := hv6 3 (by omega) 20 rfl
          have e4 : vals 4 = .slice ((some bd)) (n) (d) := hv6 4 (by omega) 21 rfl
          have e5 : vals 5 = .int .i64 (((k : Nat) : Int)) := hv6 5 (by omega) 22 rfl
          have e6 : vals 6 = .pointer (some (bd.add (k * 2))) := hv6 6 (by omega) 23 rfl
          have e7 : vals 7 = .agg #[.int .i64 ((ys.getD k (0, 0)).1), .int .i64 ((ys.getD k (0, 0)).2)] := hv6 7 (by omega) 24 rfl
          have e8 : vals 8 = .bool (false) := hv6 8 (by omega) 25 rfl
          simp only [putAll, Act.put, List.take_succ_cons, List.take_zero, List.drop_succ_cons, List.drop_zero, List.drop_nil, List.take_nil, Nat.reduceAdd, List.setIfInBounds_toArray, List.set_cons_succ, List.set_cons_zero, e0, e1, e2, e3, e4, e5, e6, e7, e8]
          clear hv6 e0 e1 e2 e3 e4 e5 e6 e7 e8
          clear h32
          go_wp2_with fail
          go_roundw
          case rel =>
            refine ⟨k + 1, by rw [Hl.out]; omega, by go_num, ?_, hEr.trans hE6⟩
            rw [takes_a xs (by rw [Hl.out]; omega), takes_a ys (by rw [HlB.out]; omega), Hall.out, H32.out]
          case measure => simp [intOf]; omega
        · have hno : ¬ xs = ys := fun e => h32 (by rw [e])
          have Hno := Lib.hid hno
          replace h32 : decide (xs.getD k (0, 0) ≠ ys.getD k (0, 0)) = true := decide_eq_true h32
          clear hno
          refine par_ext (n := 9) (by kernel_rfl) [.is (.slice ((some ad)) (n) (c)), .is (.int .i64 (((k : Nat) : Int))), .is (.pointer (some (ad.add (k * 2)))), .is (.agg #[.int .i64 ((xs.getD k (0, 0)).1), .int .i64 ((xs.getD k (0, 0)).2)]), .is (.slice ((some bd)) (n) (d)), .is (.int .i64 (((k : Nat) : Int))), .is (.pointer (some (bd.add (k * 2)))), .is (.agg #[.int .i64 ((ys.getD k (0, 0)).1), .int .i64 ((ys.getD k (0, 0)).2)]), .is (.bool (true))] rfl ⟨?_, ?_, ?_, ?_, ?_, ?_, ?_, ?_, ?_, trivial⟩ ?_
          · refine stepE rfl fun sdn sa sw sE sd sk => ?_
            have h0 : sa.eval (.tmp 0) = .slice ((some ad)) (n) (c) := sk.old 0 rfl
            exact Runs.move rfl h0 ⟨Ext.refl _, rfl⟩
          · refine stepE rfl fun sdn sa sw sE sd sk => ?_
            have h5 : sa.eval (.tmp 5) = .int .i64 (((k : Nat) : Int)) := sk.old 5 rfl
            exact Runs.move rfl h5 ⟨Ext.refl _, rfl⟩
          · refine stepE rfl fun sdn sa sw sE sd sk => ?_
            have h17 : sa.eval (.tmp 17) = .slice ((some ad)) (n) (c) := sk.fact 0 17 rfl (sd 0 rfl)
            have h18 : sa.eval (.tmp 18) = .int .i64 (((k : Nat) : Int)) := sk.fact 1 18 rfl (sd 1 rfl)
            exact Runs.idx rfl h17 h18 (run_idx_sl2 Try.underlying72 infAl_eq infAl_size (k) (by omega) (by omega)) ⟨Ext.refl _, rfl⟩
          · refine stepE rfl fun sdn sa sw sE sd sk => ?_
            have h19 : sa.eval (.tmp 19) = .pointer (some (ad.add (k * 2))) := sk.fact 2 19 rfl (sd 2 rfl)
            exact Runs.load rfl h19 (load_al (sE.cell hcell) (sE.cell hcelb)) ⟨Ext.refl _, rfl⟩
          · refine stepE rfl fun sdn sa sw sE sd sk => ?_
            have h1 : sa.eval (.tmp 1) = .slice ((some bd)) (n) (d) := sk.old 1 rfl
            exact Runs.move rfl h1 ⟨Ext.refl _, rfl⟩
          · refine stepE rfl fun sdn sa sw sE sd sk => ?_
            have h5 : sa.eval (.tmp 5) = .int .i64 (((k : Nat) : Int)) := sk.old 5 rfl
            exact Runs.move rfl h5 ⟨Ext.refl _, rfl⟩
          · refine stepE rfl fun sdn sa sw sE sd sk => ?_
            have h21 : sa.eval (.tmp 21) = .slice ((some bd)) (n) (d) := sk.fact 4 21 rfl (sd 4 rfl)
            have h22 : sa.eval (.tmp 22) = .int .i64 (((k : Nat) : Int)) := sk.fact 5 22 rfl (sd 5 rfl)
            exact Runs.idx rfl h21 h22 (run_idx_sl2 Try.underlying72 infAl_eq infAl_size (k) (by omega) (by omega)) ⟨Ext.refl _, rfl⟩
          · refine stepE rfl fun sdn sa sw sE sd sk => ?_
            have h23 : sa.eval (.tmp 23) = .pointer (some (bd.add (k * 2))) := sk.fact 6 23 rfl (sd 6 rfl)
            exact Runs.load rfl h23 (load_al (sE.cell hcell2) (sE.cell hcelb2)) ⟨Ext.refl _, rfl⟩
          · refine stepE rfl fun sdn sa sw sE sd sk => ?_
            have h20 : sa.eval (.tmp 20) = .agg #[.int .i64 ((xs.getD k (0, 0)).1), .int .i64 ((xs.getD k (0, 0)).2)] := sk.fact 3 20 rfl (sd 3 rfl)
            have h24 : sa.eval (.tmp 24) = .agg #[.int .i64 ((ys.getD k (0, 0)).1), .int .i64 ((ys.getD k (0, 0)).2)] := sk.fact 7 24 rfl (sd 7 rfl)
            exact Runs.bin rfl h20 h24 (by first | rfl | go_simp | (unfold eqGuard; go_simp)) (bin_neal _ _ _) ⟨Ext.refl _, congrArg Value.bool (h32)⟩
          intro vals W6 hE6 hv6
          have e0 : vals 0 = .slice ((some ad)) (n) (c) := hv6 0 (by omega) 17 rfl
          have e1 : vals 1 = .int .i64 (((k : Nat) : Int)) := hv6 1 (by omega) 18 rfl
          have e2 : vals 2 = .pointer (some (ad.add (k * 2))) := hv6 2 (by omega) 19 rfl
          have e3 : vals 3 = .agg #[.int .i64 ((xs.getD k (0, 0)).1), .int .i64 ((xs.getD k (0, 0)).2)] := hv6 3 (by omega) 20 rfl
          have e4 : vals 4 = .slice ((some bd)) (n) (d) := hv6 4 (by omega) 21 rfl
          have e5 : vals 5 = .int .i64 (((k : Nat) : Int)) := hv6 5 (by omega) 22 rfl
          have e6 : vals 6 = .pointer (some (bd.add (k * 2))) := hv6 6 (by omega) 23 rfl
          have e7 : vals 7 = .agg #[.int .i64 ((ys.getD k (0, 0)).1), .int .i64 ((ys.getD k (0, 0)).2)] := hv6 7 (by omega) 24 rfl
          have e8 : vals 8 = .bool (true) := hv6 8 (by omega) 25 rfl
          simp only [putAll, Act.put, List.take_succ_cons, List.take_zero, List.drop_succ_cons, List.drop_zero, List.drop_nil, List.take_nil, Nat.reduceAdd, List.setIfInBounds_toArray, List.set_cons_succ, List.set_cons_zero, e0, e1, e2, e3, e4, e5, e6, e7, e8]
          clear hv6 e0 e1 e2 e3 e4 e5 e6 e7 e8
          clear h32
          go_wp2_with fail
          go_ret
          rw [decide_eq_false Hno.out]
          exact ⟨rfl, hEr.trans hE6⟩
      · obtain rfl : k = n := by omega
        have hyes : xs = ys := by
          have h := Hall.out
          rwa [List.take_of_length_le (by rw [Hl.out]; omega), List.take_of_length_le (by rw [HlB.out]; omega)] at h
        have Hy := Lib.hid hyes
        clear hyes
        go_wp2_with fail
        go_ret
        rw [decide_eq_true Hy.out]
        exact ⟨rfl, hEr⟩
  · have hnm2 : ¬ (n : Int) = (m : Int) := by omega
    have hno : ¬ xs = ys := fun e => hnm (by rw [← Hl.out, ← HlB.out, e])
    have Hno := Lib.hid hno
    clear hno
    go_wp2_with fail
    go_ret
    rw [decide_eq_false Hno.out]
    exact ⟨rfl, Ext.refl _⟩
/-- a monitor stays where other blocks are turned -/
theorem MonD.keepD {w : World} {base g : Nat} {φ ρ ψ : Nat → Prop} {s : MSt} (h : MonD w base φ ρ g s) (hs : NoB ψ w) (h1 : ∀ k, φ k → ¬ ψ k) (h2 : ∀ k, ρ k → ¬ ψ k) : Keep ψ (fun w => MonD w base φ ρ g s) w := by
  intro w' u
  obtain ⟨G, I, V, Al, R, P, Q, cg, ci, cv, ca, nr, cr, np, cp, nq, cq, vs, rfl, rfl, hA⟩ := h
  refine ⟨G, I, V, Al, R, P, Q, cg, ci, cv, ca, nr, cr, np, cp, nq, cq, vs, rfl, rfl, hA.ge, hA.blk.upd u (h1 g (.inl rfl)), hA.row.upd u (fun k hk => h1 k (.inr (.inl hk))), fun j hj => ?_, hA.als.upd u (fun k hk => h1 k (.inr (.inr hk))), (hA.rG.keepS hs).at_ u, (hA.rV.keepS hs (fun hn k hk => h2 k (.inl ⟨hn, hk⟩))).at_ u, hA.nV, (hA.rR.keepS hs).at_ u, (hA.rP.keepS hs (fun hn k hk => h2 k (.inr (.inl ⟨hn, hk⟩)))).at_ u, hA.nP, (hA.rQ.keepS hs (fun hn k hk => h2 k (.inr (.inr ⟨hn, hk⟩)))).at_ u, hA.nQ⟩
  obtain ⟨B, m, d, h5, h6⟩ := hA.el j hj
  exact ⟨B, m, d, h5, (h6.keepS hs).at_ u⟩
theorem MonD.rlt {w : World} {base g : Nat} {φ ρ : Nat → Prop} {s : MSt} (h : MonD w base φ ρ g s) {k : Nat} (hk : ρ k) : k < w.heap.size := by
  obtain ⟨G, I, V, Al, R, P, Q, cg, ci, cv, ca, nr, cr, np, cp, nq, cq, vs, rfl, rfl, hA⟩ := h
  rcases hk with ⟨hn, hk⟩ | ⟨hn, hk⟩ | ⟨hn, hk⟩
  · exact hA.rV.blk_lt hn hk
  · exact hA.rP.blk_lt hn hk
  · exact hA.rQ.blk_lt hn hk
theorem MonD.lower {w : World} {base b g : Nat} {φ ρ : Nat → Prop} {s : MSt} (h : MonD w base φ ρ g s) (hb : b ≤ base) : MonD w b φ ρ g s := by
  obtain ⟨G, I, V, Al, R, P, Q, cg, ci, cv, ca, nr, cr, np, cp, nq, cq, vs, h1, h2, hA⟩ := h
  have low : ∀ {P : Value → Prop} {tE : TypeId} {sz n c : Nat} {A : Option Addr} {xs : List Value}, OwP P tE sz w base A n c xs → OwP P tE sz w b A n c xs := by
    rintro P tE sz n c A xs ⟨k1, k2⟩
    refine ⟨k1, ?_⟩
    rcases k2 with k2 | ⟨g, cs, k3, k4, k5⟩
    · exact .inl k2
    · exact .inr ⟨g, cs, k3, Nat.le_trans hb k4, k5⟩
  exact ⟨G, I, V, Al, R, P, Q, cg, ci, cv, ca, nr, cr, np, cp, nq, cq, vs, h1, h2, Nat.le_trans hb hA.ge, hA.blk, low hA.row, hA.el, low hA.als, hA.rG, hA.rV, hA.nV, hA.rR, hA.rP, hA.nP, hA.rQ, hA.nQ⟩
theorem MonD.new_none {w : World} {base g k : Nat} {φ ρ : Nat → Prop} {L : List UInt8} (h : MonD w base φ ρ g (newM L)) (hk : ρ k) : False := by
  obtain ⟨G, I, V, Al, R, P, Q, cg, ci, cv, ca, nr, cr, np, cp, nq, cq, vs, rfl, rfl, hA⟩ := h
  have e1 : np = 0 := hA.rP.len.symm
  have e2 : nq = 0 := hA.rQ.len.symm
  rcases hk with ⟨hn, _⟩ | ⟨hn, _⟩ | ⟨hn, _⟩
  · exact absurd hn (Nat.lt_irrefl 0)
  · omega
  · omega
/-- two monitors, apart; U: the blocks that either turns -/
def TwoM (w : World) (base : Nat) (U : Nat → Prop) (ga : Nat) (sa : MSt) (gb : Nat) (sb : MSt) : Prop :=
  ∃ φa ρa φb ρb, U = (fun k => φa k ∨ φb k) ∧ MonD w base φa ρa ga sa ∧ MonD w base φb ρb gb sb ∧ (∀ k, φa k → ¬ φb k) ∧ (∀ k, ρa k → ¬ φb k) ∧ ∀ k, ρb k → ¬ φa k
section
variable {w w' : World} {base ga gb : Nat} {U : Nat → Prop} {sa sb : MSt}
theorem TwoM.symm (h : TwoM w base U ga sa gb sb) : TwoM w base U gb sb ga sa := by
  obtain ⟨φa, ρa, φb, ρb, rfl, h1, h2, h3, h4, h5⟩ := h
  exact ⟨φb, ρb, φa, ρa, funext fun k => propext Or.comm, h2, h1, fun k hb ha => h3 k ha hb, h5, h4⟩
theorem TwoM.ext (h : TwoM w base U ga sa gb sb) (e : Ext w w') : TwoM w' base U ga sa gb sb := by
  obtain ⟨φa, ρa, φb, ρb, h0, h1, h2, h3⟩ := h
  exact ⟨φa, ρa, φb, ρb, h0, h1.ext e, h2.ext e, h3⟩
theorem TwoM.nob (h : TwoM w base U ga sa gb sb) : NoB U w := by
  obtain ⟨φa, ρa, φb, ρb, rfl, h1, h2, h3⟩ := h
  exact fun k hk => hk.elim (fun h => h1.toR.nob k h) (fun h => h2.toR.nob k h)
theorem TwoM.lt (h : TwoM w base U ga sa gb sb) {k : Nat} (hk : U k) : base ≤ k ∧ k < w.heap.size := by
  obtain ⟨φa, ρa, φb, ρb, rfl, h1, h2, h3⟩ := h
  exact hk.elim (fun h => h1.toR.lt h) (fun h => h2.toR.lt h)
theorem TwoM.a (h : TwoM w base U ga sa gb sb) : ∃ φ, MonR w base φ ga sa := by
  obtain ⟨φa, ρa, φb, ρb, rfl, h1, h2, h3⟩ := h
  exact ⟨φa, h1.toR⟩
def TwoP (w : World) (base : Nat) (U : Nat → Prop) (ga : Nat) (sa : MSt) (gb : Nat) (sb : MSt) (v : Value) (e : Ending) (w' : World) : Prop :=
  e = .returned v ∧ ∃ U', TwoM w' base U' ga sa gb sb ∧ Upd U w w' ∧ ∀ k, k < w.heap.size → U' k → U k
theorem TwoP.symm {v : Value} {e : Ending} (h : TwoP w base U ga sa gb sb v e w') : TwoP w base U gb sb ga sa v e w' := by
  obtain ⟨h1, U', h2, h3⟩ := h
  exact ⟨h1, U', h2.symm, h3⟩
theorem TwoP.go {a : World} {sa0 sb0 : MSt} {v : Value} {e : Ending} (h : TwoP w base U ga sa gb sb v e w') (hM : TwoM w base U ga sa0 gb sb0) (hE : Ext a w) (hb : a.heap.size ≤ base) :
    ∃ U', e = .returned v ∧ TwoM w' base U' ga sa gb sb ∧ Upd U w w' ∧ (∀ k, k < w.heap.size → U' k → U k) ∧ Ext a w' := by
  obtain ⟨h1, U', h2, h3, h4⟩ := h
  exact ⟨U', h1, h2, h3, h4, Upd.ext hE h3 (fun k hk => Nat.le_trans hb (hM.lt hk).1)⟩
/-- one of two is turned -/
theorem TwoM.step {sa' : MSt} {φa ρa φb ρb φ' ρ' : Nat → Prop} (h1 : MonD w base φa ρa ga sa) (h2 : MonD w base φb ρb gb sb) (h3 : ∀ k, φa k → ¬ φb k) (h4 : ∀ k, ρa k → ¬ φb k) (h5 : ∀ k, ρb k → ¬ φa k)
    (k1 : MonD w' base φ' ρ' ga sa') (k2 : Upd φa w w') (k3 : ∀ k, k < w.heap.size → φ' k → φa k) (k4 : ∀ k, k < w.heap.size → ρ' k → ρa k) :
    TwoM w' base (fun k => φ' k ∨ φb k) ga sa' gb sb ∧ Upd (fun k => φa k ∨ φb k) w w' ∧ ∀ k, k < w.heap.size → (φ' k ∨ φb k) → φa k ∨ φb k := by
  refine ⟨⟨φ', ρ', φb, ρb, rfl, k1, (h2.keepD h1.toR.nob (fun k hb ha => h3 k ha hb) h5).at_ k2, fun k ha hb => h3 k (k3 k (h2.toR.lt hb).2 ha) hb, fun k ha hb => h4 k (k4 k (h2.toR.lt hb).2 ha) hb, fun k hb ha => h5 k hb (k3 k (h2.rlt hb) ha)⟩, k2.mono (fun k _ h => .inl h), fun k hk h => h.imp (k3 k hk) id⟩
end
theorem feedE_grow {s : MSt} {S : List UInt8} {a n : Nat} (h : s.log = ownP S) (hi : s.its = its22 a 0) (han : a ≤ n) (hn : n ≤ 256) (hal : s.al = []) :
    ∃ s', s'.log = ownP S ∧ s'.its = its22 n 0 ∧ s'.al = [] ∧ feedS s ((n : Nat) : Int) (rootL ((its22 n 0).map leafH)) ((n % 16 : Nat) : Int) (sigP S (bodyC checkL ((n : Nat) : Int) (rootL ((its22 n 0).map leafH))) (n % 16)) (pathL S (n % 16)) ((its22 n 0).drop a) = s' ∧ feedE s ((n : Nat) : Int) (rootL ((its22 n 0).map leafH)) ((n % 16 : Nat) : Int) (sigP S (bodyC checkL ((n : Nat) : Int) (rootL ((its22 n 0).map leafH))) (n % 16)) (pathL S (n % 16)) ((its22 n 0).drop a) = 0 := by
  obtain ⟨h1, s', h2, h3, h4, h5⟩ := feed_grow (s := s) (S := S) (a := a) (n := n) (which := 0) h hi han hn
  exact ⟨s', h3, h4, h5.trans hal, h2, h1⟩
/-- the first of two monitors is fed what a log's own checkpoint goes with -/
theorem two_feed (w : World) (base ga gb : Nat) (U : Nat → Prop) (sa sb : MSt) (hM : TwoM w base U ga sa gb sb) (b n a q : Nat) (hq : q = n % 16) (B P Q A : Option Addr) (d d1 d2 m c : Nat) (S : List UInt8) (hS : Sgd w b S (rootL ((its22 n 0).map leafH)) n q B d P d1 Q d2) (hb : ∀ q, U q → q < b) (kI : Keep U (fun w => RBB w A m c ((its22 n 0).drop a)) w) (hlog : sa.log = ownP S) (hi : sa.its = its22 a 0) (han : a ≤ n) (hn : n ≤ 256) (hal : sa.al = []) :
    ∃ sa', sa'.log = ownP S ∧ sa'.its = its22 n 0 ∧ sa'.al = [] ∧ Calls Try.prog 37 #[.pointer (some ⟨ga, 0, none⟩), .agg #[.int .i64 (n : Int), .slice B 32 d, .int .i64 (q : Int), .slice P 64 d1, .slice Q 4 d2], .slice A m c] w fun e w' => TwoP w base U ga sa' gb sb (.int .i64 0) e w' := by
  subst hq
  obtain ⟨φa, ρa, φb, ρb, rfl, h1, h2, h3, h4, h5⟩ := hM
  obtain ⟨sa', k1, k2, k3, k4, k5⟩ := feedE_grow hlog hi han hn hal
  have hf := feed_sgdw w base ga φa ρa sa h1 b n (n % 16) B P Q A d d1 d2 m c S _ _ hS (fun q hq => hb q (.inl hq)) (kI.sub (fun k hk => .inl hk)) (fun _ a ha => its22_small a (List.mem_of_mem_drop ha)) (by rw [hal]; exact Nat.zero_le _)
  rw [k4, k5] at hf
  refine ⟨sa', k1, k2, k3, hf.mono fun e w' ⟨e1, _, φ', ρ', e3, e4, e5, e6⟩ => ?_⟩
  obtain ⟨r1, r2, r3⟩ := TwoM.step h1 h2 h3 h4 h5 e3 e4 e5 e6
  exact ⟨e1, _, r1, r2, r3⟩
theorem two_reb (w : World) (base ga gb : Nat) (U : Nat → Prop) (sa sb : MSt) (hM : TwoM w base U ga sa gb sb) (i : Int) (A : Option Addr) (n c : Nat) (F : List UInt8) (rF : RB w A n c F) (hits : ∀ a ∈ sa.its, a.length ≤ 1000000) (hal : sa.al.length ≤ 100000) :
    Calls Try.prog 44 #[.pointer (some ⟨ga, 0, none⟩), .int .i64 i, .slice A n c] w fun e w' => TwoP w base U ga (rebS sa i F) gb sb (.bool (rebB sa.its i F)) e w' := by
  obtain ⟨φa, ρa, φb, ρb, rfl, h1, h2, h3, h4, h5⟩ := hM
  refine (mreb_anyd w base ga φa ρa sa h1 i A n c F rF hits hal).mono fun e w' ⟨e1, φ', e3, e4, e5⟩ => ?_
  obtain ⟨r1, r2, r3⟩ := TwoM.step h1 h2 h3 h4 h5 e3 e4 e5 (fun k _ h => h)
  exact ⟨e1, _, r1, r2, r3⟩
end Go.Proofs.Ytkndgpjamijbbaa
namespace Go.Proofs.Ytkndgpjamijbbaa
set_option maxRecDepth 100000
open Go Go.RowKit
theorem wf_i64 {n : Int} (h : (Lit.int .i64 n).wf = true) : -9223372036854775808 ≤ n ∧ n ≤ 9223372036854775807 := by
  simp only [Lit.wf, Bool.and_eq_true, decide_eq_true_eq] at h
  have e1 : IntKind.i64.min = -9223372036854775808 := by rfl
  have e2 : IntKind.i64.max = 9223372036854775807 := by rfl
  rw [e1, e2] at h
  exact h
end Go.Proofs.Ytkndgpjamijbbaa

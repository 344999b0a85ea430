/-
  Structs in regions that draw their order: a part of a block is loaded at once; a value whose slices are known by what they read. Plain theorems. check.Sign, check.Verify; ref10's Verify, walked. check.Put, check.Encode; ref10's Put, walked. ref5.Same of two like signatures, and law5.same, walked.
-/
import Derived.Test.YthggfbpdhkpkjaaLawPuts11Q11
import Derived.Test.YthggfbpdhkpkjaaLawPuts11Q1
import Derived.Deep.MidRow
import Derived.Test.YthggfbpdhkpkjaaLawPuts11Q22
import Derived.Test.YthggfbpdhkpkjaaLawPuts11Q20
import Derived.Test.YthggfbpdhkpkjaaLawPuts11Q21
namespace Go.Proofs.Ythggfbpdhkpkjaa
set_option maxRecDepth 100000
open Go Go.RowKit
/-- a cell of a struct's value: one that is known, bytes that are read, rows of bytes that are read -/
inductive Sh where
  | val (v : Value)
  | b8 (n : Nat) (L : List UInt8)
  | bb (n : Nat) (Ls : List (List UInt8))
def Sh.all : List Sh → (List Value → Prop) → World → Prop
  | [], k, _ => k []
  | .val v :: r, k, w => Sh.all r (fun vs => k (v :: vs)) w
  | .b8 n L :: r, k, w => ∃ A c, RB w A n c L ∧ Sh.all r (fun vs => k (.slice A n c :: vs)) w
  | .bb n Ls :: r, k, w => ∃ A c, RBB w A n c Ls ∧ Sh.all r (fun vs => k (.slice A n c :: vs)) w
theorem Sh.all_ext {w w' : World} (e : Ext w w') : ∀ (l : List Sh) (k : List Value → Prop), Sh.all l k w → Sh.all l k w'
  | [], _, h => h
  | .val v :: r, k, h => Sh.all_ext e r _ h
  | .b8 n L :: r, k, h => by
    obtain ⟨A, c, h1, h2⟩ := h
    exact ⟨A, c, h1.ext e, Sh.all_ext e r _ h2⟩
  | .bb n Ls :: r, k, h => by
    obtain ⟨A, c, h1, h2⟩ := h
    exact ⟨A, c, h1.ext e, Sh.all_ext e r _ h2⟩
def MP.ag (l : List Sh) : MP Ext := ⟨fun u w => Sh.all l (fun vs => u = .agg vs.toArray) w, fun _ _ _ e h => Sh.all_ext e _ _ h⟩
def MP.rk (n : Nat) (L : List UInt8) : MP Ext := ⟨fun u w => ∃ A c, u = .slice A n c ∧ RB w A n c L, fun _ _ _ e ⟨A, c, h1, h2⟩ => ⟨A, c, h1, h2.ext e⟩⟩
def MP.bk (b : Nat) (t : TypeId) (cs : Array Value) : MP Ext := ⟨fun u w => ∃ g, u = .pointer (some ⟨g, 0, none⟩) ∧ Blk w g t cs ∧ b ≤ g, fun _ _ _ e ⟨g, h1, h2, h3⟩ => ⟨g, h1, h2.ext e, h3⟩⟩
/-- a part of a block, loaded at once -/
theorem load_part {P : Program} {w : World} {g : Nat} {t : TypeId} {cs : Array Value} (hB : Blk w g t cs) (o : Nat) {ty : TypeId} {vs : List Value} {d : TypeDesc} (hv : ((cs.toList.drop o).take vs.length) = vs) (hu : P.underlying ty = some d) (hd : d.isRow = true)
    (hi : (P.info? ty).map (·.size) = some vs.length) : (Instr.loadAt ty (.pointer (some ⟨g, o, none⟩))).run P w = .ok (.agg vs.toArray) w := by
  refine run_loadAt_mid w g o ty vs d (fun j v h => ?_) hu hd hi
  refine hB.cell ?_
  have h1 : ((cs.toList.drop o).take vs.length)[j]? = some v := by rw [hv]; exact h
  have hj : j < vs.length := by
    rcases Nat.lt_or_ge j vs.length with h2 | h2
    · exact h2
    · rw [List.getElem?_eq_none h2] at h; cases h
  rw [List.getElem?_take_of_lt hj, List.getElem?_drop] at h1
  simpa using h1
end Go.Proofs.Ythggfbpdhkpkjaa
namespace Go.Proofs.Ythggfbpdhkpkjaa
set_option maxRecDepth 100000
open Go Go.RowKit
theorem bodyC_len (t : List UInt8) (x : Int) (R : List UInt8) : (bodyC t x R).length ≤ t.length + 36 := by
  unfold bodyC
  split
  · rename_i h
    have := (rightC_true h).2.2
    have h4 : (bytesOf (keyW x)).length = 4 := rfl
    simp only [List.length_append, h4]
    omega
  · simp
theorem sverify_len (B D P Q : Option Addr) (m e' nd cd np cp nq cq : Nat) (x : Int) (X M : List UInt8) (Ps Qs : List (List UInt8)) (w : World) (hX : RB w D nd cd X) (hM : RB w B m e' M) (hmn : M.length ≤ 1000000) (hp : RBB w P np cp Ps) (hq : RBB w Q nq cq Qs) :
    Calls Try.prog 75 #[.slice D nd cd, .slice B m e', .agg #[.int .i64 x, .slice P np cp, .slice Q nq cq]] w fun e w' => e = .returned (.bool (verB X M x Ps Qs)) ∧ Ext w w' :=
  sverify_any B D P Q m e' nd cd np cp nq cq x X M Ps Qs w hX hM (by have := hM.len; omega) hp hq
theorem lenV {t : List UInt8} {x : Int} {R : List UInt8} (ht : t.length ≤ 100 := by decide) : (bodyC t x R).length ≤ 1000000 := Nat.le_trans (bodyC_len _ _ _) (by omega)
/-- what a key of an owner shows of a message -/
def sigP (S M : List UInt8) (k : Nat) : List (List UInt8) := (List.range 64).map (partS (digestW M) S (k : Int))
end Go.Proofs.Ythggfbpdhkpkjaa
namespace Go.Proofs.Ythggfbpdhkpkjaa
set_option maxRecDepth 100000
open Go Go.RowKit
theorem Wtr.ext_ {w w' : World} {base p n c : Nat} {A : Option Addr} {L : List UInt8} (h : Wtr w base p A n c L) (e : Ext w w') : Wtr w' base p A n c L := ⟨h.blk.ext e, h.own.ext e, h.ne, h.base⟩
theorem Wtr.ext {w w' : World} {base p n c : Nat} {A : Option Addr} {L : List UInt8} (h : Wtr w base p A n c L) (e : Ext w w') : Wtr w' base p A n c L := h.ext_ e
theorem Wtr.lt_ {w : World} {base p n c : Nat} {A : Option Addr} {L : List UInt8} (h : Wtr w base p A n c L) : p < w.heap.size ∧ ∀ k, Go.Proofs.Ythggfbpdhkpkjaa.blk A = some k → k < w.heap.size := ⟨h.blk.lt, fun k hk => (h.own.lt hk).2⟩
theorem WP.of_ext {wI w w' : World} {p n c : Nat} {A : Option Addr} {L : List UInt8} (h : Wtr w wI.heap.size p A n c L) (e : Ext w w') : WP wI w p A n L w' := ⟨A, c, h.ext_ e, e.chg _ _, Later.refl _ _⟩
theorem WP.pre {wI w w1 w2 : World} {p N : Nat} {A : Option Addr} {M : List UInt8} (e : Ext w w1) (h : WP wI w1 p A N M w2) : WP wI w p A N M w2 := by
  obtain ⟨A', c', k1, k2, k3⟩ := h
  refine ⟨A', c', k1, (e.chg p A).trans (Later.refl _ _) k2, ?_⟩
  rcases k3 with k | k | ⟨q, k, hq⟩
  · exact .inl k
  · exact .inr (.inl k)
  · exact .inr (.inr ⟨q, k, Nat.le_trans e.size hq⟩)
theorem encS_len {k : Int} {PS QS : List (List UInt8)} (h : rightB k PS QS = true) : (encS k PS QS).length = 2180 := by
  obtain ⟨_, ⟨hpl, hp32⟩, hql, hq32⟩ := rightB_true h
  unfold encS
  have hL : (PS ++ QS).length = 68 := by rw [List.length_append, hpl, hql]
  have hf := flatten_take_len (PS ++ QS) 68 (by omega) (fun i hi => by
    by_cases h64 : i < 64
    · unfold lb
      rw [List.getD_eq_getElem?_getD, List.getElem?_append_left (by omega), ← List.getD_eq_getElem?_getD]
      exact hp32 i (by omega)
    · unfold lb
      rw [List.getD_eq_getElem?_getD, List.getElem?_append_right (by omega), ← List.getD_eq_getElem?_getD, hpl]
      exact hq32 (i - 64) (by omega))
  rw [List.take_of_length_le (by omega)] at hf
  simp only [List.length_append, hf]
  rfl
end Go.Proofs.Ythggfbpdhkpkjaa
namespace Go.Proofs.Ythggfbpdhkpkjaa
set_option maxRecDepth 100000
open Go Go.RowKit
def UpTo (w1 : World) (n : Nat) (i : Value) (wr : World) : Prop := ∃ k : Nat, k ≤ n ∧ i = .int .i64 k ∧ Ext w1 wr
set_option maxHeartbeats 4000000 in
theorem rsame_true (x : Int) (P Q P' Q' : Option Addr) (np cp nq cq np' cp' nq' cq' : Nat) (Ps Qs : List (List UInt8)) (w : World) (hp : RBB w P np cp Ps) (hq : RBB w Q nq cq Qs) (hp' : RBB w P' np' cp' Ps) (hq' : RBB w Q' nq' cq' Qs) :
    Calls Try.prog 64 #[.agg #[.int .i64 x, .slice P np cp, .slice Q nq cq], .agg #[.int .i64 x, .slice P' np' cp', .slice Q' nq' cq']] w fun e w' => e = .returned (.bool true) ∧ Ext w w' := by
  obtain rfl : np = np' := hp.len.symm.trans hp'.len
  obtain rfl : nq = nq' := hq.len.symm.trans hq'.len
  have hc1 := hp.cap
  have hc2 := hq.cap
  have hc3 := hp.room
  have hc4 := hq.room
  have hc5 := hp'.room
  have hc6 := hq'.room
  unfold maxLen at hc1 hc2
  have hE1 := Ext.new w (.cells #[.int .i64 x, .slice P np cp, .slice Q nq cq] 39)
  have hB1 := Blk.new w 39 #[.int .i64 x, .slice P np cp, .slice Q nq cq]
  obtain ⟨w1, hw1⟩ : ∃ w1, w1 = w.alloc (.cells #[.int .i64 x, .slice P np cp, .slice Q nq cq] 39) := ⟨_, rfl⟩
  rw [← hw1] at hE1 hB1
  have hE2 := Ext.new w1 (.cells #[.int .i64 x, .slice P' np cp', .slice Q' nq cq'] 39)
  have hB2 := Blk.new w1 39 #[.int .i64 x, .slice P' np cp', .slice Q' nq cq']
  have hs1 : w1.heap.size = w.heap.size + 1 := by rw [hw1]; exact World.size_alloc _ _
  have hB1 := hB1.ext hE2
  have hE12 := hE1.trans hE2
  rw [hs1] at hB2
  rw [hw1] at hE12 hB1 hB2
  clear hw1 hs1 hE1 hE2
  go_enter Try.func64, Try.ntmps64
  go_wp2_with fail
  generalize (w.alloc (.cells #[.int .i64 x, .slice P np cp, .slice Q nq cq] 39)).alloc (.cells #[.int .i64 x, .slice P' np cp', .slice Q' nq cq'] 39) = w2 at *
  go_loopw [5] (fun i wr => UpTo w2 np i wr) (fun i _ => np - (intOf i).toNat)
  case atStart => exact ⟨0, by omega, rfl, Ext.refl _⟩
  case round =>
    obtain ⟨k, hk, rfl, hEr⟩ := hrel
    have hEw := hE12.trans hEr
    have b1 := hB1.ext hEr
    have b2 := hB2.ext hEr
    have u1 : wr.cell? ⟨w.heap.size, 1, none⟩ = some (.slice P np cp) := b1.cell (i := 1) rfl
    have v1 : wr.cell? ⟨w.heap.size + 1, 1, none⟩ = some (.slice P' np cp') := b2.cell (i := 1) rfl
    by_cases hlt : k < np
    · have hki : (k : Int) < (np : Int) := by omega
      obtain ⟨adP, rfl, hcP⟩ := hp.cells (by omega)
      obtain ⟨adR, rfl, hcR⟩ := hp'.cells (by omega)
      obtain ⟨E1, z1, y1, hc1, hr1⟩ := hcP k hlt
      obtain ⟨E2, z2, y2, hc2, hr2⟩ := hcR k hlt
      have hr1 := hr1.ext hEw
      have hr2 := hr2.ext hEw
      have hc1 := hEw.cell hc1
      have hc2 := hEw.cell hc2
      clear hcP hcR
      go_upto_region 6 with (fail)
      refine par_ext (n := 13) (by kernel_rfl) [.is (.pointer (some ⟨w.heap.size, 1, none⟩)), .is (.slice (some adP) (np) (cp)), .is (.int .i64 (((k : Nat) : Int))), .is (.pointer (some ((adP : Addr).add (k)))), .is (.slice (E1) (z1) (y1)), .is (.string (str (lb Ps k))), .is (.pointer (some ⟨w.heap.size + 1, 1, none⟩)), .is (.slice (some adR) (np) (cp')), .is (.int .i64 (((k : Nat) : Int))), .is (.pointer (some ((adR : Addr).add (k)))), .is (.slice (E2) (z2) (y2)), .is (.string (str (lb Ps k))), .is (.bool (false))] rfl ⟨?_, ?_, ?_, ?_, ?_, ?_, ?_, ?_, ?_, ?_, ?_, ?_, ?_, trivial⟩ ?_
      · refine stepE rfl fun sdn sa sw sE sd sk => ?_
        have h2 : sa.eval (.tmp 2) = .pointer (some ⟨w.heap.size, 0, none⟩) := sk.old 2 rfl
        refine Runs.of_run (r := .pointer (some ⟨w.heap.size, 1, none⟩)) (w' := sw) ?_ ⟨Ext.refl _, rfl⟩
        unfold execOp
        simp only [h2]
        go_simp
      · refine stepE rfl fun sdn sa sw sE sd sk => ?_
        have h37 : sa.eval (.tmp 37) = .pointer (some ⟨w.heap.size, 1, none⟩) := sk.fact 0 37 rfl (sd 0 rfl)
        exact Runs.load rfl h37 (run_load1 Try.underlying37 rfl (sE.cell u1)) ⟨Ext.refl _, rfl⟩
      · refine stepE rfl fun sdn sa sw sE sd sk => ?_
        have h5 : sa.eval (.tmp 5) = .int .i64 (((k : Nat) : Int)) := sk.old 5 rfl
        exact Runs.move rfl h5 ⟨Ext.refl _, rfl⟩
      · refine stepE rfl fun sdn sa sw sE sd sk => ?_
        have h38 : sa.eval (.tmp 38) = .slice (some adP) (np) (cp) := sk.fact 1 38 rfl (sd 1 rfl)
        have h39 : sa.eval (.tmp 39) = .int .i64 (((k : Nat) : Int)) := sk.fact 2 39 rfl (sd 2 rfl)
        exact Runs.idx rfl h38 h39 (run_idx_sl1 Try.underlying37 infZZ_eq infZZ_size (k) (by omega) (by omega)) ⟨Ext.refl _, rfl⟩
      · refine stepE rfl fun sdn sa sw sE sd sk => ?_
        have h40 : sa.eval (.tmp 40) = .pointer (some ((adP : Addr).add (k))) := sk.fact 3 40 rfl (sd 3 rfl)
        exact Runs.load rfl h40 (run_load1 Try.underlying22 rfl (sE.cell hc1)) ⟨Ext.refl _, rfl⟩
      · refine stepE rfl fun sdn sa sw sE sd sk => ?_
        have h41 : sa.eval (.tmp 41) = .slice (E1) (z1) (y1) := sk.fact 4 41 rfl (sd 4 rfl)
        exact Runs.conv rfl h41 (run_str (hr1.ext sE)) ⟨Ext.refl _, rfl⟩
      · refine stepE rfl fun sdn sa sw sE sd sk => ?_
        have h3 : sa.eval (.tmp 3) = .pointer (some ⟨w.heap.size + 1, 0, none⟩) := sk.old 3 rfl
        refine Runs.of_run (r := .pointer (some ⟨w.heap.size + 1, 1, none⟩)) (w' := sw) ?_ ⟨Ext.refl _, rfl⟩
        unfold execOp
        simp only [h3]
        go_simp
      · refine stepE rfl fun sdn sa sw sE sd sk => ?_
        have h43 : sa.eval (.tmp 43) = .pointer (some ⟨w.heap.size + 1, 1, none⟩) := sk.fact 6 43 rfl (sd 6 rfl)
        exact Runs.load rfl h43 (run_load1 Try.underlying37 rfl (sE.cell v1)) ⟨Ext.refl _, rfl⟩
      · refine stepE rfl fun sdn sa sw sE sd sk => ?_
        have h5 : sa.eval (.tmp 5) = .int .i64 (((k : Nat) : Int)) := sk.old 5 rfl
        exact Runs.move rfl h5 ⟨Ext.refl _, rfl⟩
      · refine stepE rfl fun sdn sa sw sE sd sk => ?_
        have h44 : sa.eval (.tmp 44) = .slice (some adR) (np) (cp') := sk.fact 7 44 rfl (sd 7 rfl)
        have h45 : sa.eval (.tmp 45) = .int .i64 (((k : Nat) : Int)) := sk.fact 8 45 rfl (sd 8 rfl)
        exact Runs.idx rfl h44 h45 (run_idx_sl1 Try.underlying37 infZZ_eq infZZ_size (k) (by omega) (by omega)) ⟨Ext.refl _, rfl⟩
      · refine stepE rfl fun sdn sa sw sE sd sk => ?_
        have h46 : sa.eval (.tmp 46) = .pointer (some ((adR : Addr).add (k))) := sk.fact 9 46 rfl (sd 9 rfl)
        exact Runs.load rfl h46 (run_load1 Try.underlying22 rfl (sE.cell hc2)) ⟨Ext.refl _, rfl⟩
      · refine stepE rfl fun sdn sa sw sE sd sk => ?_
        have h47 : sa.eval (.tmp 47) = .slice (E2) (z2) (y2) := sk.fact 10 47 rfl (sd 10 rfl)
        exact Runs.conv rfl h47 (run_str (hr2.ext sE)) ⟨Ext.refl _, rfl⟩
      · refine stepE rfl fun sdn sa sw sE sd sk => ?_
        have h42 : sa.eval (.tmp 42) = .string (str (lb Ps k)) := sk.fact 5 42 rfl (sd 5 rfl)
        have h48 : sa.eval (.tmp 48) = .string (str (lb Ps k)) := sk.fact 11 48 rfl (sd 11 rfl)
        exact Runs.bin rfl h42 h48 (by rfl) (bin_nes _ _ _) ⟨Ext.refl _, congrArg Value.bool (by simp)⟩
      intro vals W1 hE hv
      have e0 : vals 0 = .pointer (some ⟨w.heap.size, 1, none⟩) := hv 0 (by omega) 37 rfl
      have e1 : vals 1 = .slice (some adP) (np) (cp) := hv 1 (by omega) 38 rfl
      have e2 : vals 2 = .int .i64 (((k : Nat) : Int)) := hv 2 (by omega) 39 rfl
      have e3 : vals 3 = .pointer (some ((adP : Addr).add (k))) := hv 3 (by omega) 40 rfl
      have e4 : vals 4 = .slice (E1) (z1) (y1) := hv 4 (by omega) 41 rfl
      have e5 : vals 5 = .string (str (lb Ps k)) := hv 5 (by omega) 42 rfl
      have e6 : vals 6 = .pointer (some ⟨w.heap.size + 1, 1, none⟩) := hv 6 (by omega) 43 rfl
      have e7 : vals 7 = .slice (some adR) (np) (cp') := hv 7 (by omega) 44 rfl
      have e8 : vals 8 = .int .i64 (((k : Nat) : Int)) := hv 8 (by omega) 45 rfl
      have e9 : vals 9 = .pointer (some ((adR : Addr).add (k))) := hv 9 (by omega) 46 rfl
      have e10 : vals 10 = .slice (E2) (z2) (y2) := hv 10 (by omega) 47 rfl
      have e11 : vals 11 = .string (str (lb Ps k)) := hv 11 (by omega) 48 rfl
      have e12 : vals 12 = .bool (false) := hv 12 (by omega) 49 rfl
      simp only [putAll, Act.put, List.take_succ_cons, List.take_zero, List.drop_succ_cons, List.drop_zero, List.drop_nil, List.take_nil, Nat.reduceAdd, List.setIfInBounds_toArray, List.set_cons_succ, List.set_cons_zero, e0, e1, e2, e3, e4, e5, e6, e7, e8, e9, e10, e11, e12]
      clear hv e0 e1 e2 e3 e4 e5 e6 e7 e8 e9 e10 e11 e12
      go_wp2_with fail
      go_roundw
      case rel => exact ⟨k + 1, by omega, by go_num, hEr.trans hE⟩
      case measure => simp [intOf]; omega
    · obtain rfl : k = np := by omega
      go_wp2_with fail
      obtain ⟨w3, rfl⟩ : ∃ w3, w3 = wr := ⟨_, rfl⟩
      clear u1 v1 b1 b2
      go_loopw [6] (fun i wr => UpTo w2 nq i wr) (fun i _ => nq - (intOf i).toNat)
      case atStart => exact ⟨0, by omega, rfl, hEr⟩
      case round =>
        clear hEr hEw
        obtain ⟨j, hj, rfl, hEr⟩ := hrel
        have hEw := hE12.trans hEr
        have b1 := hB1.ext hEr
        have b2 := hB2.ext hEr
        have u1 : wr.cell? ⟨w.heap.size, 2, none⟩ = some (.slice Q nq cq) := b1.cell (i := 2) rfl
        have v1 : wr.cell? ⟨w.heap.size + 1, 2, none⟩ = some (.slice Q' nq cq') := b2.cell (i := 2) rfl
        by_cases hlt2 : j < nq
        · have hji : (j : Int) < (nq : Int) := by omega
          obtain ⟨adP, rfl, hcP⟩ := hq.cells (by omega)
          obtain ⟨adR, rfl, hcR⟩ := hq'.cells (by omega)
          obtain ⟨E1, z1, y1, hc1, hr1⟩ := hcP j hlt2
          obtain ⟨E2, z2, y2, hc2, hr2⟩ := hcR j hlt2
          have hr1 := hr1.ext hEw
          have hr2 := hr2.ext hEw
          have hc1 := hEw.cell hc1
          have hc2 := hEw.cell hc2
          clear hcP hcR
          go_upto_region 11 with (fail)
          refine par_ext (n := 13) (by kernel_rfl) [.is (.pointer (some ⟨w.heap.size, 2, none⟩)), .is (.slice (some adP) (nq) (cq)), .is (.int .i64 (((j : Nat) : Int))), .is (.pointer (some ((adP : Addr).add (j)))), .is (.slice (E1) (z1) (y1)), .is (.string (str (lb Qs j))), .is (.pointer (some ⟨w.heap.size + 1, 2, none⟩)), .is (.slice (some adR) (nq) (cq')), .is (.int .i64 (((j : Nat) : Int))), .is (.pointer (some ((adR : Addr).add (j)))), .is (.slice (E2) (z2) (y2)), .is (.string (str (lb Qs j))), .is (.bool (false))] rfl ⟨?_, ?_, ?_, ?_, ?_, ?_, ?_, ?_, ?_, ?_, ?_, ?_, ?_, trivial⟩ ?_
          · refine stepE rfl fun sdn sa sw sE sd sk => ?_
            have h2 : sa.eval (.tmp 2) = .pointer (some ⟨w.heap.size, 0, none⟩) := sk.old 2 rfl
            refine Runs.of_run (r := .pointer (some ⟨w.heap.size, 2, none⟩)) (w' := sw) ?_ ⟨Ext.refl _, rfl⟩
            unfold execOp
            simp only [h2]
            go_simp
          · refine stepE rfl fun sdn sa sw sE sd sk => ?_
            have h57 : sa.eval (.tmp 57) = .pointer (some ⟨w.heap.size, 2, none⟩) := sk.fact 0 57 rfl (sd 0 rfl)
            exact Runs.load rfl h57 (run_load1 Try.underlying37 rfl (sE.cell u1)) ⟨Ext.refl _, rfl⟩
          · refine stepE rfl fun sdn sa sw sE sd sk => ?_
            have h6 : sa.eval (.tmp 6) = .int .i64 (((j : Nat) : Int)) := sk.old 6 rfl
            exact Runs.move rfl h6 ⟨Ext.refl _, rfl⟩
          · refine stepE rfl fun sdn sa sw sE sd sk => ?_
            have h58 : sa.eval (.tmp 58) = .slice (some adP) (nq) (cq) := sk.fact 1 58 rfl (sd 1 rfl)
            have h59 : sa.eval (.tmp 59) = .int .i64 (((j : Nat) : Int)) := sk.fact 2 59 rfl (sd 2 rfl)
            exact Runs.idx rfl h58 h59 (run_idx_sl1 Try.underlying37 infZZ_eq infZZ_size (j) (by omega) (by omega)) ⟨Ext.refl _, rfl⟩
          · refine stepE rfl fun sdn sa sw sE sd sk => ?_
            have h60 : sa.eval (.tmp 60) = .pointer (some ((adP : Addr).add (j))) := sk.fact 3 60 rfl (sd 3 rfl)
            exact Runs.load rfl h60 (run_load1 Try.underlying22 rfl (sE.cell hc1)) ⟨Ext.refl _, rfl⟩
          · refine stepE rfl fun sdn sa sw sE sd sk => ?_
            have h61 : sa.eval (.tmp 61) = .slice (E1) (z1) (y1) := sk.fact 4 61 rfl (sd 4 rfl)
            exact Runs.conv rfl h61 (run_str (hr1.ext sE)) ⟨Ext.refl _, rfl⟩
          · refine stepE rfl fun sdn sa sw sE sd sk => ?_
            have h3 : sa.eval (.tmp 3) = .pointer (some ⟨w.heap.size + 1, 0, none⟩) := sk.old 3 rfl
            refine Runs.of_run (r := .pointer (some ⟨w.heap.size + 1, 2, none⟩)) (w' := sw) ?_ ⟨Ext.refl _, rfl⟩
            unfold execOp
            simp only [h3]
            go_simp
          · refine stepE rfl fun sdn sa sw sE sd sk => ?_
            have h63 : sa.eval (.tmp 63) = .pointer (some ⟨w.heap.size + 1, 2, none⟩) := sk.fact 6 63 rfl (sd 6 rfl)
            exact Runs.load rfl h63 (run_load1 Try.underlying37 rfl (sE.cell v1)) ⟨Ext.refl _, rfl⟩
          · refine stepE rfl fun sdn sa sw sE sd sk => ?_
            have h6 : sa.eval (.tmp 6) = .int .i64 (((j : Nat) : Int)) := sk.old 6 rfl
            exact Runs.move rfl h6 ⟨Ext.refl _, rfl⟩
          · refine stepE rfl fun sdn sa sw sE sd sk => ?_
            have h64 : sa.eval (.tmp 64) = .slice (some adR) (nq) (cq') := sk.fact 7 64 rfl (sd 7 rfl)
            have h65 : sa.eval (.tmp 65) = .int .i64 (((j : Nat) : Int)) := sk.fact 8 65 rfl (sd 8 rfl)
            exact Runs.idx rfl h64 h65 (run_idx_sl1 Try.underlying37 infZZ_eq infZZ_size (j) (by omega) (by omega)) ⟨Ext.refl _, rfl⟩
          · refine stepE rfl fun sdn sa sw sE sd sk => ?_
            have h66 : sa.eval (.tmp 66) = .pointer (some ((adR : Addr).add (j))) := sk.fact 9 66 rfl (sd 9 rfl)
            exact Runs.load rfl h66 (run_load1 Try.underlying22 rfl (sE.cell hc2)) ⟨Ext.refl _, rfl⟩
          · refine stepE rfl fun sdn sa sw sE sd sk => ?_
            have h67 : sa.eval (.tmp 67) = .slice (E2) (z2) (y2) := sk.fact 10 67 rfl (sd 10 rfl)
            exact Runs.conv rfl h67 (run_str (hr2.ext sE)) ⟨Ext.refl _, rfl⟩
          · refine stepE rfl fun sdn sa sw sE sd sk => ?_
            have h62 : sa.eval (.tmp 62) = .string (str (lb Qs j)) := sk.fact 5 62 rfl (sd 5 rfl)
            have h68 : sa.eval (.tmp 68) = .string (str (lb Qs j)) := sk.fact 11 68 rfl (sd 11 rfl)
            exact Runs.bin rfl h62 h68 (by rfl) (bin_nes _ _ _) ⟨Ext.refl _, congrArg Value.bool (by simp)⟩
          intro vals W1 hE hv
          have e0 : vals 0 = .pointer (some ⟨w.heap.size, 2, none⟩) := hv 0 (by omega) 57 rfl
          have e1 : vals 1 = .slice (some adP) (nq) (cq) := hv 1 (by omega) 58 rfl
          have e2 : vals 2 = .int .i64 (((j : Nat) : Int)) := hv 2 (by omega) 59 rfl
          have e3 : vals 3 = .pointer (some ((adP : Addr).add (j))) := hv 3 (by omega) 60 rfl
          have e4 : vals 4 = .slice (E1) (z1) (y1) := hv 4 (by omega) 61 rfl
          have e5 : vals 5 = .string (str (lb Qs j)) := hv 5 (by omega) 62 rfl
          have e6 : vals 6 = .pointer (some ⟨w.heap.size + 1, 2, none⟩) := hv 6 (by omega) 63 rfl
          have e7 : vals 7 = .slice (some adR) (nq) (cq') := hv 7 (by omega) 64 rfl
          have e8 : vals 8 = .int .i64 (((j : Nat) : Int)) := hv 8 (by omega) 65 rfl
          have e9 : vals 9 = .pointer (some ((adR : Addr).add (j))) := hv 9 (by omega) 66 rfl
          have e10 : vals 10 = .slice (E2) (z2) (y2) := hv 10 (by omega) 67 rfl
          have e11 : vals 11 = .string (str (lb Qs j)) := hv 11 (by omega) 68 rfl
          have e12 : vals 12 = .bool (false) := hv 12 (by omega) 69 rfl
          simp only [putAll, Act.put, List.take_succ_cons, List.take_zero, List.drop_succ_cons, List.drop_zero, List.drop_nil, List.take_nil, Nat.reduceAdd, List.setIfInBounds_toArray, List.set_cons_succ, List.set_cons_zero, e0, e1, e2, e3, e4, e5, e6, e7, e8, e9, e10, e11, e12]
          clear hv e0 e1 e2 e3 e4 e5 e6 e7 e8 e9 e10 e11 e12
          go_wp2_with fail
          go_roundw
          case rel => exact ⟨j + 1, by omega, by go_num, hEr.trans hE⟩
          case measure => simp [intOf]; omega
        · obtain rfl : j = nq := by omega
          go_wp2_with fail
          go_ret
          exact ⟨rfl, hEw⟩
end Go.Proofs.Ythggfbpdhkpkjaa

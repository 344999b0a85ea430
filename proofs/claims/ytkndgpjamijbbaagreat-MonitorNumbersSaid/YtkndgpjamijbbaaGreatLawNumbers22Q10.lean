/-
  slices.Chunk, walked: its parts come one behind the other. A region that draws its order, one of whose operations appends to a row of the call's own. Plain theorems.
-/
import Derived.RangeFuncNested
import Derived.RangeFuncBound
import Derived.RangeFuncCalls
import Derived.RangeFuncLeaves
import Derived.Shelf.Abstract
import Derived.Shelf.RegionOpen
import Derived.WalkKit
import Derived.OwnWalkIn
import Derived.TacticsInMore
import Derived.LoopNIn
import Derived.LoopIn
import Derived.Test.YtkndgpjamijbbaaGreatLawNumbers22Q9
import Derived.Test.YtkndgpjamijbbaaGreatLawNumbers22Q4
namespace Go.Proofs.YtkndgpjamijbbaaGreat
set_option maxRecDepth 100000
open Go Go.RowKit Go.Shelf
attribute [local go_sem] Oper.semAt_some
set_option maxHeartbeats 1000000 in
theorem chunk_any (A : Option Addr) (n c : Nat) (w : World) :
    Calls Tryz.prog 90 #[.slice A n c, .int .i64 64] w fun e w' => e = .returned (.func (.func 101) #[] #[.pointer (some ⟨w.heap.size, 0, none⟩), .pointer (some ⟨w.heap.size + 1, 0, none⟩)]) ∧
      Blk w' w.heap.size 26 #[.slice A n c] ∧ Blk w' (w.heap.size + 1) 3 #[.int .i64 64] ∧ Ext w w' := by
  have E1 := Ext.new w (.cells #[.slice A n c] 26)
  have B1 := Blk.new w 26 #[.slice A n c]
  have E2 := Ext.new (w.alloc (.cells #[.slice A n c] 26)) (.cells #[.int .i64 64] 3)
  have B2 := Blk.new (w.alloc (.cells #[.slice A n c] 26)) 3 #[.int .i64 64]
  rw [World.size_alloc] at B2
  have H := Lib.hid (And.intro (B1.ext E2) (And.intro B2 (E1.trans E2)))
  clear E1 B1 E2 B2
  go_enter Tryz.func90, Tryz.ntmps90
  go_wp2_with fail
  go_ret
  exact ⟨rfl, H.out⟩
def encC (ad : Addr) (m : Nat) (i : Fin m) : Array Value := #[.slice (some (ad.add (64 * i.val))) 64 64]
/-- what a round keeps: the two boxes -/
def KeepC (b1 b2 m c : Nat) (ad : Addr) (W W' : World) : Prop :=
  (Blk W b1 26 #[.slice (some ad) (64 * m) c] → Blk W' b1 26 #[.slice (some ad) (64 * m) c]) ∧ (Blk W b2 3 #[.int .i64 64] → Blk W' b2 3 #[.int .i64 64])
set_option maxHeartbeats 2000000 in
theorem chunk_stops (nn b1 b2 m c : Nat) (ad : Addr) (w : World) (h1 : Blk w b1 26 #[.slice (some ad) (64 * m) c]) (h2 : Blk w b2 3 #[.int .i64 64]) (hc : 64 * m ≤ c) (hm : 64 * m ≤ 140737488355328) :
    SeqStopsK Fence.wide nn Tryz.prog 101 #[.pointer (some ⟨b1, 0, none⟩), .pointer (some ⟨b2, 0, none⟩)] (encC ad m) (KeepC b1 b2 m c ad) (fun xs => xs.map Fin.val = List.range m) (fun _ => True) m w := fun l J Jx W hW hJ _ hY h0 => by
  have B1 := h1.ext hW
  have B2 := h2.ext hW
  clear h1 h2
  refine callsIn_of_wp Tryz.func101 rfl trivial ?_ rfl
  simp only [Tryz.ntmps101, List.size_toArray, List.length_cons, List.length_nil, Nat.reduceAdd, Nat.reduceSub, Array.replicate_succ, Array.replicate_zero, List.push_toArray, List.append_toArray, List.nil_append, List.cons_append]
  gi_wp2
  gi_loopw [4] (fun i wr => ∃ (k : Nat) (pre : List (Fin m)), k ≤ m ∧ i = .int .i64 ((64 * k : Nat) : Int) ∧ pre.map Fin.val = List.range k ∧ J pre wr ∧ Blk wr b1 26 #[.slice (some ad) (64 * m) c] ∧ Blk wr b2 3 #[.int .i64 64])
    (fun i _ => 64 * m - (intOf i).toNat)
  case atStart => exact ⟨0, [], Nat.zero_le _, rfl, rfl, h0, B1, B2⟩
  case round =>
    clear B1 B2
    obtain ⟨k, pre, hk, rfl, hpre, hJs, B1, B2⟩ := hrel
    have y1 := B1.cell (i := 0) rfl
    have y2 := B2.cell (i := 0) rfl
    by_cases hlt : k < m
    · gi_wp2
      refine wpIn_wide.2 ?_
      refine par_ext (n := 7) (by kernel_rfl) [.is (.int .i64 ((64 : Int))), .is (.slice (some ad) (64 * m) (c)), .is (.int .i64 (((64 * k : Nat) : Int))), .is (.slice (if c = 64 * k then some ad else (some ad).map (·.add (64 * k * 1))) (64 * m - 64 * k) (c - 64 * k)), .is (.int .i64 ((64 * m - 64 * k : Nat))), .is (.int .i64 ((64 : Int))), .is (.int .i64 ((64 : Int)))] rfl ⟨?_, ?_, ?_, ?_, ?_, ?_, ?_, trivial⟩ ?_
      · refine stepE rfl fun sdn sa sw sE sd sk => ?_
        have h2 : sa.eval (.tmp 2) = .pointer (some ⟨b2, 0, none⟩) := sk.old 2 rfl
        exact Runs.load rfl h2 (run_load1 Tryz.underlying3 rfl ((B2.ext sE).cell (i := 0) rfl)) ⟨Ext.refl _, rfl⟩
      · refine stepE rfl fun sdn sa sw sE sd sk => ?_
        have h1 : sa.eval (.tmp 1) = .pointer (some ⟨b1, 0, none⟩) := sk.old 1 rfl
        exact Runs.load rfl h1 (run_load1 Tryz.underlying26 rfl ((B1.ext sE).cell (i := 0) rfl)) ⟨Ext.refl _, rfl⟩
      · refine stepE rfl fun sdn sa sw sE sd sk => ?_
        have h4 : sa.eval (.tmp 4) = .int .i64 (((64 * k : Nat) : Int)) := sk.old 4 rfl
        exact Runs.move rfl h4 ⟨Ext.refl _, rfl⟩
      · refine stepE rfl fun sdn sa sw sE sd sk => ?_
        have h14 : sa.eval (.tmp 14) = .slice (some ad) (64 * m) (c) := sk.fact 1 14 rfl (sd 1 rfl)
        have h15 : sa.eval (.tmp 15) = .int .i64 (((64 * k : Nat) : Int)) := sk.fact 2 15 rfl (sd 2 rfl)
        exact Runs.slice rfl h14 (by simp only [Option.map_some, Option.map_none, h15]; exact run_cut_l Tryz.underlying26 inf26_eq inf26_size (64 * k) (by first | rfl | omega) (by omega)) ⟨Ext.refl _, rfl⟩
      · refine stepE rfl fun sdn sa sw sE sd sk => ?_
        have h16 : sa.eval (.tmp 16) = .slice (if c = 64 * k then some ad else (some ad).map (·.add (64 * k * 1))) (64 * m - 64 * k) (c - 64 * k) := sk.fact 3 16 rfl (sd 3 rfl)
        exact Runs.len Tryz.underlying26 rfl h16 ⟨Ext.refl _, rfl⟩
      · refine stepE rfl fun sdn sa sw sE sd sk => ?_
        have h13 : sa.eval (.tmp 13) = .int .i64 ((64 : Int)) := sk.fact 0 13 rfl (sd 0 rfl)
        have h17 : sa.eval (.tmp 17) = .int .i64 ((64 * m - 64 * k : Nat)) := sk.fact 4 17 rfl (sd 4 rfl)
        have hmin : min (64 : Int) (((64 * m - 64 * k : Nat) : Nat) : Int) = 64 := by omega
        refine Runs.of_run (r := .int .i64 64) (w' := sw) ?_ ⟨Ext.refl _, rfl⟩
        unfold execOp
        simp only [resolve, invoke, builtin, List.map_toArray, List.map_cons, List.map_nil, h13, h17]
        go_simp
        all_goals (intro h; omega)
      · refine stepE rfl fun sdn sa sw sE sd sk => ?_
        have h18 : sa.eval (.tmp 18) = .int .i64 ((64 : Int)) := sk.fact 5 18 rfl (sd 5 rfl)
        exact Runs.assign rfl h18 ⟨Ext.refl _, rfl⟩
      intro vals W1 hE hv
      have e0 : vals 0 = .int .i64 ((64 : Int)) := hv 0 (by omega) 13 rfl
      have e1 : vals 1 = .slice (some ad) (64 * m) (c) := hv 1 (by omega) 14 rfl
      have e2 : vals 2 = .int .i64 (((64 * k : Nat) : Int)) := hv 2 (by omega) 15 rfl
      have e3 : vals 3 = .slice (if c = 64 * k then some ad else (some ad).map (·.add (64 * k * 1))) (64 * m - 64 * k) (c - 64 * k) := hv 3 (by omega) 16 rfl
      have e4 : vals 4 = .int .i64 ((64 * m - 64 * k : Nat)) := hv 4 (by omega) 17 rfl
      have e5 : vals 5 = .int .i64 ((64 : Int)) := hv 5 (by omega) 18 rfl
      have e6 : vals 6 = .int .i64 ((64 : Int)) := hv 6 (by omega) 5 rfl
      simp only [putAll, Act.put, List.take_succ_cons, List.take_zero, List.drop_succ_cons, List.drop_zero, List.drop_nil, List.take_nil, Nat.reduceAdd, List.setIfInBounds_toArray, List.set_cons_succ, List.set_cons_zero, e0, e1, e2, e3, e4, e5, e6]
      clear hv e0 e1 e2 e3 e4 e5 e6
      unfold wpList
      have hck : ¬ c = 64 * k := by omega
      have hJ1 := hJ pre wr W1 none hJs (hE.grownBy _) (by intro r h; cases h)
      have D1 := B1.ext hE
      have D2 := B2.ext hE
      have y1 := D1.cell (i := 0) rfl
      have y2 := D2.cell (i := 0) rfl
      obtain ⟨fn, tmps, assign, body, hy, hR⟩ := hY pre ⟨k, hlt⟩ W1 hJ1 (by rw [← List.length_map (f := Fin.val), hpre, List.length_range]; exact hlt)
      unfold encC at hy
      dsimp only at hy
      gi_wp2
      refine ⟨fun h => (by cases h), ?_⟩
      refine hR.mono ?_
      rintro e W3 (⟨rfl, hJ3, hk3⟩ | ⟨rfl, hJx3⟩)
      · have E1 := hk3.1 D1
        have E2 := hk3.2 D2
        have y1 := E1.cell (i := 0) rfl
        have y2 := E2.cell (i := 0) rfl
        gi_wp2
        go_roundw
        case rel => exact ⟨k + 1, pre ++ [⟨k, hlt⟩], by omega, by go_num, by rw [List.map_append, hpre, List.range_succ]; rfl, hJ3, E1, E2⟩
        case measure => simp [intOf]; omega
      · gi_wp2
        refine bodyPost_ret (results_none rfl _ _ _) rfl ?_
        exact ⟨⟨_, rfl⟩, .inr ⟨_, trivial, hJx3⟩⟩
    · obtain rfl : k = m := by omega
      gi_wp2
      go_end0
      exact ⟨⟨_, rfl⟩, .inl ⟨pre, hpre, hJs⟩⟩
end Go.Proofs.YtkndgpjamijbbaaGreat
namespace Go.Proofs.YtkndgpjamijbbaaGreat
set_option maxRecDepth 100000
open Go Go.RowKit
/-- What holds while the region runs: but for the row nothing older was turned; till the append the row is as it was. -/
def JA (w wI : World) (A : Option Addr) (n c : Nat) (L : List UInt8) (k : Nat) (done : Nat → Bool) (w' : World) : Prop :=
  w.grownBy w' (blk A) ∧ Ext wI w' ∧ (done k = false → OB w' wI.heap.size A n c L)
def Stays (A : Option Addr) (m : MP Ext) : Prop := ∀ u w w', w.grownBy w' (blk A) → m.p u w → m.p u w'
def StaysL (A : Option Addr) (k : Nat) : Nat → List (MP Ext) → Prop
  | _, [] => True
  | j, m :: l => (j = k ∨ Stays A m) ∧ StaysL A k (j + 1) l
theorem StaysL.at_ {A : Option Addr} {k : Nat} {F : List (MP Ext)} : ∀ {i j : Nat} {m : MP Ext}, StaysL A k i F → F[j]? = some m → i + j ≠ k → Stays A m := by
  induction F with
  | nil => intro i j m _ h; simp at h
  | cons x l ih =>
    intro i j m h hj hne
    cases j with
    | zero =>
      simp only [List.getElem?_cons_zero, Option.some.injEq] at hj
      subst hj
      rcases h.1 with e | e
      · exact absurd e (by omega)
      · exact e
    | succ j => exact ih (i := i + 1) (j := j) h.2 (by simpa only [List.getElem?_cons_succ] using hj) (by omega)
theorem stays_is (A : Option Addr) (v : Value) : Stays A (MP.is v) := fun _ _ _ _ h => h
/-- a byte slice that reads as L, in a block at or beyond q -/
def MP.rbf (q : Nat) (L : List UInt8) : MP Ext := ⟨fun u w => ∃ B n c, u = .slice B n c ∧ RB w B n c L ∧ ∀ k, blk B = some k → q ≤ k, fun _ _ _ e ⟨B, n, c, h1, h2, h3⟩ => ⟨B, n, c, h1, h2.ext e, h3⟩⟩
theorem RB.grown {w w' : World} {B : Option Addr} {n c : Nat} {L : List UInt8} (h : RB w B n c L) {row : Option Nat} (g : w.grownBy w' row) (hne : 0 < n → blk B ≠ row) : RB w' B n c L :=
  ⟨h.len, h.room, h.cap, fun hn => by
    obtain ⟨ad, rfl, hc⟩ := h.cells hn
    refine ⟨ad, rfl, fun j hj => g.cell (hc j hj) ?_⟩
    rw [block_of_add]
    exact hne hn⟩
theorem stays_rbf {A : Option Addr} {q : Nat} {L : List UInt8} (h : ∀ k, blk A = some k → k < q) : Stays A (MP.rbf q L) := by
  rintro u w w' g ⟨B, n, c, h1, h2, h3⟩
  refine ⟨B, n, c, h1, h2.grown g (fun hn e => ?_), h3⟩
  obtain ⟨ad, rfl, _⟩ := h2.cells hn
  have h4 := h3 ad.block rfl
  have h5 := h ad.block (by rw [← e]; rfl)
  omega
/-- a row of the call's own behind an append -/
def MP.app (base q : Nat) (A : Option Addr) (N : Nat) (LM : List UInt8) : MP Ext :=
  ⟨fun u w => ∃ A' c', u = .slice A' N c' ∧ OB w base A' N c' LM ∧ (blk A' = blk A ∨ ∃ k, blk A' = some k ∧ q ≤ k), fun _ _ _ e ⟨A', c', h1, h2, h3⟩ => ⟨A', c', h1, h2.ext e, h3⟩⟩
section
variable {ops : Array Oper} {H : List Tmp} {F : List (MP Ext)} {a0 : Act} {w0 wI : World} {A : Option Addr} {n c : Nat} {L : List UInt8} {i k : Nat} {o : Oper}
theorem stepEA (ho : o.guard = none) (hik : i ≠ k) (h : ∀ (done : Nat → Bool) (a : Act) (w : World), w0.grownBy w (blk A) → Ext wI w → (∀ j, (depsOf o).contains j = true → done j = true) → Known ops H F a0 done a w →
    Runs Tryz.prog o a.eval w fun v w' => Ext w w' ∧ factAt F i v w') : StepOK Tryz.prog ops H F (JA w0 wI A n c L k) a0 i o := by
  intro done a w hJ _ hd hk
  rw [if_pos (by simp [Region.wanted, ho])]
  refine (h done a w hJ.1 hJ.2.1 (deps_done hd) hk).mono fun v w' hg => ⟨fun j _ u hu => factAt_keep hg.1 j u hu, ⟨hJ.1.trans (hg.1.grownBy _), hJ.2.1.trans hg.1, fun hdk => ?_⟩, hg.2⟩
  refine (hJ.2.2 ?_).ext hg.1
  unfold setDone at hdk
  rw [if_neg (by omega)] at hdk
  exact hdk
theorem stepApp {s x : Operand} {M : List UInt8} {N : Nat} {LM : List UInt8} {q : Nat} (ho : o.guard = none) (hop : o.op = .call { callee := .builtin .append, args := #[s, x], argTypes := #[26, 26] })
    (hN : N ≤ 140737488355328) (hLM : L ++ M = LM) (hF : F[k]? = some (MP.app wI.heap.size q A N LM)) (hq : q ≤ w0.heap.size) (hst : StaysL A k 0 F)
    (h : ∀ (done : Nat → Bool) (a : Act) (w : World), w0.grownBy w (blk A) → Ext wI w → (∀ j, (depsOf o).contains j = true → done j = true) → Known ops H F a0 done a w →
      a.eval s = .slice A n c ∧ ∃ B m d, a.eval x = .slice B m d ∧ RB w B m d M ∧ n + m = N) : StepOK Tryz.prog ops H F (JA w0 wI A n c L k) a0 k o := by
  intro done a w hJ hnd hd hk
  rw [if_pos (by simp [Region.wanted, ho])]
  obtain ⟨hs, B, m, d, hx, hr, hnm⟩ := h done a w hJ.1 hJ.2.1 (deps_done hd) hk
  subst hnm
  subst hLM
  have own := hJ.2.2 hnd
  obtain ⟨A', c', w', hrun, h2, h3, h4⟩ := run_app (w := w) o.type own hr hN hJ.2.1.size
  refine Runs.of_run (r := .slice A' (n + m) c') (w' := w') ?_ ⟨fun j hj u hu => ?_, ⟨hJ.1.trans h3, own.step hJ.2.1 h3, fun hdk => ?_⟩, ?_⟩
  · unfold execOp
    simp only [hop, resolve, invoke, builtin, Sem.run_bind, Sem.run_pure, Result.andThen_ok, List.map_toArray, List.map_cons, List.map_nil, hs, hx, hrun]
  · have hjk : j ≠ k := fun e => by subst e; rw [hj] at hnd; cases hnd
    unfold factAt at hu ⊢
    cases hm : F[j]? with
    | none => trivial
    | some mm => rw [hm] at hu; exact hst.at_ (i := 0) hm (by omega) u w w' h3 hu
  · unfold setDone at hdk
    rw [if_pos rfl] at hdk
    cases hdk
  · unfold factAt
    rw [hF]
    refine ⟨A', c', rfl, h2, ?_⟩
    rcases h4 with e | e
    · exact .inl e
    · exact .inr ⟨_, e, Nat.le_trans hq hJ.1.size⟩
end
theorem par_app {ops : Array Oper} {id n : Nat} {a : Act} {w wI : World} {Q : Exit → Act → World → Prop} {A : Option Addr} {m c : Nat} {L : List UInt8} (k : Nat) (hE : Ext wI w) (own : OB w wI.heap.size A m c L)
    (hB : parB ops n = true) (F : List (MP Ext))
    (hsz : (dsts ops).all (fun t => decide (t < a.tmps.size)) = true)
    (steps : StepsOK Tryz.prog ops ((ops.toList.take n).filterMap (·.dst)) F (JA w wI A m c L k) a 0 (ops.toList.take n))
    (fin : ∀ (vals : Nat → Value) (w' : World), w.grownBy w' (blk A) → Ext wI w' → (∀ j, j < n → ∀ d, dstAt ops j = some d → factAt F j (vals j) w') → wpList Tryz.prog ops Q (ops.toList.drop n) (putAll a 0 (ops.toList.take n) vals) w') :
    (Code.region id ops true).wp Tryz.prog Q a w :=
  par_region (R := Ext) (by kernel_rfl) hB F (JA w wI A m c L k) ⟨(Ext.refl w).drew.grownBy _, hE.drew, fun _ => own⟩ (fun t ht => by simpa using List.all_eq_true.1 hsz t ht) steps (fun vals w' h1 h2 => fin vals w' h1.1 h1.2.1 h2)
    (fun d d' w h hj => ⟨hj.1, hj.2.1, fun hk => hj.2.2 ((h k).trans hk)⟩)
end Go.Proofs.YtkndgpjamijbbaaGreat

/-
  hash.Tagged and hash.Same, walked. The statements' helpers, walked: Within, Cut, Sized. Rows of the call's own: a byte is stored. Plain theorems. Slices of byte slices that are laid. Plain theorems. An append to a full slice: nothing older is turned. Plain theorems. once.Digest, Secret, Shown and told, walked; an append to a row of byte slices.
-/
import Derived.Test.YtkndgpjamijbbaaLawCom26Q10
import Derived.Test.YtkndgpjamijbbaaLawCom26Q9
import Derived.Laws.CopyOwn
import Derived.Laws.OwnMore
import Derived.Maps.AppendAt
namespace Go.Proofs.Ytkndgpjamijbbaa
set_option maxRecDepth 100000
open Go Go.RowKit
set_option maxHeartbeats 1000000 in
theorem htagged_any (t : UInt8) (A : Option Addr) (n c : Nat) (Ls : List (List UInt8)) (w : World) (hr : RBB w A n c Ls) (hn : Ls.flatten.length ≤ 140737488355199) :
    Calls Try.prog 92 #[.int .u8 (u8i t), .slice A n c] w fun e w' => ∃ A' c', e = .returned (.slice A' 32 c') ∧ OB w' w.heap.size A' 32 c' (tagged t Ls.flatten) ∧ Ext w w' := by
  have hln := hr.len
  have hroom := hr.room
  have hcap := hr.cap
  unfold maxLen at hcap
  have Hn := Lib.hid hln
  clear hln
  go_enter Try.func92, Try.ntmps92
  go_wp2_with fail
  go_loopw [5, 12] (fun v i wr => ∃ (k q d : Nat) (B : Option Addr), k ≤ n ∧ i = .int .i64 k ∧ v = .slice B q d ∧ OB wr w.heap.size B q d (t :: (Ls.take k).flatten) ∧ Ext w wr) (fun _ i _ => n - (intOf i).toNat)
  case atStart => exact ⟨0, 1, 1, _, by omega, rfl, rfl, OB.lit w [t] rfl (small_maxLen (by decide)), Ext.new w _⟩
  case round =>
    obtain ⟨k, q, d, B, hk, rfl, rfl, own, hEr⟩ := hrel
    by_cases hlt : k < n
    · obtain ⟨ad, rfl, hc⟩ := hr.cells (by omega)
      obtain ⟨B1, m1, d1, hcell, hrb⟩ := hc k hlt
      have hcell' := hEr.cell hcell
      have hrb' := hrb.ext hEr
      have hlq : q + m1 ≤ 140737488355328 := by
        have h1 := own.len
        have h2 := hrb.len
        have h3 := flatten_step_le Ls k (by rw [Hn.out]; exact hlt)
        simp only [List.length_cons] at h1
        omega
      clear hc hcell
      go_wp2_with (refine app_own (N := q + m1) (LM := t :: (Ls.take (k + 1)).flatten) rfl rfl rfl rfl hEr own hrb' rfl (by rw [flatten_take_succ Ls k (by rw [Hn.out]; exact hlt)]; rfl) hlq ?_; intro A3 c3 W3 own3 hE3)
      go_roundw
      case rel => exact ⟨k + 1, _, c3, A3, by omega, by go_num, rfl, own3, hE3⟩
      case measure => simp [intOf]; omega
    · obtain rfl : k = n := by omega
      rw [List.take_of_length_le (by rw [Hn.out]; exact Nat.le_refl _)] at own
      have hq : q ≤ 140737488355200 := by
        have h1 := own.len
        simp only [List.length_cons] at h1
        omega
      go_wp2_with fail
      refine (hsum_any B q d _ wr own.rb hq).mono ?_
      rintro e W4 ⟨A4, c4, rfl, own4, hE4⟩
      go_wp2_with fail
      go_ret
      exact ⟨A4, c4, rfl, own4.base hEr.size, hEr.trans hE4⟩
theorem hsame_any (A B : Option Addr) (n c m d : Nat) (L M : List UInt8) (w : World) (hr : RB w A n c L) (hs : RB w B m d M) :
    Calls Try.prog 47 #[.slice A n c, .slice B m d] w fun e w' => e = .returned (.bool (decide (L = M))) ∧ w = w' := by
  go_enter Try.func47, Try.ntmps47
  go_wp2_with fail
  refine (equal_any A B n c m d L M w hr hs).mono ?_
  rintro e w1 ⟨rfl, rfl⟩
  go_wp2_with fail
  go_ret
  exact ⟨rfl, rfl⟩
end Go.Proofs.Ytkndgpjamijbbaa
namespace Go.Proofs.Ytkndgpjamijbbaa
set_option maxRecDepth 100000
open Go Go.RowKit
def within (x lo hi : Int) : Int := if lo ≤ x ∧ x ≤ hi then x else lo + x % (hi - lo + 1)
theorem within_in (x lo hi : Int) (h : lo ≤ hi) : lo ≤ within x lo hi ∧ within x lo hi ≤ hi := by
  unfold within
  by_cases hx : lo ≤ x ∧ x ≤ hi
  · rw [if_pos hx]; exact hx
  · rw [if_neg hx]
    have h1 := Int.emod_nonneg x (b := hi - lo + 1) (by omega)
    have h2 := Int.emod_lt_of_pos x (b := hi - lo + 1) (by omega)
    omega
theorem tmod_is (x d : Int) (hd : 0 < d) : x % d = (if 0 ≤ x.tmod d then x.tmod d else x.tmod d + d) ∧ -d < x.tmod d ∧ x.tmod d < d := by
  have h1 := Int.tmod_lt_of_pos x hd
  have h2 : -d < x.tmod d := by
    have h3 := Int.tmod_lt_of_pos (-x) hd
    rw [Int.neg_tmod] at h3
    omega
  refine ⟨?_, h2, h1⟩
  have e := Int.mul_tdiv_add_tmod x d
  have e2 : x % d = x.tmod d % d := by
    conv => lhs; rw [← e]
    rw [Int.mul_add_emod_self_left]
  rw [e2]
  by_cases h : 0 ≤ x.tmod d
  · rw [if_pos h, Int.emod_eq_of_lt h h1]
  · rw [if_neg h, ← Int.add_emod_right, Int.emod_eq_of_lt (by omega) (by omega)]
theorem within_fin {x lo hi r : Int} (h0 : 0 ≤ lo) (h1 : lo ≤ hi) (h2 : hi ≤ 140737488355328) (hout : ¬ (lo ≤ x ∧ x ≤ hi))
    (hr : (0 ≤ x.tmod (hi - lo + 1) → r = lo + x.tmod (hi - lo + 1)) ∧ (¬ 0 ≤ x.tmod (hi - lo + 1) → r = lo + (x.tmod (hi - lo + 1) + hi - lo + 1))) : r = within x lo hi := by
  obtain ⟨e, e1, e2⟩ := tmod_is x (hi - lo + 1) (by omega)
  unfold within
  rw [if_neg hout, e]
  by_cases h : 0 ≤ x.tmod (hi - lo + 1)
  · rw [if_pos h, hr.1 h]
  · rw [if_neg h, hr.2 h]; omega
set_option maxHeartbeats 1000000 in
theorem within_any (x lo hi : Int) (w : World) (hx0 : -9223372036854775808 ≤ x) (hx1 : x ≤ 9223372036854775807) (h0 : 0 ≤ lo) (h1 : lo ≤ hi) (h2 : hi ≤ 140737488355328) :
    Calls Try.prog 18 #[.int .i64 x, .int .i64 lo, .int .i64 hi] w fun e w' => e = .returned (.int .i64 (within x lo hi)) ∧ w = w' := by
  by_cases a1 : lo ≤ x
  · have d1 : decide (lo ≤ x) = true := by simpa using a1
    by_cases a2 : x ≤ hi
    · have d2 : decide (x ≤ hi) = true := by simpa using a2
      have hw : within x lo hi = x := by unfold within; rw [if_pos ⟨a1, a2⟩]
      rw [hw]
      go_enter Try.func18, Try.ntmps18
      go_wp2_with fail
      go_ret
      exact ⟨rfl, rfl⟩
    · have d2 : decide (x ≤ hi) = false := by simpa using a2
      have hout : ¬ (lo ≤ x ∧ x ≤ hi) := fun h => a2 h.2
      have Hout := Lib.hid hout
      clear hout a1 a2
      go_enter Try.func18, Try.ntmps18
      go_wp2_with fail
      all_goals
        go_ret
        refine ⟨?_, rfl⟩
        obtain ⟨_, e1, e2⟩ := tmod_is x (hi - lo + 1) (by omega)
        refine congrArg (fun z => Ending.returned (.int .i64 z)) (within_fin h0 h1 h2 Hout.out ⟨fun h => ?_, fun h => ?_⟩)
        · unfold wrap64; omega
        · unfold wrap64; omega
  · have d1 : decide (lo ≤ x) = false := by simpa using a1
    have hout : ¬ (lo ≤ x ∧ x ≤ hi) := fun h => a1 h.1
    have Hout := Lib.hid hout
    clear hout a1
    go_enter Try.func18, Try.ntmps18
    go_wp2_with fail
    all_goals
      go_ret
      refine ⟨?_, rfl⟩
      obtain ⟨_, e1, e2⟩ := tmod_is x (hi - lo + 1) (by omega)
      refine congrArg (fun z => Ending.returned (.int .i64 z)) (within_fin h0 h1 h2 Hout.out ⟨fun h => ?_, fun h => ?_⟩)
      · unfold wrap64; omega
      · unfold wrap64; omega
end Go.Proofs.Ytkndgpjamijbbaa
namespace Go.Proofs.Ytkndgpjamijbbaa
set_option maxRecDepth 100000
open Go Go.RowKit
theorem OB.plain {w : World} {base n c : Nat} {ad : Addr} {L : List UInt8} (h : OB w base (some ad) n c L) : ∃ g, ad = ⟨g, 0, none⟩ := by
  rcases h.2 with ⟨e, _⟩ | ⟨g', cap, cur, e, _⟩
  · cases e
  · injection e with e1 e2 e3
    injection e1 with e1
    exact ⟨g', e1⟩
theorem OB.set {w : World} {base n c g : Nat} {L : List UInt8} (h : OB w base (some ⟨g, 0, none⟩) n c L) (i : Nat) (b : UInt8) :
    OB (w.setCell ⟨g, i, none⟩ (.int .u8 (u8i b))) base (some ⟨g, 0, none⟩) n c (L.set i b) ∧ w.grownBy (w.setCell ⟨g, i, none⟩ (.int .u8 (u8i b))) (some g) := by
  have h2 := World.ownsRow.stored h i (.int .u8 (u8i b))
  have e : bv (L.set i b) = (bv L).set i (.int .u8 (u8i b)) := by simp [bv, List.map_set]
  unfold OB
  rw [e]
  exact h2
theorem OB.cell {w : World} {base n c g : Nat} {L : List UInt8} (h : OB w base (some ⟨g, 0, none⟩) n c L) {i : Nat} (hi : i < n) : w.cell? ⟨g, i, none⟩ = some (.int .u8 (u8i (ub L i))) := by
  obtain ⟨ad, e, hc⟩ := h.rb.cells (by omega)
  injection e with e
  subst e
  have := hc i hi
  rw [add_plain] at this
  exact this
theorem OB.frozen {w : World} {base n c g : Nat} {L : List UInt8} (h : OB w base (some ⟨g, 0, none⟩) n c L) (i : Nat) : w.frozen? ⟨g, i, none⟩ = false := World.ownsRow.frozenAt h i
theorem OB.ge {w : World} {base n c g : Nat} {L : List UInt8} (h : OB w base (some ⟨g, 0, none⟩) n c L) : base ≤ g := (h.lt rfl).1
theorem RB.litM (w : World) (L : List UInt8) (fr : Nat × Nat) {n : Nat} (hn : L.length = n) (hm : n ≤ maxLen) : RB (w.alloc (.cells (bv L).toArray 5 fr)) (some ⟨w.heap.size, 0, none⟩) n n L := by
  refine ⟨hn, Nat.le_refl _, hm, fun _ => ⟨_, rfl, fun j hj => ?_⟩⟩
  rw [add_plain, cell_of_row _ _ _ _ _ fr (heap_alloc_new w _), List.getElem?_toArray]
  exact bv_get (by omega)
theorem RB.take {w : World} {A : Option Addr} {n c : Nat} {L : List UInt8} (h : RB w A n c L) {k : Nat} (hk : k ≤ n) : RB w A k c (L.take k) := by
  have h1 := h.cut (i := 0) (j := k) (c' := c) (A' := A) (by omega) (by omega) rfl (fun _ => by cases A <;> simp [Addr.add])
  simpa using h1
end Go.Proofs.Ytkndgpjamijbbaa
namespace Go.Proofs.Ytkndgpjamijbbaa
set_option maxRecDepth 100000
open Go Go.RowKit
def MP.rbb (Ls : List (List UInt8)) : MP Ext := ⟨fun u w => ∃ A n c, u = .slice A n c ∧ RBB w A n c Ls, fun _ _ _ e ⟨A, n, c, h1, h2⟩ => ⟨A, n, c, h1, h2.ext e⟩⟩
theorem RBB.of1 {w : World} {B0 : Option Addr} {m0 d0 : Nat} {L0 : List UInt8} (h0 : RB w B0 m0 d0 L0) (t : TypeId) : RBB (w.alloc (.cells #[.slice B0 m0 d0] t)) (some ⟨w.heap.size, 0, none⟩) 1 1 [L0] :=
  ⟨rfl, Nat.le_refl _, small_maxLen (by decide), fun _ => ⟨_, rfl, fun j hj => by
    have hB := Blk.new w t #[.slice B0 m0 d0]
    have hE := Ext.new w (.cells #[.slice B0 m0 d0] t)
    rw [add_plain]
    have hc : j = 0 := by omega
    rcases hc with rfl
    · exact ⟨_, _, _, hB.cell (i := 0) rfl, h0.ext hE⟩⟩⟩
theorem run_ss1 (w : World) (B0 : Option Addr) (m0 d0 : Nat) : (Instr.buildSlice 23 1 #[(0, Value.slice B0 m0 d0)]).run Try.prog w = .ok (.slice (some ⟨w.heap.size, 0, none⟩) 1 1) (w.alloc (.cells #[.slice B0 m0 d0] 22)) := by
  go_simp
theorem Runs.ss1 {o : Oper} {ρ : Operand → Value} {w : World} {G : Value → World → Prop} {y0 : Operand} {B0 : Option Addr} {m0 d0 : Nat} {L0 : List UInt8} (ho : o.op = .buildSlice 23 1 #[(0, y0)]) (e0 : ρ y0 = .slice B0 m0 d0) (h0 : RB w B0 m0 d0 L0)
    (h : ∀ w', Ext w w' → RBB w' (some ⟨w.heap.size, 0, none⟩) 1 1 [L0] → G (.slice (some ⟨w.heap.size, 0, none⟩) 1 1) w') : Runs Try.prog o ρ w G := by
  refine Runs.of_run (r := .slice (some ⟨w.heap.size, 0, none⟩) 1 1) ?_ (h _ (Ext.new w _) (RBB.of1 h0 22))
  unfold execOp
  simp only [ho, e0, List.map_toArray, List.map_cons, List.map_nil, Sem.run_bind, run_ss1, Result.andThen_ok, Sem.run_pure]
theorem RBB.of2 {w : World} {B0 B1 : Option Addr} {m0 d0 m1 d1 : Nat} {L0 L1 : List UInt8} (h0 : RB w B0 m0 d0 L0) (h1 : RB w B1 m1 d1 L1) (t : TypeId) : RBB (w.alloc (.cells #[.slice B0 m0 d0, .slice B1 m1 d1] t)) (some ⟨w.heap.size, 0, none⟩) 2 2 [L0, L1] :=
  ⟨rfl, Nat.le_refl _, small_maxLen (by decide), fun _ => ⟨_, rfl, fun j hj => by
    have hB := Blk.new w t #[.slice B0 m0 d0, .slice B1 m1 d1]
    have hE := Ext.new w (.cells #[.slice B0 m0 d0, .slice B1 m1 d1] t)
    rw [add_plain]
    have hc : j = 0 ∨ j = 1 := by omega
    rcases hc with rfl | rfl
    · exact ⟨_, _, _, hB.cell (i := 0) rfl, h0.ext hE⟩
    · exact ⟨_, _, _, hB.cell (i := 1) rfl, h1.ext hE⟩⟩⟩
theorem run_ss2 (w : World) (B0 : Option Addr) (m0 d0 : Nat) (B1 : Option Addr) (m1 d1 : Nat) : (Instr.buildSlice 23 2 #[(0, Value.slice B0 m0 d0), (1, Value.slice B1 m1 d1)]).run Try.prog w = .ok (.slice (some ⟨w.heap.size, 0, none⟩) 2 2) (w.alloc (.cells #[.slice B0 m0 d0, .slice B1 m1 d1] 22)) := by
  go_simp
theorem Runs.ss2 {o : Oper} {ρ : Operand → Value} {w : World} {G : Value → World → Prop} {y0 y1 : Operand} {B0 B1 : Option Addr} {m0 d0 m1 d1 : Nat} {L0 L1 : List UInt8} (ho : o.op = .buildSlice 23 2 #[(0, y0), (1, y1)]) (e0 : ρ y0 = .slice B0 m0 d0) (e1 : ρ y1 = .slice B1 m1 d1) (h0 : RB w B0 m0 d0 L0) (h1 : RB w B1 m1 d1 L1)
    (h : ∀ w', Ext w w' → RBB w' (some ⟨w.heap.size, 0, none⟩) 2 2 [L0, L1] → G (.slice (some ⟨w.heap.size, 0, none⟩) 2 2) w') : Runs Try.prog o ρ w G := by
  refine Runs.of_run (r := .slice (some ⟨w.heap.size, 0, none⟩) 2 2) ?_ (h _ (Ext.new w _) (RBB.of2 h0 h1 22))
  unfold execOp
  simp only [ho, e0, e1, List.map_toArray, List.map_cons, List.map_nil, Sem.run_bind, run_ss2, Result.andThen_ok, Sem.run_pure]
theorem RBB.of3 {w : World} {B0 B1 B2 : Option Addr} {m0 d0 m1 d1 m2 d2 : Nat} {L0 L1 L2 : List UInt8} (h0 : RB w B0 m0 d0 L0) (h1 : RB w B1 m1 d1 L1) (h2 : RB w B2 m2 d2 L2) (t : TypeId) : RBB (w.alloc (.cells #[.slice B0 m0 d0, .slice B1 m1 d1, .slice B2 m2 d2] t)) (some ⟨w.heap.size, 0, none⟩) 3 3 [L0, L1, L2] :=
  ⟨rfl, Nat.le_refl _, small_maxLen (by decide), fun _ => ⟨_, rfl, fun j hj => by
    have hB := Blk.new w t #[.slice B0 m0 d0, .slice B1 m1 d1, .slice B2 m2 d2]
    have hE := Ext.new w (.cells #[.slice B0 m0 d0, .slice B1 m1 d1, .slice B2 m2 d2] t)
    rw [add_plain]
    have hc : j = 0 ∨ j = 1 ∨ j = 2 := by omega
    rcases hc with rfl | rfl | rfl
    · exact ⟨_, _, _, hB.cell (i := 0) rfl, h0.ext hE⟩
    · exact ⟨_, _, _, hB.cell (i := 1) rfl, h1.ext hE⟩
    · exact ⟨_, _, _, hB.cell (i := 2) rfl, h2.ext hE⟩⟩⟩
theorem run_ss3 (w : World) (B0 : Option Addr) (m0 d0 : Nat) (B1 : Option Addr) (m1 d1 : Nat) (B2 : Option Addr) (m2 d2 : Nat) : (Instr.buildSlice 23 3 #[(0, Value.slice B0 m0 d0), (1, Value.slice B1 m1 d1), (2, Value.slice B2 m2 d2)]).run Try.prog w = .ok (.slice (some ⟨w.heap.size, 0, none⟩) 3 3) (w.alloc (.cells #[.slice B0 m0 d0, .slice B1 m1 d1, .slice B2 m2 d2] 22)) := by
  go_simp
theorem Runs.ss3 {o : Oper} {ρ : Operand → Value} {w : World} {G : Value → World → Prop} {y0 y1 y2 : Operand} {B0 B1 B2 : Option Addr} {m0 d0 m1 d1 m2 d2 : Nat} {L0 L1 L2 : List UInt8} (ho : o.op = .buildSlice 23 3 #[(0, y0), (1, y1), (2, y2)]) (e0 : ρ y0 = .slice B0 m0 d0) (e1 : ρ y1 = .slice B1 m1 d1) (e2 : ρ y2 = .slice B2 m2 d2) (h0 : RB w B0 m0 d0 L0) (h1 : RB w B1 m1 d1 L1) (h2 : RB w B2 m2 d2 L2)
    (h : ∀ w', Ext w w' → RBB w' (some ⟨w.heap.size, 0, none⟩) 3 3 [L0, L1, L2] → G (.slice (some ⟨w.heap.size, 0, none⟩) 3 3) w') : Runs Try.prog o ρ w G := by
  refine Runs.of_run (r := .slice (some ⟨w.heap.size, 0, none⟩) 3 3) ?_ (h _ (Ext.new w _) (RBB.of3 h0 h1 h2 22))
  unfold execOp
  simp only [ho, e0, e1, e2, List.map_toArray, List.map_cons, List.map_nil, Sem.run_bind, run_ss3, Result.andThen_ok, Sem.run_pure]
end Go.Proofs.Ytkndgpjamijbbaa
namespace Go.Proofs.Ytkndgpjamijbbaa
set_option maxRecDepth 100000
open Go Go.RowKit
theorem run_app_full (ty : TypeId) {w : World} {ad : Addr} {n c : Nat} {B : Option Addr} {m d : Nat} {L M : List UInt8} (hr : RB w (some ad) n c L) (hx : RB w B m d M) (hfull : c < n + m) (hnm : n + m ≤ 140737488355328) :
    ∃ A' c' w', (Builtin.append_ #[22, 22] ty #[.slice (some ad) n c, .slice B m d]).run Try.prog w = .ok (.slice A' (n + m) c') w' ∧ OB w' w.heap.size A' (n + m) c' (L ++ M) ∧ Ext w w' := by
  obtain ⟨i0, hi0, hz0, hz1, hz2⟩ := info_parts info_u8
  have hl := hr.len
  have hm := hx.len
  have hnc := hr.room
  obtain ⟨bd, rfl, hb⟩ := hx.cells (by omega)
  have ha : 0 < n → ∀ j, j < n → w.cell? (ad.add j) = some (.int .u8 (u8i (ub L j))) := by
    intro hn
    obtain ⟨ad', h1, h2⟩ := hr.cells hn
    injection h1 with h1
    subst h1
    exact h2
  have hcA : ∀ j u, (bv L)[j]? = some u → w.cell? (ad.add j) = some u := by
    intro j u hu
    have hj : j < (bv L).length := by
      rcases Nat.lt_or_ge j (bv L).length with h1 | h1
      · exact h1
      · rw [List.getElem?_eq_none h1] at hu; cases hu
    rw [bv_length, hl] at hj
    rw [bv_get (by omega)] at hu
    injection hu with hu
    rw [← hu]
    exact ha (by omega) j hj
  have hcB : ∀ j u, (bv M)[j]? = some u → w.cell? (bd.add j) = some u := by
    intro j u hu
    have hj : j < (bv M).length := by
      rcases Nat.lt_or_ge j (bv M).length with h1 | h1
      · exact h1
      · rw [List.getElem?_eq_none h1] at hu; cases hu
    rw [bv_length, hm] at hj
    rw [bv_get (by omega)] at hu
    injection hu with hu
    rw [← hu]
    exact hb j hj
  have hrun := run_append_grow (P := Try.prog) w 22 ty 5 i0 (.int .u8 0) Try.underlying22 hi0 hz0 ad n c (bv L) (by rw [bv_length, hz1]; omega) hcA bd m d (bv M) (by rw [bv_length, hz1]; omega) hcB hfull (by omega) (by rw [hz2]; exact growslice_fits hfull (by omega))
  have hge := grownCap_ge w (n + m) c 5
  have hcm : grownCap w (n + m) c 5 ≤ maxLen := grownCap_le_maxLen w (n + m) c 5 (by unfold maxLen; omega)
  refine ⟨_, _, _, hrun, ⟨by rw [bv_length, List.length_append]; omega, .inr ⟨w.heap.size, _, _, rfl, Nat.le_refl _, heap_alloc_new w.drew _, hge, hcm, ?_, ?_⟩⟩, ((Ext.refl w).drew).alloc _⟩
  · simp only [Array.size_append, List.size_toArray, size_zeroCells, bv_length]
    have : (Value.cells (.int .u8 0)).size = 1 := rfl
    rw [this]
    omega
  · simp only [Array.toList_append, List.append_assoc]
    rw [bv_append, ← List.append_assoc]
    exact List.take_left' (by rw [List.length_append, bv_length, bv_length]; omega)
end Go.Proofs.Ytkndgpjamijbbaa
namespace Go.Proofs.Ytkndgpjamijbbaa
set_option maxRecDepth 100000
open Go Go.RowKit
/-- a key's number, as 32 bits -/
def keyW (key : Int) : UInt32 := UInt32.ofNat (key % 4294967296).toNat
def byteI (x : Int) : UInt8 := UInt8.ofNat (x % 256).toNat
theorem conv_key {P : Program} {w : World} {s t : TypeId} (hs : P.underlying s = some (.int .i64)) (ht : P.underlying t = some (.int .u32)) (x : Int) : (convert s t (.int .i64 x)).run P w = .ok (.int .u32 (u32i (keyW x))) w := by
  have e : IntKind.u32.wrap x = u32i (keyW x) := by
    rw [IntKind.wrap_u32]
    unfold u32i keyW
    rw [UInt32.toNat_ofNat']
    omega
  simp [convert, run_underlying hs, run_underlying ht, Conv.intToInt, e]
theorem conv_byte {P : Program} {w : World} {s t : TypeId} (hs : P.underlying s = some (.int .i64)) (ht : P.underlying t = some (.int .u8)) (x : Int) : (convert s t (.int .i64 x)).run P w = .ok (.int .u8 (u8i (byteI x))) w := by
  have e : IntKind.u8.wrap x = u8i (byteI x) := by
    rw [IntKind.wrap_u8]
    unfold u8i byteI
    rw [UInt8.toNat_ofNat']
    omega
  simp [convert, run_underlying hs, run_underlying ht, Conv.intToInt, e]
theorem conv_u32_i64' {P : Program} {w : World} {s t : TypeId} (hs : P.underlying s = some (.int .u32)) (ht : P.underlying t = some (.int .i64)) (x : UInt32) : (convert s t (.int .u32 (u32i x))).run P w = .ok (.int .i64 (u32i x)) w := by
  have e : IntKind.i64.wrap (u32i x) = u32i x := by
    have := x.toNat_lt
    unfold u32i
    rw [IntKind.wrap_i64]
    omega
  simp [convert, run_underlying hs, run_underlying ht, Conv.intToInt, e]
theorem bits_or32' (x y : UInt32) : bits .or .u32 (u32i x) (u32i y) = u32i (x ||| y) := by
  have h1 : BitVec.ofInt (IntKind.u32).bits (u32i x) = x.toBitVec := bitvec_u32 x
  have h2 : BitVec.ofInt (IntKind.u32).bits (u32i y) = y.toBitVec := bitvec_u32 y
  unfold bits
  simp only [h1, h2]
  exact u32_wrap_id (x ||| y)
def secretL (S : List UInt8) (key bit side : Int) : List UInt8 := tagged 10 (S ++ [(shr (keyW key) 24).toUInt8, (shr (keyW key) 16).toUInt8, (shr (keyW key) 8).toUInt8, (keyW key).toUInt8, byteI bit, byteI side])
def shownL (S : List UInt8) (key bit side : Int) : List UInt8 := tagged 11 (secretL S key bit side)
def digestW (M : List UInt8) : UInt32 := beP (tagged 13 M) 4
def toldB (d : UInt32) (j side : Nat) : Bool := decide (u32i (shr d (31 - j) &&& 1) = (side : Int))
set_option maxHeartbeats 1000000 in
theorem told_any (d : UInt32) (j side : Nat) (w : World) (hj : j < 32) :
    Calls Try.prog 116 #[.int .u32 (u32i d), .int .i64 (j : Int), .int .i64 (side : Int)] w fun e w' => e = .returned (.bool (toldB d j side)) ∧ Ext w w' := by
  go_enter Try.func116, Try.ntmps116
  go_upto_region 1 with (fail)
  refine seq_ext (n := 9) (by kernel_rfl) [.is (.int .u32 (u32i (d))), .is (.int .i64 (((j : Nat) : Int))), .is (.int .i64 ((31 : Int) - ((j : Nat) : Int))), .is (.int .u32 (u32i (shr d (31 - j)))), .is (.int .u32 (u32i ((shr d (31 - j)) &&& (1 : UInt32)))), .is (.int .i64 (u32i (shr d (31 - j) &&& 1))), .is (.int .i64 (((side : Nat) : Int))), .is (.bool (decide (u32i (shr d (31 - j) &&& 1) = ((side : Nat) : Int)))), .is (.bool (decide (u32i (shr d (31 - j) &&& 1) = ((side : Nat) : Int))))] rfl ⟨?_, ?_, ?_, ?_, ?_, ?_, ?_, ?_, ?_, trivial⟩ ?_
  · refine stepE rfl fun sdn sa sw sE sd sk => ?_
    have h0 : sa.eval (.tmp 0) = .int .u32 (u32i (d)) := sk.old 0 rfl
    exact Runs.move rfl h0 ⟨Ext.refl _, rfl⟩
  · refine stepE rfl fun sdn sa sw sE sd sk => ?_
    have h1 : sa.eval (.tmp 1) = .int .i64 (((j : Nat) : Int)) := sk.old 1 rfl
    exact Runs.move rfl h1 ⟨Ext.refl _, rfl⟩
  · refine stepE rfl fun sdn sa sw sE sd sk => ?_
    have h8 : sa.eval (.tmp 8) = .int .i64 (((j : Nat) : Int)) := sk.fact 1 8 rfl (sd 1 rfl)
    exact Runs.bin rfl rfl h8 (eqGuard_bin rfl) (bin_sub64 _ _ _ (by omega) (by omega)) ⟨Ext.refl _, rfl⟩
  · refine stepE rfl fun sdn sa sw sE sd sk => ?_
    have h7 : sa.eval (.tmp 7) = .int .u32 (u32i (d)) := sk.fact 0 7 rfl (sd 0 rfl)
    have h9 : sa.eval (.tmp 9) = .int .i64 ((31 : Int) - ((j : Nat) : Int)) := sk.fact 2 9 rfl (sd 2 rfl)
    exact Runs.bin rfl h7 h9 (eqGuard_bin rfl) (bin_shr32 _ _ (31 - j) _ (by omega) (by omega)) ⟨Ext.refl _, rfl⟩
  · refine stepE rfl fun sdn sa sw sE sd sk => ?_
    have h10 : sa.eval (.tmp 10) = .int .u32 (u32i (shr d (31 - j))) := sk.fact 3 10 rfl (sd 3 rfl)
    have hone : (.int .u32 1 : Value) = .int .u32 (u32i (1 : UInt32)) := rfl
    exact Runs.bin (v := .int .u32 (u32i (1 : UInt32))) rfl h10 hone (eqGuard_bin rfl) (bin_and32 _ _ (1 : UInt32)) ⟨Ext.refl _, rfl⟩
  · refine stepE rfl fun sdn sa sw sE sd sk => ?_
    have h11 : sa.eval (.tmp 11) = .int .u32 (u32i ((shr d (31 - j)) &&& (1 : UInt32))) := sk.fact 4 11 rfl (sd 4 rfl)
    exact Runs.conv rfl h11 (conv_u32_i64' Try.underlying84 Try.underlying3 _) ⟨Ext.refl _, rfl⟩
  · refine stepE rfl fun sdn sa sw sE sd sk => ?_
    have h2 : sa.eval (.tmp 2) = .int .i64 (((side : Nat) : Int)) := sk.old 2 rfl
    exact Runs.move rfl h2 ⟨Ext.refl _, rfl⟩
  · refine stepE rfl fun sdn sa sw sE sd sk => ?_
    have h12 : sa.eval (.tmp 12) = .int .i64 (u32i (shr d (31 - j) &&& 1)) := sk.fact 5 12 rfl (sd 5 rfl)
    have h13 : sa.eval (.tmp 13) = .int .i64 (((side : Nat) : Int)) := sk.fact 6 13 rfl (sd 6 rfl)
    exact Runs.bin rfl h12 h13 (by rfl) (bin_eql _ _ _ _) ⟨Ext.refl _, rfl⟩
  · refine stepE rfl fun sdn sa sw sE sd sk => ?_
    have h14 : sa.eval (.tmp 14) = .bool (decide (u32i (shr d (31 - j) &&& 1) = ((side : Nat) : Int))) := sk.fact 7 14 rfl (sd 7 rfl)
    exact Runs.assign rfl h14 ⟨Ext.refl _, rfl⟩
  intro vals W1 hE hv
  have e0 : vals 0 = .int .u32 (u32i (d)) := hv 0 (by omega) 7 rfl
  have e1 : vals 1 = .int .i64 (((j : Nat) : Int)) := hv 1 (by omega) 8 rfl
  have e2 : vals 2 = .int .i64 ((31 : Int) - ((j : Nat) : Int)) := hv 2 (by omega) 9 rfl
  have e3 : vals 3 = .int .u32 (u32i (shr d (31 - j))) := hv 3 (by omega) 10 rfl
  have e4 : vals 4 = .int .u32 (u32i ((shr d (31 - j)) &&& (1 : UInt32))) := hv 4 (by omega) 11 rfl
  have e5 : vals 5 = .int .i64 (u32i (shr d (31 - j) &&& 1)) := hv 5 (by omega) 12 rfl
  have e6 : vals 6 = .int .i64 (((side : Nat) : Int)) := hv 6 (by omega) 13 rfl
  have e7 : vals 7 = .bool (decide (u32i (shr d (31 - j) &&& 1) = ((side : Nat) : Int))) := hv 7 (by omega) 14 rfl
  have e8 : vals 8 = .bool (decide (u32i (shr d (31 - j) &&& 1) = ((side : Nat) : Int))) := hv 8 (by omega) 6 rfl
  simp only [putAll, Act.put, List.take_succ_cons, List.take_zero, List.drop_succ_cons, List.drop_zero, List.drop_nil, List.take_nil, Nat.reduceAdd, List.setIfInBounds_toArray, List.set_cons_succ, List.set_cons_zero, e0, e1, e2, e3, e4, e5, e6, e7, e8]
  clear hv e0 e1 e2 e3 e4 e5 e6 e7 e8
  go_wp2_with fail
  go_ret
  exact ⟨rfl, hE⟩
set_option maxHeartbeats 1000000 in
theorem digest_any (A : Option Addr) (n c : Nat) (M : List UInt8) (w : World) (hr : RB w A n c M) (hn : n ≤ 140737488355000) :
    Calls Try.prog 115 #[.slice A n c] w fun e w' => e = .returned (.int .u32 (u32i (digestW M))) ∧ Ext w w' := by
  have hl := hr.len
  have r1 := RBB.of1 hr 22
  have hE2 := Ext.new w (.cells #[.slice A n c] 22)
  have ht := htagged_any 13 _ 1 1 _ _ r1 (by simp only [List.flatten_cons, List.flatten_nil, List.append_nil, hl]; omega)
  have e13 : u8i 13 = 13 := rfl
  rw [e13, show [M].flatten = M from by simp] at ht
  have Ht := Lib.hid ht
  clear ht hl
  go_enter Try.func115, Try.ntmps115
  go_wp2_with fail
  refine Ht.out.mono ?_
  rintro e w3 ⟨A3, c3, rfl, own, hE3⟩
  obtain ⟨T, hT⟩ : ∃ T, T = tagged 13 M := ⟨_, rfl⟩
  rw [← hT] at own
  have HT := Lib.hid hT
  clear hT
  have r3 := own.rb
  have hc3 := r3.room
  have hc4 := r3.cap
  unfold maxLen at hc4
  obtain ⟨ad, rfl, hc⟩ := r3.cells (by omega)
  go_wp2_with fail
  go_loop [3, 11] (fun v i => ∃ k : Nat, k ≤ 4 ∧ i = .int .i64 k ∧ v = .int .u32 (u32i (beP T k))) (fun _ i => 4 - (intOf i).toNat)
  case atStart => exact ⟨0, by omega, rfl, rfl⟩
  case round =>
    obtain ⟨k, hk, rfl, rfl⟩ := hrel
    by_cases hlt : k < 4
    · have y1 := hc k (by omega)
      have e2 := fun w' : World => conv_u8_u32 (P := Try.prog) (w := w') Try.underlying5 Try.underlying84 (ub T k)
      have e3 : u32i (beP T k) * 256 % 4294967296 = u32i (shl (beP T k) 8) := by
        unfold u32i
        rw [shl_toNat]
        omega
      have e4 := bits_or32' (shl (beP T k) 8) (ub T k).toUInt32
      go_wp2_with fail
      go_round
      case rel => exact ⟨k + 1, by omega, by go_num, rfl⟩
      case measure => simp [intOf]; omega
    · obtain rfl : k = 4 := by omega
      go_wp2_with fail
      go_ret
      exact ⟨by rw [HT.out]; rfl, hE2.trans hE3⟩
end Go.Proofs.Ytkndgpjamijbbaa

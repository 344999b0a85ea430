/-
  Small words beside the others. Plain theorems. What the frames of the statements hand on, in the words of the walks. Plain theorems. Rows of ints that came in. Plain theorems. Byte literals in a region. Plain theorems. Slices of byte slices that are read. Plain theorems. slices.Clone and bytes.Equal, walked; and the cutting of byte slices. A region that draws its order, one of whose operations appends to a row of the call's own. Plain theorems.
-/
import Derived.Test.YthggfbpdhkpkjaaLawMany10Q4
import Derived.ChangeSlices
import Derived.ChangeArms
namespace Go.Proofs.Ythggfbpdhkpkjaa
set_option maxRecDepth 100000
open Go Go.RowKit
theorem RB.to_ {w : World} {A : Option Addr} {n n' c : Nat} {L L' : List UInt8} (h : RB w A n c L) (hn : n = n') (hL : L = L') : RB w A n' c L' := by subst hn hL; exact h
theorem OB.to_ {w : World} {b : Nat} {A : Option Addr} {n n' c : Nat} {L L' : List UInt8} (h : OB w b A n c L) (hn : n = n') (hL : L = L') : OB w b A n' c L' := by subst hn hL; exact h
/-- what an append to a row of the call's own turns lies beyond all that was there -/
theorem OB.step {a w w' : World} {A : Option Addr} {n c : Nat} {L : List UInt8} (h : OB w a.heap.size A n c L) (hE : Ext a w) (g : w.grownBy w' (blk A)) : Ext a w' := hE.then_grown g (fun k hk => (h.lt hk).1)
theorem RB.lit (w : World) (L : List UInt8) {n : Nat} (hn : L.length = n) (hm : n ≤ maxLen) : RB (w.alloc (.cells (bv L).toArray 5)) (some ⟨w.heap.size, 0, none⟩) n n L := (OB.lit w L hn hm).rb
theorem big_maxLen {n : Nat} (h : n ≤ 281474976710656) : n ≤ maxLen := by unfold maxLen; omega
theorem small_maxLen {n : Nat} (h : n ≤ 1000000) : n ≤ maxLen := by unfold maxLen; omega
theorem app_own {ops : Array Oper} {rest : List Oper} {o : Oper} {a : Act} {Q : Exit → Act → World → Prop} {w0 w : World} (hgd : o.guard = none) {s x : Operand} (ho : o.op = .call { callee := .builtin .append, args := #[s, x], argTypes := #[22, 22] })
    {A : Option Addr} {n c : Nat} (hs : a.eval s = .slice A n c) {B : Option Addr} {m d : Nat} (hx : a.eval x = .slice B m d) (hE : Ext w0 w)
    {L M : List UInt8} (hown : OB w w0.heap.size A n c L) (hr : RB w B m d M) {N : Nat} {LM : List UInt8} (hN : n + m = N) (hL : L ++ M = LM) (hnm : N ≤ 140737488355328)
    (h : ∀ A' c' w', OB w' w0.heap.size A' N c' LM → Ext w0 w' → wpList Try.prog ops Q rest (a.put o.dst (.slice A' N c')) w') :
    wpList Try.prog ops Q (o :: rest) a w := by
  subst hN hL
  exact app_law hgd ho hs hx hown hr hnm hE.size fun A' c' w' h1 h2 _ _ => h A' c' w' h1 (hown.step hE h2)
theorem padZeros_lt (n : Nat) : padZeros n < 64 := by unfold padZeros; omega
theorem padZeros_at {n r j z : Nat} (hn : n = 64 * j + r) (hr : r < 64) (hz : z ≤ padZeros n) : (r + 1 + z) % 64 = 56 ↔ z = padZeros n := by
  unfold padZeros at *
  omega
theorem be8_take (N : Nat) (i : Nat) (hi : i < 8) : (be8 N).take (i + 1) = (be8 N).take i ++ [UInt8.ofNat (N / 2 ^ (8 * (7 - i)))] := by
  rw [List.take_succ_eq_append_getElem (by rw [be8_length]; exact hi)]
  congr 2
  simp [be8]
theorem conv_u64_u8 {P : Program} {w : World} {s t : TypeId} (hs : P.underlying s = some (.int .u64)) (ht : P.underlying t = some (.int .u8)) (x : Nat) : (convert s t (.int .u64 (x : Int))).run P w = .ok (.int .u8 (u8i (UInt8.ofNat x))) w := by
  have e : IntKind.u8.wrap (x : Int) = u8i (UInt8.ofNat x) := by
    unfold u8i
    rw [IntKind.wrap_u8, UInt8.toNat_ofNat']
    omega
  simp [convert, run_underlying hs, run_underlying ht, Conv.intToInt, e]
theorem conv_i64_u64 {P : Program} {w : World} {s t : TypeId} (hs : P.underlying s = some (.int .i64)) (ht : P.underlying t = some (.int .u64)) (x : Int) (k : Nat) (h : x = (k : Int)) (hk : k < 18446744073709551616) : (convert s t (.int .i64 x)).run P w = .ok (.int .u64 (k : Int)) w := by
  subst h
  have e : IntKind.u64.wrap (k : Int) = (k : Int) := by rw [IntKind.wrap_u64]; omega
  simp [convert, run_underlying hs, run_underlying ht, Conv.intToInt, e]
theorem bin_mulu64 {P : Program} {w : World} (t : TypeId) (x y : Int) (k : Nat) (h : x * y = (k : Int)) (hk : k < 18446744073709551616) : (binOp .mul t (.int .u64 x) (.int .u64 y)).run P w = .ok (.int .u64 (k : Int)) w := by
  have e : IntKind.u64.wrap (x * y) = (k : Int) := by rw [h, IntKind.wrap_u64]; omega
  simp [binOp, Op.intArith, e]
theorem bin_shru64 {P : Program} {w : World} (t : TypeId) (kk : IntKind) (x k : Nat) (h : k ≤ 64) : (binOp .shr t (.int .u64 (x : Int)) (.int kk (k : Int))).run P w = .ok (.int .u64 ((x / 2 ^ k : Nat) : Int)) w := by
  have h1 : ¬ ((k : Int) < 0) := by omega
  have h2 : min (k : Int).toNat IntKind.u64.bits = k := by simp [IntKind.bits]; omega
  have e : ((x : Int)).fdiv (2 ^ k) = ((x / 2 ^ k : Nat) : Int) := by
    rw [Int.fdiv_eq_ediv_of_nonneg _ (Int.pow_nonneg (by decide))]
    simp
  simp only [binOp, Op.shift, if_neg h1, h2, e, Sem.run_pure]
theorem OB.not_blk {w : World} {b k : Nat} {A : Option Addr} {n c : Nat} {L : List UInt8} (h : OB w b A n c L) (hk : k < b) : blk A = none ∨ blk A ≠ some k := by
  refine .inr fun e => ?_
  have := (h.lt e).1
  omega
theorem flatMap_take_succ (hs : List UInt32) (k : Nat) (hk : k < hs.length) : (hs.take (k + 1)).flatMap bytesOf = (hs.take k).flatMap bytesOf ++ bytesOf (uw hs k) := by
  rw [List.take_succ_eq_append_getElem hk, List.flatMap_append]
  simp [uw, hk]
theorem drop_cut {M : List UInt8} {n i : Nat} (hM : M.length = n) : ((M.drop (64 * i)).take (n - 64 * i)).drop 64 = M.drop (64 * (i + 1)) := by
  rw [List.take_of_length_le (by simp; omega), List.drop_drop]
  rfl
end Go.Proofs.Ythggfbpdhkpkjaa
namespace Go.Proofs.Ythggfbpdhkpkjaa
set_option maxRecDepth 100000
open Go Go.RowKit
theorem wf_i64 {n : Int} (h : (Lit.int .i64 n).wf = true) : -9223372036854775808 ≤ n ∧ n ≤ 9223372036854775807 := by
  simp only [Lit.wf, Bool.and_eq_true, decide_eq_true_eq] at h
  have e1 : IntKind.i64.min = -9223372036854775808 := by rfl
  have e2 : IntKind.i64.max = 9223372036854775807 := by rfl
  rw [e1, e2] at h
  exact h
end Go.Proofs.Ythggfbpdhkpkjaa
namespace Go.Proofs.Ythggfbpdhkpkjaa
set_option maxRecDepth 100000
open Go Go.RowKit Go.ChangeShapes Go.WideShapes
/-- a slice of ints reads as zs -/
structure RI (w : World) (A : Option Addr) (n c : Nat) (zs : List Int) : Prop where
  room : n ≤ c
  cap : c ≤ maxLen
  cells : 0 < n → ∃ ad, A = some ad ∧ ∀ j, j < n → w.cell? (ad.add j) = some (.int .i64 (zs.getD j 0)) ∧ -9223372036854775808 ≤ zs.getD j 0 ∧ zs.getD j 0 ≤ 9223372036854775807
theorem RI.ext {w w' : World} {A : Option Addr} {n c : Nat} {zs : List Int} (h : RI w A n c zs) (e : Ext w w') : RI w' A n c zs :=
  ⟨h.room, h.cap, fun hn => by
    obtain ⟨ad, h1, h2⟩ := h.cells hn
    exact ⟨ad, h1, fun j hj => ⟨e.cell (h2 j hj).1, (h2 j hj).2⟩⟩⟩
variable {H : Type} {enc : TypeId × Value → H} {w : World} {base : Nat} {held : Bool}
theorem ints_arg {fuel : Nat} {cs : List Value} {x : DataW H × List MemPlace} (h : DataW.trod enc Try.prog w base (fun _ => true) held fuel 33 cs = some x) :
    ∃ (A : Option Addr) (n c : Nat) (zs : List Int), cs = [.slice A n c] ∧ RI w A n c zs := by
  rcases open_ints Try.underlying33 Try.underlying3 (by kernel_rfl) h with ⟨hcs, _⟩ | ⟨x, l, c, zs, hcs, _, hl, hm, hz, _, hcell, hwz⟩
  · exact ⟨none, 0, 0, [], hcs, ⟨Nat.le_refl _, Nat.zero_le _, fun h => absurd h (Nat.lt_irrefl _)⟩⟩
  · have h2 : zs.length = c := by simpa using hz
    refine ⟨some x, l, c, zs, hcs, ⟨hl, hm, fun _ => ⟨x, rfl, fun j hj => ?_⟩⟩⟩
    have hj2 : j < zs.length := by omega
    have e : zs.getD j 0 = zs[j] := by simp [hj2]
    refine ⟨hcell j hj2, ?_⟩
    rw [e]
    exact wf_i64 (hwz _ (List.getElem_mem hj2))
end Go.Proofs.Ythggfbpdhkpkjaa
namespace Go.Proofs.Ythggfbpdhkpkjaa
set_option maxRecDepth 100000
open Go Go.RowKit
theorem run_lit1 (w : World) (x0 : Int) : (Instr.buildSlice 22 1 #[(0, Value.int .u8 x0)]).run Try.prog w = .ok (.slice (some ⟨w.heap.size, 0, none⟩) 1 1) (w.alloc (.cells #[Value.int .u8 x0] 5)) := by
  go_simp
theorem Runs.lit1 {o : Oper} {ρ : Operand → Value} {w : World} {G : Value → World → Prop} {y0 : Operand} {b0 : UInt8} (ho : o.op = .buildSlice 22 1 #[(0, y0)]) (h0 : ρ y0 = .int .u8 (u8i b0))
    (h : ∀ w', Ext w w' → OB w' w.heap.size (some ⟨w.heap.size, 0, none⟩) 1 1 [b0] → G (.slice (some ⟨w.heap.size, 0, none⟩) 1 1) w') : Runs Try.prog o ρ w G := by
  refine Runs.of_run (r := .slice (some ⟨w.heap.size, 0, none⟩) 1 1) (w' := w.alloc (.cells (bv [b0]).toArray 5)) ?_ (h _ (Ext.new w _) (OB.lit w [b0] rfl (small_maxLen (by decide))))
  unfold execOp
  simp only [ho, h0, List.map_toArray, List.map_cons, List.map_nil, Sem.run_bind, run_lit1, Result.andThen_ok, Sem.run_pure]
  rfl

theorem run_lit2 (w : World) (x0 x1 : Int) : (Instr.buildSlice 22 2 #[(0, Value.int .u8 x0), (1, Value.int .u8 x1)]).run Try.prog w = .ok (.slice (some ⟨w.heap.size, 0, none⟩) 2 2) (w.alloc (.cells #[Value.int .u8 x0, Value.int .u8 x1] 5)) := by
  go_simp
theorem Runs.lit2 {o : Oper} {ρ : Operand → Value} {w : World} {G : Value → World → Prop} {y0 y1 : Operand} {b0 b1 : UInt8} (ho : o.op = .buildSlice 22 2 #[(0, y0), (1, y1)]) (h0 : ρ y0 = .int .u8 (u8i b0)) (h1 : ρ y1 = .int .u8 (u8i b1))
    (h : ∀ w', Ext w w' → OB w' w.heap.size (some ⟨w.heap.size, 0, none⟩) 2 2 [b0, b1] → G (.slice (some ⟨w.heap.size, 0, none⟩) 2 2) w') : Runs Try.prog o ρ w G := by
  refine Runs.of_run (r := .slice (some ⟨w.heap.size, 0, none⟩) 2 2) (w' := w.alloc (.cells (bv [b0, b1]).toArray 5)) ?_ (h _ (Ext.new w _) (OB.lit w [b0, b1] rfl (small_maxLen (by decide))))
  unfold execOp
  simp only [ho, h0, h1, List.map_toArray, List.map_cons, List.map_nil, Sem.run_bind, run_lit2, Result.andThen_ok, Sem.run_pure]
  rfl

theorem run_lit4 (w : World) (x0 x1 x2 x3 : Int) : (Instr.buildSlice 22 4 #[(0, Value.int .u8 x0), (1, Value.int .u8 x1), (2, Value.int .u8 x2), (3, Value.int .u8 x3)]).run Try.prog w = .ok (.slice (some ⟨w.heap.size, 0, none⟩) 4 4) (w.alloc (.cells #[Value.int .u8 x0, Value.int .u8 x1, Value.int .u8 x2, Value.int .u8 x3] 5)) := by
  go_simp
theorem Runs.lit4 {o : Oper} {ρ : Operand → Value} {w : World} {G : Value → World → Prop} {y0 y1 y2 y3 : Operand} {b0 b1 b2 b3 : UInt8} (ho : o.op = .buildSlice 22 4 #[(0, y0), (1, y1), (2, y2), (3, y3)]) (h0 : ρ y0 = .int .u8 (u8i b0)) (h1 : ρ y1 = .int .u8 (u8i b1)) (h2 : ρ y2 = .int .u8 (u8i b2)) (h3 : ρ y3 = .int .u8 (u8i b3))
    (h : ∀ w', Ext w w' → OB w' w.heap.size (some ⟨w.heap.size, 0, none⟩) 4 4 [b0, b1, b2, b3] → G (.slice (some ⟨w.heap.size, 0, none⟩) 4 4) w') : Runs Try.prog o ρ w G := by
  refine Runs.of_run (r := .slice (some ⟨w.heap.size, 0, none⟩) 4 4) (w' := w.alloc (.cells (bv [b0, b1, b2, b3]).toArray 5)) ?_ (h _ (Ext.new w _) (OB.lit w [b0, b1, b2, b3] rfl (small_maxLen (by decide))))
  unfold execOp
  simp only [ho, h0, h1, h2, h3, List.map_toArray, List.map_cons, List.map_nil, Sem.run_bind, run_lit4, Result.andThen_ok, Sem.run_pure]
  rfl

theorem run_lit6 (w : World) (x0 x1 x2 x3 x4 x5 : Int) : (Instr.buildSlice 22 6 #[(0, Value.int .u8 x0), (1, Value.int .u8 x1), (2, Value.int .u8 x2), (3, Value.int .u8 x3), (4, Value.int .u8 x4), (5, Value.int .u8 x5)]).run Try.prog w = .ok (.slice (some ⟨w.heap.size, 0, none⟩) 6 6) (w.alloc (.cells #[Value.int .u8 x0, Value.int .u8 x1, Value.int .u8 x2, Value.int .u8 x3, Value.int .u8 x4, Value.int .u8 x5] 5)) := by
  go_simp
theorem Runs.lit6 {o : Oper} {ρ : Operand → Value} {w : World} {G : Value → World → Prop} {y0 y1 y2 y3 y4 y5 : Operand} {b0 b1 b2 b3 b4 b5 : UInt8} (ho : o.op = .buildSlice 22 6 #[(0, y0), (1, y1), (2, y2), (3, y3), (4, y4), (5, y5)]) (h0 : ρ y0 = .int .u8 (u8i b0)) (h1 : ρ y1 = .int .u8 (u8i b1)) (h2 : ρ y2 = .int .u8 (u8i b2)) (h3 : ρ y3 = .int .u8 (u8i b3)) (h4 : ρ y4 = .int .u8 (u8i b4)) (h5 : ρ y5 = .int .u8 (u8i b5))
    (h : ∀ w', Ext w w' → OB w' w.heap.size (some ⟨w.heap.size, 0, none⟩) 6 6 [b0, b1, b2, b3, b4, b5] → G (.slice (some ⟨w.heap.size, 0, none⟩) 6 6) w') : Runs Try.prog o ρ w G := by
  refine Runs.of_run (r := .slice (some ⟨w.heap.size, 0, none⟩) 6 6) (w' := w.alloc (.cells (bv [b0, b1, b2, b3, b4, b5]).toArray 5)) ?_ (h _ (Ext.new w _) (OB.lit w [b0, b1, b2, b3, b4, b5] rfl (small_maxLen (by decide))))
  unfold execOp
  simp only [ho, h0, h1, h2, h3, h4, h5, List.map_toArray, List.map_cons, List.map_nil, Sem.run_bind, run_lit6, Result.andThen_ok, Sem.run_pure]
  rfl
end Go.Proofs.Ythggfbpdhkpkjaa
namespace Go.Proofs.Ythggfbpdhkpkjaa
set_option maxRecDepth 100000
open Go Go.RowKit
def lb (Ls : List (List UInt8)) (j : Nat) : List UInt8 := Ls.getD j []
structure RBB (w : World) (A : Option Addr) (n c : Nat) (Ls : List (List UInt8)) : Prop where
  len : Ls.length = n
  room : n ≤ c
  cap : c ≤ maxLen
  cells : 0 < n → ∃ ad, A = some ad ∧ ∀ j, j < n → ∃ B m d, w.cell? (ad.add j) = some (.slice B m d) ∧ RB w B m d (lb Ls j)
theorem RBB.ext {w w' : World} {A : Option Addr} {n c : Nat} {Ls : List (List UInt8)} (h : RBB w A n c Ls) (e : Ext w w') : RBB w' A n c Ls :=
  ⟨h.len, h.room, h.cap, fun hn => by
    obtain ⟨ad, ha, hc⟩ := h.cells hn
    refine ⟨ad, ha, fun j hj => ?_⟩
    obtain ⟨B, m, d, h1, h2⟩ := hc j hj
    exact ⟨B, m, d, e.cell h1, h2.ext e⟩⟩
theorem RBB.nil_ (w : World) : RBB w none 0 0 [] := ⟨rfl, Nat.le_refl _, Nat.zero_le _, fun h => absurd h (Nat.lt_irrefl _)⟩
theorem flatten_take_succ (Ls : List (List UInt8)) (k : Nat) (hk : k < Ls.length) : (Ls.take (k + 1)).flatten = (Ls.take k).flatten ++ lb Ls k := by
  rw [List.take_succ_eq_append_getElem hk, List.flatten_append]
  simp [lb, hk]
theorem flatten_take_le (Ls : List (List UInt8)) : ∀ k, ((Ls.take k).flatten).length ≤ Ls.flatten.length := by
  induction Ls with
  | nil => intro k; simp
  | cons L Ls ih =>
    intro k
    cases k with
    | zero => simp
    | succ k =>
      have := ih k
      simp only [List.take_succ_cons, List.flatten_cons, List.length_append]
      omega
theorem flatten_step_le (Ls : List (List UInt8)) (k : Nat) (hk : k < Ls.length) : ((Ls.take k).flatten).length + (lb Ls k).length ≤ Ls.flatten.length := by
  have h1 := flatten_take_le Ls (k + 1)
  rw [flatten_take_succ Ls k hk, List.length_append] at h1
  exact h1
end Go.Proofs.Ythggfbpdhkpkjaa
namespace Go.Proofs.Ythggfbpdhkpkjaa
set_option maxRecDepth 100000
open Go Go.RowKit
theorem RB.empty {w : World} {n c : Nat} {L : List UInt8} (h : RB w none n c L) : n = 0 ∧ L = [] := by
  have h1 := h.len
  rcases Nat.eq_zero_or_pos n with h0 | h0
  · subst h0
    exact ⟨rfl, List.eq_nil_of_length_eq_zero h1⟩
  · obtain ⟨ad, h2, _⟩ := h.cells h0
    cases h2
set_option maxHeartbeats 400000 in
theorem clone_any (A : Option Addr) (n c : Nat) (L : List UInt8) (w : World) (hr : RB w A n c L) (hn : n ≤ 140737488355328) :
    Calls Try.prog 70 #[.slice A n c] w fun e w' => ∃ B d, e = .returned (.slice B n d) ∧ OB w' w.heap.size B n d L ∧ Ext w w' := by
  go_enter Try.func70, Try.ntmps70
  rcases A with _ | A
  · go_wp2_with fail
    go_ret
    obtain ⟨h1, h2⟩ := hr.empty
    subst h1 h2
    exact ⟨none, 0, rfl, OB.none_ _ _, Ext.refl _⟩
  · have own0 := OB.lit w [] rfl (Nat.zero_le _)
    have hr0 := hr.ext (Ext.new w (.cells #[] 5))
    go_wp2_with (refine app_own (N := n) (LM := L) rfl rfl rfl rfl (Ext.new w _) own0 hr0 (by omega) rfl hn ?_; intro B d w1 hown1 hE1)
    go_ret
    exact ⟨B, d, rfl, hown1, hE1⟩
set_option maxHeartbeats 400000 in
theorem equal_any (A B : Option Addr) (n c m d : Nat) (L M : List UInt8) (w : World) (hr : RB w A n c L) (hs : RB w B m d M) :
    Calls Try.prog 96 #[.slice A n c, .slice B m d] w fun e w' => e = .returned (.bool (decide (L = M))) ∧ w = w' := by
  have h1 := run_str hr
  have h2 := run_str hs
  go_enter Try.func96, Try.ntmps96
  go_wp2_with fail
  go_ret
  refine ⟨?_, rfl⟩
  rw [str_toList, str_toList, beq_dec]
  rfl
end Go.Proofs.Ythggfbpdhkpkjaa
namespace Go.Proofs.Ythggfbpdhkpkjaa
set_option maxRecDepth 100000
open Go Go.RowKit
/-- What holds while the region runs: but for the row nothing older was turned; till the append the row is as it was. -/
def JA (w wI : World) (A : Option Addr) (n c : Nat) (L : List UInt8) (k : Nat) (done : Nat → Bool) (w' : World) : Prop :=
  w.grownBy w' (blk A) ∧ Ext wI w' ∧ (done k = false → OB w' wI.heap.size A n c L)
def Stays (A : Option Addr) (m : MP Ext) : Prop := ∀ u w w', w.grownBy w' (blk A) → m.p u w → m.p u w'
def StaysL (A : Option Addr) (k : Nat) : Nat → List (MP Ext) → Prop
  | _, [] => True
  | j, m :: l => (j = k ∨ Stays A m) ∧ StaysL A k (j + 1) l
theorem StaysL.at_ {A : Option Addr} {k : Nat} {F : List (MP Ext)} : ∀ {i j : Nat} {m : MP Ext}, StaysL A k i F → F[j]? = some m → i + j ≠ k → Stays A m := by
  induction F with
  | nil => intro i j m _ h; simp at h
  | cons x l ih =>
    intro i j m h hj hne
    cases j with
    | zero =>
      simp only [List.getElem?_cons_zero, Option.some.injEq] at hj
      subst hj
      rcases h.1 with e | e
      · exact absurd e (by omega)
      · exact e
    | succ j => exact ih (i := i + 1) (j := j) h.2 (by simpa only [List.getElem?_cons_succ] using hj) (by omega)
theorem stays_is (A : Option Addr) (v : Value) : Stays A (MP.is v) := fun _ _ _ _ h => h
/-- a byte slice that reads as L, in a block at or beyond q -/
def MP.rbf (q : Nat) (L : List UInt8) : MP Ext := ⟨fun u w => ∃ B n c, u = .slice B n c ∧ RB w B n c L ∧ ∀ k, blk B = some k → q ≤ k, fun _ _ _ e ⟨B, n, c, h1, h2, h3⟩ => ⟨B, n, c, h1, h2.ext e, h3⟩⟩
theorem RB.grown {w w' : World} {B : Option Addr} {n c : Nat} {L : List UInt8} (h : RB w B n c L) {row : Option Nat} (g : w.grownBy w' row) (hne : 0 < n → blk B ≠ row) : RB w' B n c L :=
  ⟨h.len, h.room, h.cap, fun hn => by
    obtain ⟨ad, rfl, hc⟩ := h.cells hn
    refine ⟨ad, rfl, fun j hj => g.cell (hc j hj) ?_⟩
    rw [block_of_add]
    exact hne hn⟩
theorem stays_rbf {A : Option Addr} {q : Nat} {L : List UInt8} (h : ∀ k, blk A = some k → k < q) : Stays A (MP.rbf q L) := by
  rintro u w w' g ⟨B, n, c, h1, h2, h3⟩
  refine ⟨B, n, c, h1, h2.grown g (fun hn e => ?_), h3⟩
  obtain ⟨ad, rfl, _⟩ := h2.cells hn
  have h4 := h3 ad.block rfl
  have h5 := h ad.block (by rw [← e]; rfl)
  omega
/-- a row of the call's own behind an append -/
def MP.app (base q : Nat) (A : Option Addr) (N : Nat) (LM : List UInt8) : MP Ext :=
  ⟨fun u w => ∃ A' c', u = .slice A' N c' ∧ OB w base A' N c' LM ∧ (blk A' = blk A ∨ ∃ k, blk A' = some k ∧ q ≤ k), fun _ _ _ e ⟨A', c', h1, h2, h3⟩ => ⟨A', c', h1, h2.ext e, h3⟩⟩
section
variable {ops : Array Oper} {H : List Tmp} {F : List (MP Ext)} {a0 : Act} {w0 wI : World} {A : Option Addr} {n c : Nat} {L : List UInt8} {i k : Nat} {o : Oper}
theorem stepEA (ho : o.guard = none) (hik : i ≠ k) (h : ∀ (done : Nat → Bool) (a : Act) (w : World), w0.grownBy w (blk A) → Ext wI w → (∀ j, (depsOf o).contains j = true → done j = true) → Known ops H F a0 done a w →
    Runs Try.prog o a.eval w fun v w' => Ext w w' ∧ factAt F i v w') : StepOK Try.prog ops H F (JA w0 wI A n c L k) a0 i o := by
  intro done a w hJ _ hd hk
  rw [if_pos (by simp [Region.wanted, ho])]
  refine (h done a w hJ.1 hJ.2.1 (deps_done hd) hk).mono fun v w' hg => ⟨fun j _ u hu => factAt_keep hg.1 j u hu, ⟨hJ.1.trans (hg.1.grownBy _), hJ.2.1.trans hg.1, fun hdk => ?_⟩, hg.2⟩
  refine (hJ.2.2 ?_).ext hg.1
  unfold setDone at hdk
  rw [if_neg (by omega)] at hdk
  exact hdk
theorem stepApp {s x : Operand} {M : List UInt8} {N : Nat} {LM : List UInt8} {q : Nat} (ho : o.guard = none) (hop : o.op = .call { callee := .builtin .append, args := #[s, x], argTypes := #[22, 22] })
    (hN : N ≤ 140737488355328) (hLM : L ++ M = LM) (hF : F[k]? = some (MP.app wI.heap.size q A N LM)) (hq : q ≤ w0.heap.size) (hst : StaysL A k 0 F)
    (h : ∀ (done : Nat → Bool) (a : Act) (w : World), w0.grownBy w (blk A) → Ext wI w → (∀ j, (depsOf o).contains j = true → done j = true) → Known ops H F a0 done a w →
      a.eval s = .slice A n c ∧ ∃ B m d, a.eval x = .slice B m d ∧ RB w B m d M ∧ n + m = N) : StepOK Try.prog ops H F (JA w0 wI A n c L k) a0 k o := by
  intro done a w hJ hnd hd hk
  rw [if_pos (by simp [Region.wanted, ho])]
  obtain ⟨hs, B, m, d, hx, hr, hnm⟩ := h done a w hJ.1 hJ.2.1 (deps_done hd) hk
  subst hnm
  subst hLM
  have own := hJ.2.2 hnd
  obtain ⟨A', c', w', hrun, h2, h3, h4⟩ := run_app (w := w) o.type own hr hN hJ.2.1.size
  refine Runs.of_run (r := .slice A' (n + m) c') (w' := w') ?_ ⟨fun j hj u hu => ?_, ⟨hJ.1.trans h3, own.step hJ.2.1 h3, fun hdk => ?_⟩, ?_⟩
  · unfold execOp
    simp only [hop, resolve, invoke, builtin, Sem.run_bind, Sem.run_pure, Result.andThen_ok, List.map_toArray, List.map_cons, List.map_nil, hs, hx, hrun]
  · have hjk : j ≠ k := fun e => by subst e; rw [hj] at hnd; cases hnd
    unfold factAt at hu ⊢
    cases hm : F[j]? with
    | none => trivial
    | some mm => rw [hm] at hu; exact hst.at_ (i := 0) hm (by omega) u w w' h3 hu
  · unfold setDone at hdk
    rw [if_pos rfl] at hdk
    cases hdk
  · unfold factAt
    rw [hF]
    refine ⟨A', c', rfl, h2, ?_⟩
    rcases h4 with e | e
    · exact .inl e
    · exact .inr ⟨_, e, Nat.le_trans hq hJ.1.size⟩
end
theorem par_app {ops : Array Oper} {id n : Nat} {a : Act} {w wI : World} {Q : Exit → Act → World → Prop} {A : Option Addr} {m c : Nat} {L : List UInt8} (k : Nat) (hE : Ext wI w) (own : OB w wI.heap.size A m c L)
    (hB : parB ops n = true) (F : List (MP Ext))
    (hsz : (dsts ops).all (fun t => decide (t < a.tmps.size)) = true)
    (steps : StepsOK Try.prog ops ((ops.toList.take n).filterMap (·.dst)) F (JA w wI A m c L k) a 0 (ops.toList.take n))
    (fin : ∀ (vals : Nat → Value) (w' : World), w.grownBy w' (blk A) → Ext wI w' → (∀ j, j < n → ∀ d, dstAt ops j = some d → factAt F j (vals j) w') → wpList Try.prog ops Q (ops.toList.drop n) (putAll a 0 (ops.toList.take n) vals) w') :
    (Code.region id ops true).wp Try.prog Q a w :=
  par_region (R := Ext) (by kernel_rfl) hB F (JA w wI A m c L k) ⟨(Ext.refl w).drew.grownBy _, hE.drew, fun _ => own⟩ (fun t ht => by simpa using List.all_eq_true.1 hsz t ht) steps (fun vals w' h1 h2 => fin vals w' h1.1 h1.2.1 h2)
    (fun d d' w h hj => ⟨hj.1, hj.2.1, fun hk => hj.2.2 ((h k).trans hk)⟩)
end Go.Proofs.Ythggfbpdhkpkjaa

/-
  Small words beside the others. Plain theorems. What the frames of the statements hand on, in the words of the walks. Plain theorems. Rows of ints that came in. Plain theorems. Byte literals in a region. Plain theorems.
-/
import Derived.Test.YtkndgpjamijbbaaLawCom26Q3
import Derived.ChangeSlices
import Derived.ChangeArms
namespace Go.Proofs.Ytkndgpjamijbbaa
set_option maxRecDepth 100000
open Go Go.RowKit
theorem RB.to_ {w : World} {A : Option Addr} {n n' c : Nat} {L L' : List UInt8} (h : RB w A n c L) (hn : n = n') (hL : L = L') : RB w A n' c L' := by subst hn hL; exact h
theorem OB.to_ {w : World} {b : Nat} {A : Option Addr} {n n' c : Nat} {L L' : List UInt8} (h : OB w b A n c L) (hn : n = n') (hL : L = L') : OB w b A n' c L' := by subst hn hL; exact h
/-- what an append to a row of the call's own turns lies beyond all that was there -/
theorem OB.step {a w w' : World} {A : Option Addr} {n c : Nat} {L : List UInt8} (h : OB w a.heap.size A n c L) (hE : Ext a w) (g : w.grownBy w' (blk A)) : Ext a w' := hE.then_grown g (fun k hk => (h.lt hk).1)
theorem RB.lit (w : World) (L : List UInt8) {n : Nat} (hn : L.length = n) (hm : n ≤ maxLen) : RB (w.alloc (.cells (bv L).toArray 5)) (some ⟨w.heap.size, 0, none⟩) n n L := (OB.lit w L hn hm).rb
theorem small_maxLen {n : Nat} (h : n ≤ 1000000) : n ≤ maxLen := by unfold maxLen; omega
theorem app_own {ops : Array Oper} {rest : List Oper} {o : Oper} {a : Act} {Q : Exit → Act → World → Prop} {w0 w : World} (hgd : o.guard = none) {s x : Operand} (ho : o.op = .call { callee := .builtin .append, args := #[s, x], argTypes := #[22, 22] })
    {A : Option Addr} {n c : Nat} (hs : a.eval s = .slice A n c) {B : Option Addr} {m d : Nat} (hx : a.eval x = .slice B m d) (hE : Ext w0 w)
    {L M : List UInt8} (hown : OB w w0.heap.size A n c L) (hr : RB w B m d M) {N : Nat} {LM : List UInt8} (hN : n + m = N) (hL : L ++ M = LM) (hnm : N ≤ 140737488355328)
    (h : ∀ A' c' w', OB w' w0.heap.size A' N c' LM → Ext w0 w' → wpList Try.prog ops Q rest (a.put o.dst (.slice A' N c')) w') :
    wpList Try.prog ops Q (o :: rest) a w := by
  subst hN hL
  exact app_law hgd ho hs hx hown hr hnm hE.size fun A' c' w' h1 h2 _ _ => h A' c' w' h1 (hown.step hE h2)
theorem padZeros_lt (n : Nat) : padZeros n < 64 := by unfold padZeros; omega
theorem padZeros_at {n r j z : Nat} (hn : n = 64 * j + r) (hr : r < 64) (hz : z ≤ padZeros n) : (r + 1 + z) % 64 = 56 ↔ z = padZeros n := by
  unfold padZeros at *
  omega
theorem be8_take (N : Nat) (i : Nat) (hi : i < 8) : (be8 N).take (i + 1) = (be8 N).take i ++ [UInt8.ofNat (N / 2 ^ (8 * (7 - i)))] := by
  rw [List.take_succ_eq_append_getElem (by rw [be8_length]; exact hi)]
  congr 2
  simp [be8]
theorem conv_u64_u8 {P : Program} {w : World} {s t : TypeId} (hs : P.underlying s = some (.int .u64)) (ht : P.underlying t = some (.int .u8)) (x : Nat) : (convert s t (.int .u64 (x : Int))).run P w = .ok (.int .u8 (u8i (UInt8.ofNat x))) w := by
  have e : IntKind.u8.wrap (x : Int) = u8i (UInt8.ofNat x) := by
    unfold u8i
    rw [IntKind.wrap_u8, UInt8.toNat_ofNat']
    omega
  simp [convert, run_underlying hs, run_underlying ht, Conv.intToInt, e]
theorem conv_i64_u64 {P : Program} {w : World} {s t : TypeId} (hs : P.underlying s = some (.int .i64)) (ht : P.underlying t = some (.int .u64)) (x : Int) (k : Nat) (h : x = (k : Int)) (hk : k < 18446744073709551616) : (convert s t (.int .i64 x)).run P w = .ok (.int .u64 (k : Int)) w := by
  subst h
  have e : IntKind.u64.wrap (k : Int) = (k : Int) := by rw [IntKind.wrap_u64]; omega
  simp [convert, run_underlying hs, run_underlying ht, Conv.intToInt, e]
theorem bin_mulu64 {P : Program} {w : World} (t : TypeId) (x y : Int) (k : Nat) (h : x * y = (k : Int)) (hk : k < 18446744073709551616) : (binOp .mul t (.int .u64 x) (.int .u64 y)).run P w = .ok (.int .u64 (k : Int)) w := by
  have e : IntKind.u64.wrap (x * y) = (k : Int) := by rw [h, IntKind.wrap_u64]; omega
  simp [binOp, Op.intArith, e]
theorem bin_shru64 {P : Program} {w : World} (t : TypeId) (kk : IntKind) (x k : Nat) (h : k ≤ 64) : (binOp .shr t (.int .u64 (x : Int)) (.int kk (k : Int))).run P w = .ok (.int .u64 ((x / 2 ^ k : Nat) : Int)) w := by
  have h1 : ¬ ((k : Int) < 0) := by omega
  have h2 : min (k : Int).toNat IntKind.u64.bits = k := by simp [IntKind.bits]; omega
  have e : ((x : Int)).fdiv (2 ^ k) = ((x / 2 ^ k : Nat) : Int) := by
    rw [Int.fdiv_eq_ediv_of_nonneg _ (Int.pow_nonneg (by decide))]
    simp
  simp only [binOp, Op.shift, if_neg h1, h2, e, Sem.run_pure]
theorem OB.not_blk {w : World} {b k : Nat} {A : Option Addr} {n c : Nat} {L : List UInt8} (h : OB w b A n c L) (hk : k < b) : blk A = none ∨ blk A ≠ some k := by
  refine .inr fun e => ?_
  have := (h.lt e).1
  omega
theorem flatMap_take_succ (hs : List UInt32) (k : Nat) (hk : k < hs.length) : (hs.take (k + 1)).flatMap bytesOf = (hs.take k).flatMap bytesOf ++ bytesOf (uw hs k) := by
  rw [List.take_succ_eq_append_getElem hk, List.flatMap_append]
  simp [uw, hk]
theorem drop_cut {M : List UInt8} {n i : Nat} (hM : M.length = n) : ((M.drop (64 * i)).take (n - 64 * i)).drop 64 = M.drop (64 * (i + 1)) := by
  rw [List.take_of_length_le (by simp; omega), List.drop_drop]
  rfl
end Go.Proofs.Ytkndgpjamijbbaa
namespace Go.Proofs.Ytkndgpjamijbbaa
set_option maxRecDepth 100000
open Go Go.RowKit
theorem wf_i64 {n : Int} (h : (Lit.int .i64 n).wf = true) : -9223372036854775808 ≤ n ∧ n ≤ 9223372036854775807 := by
  simp only [Lit.wf, Bool.and_eq_true, decide_eq_true_eq] at h
  have e1 : IntKind.i64.min = -9223372036854775808 := by rfl
  have e2 : IntKind.i64.max = 9223372036854775807 := by rfl
  rw [e1, e2] at h
  exact h
end Go.Proofs.Ytkndgpjamijbbaa
namespace Go.Proofs.Ytkndgpjamijbbaa
set_option maxRecDepth 100000
open Go Go.RowKit Go.ChangeShapes Go.WideShapes
/-- a slice of ints reads as zs -/
structure RI (w : World) (A : Option Addr) (n c : Nat) (zs : List Int) : Prop where
  room : n ≤ c
  cap : c ≤ maxLen
  cells : 0 < n → ∃ ad, A = some ad ∧ ∀ j, j < n → w.cell? (ad.add j) = some (.int .i64 (zs.getD j 0)) ∧ -9223372036854775808 ≤ zs.getD j 0 ∧ zs.getD j 0 ≤ 9223372036854775807
theorem RI.ext {w w' : World} {A : Option Addr} {n c : Nat} {zs : List Int} (h : RI w A n c zs) (e : Ext w w') : RI w' A n c zs :=
  ⟨h.room, h.cap, fun hn => by
    obtain ⟨ad, h1, h2⟩ := h.cells hn
    exact ⟨ad, h1, fun j hj => ⟨e.cell (h2 j hj).1, (h2 j hj).2⟩⟩⟩
variable {H : Type} {enc : TypeId × Value → H} {w : World} {base : Nat} {held : Bool}
theorem ints_arg {fuel : Nat} {cs : List Value} {x : DataW H × List MemPlace} (h : DataW.trod enc Try.prog w base (fun _ => true) held fuel 49 cs = some x) :
    ∃ (A : Option Addr) (n c : Nat) (zs : List Int), cs = [.slice A n c] ∧ RI w A n c zs := by
  rcases open_ints Try.underlying49 Try.underlying3 (by kernel_rfl) h with ⟨hcs, _⟩ | ⟨x, l, c, zs, hcs, _, hl, hm, hz, _, hcell, hwz⟩
  · exact ⟨none, 0, 0, [], hcs, ⟨Nat.le_refl _, Nat.zero_le _, fun h => absurd h (Nat.lt_irrefl _)⟩⟩
  · have h2 : zs.length = c := by simpa using hz
    refine ⟨some x, l, c, zs, hcs, ⟨hl, hm, fun _ => ⟨x, rfl, fun j hj => ?_⟩⟩⟩
    have hj2 : j < zs.length := by omega
    have e : zs.getD j 0 = zs[j] := by simp [hj2]
    refine ⟨hcell j hj2, ?_⟩
    rw [e]
    exact wf_i64 (hwz _ (List.getElem_mem hj2))
end Go.Proofs.Ytkndgpjamijbbaa
namespace Go.Proofs.Ytkndgpjamijbbaa
set_option maxRecDepth 100000
open Go Go.RowKit
theorem run_lit1 (w : World) (x0 : Int) : (Instr.buildSlice 22 1 #[(0, Value.int .u8 x0)]).run Try.prog w = .ok (.slice (some ⟨w.heap.size, 0, none⟩) 1 1) (w.alloc (.cells #[Value.int .u8 x0] 5)) := by
  go_simp
theorem Runs.lit1 {o : Oper} {ρ : Operand → Value} {w : World} {G : Value → World → Prop} {y0 : Operand} {b0 : UInt8} (ho : o.op = .buildSlice 22 1 #[(0, y0)]) (h0 : ρ y0 = .int .u8 (u8i b0))
    (h : ∀ w', Ext w w' → OB w' w.heap.size (some ⟨w.heap.size, 0, none⟩) 1 1 [b0] → G (.slice (some ⟨w.heap.size, 0, none⟩) 1 1) w') : Runs Try.prog o ρ w G := by
  refine Runs.of_run (r := .slice (some ⟨w.heap.size, 0, none⟩) 1 1) (w' := w.alloc (.cells (bv [b0]).toArray 5)) ?_ (h _ (Ext.new w _) (OB.lit w [b0] rfl (small_maxLen (by decide))))
  unfold execOp
  simp only [ho, h0, List.map_toArray, List.map_cons, List.map_nil, Sem.run_bind, run_lit1, Result.andThen_ok, Sem.run_pure]
  rfl

theorem run_lit2 (w : World) (x0 x1 : Int) : (Instr.buildSlice 22 2 #[(0, Value.int .u8 x0), (1, Value.int .u8 x1)]).run Try.prog w = .ok (.slice (some ⟨w.heap.size, 0, none⟩) 2 2) (w.alloc (.cells #[Value.int .u8 x0, Value.int .u8 x1] 5)) := by
  go_simp
theorem Runs.lit2 {o : Oper} {ρ : Operand → Value} {w : World} {G : Value → World → Prop} {y0 y1 : Operand} {b0 b1 : UInt8} (ho : o.op = .buildSlice 22 2 #[(0, y0), (1, y1)]) (h0 : ρ y0 = .int .u8 (u8i b0)) (h1 : ρ y1 = .int .u8 (u8i b1))
    (h : ∀ w', Ext w w' → OB w' w.heap.size (some ⟨w.heap.size, 0, none⟩) 2 2 [b0, b1] → G (.slice (some ⟨w.heap.size, 0, none⟩) 2 2) w') : Runs Try.prog o ρ w G := by
  refine Runs.of_run (r := .slice (some ⟨w.heap.size, 0, none⟩) 2 2) (w' := w.alloc (.cells (bv [b0, b1]).toArray 5)) ?_ (h _ (Ext.new w _) (OB.lit w [b0, b1] rfl (small_maxLen (by decide))))
  unfold execOp
  simp only [ho, h0, h1, List.map_toArray, List.map_cons, List.map_nil, Sem.run_bind, run_lit2, Result.andThen_ok, Sem.run_pure]
  rfl

theorem run_lit4 (w : World) (x0 x1 x2 x3 : Int) : (Instr.buildSlice 22 4 #[(0, Value.int .u8 x0), (1, Value.int .u8 x1), (2, Value.int .u8 x2), (3, Value.int .u8 x3)]).run Try.prog w = .ok (.slice (some ⟨w.heap.size, 0, none⟩) 4 4) (w.alloc (.cells #[Value.int .u8 x0, Value.int .u8 x1, Value.int .u8 x2, Value.int .u8 x3] 5)) := by
  go_simp
theorem Runs.lit4 {o : Oper} {ρ : Operand → Value} {w : World} {G : Value → World → Prop} {y0 y1 y2 y3 : Operand} {b0 b1 b2 b3 : UInt8} (ho : o.op = .buildSlice 22 4 #[(0, y0), (1, y1), (2, y2), (3, y3)]) (h0 : ρ y0 = .int .u8 (u8i b0)) (h1 : ρ y1 = .int .u8 (u8i b1)) (h2 : ρ y2 = .int .u8 (u8i b2)) (h3 : ρ y3 = .int .u8 (u8i b3))
    (h : ∀ w', Ext w w' → OB w' w.heap.size (some ⟨w.heap.size, 0, none⟩) 4 4 [b0, b1, b2, b3] → G (.slice (some ⟨w.heap.size, 0, none⟩) 4 4) w') : Runs Try.prog o ρ w G := by
  refine Runs.of_run (r := .slice (some ⟨w.heap.size, 0, none⟩) 4 4) (w' := w.alloc (.cells (bv [b0, b1, b2, b3]).toArray 5)) ?_ (h _ (Ext.new w _) (OB.lit w [b0, b1, b2, b3] rfl (small_maxLen (by decide))))
  unfold execOp
  simp only [ho, h0, h1, h2, h3, List.map_toArray, List.map_cons, List.map_nil, Sem.run_bind, run_lit4, Result.andThen_ok, Sem.run_pure]
  rfl

end Go.Proofs.Ytkndgpjamijbbaa

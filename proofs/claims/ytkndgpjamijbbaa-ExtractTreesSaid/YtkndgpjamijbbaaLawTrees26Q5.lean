/-
  Small words beside the others. Plain theorems. What the frames of the statements hand on, in the words of the walks. Plain theorems. What the frames of the statements hand on of bytes that came in, in the words of the walks. Plain theorems. Byte literals in a region. Plain theorems. Slices of byte slices that are read. Plain theorems. A slice of byte slices that came in, in the words of the walks. Plain theorems. RFC 6962's tree hash, and what two trees of one root show: plain Lean, no program in sight. Cuts of slices of byte slices. Plain theorems.
-/
import Derived.Test.YtkndgpjamijbbaaLawTrees26Q4
import Derived.ChangeSlices
import Derived.ChangeArms
namespace Go.Proofs.Ytkndgpjamijbbaa
set_option maxRecDepth 100000
open Go Go.RowKit
theorem RB.to_ {w : World} {A : Option Addr} {n n' c : Nat} {L L' : List UInt8} (h : RB w A n c L) (hn : n = n') (hL : L = L') : RB w A n' c L' := by subst hn hL; exact h
theorem OB.to_ {w : World} {b : Nat} {A : Option Addr} {n n' c : Nat} {L L' : List UInt8} (h : OB w b A n c L) (hn : n = n') (hL : L = L') : OB w b A n' c L' := by subst hn hL; exact h
/-- what an append to a row of the call's own turns lies beyond all that was there -/
theorem OB.step {a w w' : World} {A : Option Addr} {n c : Nat} {L : List UInt8} (h : OB w a.heap.size A n c L) (hE : Ext a w) (g : w.grownBy w' (blk A)) : Ext a w' := hE.then_grown g (fun k hk => (h.lt hk).1)
theorem RB.lit (w : World) (L : List UInt8) {n : Nat} (hn : L.length = n) (hm : n ≤ maxLen) : RB (w.alloc (.cells (bv L).toArray 5)) (some ⟨w.heap.size, 0, none⟩) n n L := (OB.lit w L hn hm).rb
theorem small_maxLen {n : Nat} (h : n ≤ 1000000) : n ≤ maxLen := by unfold maxLen; omega
theorem app_own {ops : Array Oper} {rest : List Oper} {o : Oper} {a : Act} {Q : Exit → Act → World → Prop} {w0 w : World} (hgd : o.guard = none) {s x : Operand} (ho : o.op = .call { callee := .builtin .append, args := #[s, x], argTypes := #[22, 22] })
    {A : Option Addr} {n c : Nat} (hs : a.eval s = .slice A n c) {B : Option Addr} {m d : Nat} (hx : a.eval x = .slice B m d) (hE : Ext w0 w)
    {L M : List UInt8} (hown : OB w w0.heap.size A n c L) (hr : RB w B m d M) {N : Nat} {LM : List UInt8} (hN : n + m = N) (hL : L ++ M = LM) (hnm : N ≤ 140737488355328)
    (h : ∀ A' c' w', OB w' w0.heap.size A' N c' LM → Ext w0 w' → wpList Try.prog ops Q rest (a.put o.dst (.slice A' N c')) w') :
    wpList Try.prog ops Q (o :: rest) a w := by
  subst hN hL
  exact app_law hgd ho hs hx hown hr hnm hE.size fun A' c' w' h1 h2 _ _ => h A' c' w' h1 (hown.step hE h2)
theorem padZeros_lt (n : Nat) : padZeros n < 64 := by unfold padZeros; omega
theorem padZeros_at {n r j z : Nat} (hn : n = 64 * j + r) (hr : r < 64) (hz : z ≤ padZeros n) : (r + 1 + z) % 64 = 56 ↔ z = padZeros n := by
  unfold padZeros at *
  omega
theorem be8_take (N : Nat) (i : Nat) (hi : i < 8) : (be8 N).take (i + 1) = (be8 N).take i ++ [UInt8.ofNat (N / 2 ^ (8 * (7 - i)))] := by
  rw [List.take_succ_eq_append_getElem (by rw [be8_length]; exact hi)]
  congr 2
  simp [be8]
theorem conv_u64_u8 {P : Program} {w : World} {s t : TypeId} (hs : P.underlying s = some (.int .u64)) (ht : P.underlying t = some (.int .u8)) (x : Nat) : (convert s t (.int .u64 (x : Int))).run P w = .ok (.int .u8 (u8i (UInt8.ofNat x))) w := by
  have e : IntKind.u8.wrap (x : Int) = u8i (UInt8.ofNat x) := by
    unfold u8i
    rw [IntKind.wrap_u8, UInt8.toNat_ofNat']
    omega
  simp [convert, run_underlying hs, run_underlying ht, Conv.intToInt, e]
theorem conv_i64_u64 {P : Program} {w : World} {s t : TypeId} (hs : P.underlying s = some (.int .i64)) (ht : P.underlying t = some (.int .u64)) (x : Int) (k : Nat) (h : x = (k : Int)) (hk : k < 18446744073709551616) : (convert s t (.int .i64 x)).run P w = .ok (.int .u64 (k : Int)) w := by
  subst h
  have e : IntKind.u64.wrap (k : Int) = (k : Int) := by rw [IntKind.wrap_u64]; omega
  simp [convert, run_underlying hs, run_underlying ht, Conv.intToInt, e]
theorem bin_mulu64 {P : Program} {w : World} (t : TypeId) (x y : Int) (k : Nat) (h : x * y = (k : Int)) (hk : k < 18446744073709551616) : (binOp .mul t (.int .u64 x) (.int .u64 y)).run P w = .ok (.int .u64 (k : Int)) w := by
  have e : IntKind.u64.wrap (x * y) = (k : Int) := by rw [h, IntKind.wrap_u64]; omega
  simp [binOp, Op.intArith, e]
theorem bin_shru64 {P : Program} {w : World} (t : TypeId) (kk : IntKind) (x k : Nat) (h : k ≤ 64) : (binOp .shr t (.int .u64 (x : Int)) (.int kk (k : Int))).run P w = .ok (.int .u64 ((x / 2 ^ k : Nat) : Int)) w := by
  have h1 : ¬ ((k : Int) < 0) := by omega
  have h2 : min (k : Int).toNat IntKind.u64.bits = k := by simp [IntKind.bits]; omega
  have e : ((x : Int)).fdiv (2 ^ k) = ((x / 2 ^ k : Nat) : Int) := by
    rw [Int.fdiv_eq_ediv_of_nonneg _ (Int.pow_nonneg (by decide))]
    simp
  simp only [binOp, Op.shift, if_neg h1, h2, e, Sem.run_pure]
theorem OB.not_blk {w : World} {b k : Nat} {A : Option Addr} {n c : Nat} {L : List UInt8} (h : OB w b A n c L) (hk : k < b) : blk A = none ∨ blk A ≠ some k := by
  refine .inr fun e => ?_
  have := (h.lt e).1
  omega
theorem flatMap_take_succ (hs : List UInt32) (k : Nat) (hk : k < hs.length) : (hs.take (k + 1)).flatMap bytesOf = (hs.take k).flatMap bytesOf ++ bytesOf (uw hs k) := by
  rw [List.take_succ_eq_append_getElem hk, List.flatMap_append]
  simp [uw, hk]
theorem drop_cut {M : List UInt8} {n i : Nat} (hM : M.length = n) : ((M.drop (64 * i)).take (n - 64 * i)).drop 64 = M.drop (64 * (i + 1)) := by
  rw [List.take_of_length_le (by simp; omega), List.drop_drop]
  rfl
end Go.Proofs.Ytkndgpjamijbbaa
namespace Go.Proofs.Ytkndgpjamijbbaa
set_option maxRecDepth 100000
open Go Go.RowKit
theorem wf_i64 {n : Int} (h : (Lit.int .i64 n).wf = true) : -9223372036854775808 ≤ n ∧ n ≤ 9223372036854775807 := by
  simp only [Lit.wf, Bool.and_eq_true, decide_eq_true_eq] at h
  have e1 : IntKind.i64.min = -9223372036854775808 := by rfl
  have e2 : IntKind.i64.max = 9223372036854775807 := by rfl
  rw [e1, e2] at h
  exact h
theorem wf_u8 {n : Int} (h : (Lit.int .u8 n).wf = true) : u8i (UInt8.ofNat n.toNat) = n := by
  simp only [Lit.wf, Bool.and_eq_true, decide_eq_true_eq] at h
  have e1 : IntKind.u8.min = 0 := by rfl
  have e2 : IntKind.u8.max = 255 := by rfl
  rw [e1, e2] at h
  unfold u8i
  rw [UInt8.toNat_ofNat']
  omega
/-- a row of numbers that came in, as bytes that are read -/
theorem rb_of_row {w : World} {a : Option Addr} {len cap : Nat} {zs : List Int}
    (h : (a = none ∧ len = 0 ∧ cap = 0 ∧ zs = []) ∨ ∃ x, a = some x ∧ len ≤ cap ∧ cap ≤ maxLen ∧ zs.length = cap ∧ (∀ i, i < zs.length → w.cell? (x.add i) = some (.int .u8 (zs.getD i 0))) ∧ ∀ n ∈ zs, (Lit.int .u8 n).wf = true) :
    RB w a len cap ((zs.take len).map fun z => UInt8.ofNat z.toNat) := by
  rcases h with ⟨rfl, rfl, rfl, rfl⟩ | ⟨x, rfl, h1, h2, h3, h4, h5⟩
  · exact RB.nil_ w
  · refine ⟨by simp; omega, h1, h2, fun _ => ⟨x, rfl, fun j hj => ?_⟩⟩
    rw [h4 j (by omega)]
    have hj3 : j < zs.length := by omega
    have e : zs.getD j 0 = zs[j] := by simp [hj3]
    have e2 : ub ((zs.take len).map fun z => UInt8.ofNat z.toNat) j = UInt8.ofNat (zs[j]).toNat := by simp [ub, hj3, hj]
    rw [e, e2, wf_u8 (h5 _ (List.getElem_mem hj3))]
end Go.Proofs.Ytkndgpjamijbbaa
namespace Go.Proofs.Ytkndgpjamijbbaa
set_option maxRecDepth 100000
open Go Go.RowKit Go.ChangeShapes Go.WideShapes
variable {H : Type} {enc : TypeId × Value → H} {w : World} {base : Nat} {held : Bool}
theorem row_arg {fuel : Nat} {cs : List Value} {x : DataW H × List MemPlace} (h : DataW.trod enc Try.prog w base (fun _ => true) held fuel 22 cs = some x) :
    ∃ (A : Option Addr) (n c : Nat) (L : List UInt8), cs = [.slice A n c] ∧ RB w A n c L := by
  rcases open_ints Try.underlying22 Try.underlying5 (by kernel_rfl) h with ⟨hcs, _⟩ | ⟨x, l, c, zs, hcs, _, hl, hm, hz, _, hcell, hwz⟩
  · exact ⟨none, 0, 0, [], hcs, RB.nil_ w⟩
  · exact ⟨some x, l, c, _, hcs, rb_of_row (.inr ⟨x, rfl, hl, hm, by simpa using hz, hcell, hwz⟩)⟩
end Go.Proofs.Ytkndgpjamijbbaa
namespace Go.Proofs.Ytkndgpjamijbbaa
set_option maxRecDepth 100000
open Go Go.RowKit
theorem run_lit0 (w : World) : (Instr.buildSlice 22 0 #[]).run Try.prog w = .ok (.slice (some ⟨w.heap.size, 0, none⟩) 0 0) (w.alloc (.cells #[] 5)) := by
  go_simp
theorem Runs.lit0 {o : Oper} {ρ : Operand → Value} {w : World} {G : Value → World → Prop} (ho : o.op = .buildSlice 22 0 #[]) 
    (h : ∀ w', Ext w w' → OB w' w.heap.size (some ⟨w.heap.size, 0, none⟩) 0 0 [] → G (.slice (some ⟨w.heap.size, 0, none⟩) 0 0) w') : Runs Try.prog o ρ w G := by
  refine Runs.of_run (r := .slice (some ⟨w.heap.size, 0, none⟩) 0 0) (w' := w.alloc (.cells (bv []).toArray 5)) ?_ (h _ (Ext.new w _) (OB.lit w [] rfl (small_maxLen (by decide))))
  unfold execOp
  simp only [ho, List.map_toArray, List.map_cons, List.map_nil, Sem.run_bind, run_lit0, Result.andThen_ok, Sem.run_pure]
  rfl

theorem run_lit1 (w : World) (x0 : Int) : (Instr.buildSlice 22 1 #[(0, Value.int .u8 x0)]).run Try.prog w = .ok (.slice (some ⟨w.heap.size, 0, none⟩) 1 1) (w.alloc (.cells #[Value.int .u8 x0] 5)) := by
  go_simp
theorem Runs.lit1 {o : Oper} {ρ : Operand → Value} {w : World} {G : Value → World → Prop} {y0 : Operand} {b0 : UInt8} (ho : o.op = .buildSlice 22 1 #[(0, y0)]) (h0 : ρ y0 = .int .u8 (u8i b0))
    (h : ∀ w', Ext w w' → OB w' w.heap.size (some ⟨w.heap.size, 0, none⟩) 1 1 [b0] → G (.slice (some ⟨w.heap.size, 0, none⟩) 1 1) w') : Runs Try.prog o ρ w G := by
  refine Runs.of_run (r := .slice (some ⟨w.heap.size, 0, none⟩) 1 1) (w' := w.alloc (.cells (bv [b0]).toArray 5)) ?_ (h _ (Ext.new w _) (OB.lit w [b0] rfl (small_maxLen (by decide))))
  unfold execOp
  simp only [ho, h0, List.map_toArray, List.map_cons, List.map_nil, Sem.run_bind, run_lit1, Result.andThen_ok, Sem.run_pure]
  rfl

theorem run_lit2 (w : World) (x0 x1 : Int) : (Instr.buildSlice 22 2 #[(0, Value.int .u8 x0), (1, Value.int .u8 x1)]).run Try.prog w = .ok (.slice (some ⟨w.heap.size, 0, none⟩) 2 2) (w.alloc (.cells #[Value.int .u8 x0, Value.int .u8 x1] 5)) := by
  go_simp
theorem Runs.lit2 {o : Oper} {ρ : Operand → Value} {w : World} {G : Value → World → Prop} {y0 y1 : Operand} {b0 b1 : UInt8} (ho : o.op = .buildSlice 22 2 #[(0, y0), (1, y1)]) (h0 : ρ y0 = .int .u8 (u8i b0)) (h1 : ρ y1 = .int .u8 (u8i b1))
    (h : ∀ w', Ext w w' → OB w' w.heap.size (some ⟨w.heap.size, 0, none⟩) 2 2 [b0, b1] → G (.slice (some ⟨w.heap.size, 0, none⟩) 2 2) w') : Runs Try.prog o ρ w G := by
  refine Runs.of_run (r := .slice (some ⟨w.heap.size, 0, none⟩) 2 2) (w' := w.alloc (.cells (bv [b0, b1]).toArray 5)) ?_ (h _ (Ext.new w _) (OB.lit w [b0, b1] rfl (small_maxLen (by decide))))
  unfold execOp
  simp only [ho, h0, h1, List.map_toArray, List.map_cons, List.map_nil, Sem.run_bind, run_lit2, Result.andThen_ok, Sem.run_pure]
  rfl

theorem run_lit4 (w : World) (x0 x1 x2 x3 : Int) : (Instr.buildSlice 22 4 #[(0, Value.int .u8 x0), (1, Value.int .u8 x1), (2, Value.int .u8 x2), (3, Value.int .u8 x3)]).run Try.prog w = .ok (.slice (some ⟨w.heap.size, 0, none⟩) 4 4) (w.alloc (.cells #[Value.int .u8 x0, Value.int .u8 x1, Value.int .u8 x2, Value.int .u8 x3] 5)) := by
  go_simp
theorem Runs.lit4 {o : Oper} {ρ : Operand → Value} {w : World} {G : Value → World → Prop} {y0 y1 y2 y3 : Operand} {b0 b1 b2 b3 : UInt8} (ho : o.op = .buildSlice 22 4 #[(0, y0), (1, y1), (2, y2), (3, y3)]) (h0 : ρ y0 = .int .u8 (u8i b0)) (h1 : ρ y1 = .int .u8 (u8i b1)) (h2 : ρ y2 = .int .u8 (u8i b2)) (h3 : ρ y3 = .int .u8 (u8i b3))
    (h : ∀ w', Ext w w' → OB w' w.heap.size (some ⟨w.heap.size, 0, none⟩) 4 4 [b0, b1, b2, b3] → G (.slice (some ⟨w.heap.size, 0, none⟩) 4 4) w') : Runs Try.prog o ρ w G := by
  refine Runs.of_run (r := .slice (some ⟨w.heap.size, 0, none⟩) 4 4) (w' := w.alloc (.cells (bv [b0, b1, b2, b3]).toArray 5)) ?_ (h _ (Ext.new w _) (OB.lit w [b0, b1, b2, b3] rfl (small_maxLen (by decide))))
  unfold execOp
  simp only [ho, h0, h1, h2, h3, List.map_toArray, List.map_cons, List.map_nil, Sem.run_bind, run_lit4, Result.andThen_ok, Sem.run_pure]
  rfl

end Go.Proofs.Ytkndgpjamijbbaa
namespace Go.Proofs.Ytkndgpjamijbbaa
set_option maxRecDepth 100000
open Go Go.RowKit
def lb (Ls : List (List UInt8)) (j : Nat) : List UInt8 := Ls.getD j []
structure RBB (w : World) (A : Option Addr) (n c : Nat) (Ls : List (List UInt8)) : Prop where
  len : Ls.length = n
  room : n ≤ c
  cap : c ≤ maxLen
  cells : 0 < n → ∃ ad, A = some ad ∧ ∀ j, j < n → ∃ B m d, w.cell? (ad.add j) = some (.slice B m d) ∧ RB w B m d (lb Ls j)
theorem RBB.ext {w w' : World} {A : Option Addr} {n c : Nat} {Ls : List (List UInt8)} (h : RBB w A n c Ls) (e : Ext w w') : RBB w' A n c Ls :=
  ⟨h.len, h.room, h.cap, fun hn => by
    obtain ⟨ad, ha, hc⟩ := h.cells hn
    refine ⟨ad, ha, fun j hj => ?_⟩
    obtain ⟨B, m, d, h1, h2⟩ := hc j hj
    exact ⟨B, m, d, e.cell h1, h2.ext e⟩⟩
theorem RBB.nil_ (w : World) : RBB w none 0 0 [] := ⟨rfl, Nat.le_refl _, Nat.zero_le _, fun h => absurd h (Nat.lt_irrefl _)⟩
theorem flatten_take_succ (Ls : List (List UInt8)) (k : Nat) (hk : k < Ls.length) : (Ls.take (k + 1)).flatten = (Ls.take k).flatten ++ lb Ls k := by
  rw [List.take_succ_eq_append_getElem hk, List.flatten_append]
  simp [lb, hk]
theorem flatten_take_le (Ls : List (List UInt8)) : ∀ k, ((Ls.take k).flatten).length ≤ Ls.flatten.length := by
  induction Ls with
  | nil => intro k; simp
  | cons L Ls ih =>
    intro k
    cases k with
    | zero => simp
    | succ k =>
      have := ih k
      simp only [List.take_succ_cons, List.flatten_cons, List.length_append]
      omega
theorem flatten_step_le (Ls : List (List UInt8)) (k : Nat) (hk : k < Ls.length) : ((Ls.take k).flatten).length + (lb Ls k).length ≤ Ls.flatten.length := by
  have h1 := flatten_take_le Ls (k + 1)
  rw [flatten_take_succ Ls k hk, List.length_append] at h1
  exact h1
end Go.Proofs.Ytkndgpjamijbbaa
namespace Go.Proofs.Ytkndgpjamijbbaa
set_option maxRecDepth 100000
open Go Go.RowKit Go.ChangeShapes Go.WideShapes
variable {H : Type} {enc : TypeId × Value → H} {w : World} {base : Nat} {held : Bool}
theorem rows_arg {fuel : Nat} {cs : List Value} {x : DataW H × List MemPlace} (h : DataW.trod enc Try.prog w base (fun _ => true) held fuel 23 cs = some x) :
    ∃ (A : Option Addr) (n c : Nat) (Ls : List (List UInt8)), cs = [.slice A n c] ∧ RBB w A n c Ls := by
  have h1 : Try.prog.cellsOf 22 = 1 := by kernel_rfl
  rcases DataW.trod_slice Try.underlying23 h with ⟨hcs, _⟩ | ⟨a, len, cap, elems, rest, n, _, rfl, rfl, hb, hl, hm, hlen, hel, hsp, hns⟩
  · exact ⟨none, 0, 0, [], hcs, RBB.nil_ w⟩
  · have each : ∀ i, i < len → ∃ L B m d, w.cell? (a.add i) = some (.slice B m d) ∧ RB w B m d L := by
      intro i hi
      have hy := hel i hi
      rw [h1, Nat.mul_one, List.getElem?_eq_getElem (by omega), Option.bind_eq_some_iff] at hy
      obtain ⟨cs', hcs, hy'⟩ := hy
      obtain ⟨B, m, d, L, rfl, r⟩ := row_arg hy'
      exact ⟨L, B, m, d, cell_of_cells?_one hcs, r⟩
    have pick : ∃ f : Nat → List UInt8, ∀ i, i < len → ∃ B m d, w.cell? (a.add i) = some (.slice B m d) ∧ RB w B m d (f i) :=
      ⟨fun i => if h : i < len then (each i h).choose else [], fun i hi => by
        have e : (if h : i < len then (each i h).choose else []) = (each i hi).choose := dif_pos hi
        show ∃ B m d, w.cell? (a.add i) = some (.slice B m d) ∧ RB w B m d (if h : i < len then (each i h).choose else [])
        rw [e]
        exact (each i hi).choose_spec⟩
    obtain ⟨f, hf⟩ := pick
    refine ⟨some a, len, cap, (List.range len).map f, rfl, ⟨by simp, hl, hm, fun _ => ⟨a, rfl, fun j hj => ?_⟩⟩⟩
    have e : lb ((List.range len).map f) j = f j := by simp [lb, hj]
    rw [e]
    exact hf j hj
end Go.Proofs.Ytkndgpjamijbbaa
namespace Go.Proofs.Ytkndgpjamijbbaa
set_option maxRecDepth 100000
/-- the greatest power of two below a number -/
def splitN (n : Nat) : Nat := if n < 2 then 0 else 2 ^ Nat.log2 (n - 1)
theorem splitN_small {n : Nat} (h : n < 2) : splitN n = 0 := by unfold splitN; rw [if_pos h]
theorem splitN_in {n : Nat} (h : 2 ≤ n) : 0 < splitN n ∧ splitN n < n := by
  unfold splitN
  rw [if_neg (by omega)]
  refine ⟨Nat.pow_pos (by omega), ?_⟩
  have := Nat.log2_self_le (n := n - 1) (by omega)
  omega
/-- a power of two that is below n, and twice is not -/
theorem splitN_is {n k e : Nat} (hk : k = 2 ^ e) (h1 : k < n) (h2 : n ≤ 2 * k) : splitN n = k := by
  have hp : 0 < 2 ^ e := Nat.pow_pos (by omega)
  unfold splitN
  rw [if_neg (by omega), hk]
  congr 1
  refine (Nat.log2_eq_iff (by omega)).2 ⟨by omega, ?_⟩
  rw [Nat.pow_succ]
  omega
def leafH (b : List UInt8) : List UInt8 := tagged 0 b
def nodeH (l r : List UInt8) : List UInt8 := tagged 1 (l ++ r)
/-- the hash of leaves -/
def rootL (l : List (List UInt8)) : List UInt8 :=
  if h : l.length < 2 then (match l with | [] => sha [] | a :: _ => a) else nodeH (rootL (l.take (splitN l.length))) (rootL (l.drop (splitN l.length)))
termination_by l.length
decreasing_by
  · have := splitN_in (n := l.length) (by omega)
    rw [List.length_take]
    omega
  · have := splitN_in (n := l.length) (by omega)
    rw [List.length_drop]
    omega
theorem rootL_nil : rootL [] = sha [] := by
  unfold rootL
  rfl
theorem rootL_one (a : List UInt8) : rootL [a] = a := by
  unfold rootL
  rfl
theorem rootL_more {l : List (List UInt8)} (h : 2 ≤ l.length) : rootL l = nodeH (rootL (l.take (splitN l.length))) (rootL (l.drop (splitN l.length))) := by
  rw [rootL]
  rw [dif_neg (by omega)]
theorem rootL_len {l : List (List UInt8)} (h : ∀ a ∈ l, a.length = 32) : (rootL l).length = 32 := by
  by_cases h2 : 2 ≤ l.length
  · rw [rootL_more h2]
    exact tagged_length _ _
  · match l, h2 with
    | [], _ => rw [rootL_nil]; exact sha_length _
    | [a], _ => rw [rootL_one]; exact h a (List.mem_singleton.2 rfl)
    | _ :: _ :: _, h2 => simp at h2
/-- down two trees: the two texts, and whether they are unlike -/
def downL (a b : List (List UInt8)) : List UInt8 × List UInt8 × Bool :=
  if h : a.length < 2 then (0 :: lb a 0, 0 :: lb b 0, decide (0 :: lb a 0 ≠ 0 :: lb b 0))
  else
    let k := splitN a.length
    let p := 1 :: (rootL ((a.take k).map leafH) ++ rootL ((a.drop k).map leafH))
    let q := 1 :: (rootL ((b.take k).map leafH) ++ rootL ((b.drop k).map leafH))
    if p ≠ q then (p, q, true)
    else
      let d := downL (a.take k) (b.take k)
      if d.2.2 = true then d else downL (a.drop k) (b.drop k)
termination_by a.length
decreasing_by
  · have := splitN_in (n := a.length) (by omega)
    rw [List.length_take]
    omega
  · have := splitN_in (n := a.length) (by omega)
    rw [List.length_drop]
    omega
theorem leaf_len (l : List (List UInt8)) : ∀ a ∈ l.map leafH, a.length = 32 := by
  intro a ha
  rw [List.mem_map] at ha
  obtain ⟨b, _, rfl⟩ := ha
  exact tagged_length _ _
/-- of two rows of items with one root: what is told is a clash; if nothing is, they are the same -/
theorem downL_law : ∀ (n : Nat) (a b : List (List UInt8)), a.length = n → b.length = n → 1 ≤ n → rootL (a.map leafH) = rootL (b.map leafH) →
    ((downL a b).2.2 = true → (downL a b).1 ≠ (downL a b).2.1 ∧ sha (downL a b).1 = sha (downL a b).2.1) ∧ ((downL a b).2.2 = false → a = b) := by
  intro n
  induction n using Nat.strongRecOn with
  | ind n ih =>
    intro a b ha hb hn hr
    by_cases h2 : n < 2
    · obtain rfl : n = 1 := by omega
      match a, b, ha, hb with
      | [x], [y], _, _ =>
        have e : downL [x] [y] = (0 :: x, 0 :: y, decide ((0 : UInt8) :: x ≠ 0 :: y)) := by
          rw [downL]
          rw [dif_pos (by simp)]
          rfl
        rw [e]
        have hl : tagged 0 x = tagged 0 y := by
          simpa [rootL_one, leafH] using hr
        refine ⟨fun h => ⟨of_decide_eq_true h, hl⟩, fun h => ?_⟩
        have h1 := of_decide_eq_false h
        have h3 : (0 : UInt8) :: x = 0 :: y := Classical.not_not.1 h1
        injection h3 with _ h3
        rw [h3]
    · have hk := splitN_in (n := n) (by omega)
      have hka : splitN a.length = splitN n := by rw [ha]
      rw [downL]
      rw [dif_neg (by omega)]
      simp only [hka]
      have ra := rootL_more (l := a.map leafH) (by rw [List.length_map]; omega)
      have rb := rootL_more (l := b.map leafH) (by rw [List.length_map]; omega)
      rw [List.length_map, ha, ← List.map_take, ← List.map_drop] at ra
      rw [List.length_map, hb, ← List.map_take, ← List.map_drop] at rb
      rw [ra, rb] at hr
      generalize splitN n = k at *
      by_cases hp : (1 : UInt8) :: (rootL ((a.take k).map leafH) ++ rootL ((a.drop k).map leafH)) ≠ 1 :: (rootL ((b.take k).map leafH) ++ rootL ((b.drop k).map leafH))
      · rw [if_pos hp]
        exact ⟨fun _ => ⟨hp, hr⟩, fun h => by cases h⟩
      · rw [if_neg hp]
        have hp' := Classical.not_not.1 hp
        injection hp' with _ hp'
        have l1 := rootL_len (leaf_len (a.take k))
        have l2 := rootL_len (leaf_len (b.take k))
        obtain ⟨e1, e2⟩ := List.append_inj hp' (by omega)
        have k1 := ih k hk.2 (a.take k) (b.take k) (by rw [List.length_take]; omega) (by rw [List.length_take]; omega) (by omega) e1
        have k2 := ih (n - k) (by omega) (a.drop k) (b.drop k) (by rw [List.length_drop]; omega) (by rw [List.length_drop]; omega) (by omega) e2
        by_cases hd : (downL (a.take k) (b.take k)).2.2 = true
        · rw [if_pos hd]
          exact ⟨k1.1, fun h => by rw [hd] at h; cases h⟩
        · rw [if_neg hd]
          refine ⟨k2.1, fun h => ?_⟩
          have d1 := k1.2 (by simpa using hd)
          have d2 := k2.2 h
          rw [← List.take_append_drop k a, ← List.take_append_drop k b, d1, d2]
/-- rows that are the same: nothing is told -/
theorem downL_same : ∀ (n : Nat) (a : List (List UInt8)), a.length = n → 1 ≤ n → (downL a a).2.2 = false := by
  intro n
  induction n using Nat.strongRecOn with
  | ind n ih =>
    intro a ha hn
    by_cases h2 : n < 2
    · rw [downL]
      rw [dif_pos (by omega)]
      simp
    · have hk := splitN_in (n := n) (by omega)
      have hka : splitN a.length = splitN n := by rw [ha]
      rw [downL]
      rw [dif_neg (by omega)]
      simp only [hka]
      rw [if_neg (by simp)]
      have k1 := ih (splitN n) hk.2 (a.take (splitN n)) (by rw [List.length_take]; omega) (by omega)
      rw [if_neg (by rw [k1]; simp)]
      exact ih (n - splitN n) (by omega) (a.drop (splitN n)) (by rw [List.length_drop]; omega) (by omega)
end Go.Proofs.Ytkndgpjamijbbaa
namespace Go.Proofs.Ytkndgpjamijbbaa
set_option maxRecDepth 100000
open Go Go.RowKit
theorem add_add_ (ad : Addr) (j i : Nat) : (ad.add j).add i = ad.add (j + i) := by
  unfold Addr.add
  by_cases hj : j = 0 <;> by_cases hi : i = 0 <;> simp [hj, hi]
  omega
/-- 'l[i:j]' -/
theorem RBB.cut {w : World} {A A' : Option Addr} {n c c' : Nat} {Ls : List (List UInt8)} (h : RBB w A n c Ls) {i j : Nat} (hij : i ≤ j) (hj : j ≤ n) (hc : c' = c - i) (hA : i < j → A' = A.map (·.add i)) : RBB w A' (j - i) c' ((Ls.take j).drop i) := by
  have hl := h.len
  have hr := h.room
  have hm := h.cap
  refine ⟨by rw [List.length_drop, List.length_take]; omega, by omega, by omega, fun h0 => ?_⟩
  obtain ⟨ad, rfl, hcl⟩ := h.cells (by omega)
  refine ⟨ad.add i, by rw [hA (by omega)]; rfl, fun q hq => ?_⟩
  obtain ⟨B, m, d, h1, h2⟩ := hcl (i + q) (by omega)
  refine ⟨B, m, d, by rw [add_add_]; exact h1, ?_⟩
  have e : lb ((Ls.take j).drop i) q = lb Ls (i + q) := by
    unfold lb
    simp only [List.getD_eq_getElem?_getD, List.getElem?_drop]
    rw [List.getElem?_take_of_lt (by omega)]
  rw [e]
  exact h2
end Go.Proofs.Ytkndgpjamijbbaa

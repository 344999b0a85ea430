/-
  Small words beside the others. Plain theorems. What the frames of the statements hand on, in the words of the walks. Plain theorems. What the frames of the statements hand on of bytes that came in, in the words of the walks. Plain theorems. Byte literals in a region. Plain theorems. Slices of byte slices that are read. Plain theorems. A slice of byte slices that came in, in the words of the walks. Plain theorems. slices.Clone and bytes.Equal, walked; and the cutting of byte slices. A region that draws its order, one of whose operations appends to a row of the call's own. Plain theorems. wire's Writer and Reader, walked. wire's Writer, walked: New, Byte, Num, Bytes, Raw, Done. wire's Reader, walked: Read, take, number, Byte, Num, Bytes, Raw, End.
-/
import Derived.Test.YtkndgpjamijbbaaLawForg26Q4
import Derived.ChangeSlices
import Derived.ChangeArms
namespace Go.Proofs.Ytkndgpjamijbbaa
set_option maxRecDepth 100000
open Go Go.RowKit
theorem RB.to_ {w : World} {A : Option Addr} {n n' c : Nat} {L L' : List UInt8} (h : RB w A n c L) (hn : n = n') (hL : L = L') : RB w A n' c L' := by subst hn hL; exact h
theorem OB.to_ {w : World} {b : Nat} {A : Option Addr} {n n' c : Nat} {L L' : List UInt8} (h : OB w b A n c L) (hn : n = n') (hL : L = L') : OB w b A n' c L' := by subst hn hL; exact h
/-- what an append to a row of the call's own turns lies beyond all that was there -/
theorem OB.step {a w w' : World} {A : Option Addr} {n c : Nat} {L : List UInt8} (h : OB w a.heap.size A n c L) (hE : Ext a w) (g : w.grownBy w' (blk A)) : Ext a w' := hE.then_grown g (fun k hk => (h.lt hk).1)
theorem RB.lit (w : World) (L : List UInt8) {n : Nat} (hn : L.length = n) (hm : n ≤ maxLen) : RB (w.alloc (.cells (bv L).toArray 5)) (some ⟨w.heap.size, 0, none⟩) n n L := (OB.lit w L hn hm).rb
theorem small_maxLen {n : Nat} (h : n ≤ 1000000) : n ≤ maxLen := by unfold maxLen; omega
theorem app_own {ops : Array Oper} {rest : List Oper} {o : Oper} {a : Act} {Q : Exit → Act → World → Prop} {w0 w : World} (hgd : o.guard = none) {s x : Operand} (ho : o.op = .call { callee := .builtin .append, args := #[s, x], argTypes := #[22, 22] })
    {A : Option Addr} {n c : Nat} (hs : a.eval s = .slice A n c) {B : Option Addr} {m d : Nat} (hx : a.eval x = .slice B m d) (hE : Ext w0 w)
    {L M : List UInt8} (hown : OB w w0.heap.size A n c L) (hr : RB w B m d M) {N : Nat} {LM : List UInt8} (hN : n + m = N) (hL : L ++ M = LM) (hnm : N ≤ 140737488355328)
    (h : ∀ A' c' w', OB w' w0.heap.size A' N c' LM → Ext w0 w' → wpList Try.prog ops Q rest (a.put o.dst (.slice A' N c')) w') :
    wpList Try.prog ops Q (o :: rest) a w := by
  subst hN hL
  exact app_law hgd ho hs hx hown hr hnm hE.size fun A' c' w' h1 h2 _ _ => h A' c' w' h1 (hown.step hE h2)
theorem padZeros_lt (n : Nat) : padZeros n < 64 := by unfold padZeros; omega
theorem padZeros_at {n r j z : Nat} (hn : n = 64 * j + r) (hr : r < 64) (hz : z ≤ padZeros n) : (r + 1 + z) % 64 = 56 ↔ z = padZeros n := by
  unfold padZeros at *
  omega
theorem be8_take (N : Nat) (i : Nat) (hi : i < 8) : (be8 N).take (i + 1) = (be8 N).take i ++ [UInt8.ofNat (N / 2 ^ (8 * (7 - i)))] := by
  rw [List.take_succ_eq_append_getElem (by rw [be8_length]; exact hi)]
  congr 2
  simp [be8]
theorem conv_u64_u8 {P : Program} {w : World} {s t : TypeId} (hs : P.underlying s = some (.int .u64)) (ht : P.underlying t = some (.int .u8)) (x : Nat) : (convert s t (.int .u64 (x : Int))).run P w = .ok (.int .u8 (u8i (UInt8.ofNat x))) w := by
  have e : IntKind.u8.wrap (x : Int) = u8i (UInt8.ofNat x) := by
    unfold u8i
    rw [IntKind.wrap_u8, UInt8.toNat_ofNat']
    omega
  simp [convert, run_underlying hs, run_underlying ht, Conv.intToInt, e]
theorem conv_i64_u64 {P : Program} {w : World} {s t : TypeId} (hs : P.underlying s = some (.int .i64)) (ht : P.underlying t = some (.int .u64)) (x : Int) (k : Nat) (h : x = (k : Int)) (hk : k < 18446744073709551616) : (convert s t (.int .i64 x)).run P w = .ok (.int .u64 (k : Int)) w := by
  subst h
  have e : IntKind.u64.wrap (k : Int) = (k : Int) := by rw [IntKind.wrap_u64]; omega
  simp [convert, run_underlying hs, run_underlying ht, Conv.intToInt, e]
theorem bin_mulu64 {P : Program} {w : World} (t : TypeId) (x y : Int) (k : Nat) (h : x * y = (k : Int)) (hk : k < 18446744073709551616) : (binOp .mul t (.int .u64 x) (.int .u64 y)).run P w = .ok (.int .u64 (k : Int)) w := by
  have e : IntKind.u64.wrap (x * y) = (k : Int) := by rw [h, IntKind.wrap_u64]; omega
  simp [binOp, Op.intArith, e]
theorem bin_shru64 {P : Program} {w : World} (t : TypeId) (kk : IntKind) (x k : Nat) (h : k ≤ 64) : (binOp .shr t (.int .u64 (x : Int)) (.int kk (k : Int))).run P w = .ok (.int .u64 ((x / 2 ^ k : Nat) : Int)) w := by
  have h1 : ¬ ((k : Int) < 0) := by omega
  have h2 : min (k : Int).toNat IntKind.u64.bits = k := by simp [IntKind.bits]; omega
  have e : ((x : Int)).fdiv (2 ^ k) = ((x / 2 ^ k : Nat) : Int) := by
    rw [Int.fdiv_eq_ediv_of_nonneg _ (Int.pow_nonneg (by decide))]
    simp
  simp only [binOp, Op.shift, if_neg h1, h2, e, Sem.run_pure]
theorem OB.not_blk {w : World} {b k : Nat} {A : Option Addr} {n c : Nat} {L : List UInt8} (h : OB w b A n c L) (hk : k < b) : blk A = none ∨ blk A ≠ some k := by
  refine .inr fun e => ?_
  have := (h.lt e).1
  omega
theorem flatMap_take_succ (hs : List UInt32) (k : Nat) (hk : k < hs.length) : (hs.take (k + 1)).flatMap bytesOf = (hs.take k).flatMap bytesOf ++ bytesOf (uw hs k) := by
  rw [List.take_succ_eq_append_getElem hk, List.flatMap_append]
  simp [uw, hk]
theorem drop_cut {M : List UInt8} {n i : Nat} (hM : M.length = n) : ((M.drop (64 * i)).take (n - 64 * i)).drop 64 = M.drop (64 * (i + 1)) := by
  rw [List.take_of_length_le (by simp; omega), List.drop_drop]
  rfl
end Go.Proofs.Ytkndgpjamijbbaa
namespace Go.Proofs.Ytkndgpjamijbbaa
set_option maxRecDepth 100000
open Go Go.RowKit
theorem wf_i64 {n : Int} (h : (Lit.int .i64 n).wf = true) : -9223372036854775808 ≤ n ∧ n ≤ 9223372036854775807 := by
  simp only [Lit.wf, Bool.and_eq_true, decide_eq_true_eq] at h
  have e1 : IntKind.i64.min = -9223372036854775808 := by rfl
  have e2 : IntKind.i64.max = 9223372036854775807 := by rfl
  rw [e1, e2] at h
  exact h
theorem wf_u8 {n : Int} (h : (Lit.int .u8 n).wf = true) : u8i (UInt8.ofNat n.toNat) = n := by
  simp only [Lit.wf, Bool.and_eq_true, decide_eq_true_eq] at h
  have e1 : IntKind.u8.min = 0 := by rfl
  have e2 : IntKind.u8.max = 255 := by rfl
  rw [e1, e2] at h
  unfold u8i
  rw [UInt8.toNat_ofNat']
  omega
/-- a row of numbers that came in, as bytes that are read -/
theorem rb_of_row {w : World} {a : Option Addr} {len cap : Nat} {zs : List Int}
    (h : (a = none ∧ len = 0 ∧ cap = 0 ∧ zs = []) ∨ ∃ x, a = some x ∧ len ≤ cap ∧ cap ≤ maxLen ∧ zs.length = cap ∧ (∀ i, i < zs.length → w.cell? (x.add i) = some (.int .u8 (zs.getD i 0))) ∧ ∀ n ∈ zs, (Lit.int .u8 n).wf = true) :
    RB w a len cap ((zs.take len).map fun z => UInt8.ofNat z.toNat) := by
  rcases h with ⟨rfl, rfl, rfl, rfl⟩ | ⟨x, rfl, h1, h2, h3, h4, h5⟩
  · exact RB.nil_ w
  · refine ⟨by simp; omega, h1, h2, fun _ => ⟨x, rfl, fun j hj => ?_⟩⟩
    rw [h4 j (by omega)]
    have hj3 : j < zs.length := by omega
    have e : zs.getD j 0 = zs[j] := by simp [hj3]
    have e2 : ub ((zs.take len).map fun z => UInt8.ofNat z.toNat) j = UInt8.ofNat (zs[j]).toNat := by simp [ub, hj3, hj]
    rw [e, e2, wf_u8 (h5 _ (List.getElem_mem hj3))]
end Go.Proofs.Ytkndgpjamijbbaa
namespace Go.Proofs.Ytkndgpjamijbbaa
set_option maxRecDepth 100000
open Go Go.RowKit Go.ChangeShapes Go.WideShapes
variable {H : Type} {enc : TypeId × Value → H} {w : World} {base : Nat} {held : Bool}
theorem row_arg {fuel : Nat} {cs : List Value} {x : DataW H × List MemPlace} (h : DataW.trod enc Try.prog w base (fun _ => true) held fuel 22 cs = some x) :
    ∃ (A : Option Addr) (n c : Nat) (L : List UInt8), cs = [.slice A n c] ∧ RB w A n c L := by
  rcases open_ints Try.underlying22 Try.underlying5 (by kernel_rfl) h with ⟨hcs, _⟩ | ⟨x, l, c, zs, hcs, _, hl, hm, hz, _, hcell, hwz⟩
  · exact ⟨none, 0, 0, [], hcs, RB.nil_ w⟩
  · exact ⟨some x, l, c, _, hcs, rb_of_row (.inr ⟨x, rfl, hl, hm, by simpa using hz, hcell, hwz⟩)⟩
end Go.Proofs.Ytkndgpjamijbbaa
namespace Go.Proofs.Ytkndgpjamijbbaa
set_option maxRecDepth 100000
open Go Go.RowKit
theorem run_lit0 (w : World) : (Instr.buildSlice 22 0 #[]).run Try.prog w = .ok (.slice (some ⟨w.heap.size, 0, none⟩) 0 0) (w.alloc (.cells #[] 5)) := by
  go_simp
theorem Runs.lit0 {o : Oper} {ρ : Operand → Value} {w : World} {G : Value → World → Prop} (ho : o.op = .buildSlice 22 0 #[]) 
    (h : ∀ w', Ext w w' → OB w' w.heap.size (some ⟨w.heap.size, 0, none⟩) 0 0 [] → G (.slice (some ⟨w.heap.size, 0, none⟩) 0 0) w') : Runs Try.prog o ρ w G := by
  refine Runs.of_run (r := .slice (some ⟨w.heap.size, 0, none⟩) 0 0) (w' := w.alloc (.cells (bv []).toArray 5)) ?_ (h _ (Ext.new w _) (OB.lit w [] rfl (small_maxLen (by decide))))
  unfold execOp
  simp only [ho, List.map_toArray, List.map_cons, List.map_nil, Sem.run_bind, run_lit0, Result.andThen_ok, Sem.run_pure]
  rfl

theorem run_lit1 (w : World) (x0 : Int) : (Instr.buildSlice 22 1 #[(0, Value.int .u8 x0)]).run Try.prog w = .ok (.slice (some ⟨w.heap.size, 0, none⟩) 1 1) (w.alloc (.cells #[Value.int .u8 x0] 5)) := by
  go_simp
theorem Runs.lit1 {o : Oper} {ρ : Operand → Value} {w : World} {G : Value → World → Prop} {y0 : Operand} {b0 : UInt8} (ho : o.op = .buildSlice 22 1 #[(0, y0)]) (h0 : ρ y0 = .int .u8 (u8i b0))
    (h : ∀ w', Ext w w' → OB w' w.heap.size (some ⟨w.heap.size, 0, none⟩) 1 1 [b0] → G (.slice (some ⟨w.heap.size, 0, none⟩) 1 1) w') : Runs Try.prog o ρ w G := by
  refine Runs.of_run (r := .slice (some ⟨w.heap.size, 0, none⟩) 1 1) (w' := w.alloc (.cells (bv [b0]).toArray 5)) ?_ (h _ (Ext.new w _) (OB.lit w [b0] rfl (small_maxLen (by decide))))
  unfold execOp
  simp only [ho, h0, List.map_toArray, List.map_cons, List.map_nil, Sem.run_bind, run_lit1, Result.andThen_ok, Sem.run_pure]
  rfl

theorem run_lit2 (w : World) (x0 x1 : Int) : (Instr.buildSlice 22 2 #[(0, Value.int .u8 x0), (1, Value.int .u8 x1)]).run Try.prog w = .ok (.slice (some ⟨w.heap.size, 0, none⟩) 2 2) (w.alloc (.cells #[Value.int .u8 x0, Value.int .u8 x1] 5)) := by
  go_simp
theorem Runs.lit2 {o : Oper} {ρ : Operand → Value} {w : World} {G : Value → World → Prop} {y0 y1 : Operand} {b0 b1 : UInt8} (ho : o.op = .buildSlice 22 2 #[(0, y0), (1, y1)]) (h0 : ρ y0 = .int .u8 (u8i b0)) (h1 : ρ y1 = .int .u8 (u8i b1))
    (h : ∀ w', Ext w w' → OB w' w.heap.size (some ⟨w.heap.size, 0, none⟩) 2 2 [b0, b1] → G (.slice (some ⟨w.heap.size, 0, none⟩) 2 2) w') : Runs Try.prog o ρ w G := by
  refine Runs.of_run (r := .slice (some ⟨w.heap.size, 0, none⟩) 2 2) (w' := w.alloc (.cells (bv [b0, b1]).toArray 5)) ?_ (h _ (Ext.new w _) (OB.lit w [b0, b1] rfl (small_maxLen (by decide))))
  unfold execOp
  simp only [ho, h0, h1, List.map_toArray, List.map_cons, List.map_nil, Sem.run_bind, run_lit2, Result.andThen_ok, Sem.run_pure]
  rfl

theorem run_lit4 (w : World) (x0 x1 x2 x3 : Int) : (Instr.buildSlice 22 4 #[(0, Value.int .u8 x0), (1, Value.int .u8 x1), (2, Value.int .u8 x2), (3, Value.int .u8 x3)]).run Try.prog w = .ok (.slice (some ⟨w.heap.size, 0, none⟩) 4 4) (w.alloc (.cells #[Value.int .u8 x0, Value.int .u8 x1, Value.int .u8 x2, Value.int .u8 x3] 5)) := by
  go_simp
theorem Runs.lit4 {o : Oper} {ρ : Operand → Value} {w : World} {G : Value → World → Prop} {y0 y1 y2 y3 : Operand} {b0 b1 b2 b3 : UInt8} (ho : o.op = .buildSlice 22 4 #[(0, y0), (1, y1), (2, y2), (3, y3)]) (h0 : ρ y0 = .int .u8 (u8i b0)) (h1 : ρ y1 = .int .u8 (u8i b1)) (h2 : ρ y2 = .int .u8 (u8i b2)) (h3 : ρ y3 = .int .u8 (u8i b3))
    (h : ∀ w', Ext w w' → OB w' w.heap.size (some ⟨w.heap.size, 0, none⟩) 4 4 [b0, b1, b2, b3] → G (.slice (some ⟨w.heap.size, 0, none⟩) 4 4) w') : Runs Try.prog o ρ w G := by
  refine Runs.of_run (r := .slice (some ⟨w.heap.size, 0, none⟩) 4 4) (w' := w.alloc (.cells (bv [b0, b1, b2, b3]).toArray 5)) ?_ (h _ (Ext.new w _) (OB.lit w [b0, b1, b2, b3] rfl (small_maxLen (by decide))))
  unfold execOp
  simp only [ho, h0, h1, h2, h3, List.map_toArray, List.map_cons, List.map_nil, Sem.run_bind, run_lit4, Result.andThen_ok, Sem.run_pure]
  rfl

end Go.Proofs.Ytkndgpjamijbbaa
namespace Go.Proofs.Ytkndgpjamijbbaa
set_option maxRecDepth 100000
open Go Go.RowKit
def lb (Ls : List (List UInt8)) (j : Nat) : List UInt8 := Ls.getD j []
structure RBB (w : World) (A : Option Addr) (n c : Nat) (Ls : List (List UInt8)) : Prop where
  len : Ls.length = n
  room : n ≤ c
  cap : c ≤ maxLen
  cells : 0 < n → ∃ ad, A = some ad ∧ ∀ j, j < n → ∃ B m d, w.cell? (ad.add j) = some (.slice B m d) ∧ RB w B m d (lb Ls j)
theorem RBB.ext {w w' : World} {A : Option Addr} {n c : Nat} {Ls : List (List UInt8)} (h : RBB w A n c Ls) (e : Ext w w') : RBB w' A n c Ls :=
  ⟨h.len, h.room, h.cap, fun hn => by
    obtain ⟨ad, ha, hc⟩ := h.cells hn
    refine ⟨ad, ha, fun j hj => ?_⟩
    obtain ⟨B, m, d, h1, h2⟩ := hc j hj
    exact ⟨B, m, d, e.cell h1, h2.ext e⟩⟩
theorem RBB.nil_ (w : World) : RBB w none 0 0 [] := ⟨rfl, Nat.le_refl _, Nat.zero_le _, fun h => absurd h (Nat.lt_irrefl _)⟩
theorem flatten_take_succ (Ls : List (List UInt8)) (k : Nat) (hk : k < Ls.length) : (Ls.take (k + 1)).flatten = (Ls.take k).flatten ++ lb Ls k := by
  rw [List.take_succ_eq_append_getElem hk, List.flatten_append]
  simp [lb, hk]
theorem flatten_take_le (Ls : List (List UInt8)) : ∀ k, ((Ls.take k).flatten).length ≤ Ls.flatten.length := by
  induction Ls with
  | nil => intro k; simp
  | cons L Ls ih =>
    intro k
    cases k with
    | zero => simp
    | succ k =>
      have := ih k
      simp only [List.take_succ_cons, List.flatten_cons, List.length_append]
      omega
theorem flatten_step_le (Ls : List (List UInt8)) (k : Nat) (hk : k < Ls.length) : ((Ls.take k).flatten).length + (lb Ls k).length ≤ Ls.flatten.length := by
  have h1 := flatten_take_le Ls (k + 1)
  rw [flatten_take_succ Ls k hk, List.length_append] at h1
  exact h1
end Go.Proofs.Ytkndgpjamijbbaa
namespace Go.Proofs.Ytkndgpjamijbbaa
set_option maxRecDepth 100000
open Go Go.RowKit Go.ChangeShapes Go.WideShapes
variable {H : Type} {enc : TypeId × Value → H} {w : World} {base : Nat} {held : Bool}
theorem rows_arg {fuel : Nat} {cs : List Value} {x : DataW H × List MemPlace} (h : DataW.trod enc Try.prog w base (fun _ => true) held fuel 23 cs = some x) :
    ∃ (A : Option Addr) (n c : Nat) (Ls : List (List UInt8)), cs = [.slice A n c] ∧ RBB w A n c Ls := by
  have h1 : Try.prog.cellsOf 22 = 1 := by kernel_rfl
  rcases DataW.trod_slice Try.underlying23 h with ⟨hcs, _⟩ | ⟨a, len, cap, elems, rest, n, _, rfl, rfl, hb, hl, hm, hlen, hel, hsp, hns⟩
  · exact ⟨none, 0, 0, [], hcs, RBB.nil_ w⟩
  · have each : ∀ i, i < len → ∃ L B m d, w.cell? (a.add i) = some (.slice B m d) ∧ RB w B m d L := by
      intro i hi
      have hy := hel i hi
      rw [h1, Nat.mul_one, List.getElem?_eq_getElem (by omega), Option.bind_eq_some_iff] at hy
      obtain ⟨cs', hcs, hy'⟩ := hy
      obtain ⟨B, m, d, L, rfl, r⟩ := row_arg hy'
      exact ⟨L, B, m, d, cell_of_cells?_one hcs, r⟩
    have pick : ∃ f : Nat → List UInt8, ∀ i, i < len → ∃ B m d, w.cell? (a.add i) = some (.slice B m d) ∧ RB w B m d (f i) :=
      ⟨fun i => if h : i < len then (each i h).choose else [], fun i hi => by
        have e : (if h : i < len then (each i h).choose else []) = (each i hi).choose := dif_pos hi
        show ∃ B m d, w.cell? (a.add i) = some (.slice B m d) ∧ RB w B m d (if h : i < len then (each i h).choose else [])
        rw [e]
        exact (each i hi).choose_spec⟩
    obtain ⟨f, hf⟩ := pick
    refine ⟨some a, len, cap, (List.range len).map f, rfl, ⟨by simp, hl, hm, fun _ => ⟨a, rfl, fun j hj => ?_⟩⟩⟩
    have e : lb ((List.range len).map f) j = f j := by simp [lb, hj]
    rw [e]
    exact hf j hj
end Go.Proofs.Ytkndgpjamijbbaa
namespace Go.Proofs.Ytkndgpjamijbbaa
set_option maxRecDepth 100000
open Go Go.RowKit
theorem RB.empty {w : World} {n c : Nat} {L : List UInt8} (h : RB w none n c L) : n = 0 ∧ L = [] := by
  have h1 := h.len
  rcases Nat.eq_zero_or_pos n with h0 | h0
  · subst h0
    exact ⟨rfl, List.eq_nil_of_length_eq_zero h1⟩
  · obtain ⟨ad, h2, _⟩ := h.cells h0
    cases h2
set_option maxHeartbeats 400000 in
theorem clone_any (A : Option Addr) (n c : Nat) (L : List UInt8) (w : World) (hr : RB w A n c L) (hn : n ≤ 140737488355328) :
    Calls Try.prog 49 #[.slice A n c] w fun e w' => ∃ B d, e = .returned (.slice B n d) ∧ OB w' w.heap.size B n d L ∧ Ext w w' := by
  go_enter Try.func49, Try.ntmps49
  rcases A with _ | A
  · go_wp2_with fail
    go_ret
    obtain ⟨h1, h2⟩ := hr.empty
    subst h1 h2
    exact ⟨none, 0, rfl, OB.none_ _ _, Ext.refl _⟩
  · have own0 := OB.lit w [] rfl (Nat.zero_le _)
    have hr0 := hr.ext (Ext.new w (.cells #[] 5))
    go_wp2_with (refine app_own (N := n) (LM := L) rfl rfl rfl rfl (Ext.new w _) own0 hr0 (by omega) rfl hn ?_; intro B d w1 hown1 hE1)
    go_ret
    exact ⟨B, d, rfl, hown1, hE1⟩
set_option maxHeartbeats 400000 in
theorem equal_any (A B : Option Addr) (n c m d : Nat) (L M : List UInt8) (w : World) (hr : RB w A n c L) (hs : RB w B m d M) :
    Calls Try.prog 78 #[.slice A n c, .slice B m d] w fun e w' => e = .returned (.bool (decide (L = M))) ∧ w = w' := by
  have h1 := run_str hr
  have h2 := run_str hs
  go_enter Try.func78, Try.ntmps78
  go_wp2_with fail
  go_ret
  refine ⟨?_, rfl⟩
  rw [str_toList, str_toList, beq_dec]
  rfl
end Go.Proofs.Ytkndgpjamijbbaa
namespace Go.Proofs.Ytkndgpjamijbbaa
set_option maxRecDepth 100000
open Go Go.RowKit
def Stays (A : Option Addr) (m : MP Ext) : Prop := ∀ u w w', w.grownBy w' (blk A) → m.p u w → m.p u w'
def StaysL (A : Option Addr) (k : Nat) : Nat → List (MP Ext) → Prop
  | _, [] => True
  | j, m :: l => (j = k ∨ Stays A m) ∧ StaysL A k (j + 1) l
theorem StaysL.at_ {A : Option Addr} {k : Nat} {F : List (MP Ext)} : ∀ {i j : Nat} {m : MP Ext}, StaysL A k i F → F[j]? = some m → i + j ≠ k → Stays A m := by
  induction F with
  | nil => intro i j m _ h; simp at h
  | cons x l ih =>
    intro i j m h hj hne
    cases j with
    | zero =>
      simp only [List.getElem?_cons_zero, Option.some.injEq] at hj
      subst hj
      rcases h.1 with e | e
      · exact absurd e (by omega)
      · exact e
    | succ j => exact ih (i := i + 1) (j := j) h.2 (by simpa only [List.getElem?_cons_succ] using hj) (by omega)
theorem RB.grown {w w' : World} {B : Option Addr} {n c : Nat} {L : List UInt8} (h : RB w B n c L) {row : Option Nat} (g : w.grownBy w' row) (hne : 0 < n → blk B ≠ row) : RB w' B n c L :=
  ⟨h.len, h.room, h.cap, fun hn => by
    obtain ⟨ad, rfl, hc⟩ := h.cells hn
    refine ⟨ad, rfl, fun j hj => g.cell (hc j hj) ?_⟩
    rw [block_of_add]
    exact hne hn⟩
section
variable {ops : Array Oper} {H : List Tmp} {F : List (MP Ext)} {a0 : Act} {w0 wI : World} {A : Option Addr} {n c : Nat} {L : List UInt8} {i k : Nat} {o : Oper}
end
end Go.Proofs.Ytkndgpjamijbbaa
namespace Go.Proofs.Ytkndgpjamijbbaa
set_option maxRecDepth 100000
open Go Go.RowKit

/-- but for block p and the row at A nothing that was there is turned -/
structure Chg (w w' : World) (p : Nat) (A : Option Addr) : Prop where
  os : w'.os = w.os
  tape : w'.tape = w.tape
  output : w'.output = w.output
  size : w.heap.size ≤ w'.heap.size
  block : ∀ k, k < w.heap.size → k ≠ p → blk A ≠ some k → w'.heap[k]? = w.heap[k]?
def Later (w : World) (A A' : Option Addr) : Prop := blk A' = blk A ∨ blk A' = none ∨ ∃ k, blk A' = some k ∧ w.heap.size ≤ k
theorem Chg.refl (w : World) (p : Nat) (A : Option Addr) : Chg w w p A := ⟨rfl, rfl, rfl, Nat.le_refl _, fun _ _ _ _ => rfl⟩
theorem Chg.trans {a b c : World} {p : Nat} {A B : Option Addr} (h : Chg a b p A) (hl : Later a A B) (k : Chg b c p B) : Chg a c p A :=
  ⟨k.os.trans h.os, k.tape.trans h.tape, k.output.trans h.output, Nat.le_trans h.size k.size, fun i hi h1 h2 => by
    refine (k.block i (Nat.lt_of_lt_of_le hi h.size) h1 ?_).trans (h.block i hi h1 h2)
    rcases hl with e | e | ⟨q, e, hq⟩
    · rw [e]; exact h2
    · rw [e]; simp
    · rw [e]; intro e2; cases e2; omega⟩
theorem Later.trans {a b : World} {A B C : Option Addr} (h : Later a A B) (hs : a.heap.size ≤ b.heap.size) (k : Later b B C) : Later a A C := by
  rcases k with e | e | ⟨q, e, hq⟩
  · rcases h with e' | e' | ⟨q', e', hq'⟩
    · exact .inl (e.trans e')
    · exact .inr (.inl (e.trans e'))
    · exact .inr (.inr ⟨q', e.trans e', hq'⟩)
  · exact .inr (.inl e)
  · exact .inr (.inr ⟨q, e, Nat.le_trans hs hq⟩)
theorem Later.refl (w : World) (A : Option Addr) : Later w A A := .inl rfl
theorem Ext.chg {w w' : World} (h : Ext w w') (p : Nat) (A : Option Addr) : Chg w w' p A := ⟨h.os, h.tape, h.output, h.size, fun _ hk _ _ => h.block hk⟩
/-- A Writer: block p holds the row that it has written so far. -/
structure Wtr (w : World) (base p : Nat) (A : Option Addr) (n c : Nat) (L : List UInt8) : Prop where
  blk : Blk w p 157 #[.slice A n c]
  own : OB w base A n c L
  ne : Go.Proofs.Ytkndgpjamijbbaa.blk A ≠ some p
  base : base ≤ p
/-- a slice that is read, apart from the Writer's own memory -/
def Away (B : Option Addr) (n p : Nat) (A : Option Addr) : Prop := 0 < n → ∀ k, blk B = some k → k ≠ p ∧ blk A ≠ some k
theorem RB.chg {w w' : World} {B : Option Addr} {n d p : Nat} {A : Option Addr} {M : List UInt8} (h : RB w B n d M) (k : Chg w w' p A) (ha : Away B n p A) : RB w' B n d M :=
  ⟨h.len, h.room, h.cap, fun hn => by
    obtain ⟨ad, rfl, hc⟩ := h.cells hn
    refine ⟨ad, rfl, fun j hj => ?_⟩
    have h1 := ha hn ad.block rfl
    have h2 := hc j hj
    have h3 := World.block_lt_of_cell? w _ h2
    rw [block_of_add] at h3
    refine (World.cell?_of_block ?_).trans h2
    rw [block_of_add]
    exact k.block _ h3 h1.1 h1.2⟩
theorem Away.later {w : World} {B : Option Addr} {n p : Nat} {A A' : Option Addr} (h : Away B n p A) (hl : Later w A A') (hb : 0 < n → ∀ k, blk B = some k → k < w.heap.size) : Away B n p A' := by
  intro hn k hk
  refine ⟨(h hn k hk).1, ?_⟩
  rcases hl with e | e | ⟨q, e, hq⟩
  · rw [e]; exact (h hn k hk).2
  · rw [e]; simp
  · rw [e]; intro e2; cases e2; have := hb hn _ hk; omega
theorem OB.far {w : World} {base n c : Nat} {A : Option Addr} {L : List UInt8} (h : OB w base A n c L) {p : Addr} {u : Value} (hp : blk A ≠ some p.block) : OB (w.setCell p u) base A n c L :=
  h.grown (grownBy_setCell w p u) (.inr hp)
end Go.Proofs.Ytkndgpjamijbbaa
namespace Go.Proofs.Ytkndgpjamijbbaa
set_option maxRecDepth 100000
open Go Go.RowKit
/-- behind a call that wrote: the Writer holds M; nothing but its own memory was turned -/
def WP (wI w : World) (p : Nat) (A0 : Option Addr) (N : Nat) (M : List UInt8) (w' : World) : Prop := ∃ A c, Wtr w' wI.heap.size p A N c M ∧ Chg w w' p A0 ∧ Later w A0 A
theorem WP.trans {wI w w1 w2 : World} {p N N' : Nat} {A0 : Option Addr} {M M' : List UInt8} {A : Option Addr} {c : Nat} (h1 : Wtr w1 wI.heap.size p A N c M) (h2 : Chg w w1 p A0) (h3 : Later w A0 A) (k : WP wI w1 p A N' M' w2) : WP wI w p A0 N' M' w2 := by
  obtain ⟨A', c', k1, k2, k3⟩ := k
  exact ⟨A', c', k1, h2.trans h3 k2, h3.trans h2.size k3⟩
end Go.Proofs.Ytkndgpjamijbbaa
namespace Go.Proofs.Ytkndgpjamijbbaa
set_option maxRecDepth 100000
open Go Go.RowKit
/-- A Reader: block q holds what is left, and whether bytes lacked. -/
structure Rdr (w : World) (base q : Nat) (A : Option Addr) (n c : Nat) (L : List UInt8) (bad : Bool) : Prop where
  blk : Blk w q 151 #[.slice A n c, .bool bad]
  rb : RB w A n c L
  ne : 0 < n → Go.Proofs.Ytkndgpjamijbbaa.blk A ≠ some q
  base : base ≤ q
  ty : 0 < n → ∀ k, Go.Proofs.Ytkndgpjamijbbaa.blk A = some k → ∃ cs fr, w.heap[k]? = some (.cells cs 5 fr)
theorem typed_ext {w w' : World} (e : Ext w w') {k : Nat} (h : ∃ cs fr, w.heap[k]? = some (.cells cs 5 fr)) : ∃ cs fr, w'.heap[k]? = some (.cells cs 5 fr) := by
  obtain ⟨cs, fr, h1⟩ := h
  exact ⟨cs, fr, (e.block (Array.getElem?_eq_some_iff.1 h1).1).trans h1⟩
def RdrS (w : World) (base q : Nat) (L : List UInt8) (bad : Bool) : Prop := ∃ A n c, n ≤ 140737488355328 ∧ Rdr w base q A n c L bad
theorem Rdr.later {w w' : World} {base q n c : Nat} {A : Option Addr} {L : List UInt8} {bad : Bool} (h : Rdr w base q A n c L bad) (e : Ext w w') : Rdr w' base q A n c L bad :=
  ⟨h.blk.ext e, h.rb.ext e, h.ne, h.base, fun hn k hk => typed_ext e (h.ty hn k hk)⟩
theorem RdrS.later {w w' : World} {base q : Nat} {L : List UInt8} {bad : Bool} (h : RdrS w base q L bad) (e : Ext w w') : RdrS w' base q L bad := by
  obtain ⟨A, n, c, h1, h2⟩ := h
  exact ⟨A, n, c, h1, h2.later e⟩
end Go.Proofs.Ytkndgpjamijbbaa

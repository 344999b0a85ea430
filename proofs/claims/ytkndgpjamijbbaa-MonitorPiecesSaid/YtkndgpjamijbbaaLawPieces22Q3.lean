/-
  Rows of words that the call laid (arrays), addresses, loads and stores. Plain theorems over this seat's program. Each named function of the translation is entered when it is called.
-/
import Derived.Test.YtkndgpjamijbbaaLawPieces22Q2
import Derived.Laws.Rows
import Derived.Laws.Tables
namespace Go.Proofs.Ytkndgpjamijbbaa
set_option maxRecDepth 100000
open Go Go.RowKit

/-- Block g is just the cells cs of element type t, none frozen. -/
def Blk (w : World) (g : Nat) (t : TypeId) (cs : Array Value) : Prop := w.heap[g]? = some (.cells cs t (0, 0))
section
variable {w w' : World} {g : Nat} {t : TypeId} {cs : Array Value}
theorem Blk.lt (h : Blk w g t cs) : g < w.heap.size := (Array.getElem?_eq_some_iff.1 h).1
theorem Blk.cell (h : Blk w g t cs) {i : Nat} {v : Value} (hi : cs[i]? = some v) : w.cell? ⟨g, i, none⟩ = some v := by rw [cell_of_row w g i cs t (0, 0) h, hi]
theorem Blk.frozen (h : Blk w g t cs) (i : Nat) : w.frozen? ⟨g, i, none⟩ = false := frozen_of_row w g i cs t h
theorem Blk.new (w : World) (t : TypeId) (cs : Array Value) : Blk (w.alloc (.cells cs t)) w.heap.size t cs := heap_alloc_new w _
theorem Blk.ext (h : Blk w g t cs) (e : Ext w w') : Blk w' g t cs := (e.block h.lt).trans h
theorem Blk.grown {row : Option Nat} (h : Blk w g t cs) (e : w.grownBy w' row) (hne : some g ≠ row) : Blk w' g t cs := (e.block g h.lt hne).trans h
theorem Blk.set (h : Blk w g t cs) (i : Nat) (u : Value) : Blk (w.setCell ⟨g, i, none⟩ u) g t (cs.setIfInBounds i u) := by
  unfold Blk at h ⊢
  simp [World.setCell, Array.getElem?_modify, h]
theorem Blk.far (h : Blk w g t cs) {p : Addr} (hp : g ≠ p.block) (u : Value) : Blk (w.setCell p u) g t cs := (Below.heap_setCell w p u g hp).trans h
theorem Blk.ne_ {g' : Nat} {t' : TypeId} {cs' : Array Value} (h : Blk w g t cs) (h' : Blk w g' t' cs') (hne : t ≠ t') : g ≠ g' := by
  rintro rfl
  unfold Blk at h h'
  rw [h] at h'
  injection h' with h'
  injection h' with _ ht
  exact hne ht
end
theorem grownBy_setCell (w : World) (p : Addr) (u : Value) : w.grownBy (w.setCell p u) (some p.block) :=
  ⟨rfl, rfl, rfl, by simp [World.setCell], fun k _ hne => Below.heap_setCell w p u k (fun e => hne (by rw [e]))⟩

def uv (l : List UInt32) : Array Value := (l.map fun x => Value.int .u32 (u32i x)).toArray
theorem uv_size (l : List UInt32) : (uv l).size = l.length := by simp [uv]
theorem uv_get {l : List UInt32} {i : Nat} (h : i < l.length) : (uv l)[i]? = some (.int .u32 (u32i (uw l i))) := by simp [uv, uw, h]
theorem uv_set (l : List UInt32) (i : Nat) (x : UInt32) : (uv l).setIfInBounds i (.int .u32 (u32i x)) = uv (l.set i x) := by
  unfold uv
  rw [List.setIfInBounds_toArray, List.map_set]
theorem uv_one (l : List UInt32) : ∀ v ∈ (uv l).toList, v.oneCell' = true := by
  intro v hv
  simp only [uv, List.mem_map] at hv
  obtain ⟨x, _, rfl⟩ := hv
  rfl
/-- A row of words in block g. -/
def Arr (w : World) (g : Nat) (t : TypeId) (l : List UInt32) : Prop := Blk w g t (uv l)
section
variable {w w' : World} {g : Nat} {t : TypeId} {l : List UInt32}
theorem Arr.ext (h : Arr w g t l) (e : Ext w w') : Arr w' g t l := Blk.ext h e
theorem Arr.cell (h : Arr w g t l) {i : Nat} (hi : i < l.length) : w.cell? ⟨g, i, none⟩ = some (.int .u32 (u32i (uw l i))) := Blk.cell h (uv_get hi)
theorem Arr.frozen (h : Arr w g t l) (i : Nat) : w.frozen? ⟨g, i, none⟩ = false := Blk.frozen h i
theorem Arr.set (h : Arr w g t l) (i : Nat) (x : UInt32) : Arr (w.setCell ⟨g, i, none⟩ (.int .u32 (u32i x))) g t (l.set i x) := by
  have := Blk.set h i (.int .u32 (u32i x))
  rwa [uv_set] at this
theorem Arr.far (h : Arr w g t l) {p : Addr} (hp : g ≠ p.block) (u : Value) : Arr (w.setCell p u) g t l := Blk.far h hp u
theorem Arr.grown {row : Option Nat} (h : Arr w g t l) (e : w.grownBy w' row) (hne : some g ≠ row) : Arr w' g t l := Blk.grown h e hne
theorem Arr.lt (h : Arr w g t l) : g < w.heap.size := Blk.lt h
theorem Arr.new (w : World) (t : TypeId) (l : List UInt32) : Arr (w.alloc (.cells (uv l) t)) w.heap.size t l := Blk.new w t _
end

/-- A world gets a name of its own; what is to be known of it is told. -/
theorem genW {P : Program} {c : Code} {Q : Exit → Act → World → Prop} {a : Act} {w : World} (R : World → Prop) (hR : R w) (h : ∀ W, R W → c.wp P Q a W) : c.wp P Q a w := h w hR
theorem new2 (w : World) (o p : Obj) : ((w.alloc o).alloc p).heap[w.heap.size]? = some o ∧ ((w.alloc o).alloc p).heap[w.heap.size + 1]? = some p ∧ ((w.alloc o).alloc p).heap.size = w.heap.size + 1 + 1 := by
  have h1 := size_new w o
  have h2 := heap_alloc_new (w.alloc o) p
  rw [h1] at h2
  exact ⟨(Below.heap_alloc _ p _ (by omega)).trans (heap_alloc_new w o), h2, by rw [size_new, h1]⟩
theorem new3 (w : World) (o p q : Obj) : (((w.alloc o).alloc p).alloc q).heap[w.heap.size]? = some o ∧ (((w.alloc o).alloc p).alloc q).heap[w.heap.size + 1]? = some p ∧ (((w.alloc o).alloc p).alloc q).heap[w.heap.size + 1 + 1]? = some q ∧ (((w.alloc o).alloc p).alloc q).heap.size = w.heap.size + 1 + 1 + 1 := by
  obtain ⟨h1, h2, h3⟩ := new2 w o p
  have h4 := heap_alloc_new ((w.alloc o).alloc p) q
  rw [h3] at h4
  exact ⟨(Below.heap_alloc _ q _ (by omega)).trans h1, (Below.heap_alloc _ q _ (by omega)).trans h2, h4, by rw [size_new, h3]⟩
section
variable {P : Program} {w : World}
/-- '&xs[i]' of a slice -/
theorem run_idx_sl {t e : TypeId} {i0 : TypeInfo} (ht : P.underlying t = some (.slice e)) (hi : P.info? e = some i0) {sz : Nat} (hs : i0.size = sz) {ad : Addr} {n c : Nat} {k : IntKind} {i : Int} (h0 : 0 ≤ i) (h1 : i < n) :
    (Instr.indexAt t (.slice (some ad) n c) (.int k i)).run P w = .ok (.pointer (some (ad.add (i.toNat * sz)))) w := by
  simp [Instr.indexAt, asIntOf, run_underlying ht, sizeOf, typeInfo, hi, hs, h0, h1]
/-- '&a[i]' of an array -/
theorem run_idx_arr {t e : TypeId} {N : Nat} {i0 : TypeInfo} (ht : P.underlying t = some (.array N e)) (hi : P.info? e = some i0) (hs : i0.size = 1) {g : Nat} {k : IntKind} {i : Int} (h0 : 0 ≤ i) (h1 : i < N) :
    (Instr.indexAt t (.pointer (some ⟨g, 0, none⟩)) (.int k i)).run P w = .ok (.pointer (some ⟨g, i.toNat, none⟩)) w := by
  simp [Instr.indexAt, asIntOf, run_underlying ht, sizeOf, typeInfo, hi, hs, h0, h1, Instr.sureAddr, add_plain]
theorem run_idx_sl1 {t e : TypeId} {i0 : TypeInfo} (ht : P.underlying t = some (.slice e)) (hi : P.info? e = some i0) (hs : i0.size = 1) {ad : Addr} {n c : Nat} {k : IntKind} {i : Int} (j : Nat) (hj : i = (j : Int)) (h1 : j < n) :
    (Instr.indexAt t (.slice (some ad) n c) (.int k i)).run P w = .ok (.pointer (some (ad.add j))) w := by
  subst hj
  have := run_idx_sl (P := P) (w := w) ht hi hs (ad := ad) (n := n) (c := c) (k := k) (i := (j : Int)) (by omega) (by omega)
  simpa using this
theorem run_idx_arr1 {t e : TypeId} {N : Nat} {i0 : TypeInfo} (ht : P.underlying t = some (.array N e)) (hi : P.info? e = some i0) (hs : i0.size = 1) {g : Nat} {k : IntKind} {i : Int} (j : Nat) (hj : i = (j : Int)) (h1 : j < N) :
    (Instr.indexAt t (.pointer (some ⟨g, 0, none⟩)) (.int k i)).run P w = .ok (.pointer (some ⟨g, j, none⟩)) w := by
  subst hj
  have := run_idx_arr (P := P) (w := w) ht hi hs (g := g) (k := k) (i := (j : Int)) (by omega) (by omega)
  simpa using this
/-- 's[:h]' of a slice -/
theorem run_cut_h {t e : TypeId} {i0 : TypeInfo} (ht : P.underlying t = some (.slice e)) (hi : P.info? e = some i0) {A : Option Addr} {n c : Nat} {k : IntKind} {i : Int} (j : Nat) (hj : i = (j : Int)) (h1 : j ≤ c) :
    (Instr.sliceAt t (.slice A n c) none (some (.int k i)) none).run P w = .ok (.slice A j c) w := by
  subst hj
  have ha : ∀ x : Addr, x.add 0 = x := fun x => by simp [Addr.add]
  simp [Instr.sliceAt, run_underlying ht, Instr.slice, Instr.sliceBounds, Instr.sliceBound, asIntOf, sizeOf, typeInfo, hi, h1, ha]
/-- 's[l:]' of a slice -/
theorem run_cut_l {t e : TypeId} {i0 : TypeInfo} (ht : P.underlying t = some (.slice e)) (hi : P.info? e = some i0) {sz : Nat} (hs : i0.size = sz) {A : Option Addr} {n c : Nat} {k : IntKind} {i : Int} (j : Nat) (hj : i = (j : Int)) (h1 : j ≤ n) :
    (Instr.sliceAt t (.slice A n c) (some (.int k i)) none none).run P w = .ok (.slice (if c = j then A else A.map (·.add (j * sz))) (n - j) (c - j)) w := by
  subst hj
  simp [Instr.sliceAt, run_underlying ht, Instr.slice, Instr.sliceBounds, Instr.sliceBound, asIntOf, sizeOf, typeInfo, hi, hs, h1]
/-- 's[l:h]' of a slice -/
theorem run_cut_lh {t e : TypeId} {i0 : TypeInfo} (ht : P.underlying t = some (.slice e)) (hi : P.info? e = some i0) {sz : Nat} (hs : i0.size = sz) {A : Option Addr} {n c : Nat} {k k' : IntKind} {i i' : Int} (j j' : Nat) (hj : i = (j : Int)) (hj' : i' = (j' : Int)) (h1 : j ≤ j') (h3 : j' ≤ c) :
    (Instr.sliceAt t (.slice A n c) (some (.int k i)) (some (.int k' i')) none).run P w = .ok (.slice (if c = j then A else A.map (·.add (j * sz))) (j' - j) (c - j)) w := by
  subst hj hj'
  simp [Instr.sliceAt, run_underlying ht, Instr.slice, Instr.sliceBounds, Instr.sliceBound, asIntOf, sizeOf, typeInfo, hi, hs, h1, h3]
/-- a one-cell load -/
theorem run_load1 {t : TypeId} {d : TypeDesc} (ht : P.underlying t = some d) (hd : (match d with | .struct _ | .array _ _ => true | _ => false) = false) {ad : Addr} {v : Value} (hc : w.cell? ad = some v) :
    (Instr.loadAt t (.pointer (some ad))).run P w = .ok v w := by
  have hagg : (isAgg t).run P w = .ok false w := by
    unfold isAgg
    rw [Sem.run_bind, run_underlying ht w]
    cases d <;> simp_all
  simp [Instr.loadAt, Instr.sureAddr, loadVar, hagg, load, Sem.run, hc]
/-- a whole row is stored -/
theorem run_store_row {t : TypeId} {i0 : TypeInfo} (hi : P.info? t = some i0) {g : Nat} {e : TypeId} {old cs : Array Value} (hg : Blk w g e old) (h1 : cs.size = old.size) (hs : i0.size = cs.size) (hone : ∀ v ∈ cs.toList, v.oneCell' = true) :
    ∃ w', (Instr.storeAt t (.pointer (some ⟨g, 0, none⟩)) (.agg cs)).run P w = .ok () w' ∧ Blk w' g e cs ∧ w.grownBy w' (some g) ∧ w'.heap.size = w.heap.size := by
  have h := run_storeCells_from (P := P) g e cs.toList 0 old w hg (by simp [h1]) hone
  refine ⟨w.setRow g cs, ?_, setRow_heap w g old cs e (0, 0) hg, ⟨rfl, rfl, rfl, by simp, fun k _ hne => setRow_other w g k _ (fun e => hne (by rw [e]))⟩, by simp⟩
  simp only [List.take_zero, List.nil_append, Array.toArray_toList] at h
  simp [Instr.storeAt, Instr.sureAddr, storeVar, sizeOf, typeInfo, hi, Value.cells, hs, h]
end

section
variable {P : Program} {o : Oper} {ρ : Operand → Value} {w : World} {G : Value → World → Prop}
theorem Runs.idx {t : TypeId} {x i : Operand} {u v r : Value} (ho : o.op = .indexAddr t x i) (hx : ρ x = u) (hi : ρ i = v) (hr : (Instr.indexAt t u v).run P w = .ok r w) (h : G r w) : Runs P o ρ w G := by
  refine Runs.of_run (r := r) (w' := w) ?_ h
  unfold execOp
  simp only [ho, hx, hi, Sem.run_bind, hr, Result.andThen_ok, Sem.run_pure]
theorem Runs.load {t : TypeId} {x : Operand} {u r : Value} (ho : o.op = .load t x) (hx : ρ x = u) (hr : (Instr.loadAt t u).run P w = .ok r w) (h : G r w) : Runs P o ρ w G := by
  refine Runs.of_run (r := r) (w' := w) ?_ h
  unfold execOp
  simp only [ho, hx, Sem.run_bind, hr, Result.andThen_ok, Sem.run_pure]
theorem Runs.nil_ {x : Operand} {ad : Addr} (ho : o.op = .nilCheck x) (hx : ρ x = .pointer (some ad)) (h : G (.pointer (some ad)) w) : Runs P o ρ w G := by
  refine Runs.of_run (r := .pointer (some ad)) (w' := w) ?_ h
  unfold execOp
  simp only [ho, hx, Sem.run_bind, Result.andThen_ok, Sem.run_pure]
theorem Runs.slice {t : TypeId} {x : Operand} {lo hi mx : Option Operand} {u r : Value} (ho : o.op = .slice t x lo hi mx) (hx : ρ x = u) (hr : (Instr.sliceAt t u (lo.map ρ) (hi.map ρ) (mx.map ρ)).run P w = .ok r w) (h : G r w) : Runs P o ρ w G := by
  refine Runs.of_run (r := r) (w' := w) ?_ h
  unfold execOp
  simp only [ho, hx, Sem.run_bind, hr, Result.andThen_ok, Sem.run_pure]
theorem Runs.len {t : TypeId} {x : Operand} {A : Option Addr} {n c : Nat} {e : TypeId} (ht : P.underlying t = some (.slice e)) (ho : o.op = .call { callee := .builtin .len, args := #[x], argTypes := #[t] }) (hx : ρ x = .slice A n c) (h : G (.int .i64 n) w) : Runs P o ρ w G := by
  refine Runs.of_run (r := .int .i64 n) (w' := w) ?_ h
  unfold execOp
  simp [ho, hx, resolve, invoke, builtin, Builtin.len_, run_underlying ht, goInt]
end

section
variable {P : Program} {ops : Array Oper} {rest : List Oper} {o : Oper} {a : Act} {Q : Exit → Act → World → Prop} {w : World}
theorem ldrow_law {t : TypeId} {x : Operand} {g : Nat} {e : TypeId} {l : List UInt32} {N : Nat} {el : TypeId} (hgd : o.guard = none) (ho : o.op = .load t x) (hx : a.eval x = .pointer (some ⟨g, 0, none⟩)) (hg : Arr w g e l)
    (hu : P.underlying t = some (.array N el)) (hi : (P.info? t).map (·.size) = some N) (hl : l.length = N) (h : wpList P ops Q rest (a.put o.dst (.agg (uv l))) w) : wpList P ops Q (o :: rest) a w :=
  wpList_load_row hgd t x ho g hx e (uv l) (0, 0) _ hg hu rfl (by rw [hi, uv_size, hl]) h
theorem strow_law {t : TypeId} {x y : Operand} {g : Nat} {e : TypeId} {l l' : List UInt32} {i0 : TypeInfo} (hgd : o.guard = none) (ho : o.op = .store t x y) (hx : a.eval x = .pointer (some ⟨g, 0, none⟩)) (hy : a.eval y = .agg (uv l')) (hg : Arr w g e l)
    (hi : P.info? t = some i0) (hs : i0.size = l'.length) (hl : l'.length = l.length)
    (h : ∀ w', Arr w' g e l' → w.grownBy w' (some g) → w'.heap.size = w.heap.size → wpList P ops Q rest (a.put o.dst undef) w') : wpList P ops Q (o :: rest) a w := by
  obtain ⟨w', hr, h1, h2, h3⟩ := run_store_row (P := P) (w := w) (t := t) hi hg (cs := uv l') (by rw [uv_size, uv_size, hl]) (by rw [uv_size, hs]) (uv_one l')
  refine wpList_plain hgd fun K hK => ?_
  unfold Oper.wp execOp
  simp only [ho, hx, hy, Sem.run_bind, hr, Result.andThen_ok, Sem.run_pure]
  exact hK _ _ (h w' h1 h2 h3)
end

/-- an operation whose run is known -/
theorem run_law {P : Program} {ops : Array Oper} {rest : List Oper} {o : Oper} {a : Act} {Q : Exit → Act → World → Prop} {w w' : World} {v : Value} (hgd : o.guard = none) (hr : (execOp a.eval o).run P w = .ok (.value v) w') (h : wpList P ops Q rest (a.put o.dst v) w') : wpList P ops Q (o :: rest) a w := by
  refine wpList_plain hgd fun K hK => ?_
  unfold Oper.wp
  rw [hr]
  exact hK _ _ h
theorem pure_law {P : Program} {ops : Array Oper} {rest : List Oper} {o : Oper} {a : Act} {Q : Exit → Act → World → Prop} {w : World} {v : Value} (hgd : o.guard = none) (hr : (execOp a.eval o).run P w = .ok (.value v) w) (h : wpList P ops Q rest (a.put o.dst v) w) : wpList P ops Q (o :: rest) a w := run_law hgd hr h
theorem run_ldrow {P : Program} {w : World} {t : TypeId} {g : Nat} {e : TypeId} {l : List UInt32} {N : Nat} {el : TypeId} (hg : Arr w g e l) (hu : P.underlying t = some (.array N el)) (hi : (P.info? t).map (·.size) = some N) (hl : l.length = N) :
    (Instr.loadAt t (.pointer (some ⟨g, 0, none⟩))).run P w = .ok (.agg (uv l)) w := by
  simp [Instr.loadAt, Instr.sureAddr, run_loadVar_row w g e t (uv l) (0, 0) _ hg hu rfl (by rw [hi, uv_size, hl])]
def slLen : Value → Nat
  | .slice _ n _ => n
  | _ => 0
theorem ub_take {L : List UInt8} {k j : Nat} (h : j < k) : ub (L.take k) j = ub L j := by unfold ub; simp [List.getElem?_take_of_lt h]
end Go.Proofs.Ytkndgpjamijbbaa
namespace Go.Proofs.Ytkndgpjamijbbaa
set_option maxRecDepth 100000
open Go

theorem ent18 (args : Array Value) (w : World) : (callFunc 18 args).run Try.prog w = .ok (.enter 18 args) w := run_enter Try.func18 (by kernel_rfl) (by kernel_rfl) args w
theorem ent19 (args : Array Value) (w : World) : (callFunc 19 args).run Try.prog w = .ok (.enter 19 args) w := run_enter Try.func19 (by kernel_rfl) (by kernel_rfl) args w
theorem ent25 (args : Array Value) (w : World) : (callFunc 25 args).run Try.prog w = .ok (.enter 25 args) w := run_enter Try.func25 (by kernel_rfl) (by kernel_rfl) args w
theorem ent29 (args : Array Value) (w : World) : (callFunc 29 args).run Try.prog w = .ok (.enter 29 args) w := run_enter Try.func29 (by kernel_rfl) (by kernel_rfl) args w
theorem ent37 (args : Array Value) (w : World) : (callFunc 37 args).run Try.prog w = .ok (.enter 37 args) w := run_enter Try.func37 (by kernel_rfl) (by kernel_rfl) args w
theorem ent38 (args : Array Value) (w : World) : (callFunc 38 args).run Try.prog w = .ok (.enter 38 args) w := run_enter Try.func38 (by kernel_rfl) (by kernel_rfl) args w
theorem ent40 (args : Array Value) (w : World) : (callFunc 40 args).run Try.prog w = .ok (.enter 40 args) w := run_enter Try.func40 (by kernel_rfl) (by kernel_rfl) args w
theorem ent41 (args : Array Value) (w : World) : (callFunc 41 args).run Try.prog w = .ok (.enter 41 args) w := run_enter Try.func41 (by kernel_rfl) (by kernel_rfl) args w
theorem ent43 (args : Array Value) (w : World) : (callFunc 43 args).run Try.prog w = .ok (.enter 43 args) w := run_enter Try.func43 (by kernel_rfl) (by kernel_rfl) args w
theorem ent47 (args : Array Value) (w : World) : (callFunc 47 args).run Try.prog w = .ok (.enter 47 args) w := run_enter Try.func47 (by kernel_rfl) (by kernel_rfl) args w
theorem ent49 (args : Array Value) (w : World) : (callFunc 49 args).run Try.prog w = .ok (.enter 49 args) w := run_enter Try.func49 (by kernel_rfl) (by kernel_rfl) args w
theorem ent51 (args : Array Value) (w : World) : (callFunc 51 args).run Try.prog w = .ok (.enter 51 args) w := run_enter Try.func51 (by kernel_rfl) (by kernel_rfl) args w
theorem ent55 (args : Array Value) (w : World) : (callFunc 55 args).run Try.prog w = .ok (.enter 55 args) w := run_enter Try.func55 (by kernel_rfl) (by kernel_rfl) args w
theorem ent57 (args : Array Value) (w : World) : (callFunc 57 args).run Try.prog w = .ok (.enter 57 args) w := run_enter Try.func57 (by kernel_rfl) (by kernel_rfl) args w
theorem ent60 (args : Array Value) (w : World) : (callFunc 60 args).run Try.prog w = .ok (.enter 60 args) w := run_enter Try.func60 (by kernel_rfl) (by kernel_rfl) args w
theorem ent64 (args : Array Value) (w : World) : (callFunc 64 args).run Try.prog w = .ok (.enter 64 args) w := run_enter Try.func64 (by kernel_rfl) (by kernel_rfl) args w
theorem ent71 (args : Array Value) (w : World) : (callFunc 71 args).run Try.prog w = .ok (.enter 71 args) w := run_enter Try.func71 (by kernel_rfl) (by kernel_rfl) args w
theorem ent83 (args : Array Value) (w : World) : (callFunc 83 args).run Try.prog w = .ok (.enter 83 args) w := run_enter Try.func83 (by kernel_rfl) (by kernel_rfl) args w
theorem ent85 (args : Array Value) (w : World) : (callFunc 85 args).run Try.prog w = .ok (.enter 85 args) w := run_enter Try.func85 (by kernel_rfl) (by kernel_rfl) args w
theorem ent98 (args : Array Value) (w : World) : (callFunc 98 args).run Try.prog w = .ok (.enter 98 args) w := run_enter Try.func98 (by kernel_rfl) (by kernel_rfl) args w
theorem ent99 (args : Array Value) (w : World) : (callFunc 99 args).run Try.prog w = .ok (.enter 99 args) w := run_enter Try.func99 (by kernel_rfl) (by kernel_rfl) args w
theorem ent100 (args : Array Value) (w : World) : (callFunc 100 args).run Try.prog w = .ok (.enter 100 args) w := run_enter Try.func100 (by kernel_rfl) (by kernel_rfl) args w
theorem ent101 (args : Array Value) (w : World) : (callFunc 101 args).run Try.prog w = .ok (.enter 101 args) w := run_enter Try.func101 (by kernel_rfl) (by kernel_rfl) args w
theorem ent104 (args : Array Value) (w : World) : (callFunc 104 args).run Try.prog w = .ok (.enter 104 args) w := run_enter Try.func104 (by kernel_rfl) (by kernel_rfl) args w
theorem ent105 (args : Array Value) (w : World) : (callFunc 105 args).run Try.prog w = .ok (.enter 105 args) w := run_enter Try.func105 (by kernel_rfl) (by kernel_rfl) args w
theorem ent106 (args : Array Value) (w : World) : (callFunc 106 args).run Try.prog w = .ok (.enter 106 args) w := run_enter Try.func106 (by kernel_rfl) (by kernel_rfl) args w
theorem ent109 (args : Array Value) (w : World) : (callFunc 109 args).run Try.prog w = .ok (.enter 109 args) w := run_enter Try.func109 (by kernel_rfl) (by kernel_rfl) args w
theorem ent111 (args : Array Value) (w : World) : (callFunc 111 args).run Try.prog w = .ok (.enter 111 args) w := run_enter Try.func111 (by kernel_rfl) (by kernel_rfl) args w
theorem ent119 (args : Array Value) (w : World) : (callFunc 119 args).run Try.prog w = .ok (.enter 119 args) w := run_enter Try.func119 (by kernel_rfl) (by kernel_rfl) args w
theorem ent124 (args : Array Value) (w : World) : (callFunc 124 args).run Try.prog w = .ok (.enter 124 args) w := run_enter Try.func124 (by kernel_rfl) (by kernel_rfl) args w
end Go.Proofs.Ytkndgpjamijbbaa

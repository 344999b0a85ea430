/-
  One operation at a time: what each kind of operation yields, for the region law. Plain theorems. The machine's operations on words, bytes and small numbers, in the words of the plain texts. Plain theorems.
-/
import Derived.Test.YtkndgpjamijbbaaLawPieces22Q0
import Derived.Test.YtkndgpjamijbbaaLawPieces22Q1
namespace Go.Proofs.Ytkndgpjamijbbaa
set_option maxRecDepth 100000
open Go Go.RowKit

section
variable {P : Program} {o : Oper} {ρ : Operand → Value} {w : World} {G : Value → World → Prop}
theorem Runs.move {x : Operand} {v : Value} (ho : o.op = .move x) (hx : ρ x = v) (h : G v w) : Runs P o ρ w G := by
  unfold Runs execOp
  simp only [ho, Sem.run_pure, hx]
  exact h
theorem Runs.assign {x : Operand} {v : Value} (ho : o.op = .assign x) (hx : ρ x = v) (h : G v w) : Runs P o ρ w G := by
  unfold Runs execOp
  simp only [ho, Sem.run_pure, hx]
  exact h
theorem Runs.pick {c x y : Operand} {b : Bool} (ho : o.op = .pick c x y) (hc : ρ c = .bool b) (h : G (if b then ρ x else ρ y) w) : Runs P o ρ w G := by
  unfold Runs execOp
  simp only [ho, hc, asBool, Sem.run_bind, Sem.run_pure, Result.andThen_ok]
  exact h
theorem Runs.bin {op : BinOp} {t yt : TypeId} {x y : Operand} {u v r : Value} (ho : o.op = .binOp op t x y yt) (hx : ρ x = u) (hy : ρ y = v)
    (hg : (eqGuard op t x y u v).run P w = .ok () w) (hr : (binOp op t u v).run P w = .ok r w) (h : G r w) : Runs P o ρ w G := by
  unfold Runs execOp
  simp only [ho, hx, hy, Sem.run_bind, hg, hr, Result.andThen_ok, Sem.run_pure]
  exact h
theorem Runs.un {op : UnOp} {t : TypeId} {x : Operand} {u r : Value} (ho : o.op = .unOp op t x) (hx : ρ x = u) (hr : (Op.unary op u).run P w = .ok r w) (h : G r w) : Runs P o ρ w G := by
  unfold Runs execOp
  simp only [ho, hx, Sem.run_bind, hr, Result.andThen_ok, Sem.run_pure]
  exact h
theorem Runs.conv {s t : TypeId} {x : Operand} {u r : Value} (ho : o.op = .convert s t x) (hx : ρ x = u) (hr : (convert s t u).run P w = .ok r w) (h : G r w) : Runs P o ρ w G := by
  unfold Runs execOp
  simp only [ho, hx, Sem.run_bind, hr, Result.andThen_ok, Sem.run_pure]
  exact h
/-- any operation whose run is known -/
theorem Runs.of_run {r : Value} {w' : World} (hr : (execOp ρ o).run P w = .ok (.value r) w') (h : G r w') : Runs P o ρ w G := by
  unfold Runs
  simp only [hr]
  exact h
theorem Runs.call {f : FuncId} {vs : List Value} {c : Call} (ho : o.op = .call c) (hc : c.callee = .value (.func f)) (hf : ρ (.func f) = .func (.func f) #[] #[]) (ha : (c.args.map ρ) = vs.toArray)
    (hrun : (callFunc f vs.toArray).run P w = .ok (.enter f vs.toArray) w)
    (h : Calls P f vs.toArray w fun e w' => ∃ v, e = .returned v ∧ G v w') : Runs P o ρ w G := by
  unfold Runs execOp
  simp only [ho, resolve, hc, ha, hf, Deferred.ofValue, Sem.run_bind, Sem.run_pure, Result.andThen_ok, invoke, Array.empty_append, Array.append_empty, hrun]
  exact h
theorem run_enter {P : Program} {f : FuncId} {fn : Func} (hf : P.funcs[f]? = some fn) (hn : (fn.name == "runtime.NumGoroutine") = false) (hb : fn.body.isNone = false) (args : Array Value) (w : World) :
    (callFunc f args).run P w = .ok (.enter f args) w := by
  have hn' : ¬ fn.name = "runtime.NumGoroutine" := by simpa using hn
  have hb' : ¬ fn.body = none := by intro h; rw [h] at hb; cases hb
  simp [callFunc, hf, hn', hb']
end

/-! ### the common case: nothing that was there is turned -/
def MP.is {R : World → World → Prop} (v : Value) : MP R := ⟨fun u _ => u = v, fun _ _ _ _ h => h⟩
def MP.any {R : World → World → Prop} : MP R := ⟨fun _ _ => True, fun _ _ _ _ _ => trivial⟩
/-- a byte slice that reads as L -/
def MP.rb (L : List UInt8) : MP Ext := ⟨fun u w => ∃ A n c, u = .slice A n c ∧ RB w A n c L, fun _ _ _ e ⟨A, n, c, h1, h2⟩ => ⟨A, n, c, h1, h2.ext e⟩⟩
/-- a byte slice of the call's own, at or beyond block b -/
def MP.ob (b : Nat) (L : List UInt8) : MP Ext := ⟨fun u w => ∃ A n c, u = .slice A n c ∧ OB w b A n c L, fun _ _ _ e ⟨A, n, c, h1, h2⟩ => ⟨A, n, c, h1, h2.ext e⟩⟩

def depsOf (o : Oper) : List Nat := (o.after.toList.filter (Region.binds .any)).map (·.on)
theorem deps_done {o : Oper} {done : Nat → Bool} (h : ∀ e ∈ o.after, Region.binds .any e = true → done e.on = true) (j : Nat) (hj : (depsOf o).contains j = true) : done j = true := by
  have := List.contains_iff_mem.1 hj
  simp only [depsOf, List.mem_map, List.mem_filter] at this
  obtain ⟨e, ⟨h1, h2⟩, h3⟩ := this
  rw [← h3]
  exact h e (Array.mem_toList_iff.1 h1) h2

section
variable {P : Program} {ops : Array Oper} {H : List Tmp} {F : List (MP Ext)} {a0 : Act} {w0 : World} {i : Nat} {o : Oper}
theorem stepE (ho : o.guard = none) (h : ∀ (done : Nat → Bool) (a : Act) (w : World), Ext w0 w → (∀ j, (depsOf o).contains j = true → done j = true) → Known ops H F a0 done a w →
    Runs P o a.eval w fun v w' => Ext w w' ∧ factAt F i v w') : StepOK P ops H F (fun _ w' => Ext w0 w') a0 i o := by
  intro done a w hJ _ hd hk
  rw [if_pos (by simp [Region.wanted, ho])]
  exact (h done a w hJ (deps_done hd) hk).mono fun v w' hg => ⟨fun j _ u hu => factAt_keep hg.1 j u hu, hJ.trans hg.1, hg.2⟩
theorem yielded_of {d j : Nat} {a : Act} {b : Bool} (hj : dstAt ops j = some d) (h : a.eval (.tmp d) = .bool b) : yielded ops a.tmps j = some b := by
  unfold yielded
  unfold dstAt at hj
  rw [hj]
  simp only [Option.bind_some]
  have h1 : a.tmps.getD d undef = .bool b := h
  rw [Array.getD_eq_getD_getElem?] at h1
  cases hc : a.tmps[d]? with
  | none => rw [hc] at h1; simp [undef] at h1
  | some v => rw [hc] at h1; simp at h1; rw [h1]
/-- a guarded operation whose guard says yes -/
theorem stepY {j d : Nat} {b : Bool} (ho : o.guard = some (j, b)) (hj : dstAt ops j = some d) (hdep : (depsOf o).contains j = true) (hyes : ∀ v w, factAt F j v w → v = .bool b)
    (h : ∀ (done : Nat → Bool) (a : Act) (w : World), Ext w0 w → (∀ j, (depsOf o).contains j = true → done j = true) → Known ops H F a0 done a w →
    Runs P o a.eval w fun v w' => Ext w w' ∧ factAt F i v w') : StepOK P ops H F (fun _ w' => Ext w0 w') a0 i o := by
  intro done a w hJ _ hd hk
  have hd' := deps_done hd
  have hb := hyes _ _ (hk.fact j d hj (hd' j hdep))
  rw [if_pos (by simp [Region.wanted, ho, yielded_of hj hb])]
  exact (h done a w hJ hd' hk).mono fun v w' hg => ⟨fun j _ u hu => factAt_keep hg.1 j u hu, hJ.trans hg.1, hg.2⟩
/-- a guarded operation whose guard says no -/
theorem stepN {j d : Nat} {b : Bool} (ho : o.guard = some (j, !b)) (hj : dstAt ops j = some d) (hdep : (depsOf o).contains j = true) (hno : ∀ v w, factAt F j v w → v = .bool b)
    (h : ∀ w, factAt F i undef w) : StepOK P ops H F (fun _ w' => Ext w0 w') a0 i o := by
  intro done a w hJ _ hd hk
  have hd' := deps_done hd
  have hb := hno _ _ (hk.fact j d hj (hd' j hdep))
  rw [if_neg (by simp [Region.wanted, ho, yielded_of hj hb])]
  exact ⟨hJ, h w⟩
end

theorem par_ext {ops : Array Oper} {id n : Nat} {a : Act} {w : World} {Q : Exit → Act → World → Prop}
    (hB : parB ops n = true) (F : List (MP Ext))
    (hsz : (dsts ops).all (fun t => decide (t < a.tmps.size)) = true)
    (steps : StepsOK Try.prog ops ((ops.toList.take n).filterMap (·.dst)) F (fun _ w' => Ext w w') a 0 (ops.toList.take n))
    (fin : ∀ (vals : Nat → Value) (w' : World), Ext w w' → (∀ j, j < n → ∀ d, dstAt ops j = some d → factAt F j (vals j) w') → wpList Try.prog ops Q (ops.toList.drop n) (putAll a 0 (ops.toList.take n) vals) w') :
    (Code.region id ops true).wp Try.prog Q a w :=
  par_region (R := Ext) (by kernel_rfl) hB F (fun _ w' => Ext w w') (Ext.refl w).drew (fun t ht => by simpa using List.all_eq_true.1 hsz t ht) steps (fun vals w' h1 h2 => fin vals w' h1 h2) (fun _ _ _ _ h => h)

theorem seq_ext {ops : Array Oper} {id n : Nat} {a : Act} {w : World} {Q : Exit → Act → World → Prop}
    (hB : (decide (n ≤ ops.size) && ((ops.toList.take n).zipIdx.all fun (o, i) => o.after.all fun e => !Region.binds .any e || decide (e.on < i)) && once ops.toList) = true) (F : List (MP Ext))
    (hsz : (dsts ops).all (fun t => decide (t < a.tmps.size)) = true)
    (steps : StepsOK Try.prog ops ((ops.toList.take n).filterMap (·.dst)) F (fun _ w' => Ext w w') a 0 (ops.toList.take n))
    (fin : ∀ (vals : Nat → Value) (w' : World), Ext w w' → (∀ j, j < n → ∀ d, dstAt ops j = some d → factAt F j (vals j) w') → wpList Try.prog ops Q (ops.toList.drop n) (putAll a 0 (ops.toList.take n) vals) w') :
    (Code.region id ops false).wp Try.prog Q a w :=
  seq_region (R := Ext) hB F (fun _ w' => Ext w w') (Ext.refl w) (fun t ht => by simpa using List.all_eq_true.1 hsz t ht) steps (fun vals w' h1 h2 => fin vals w' h1 h2) (fun _ _ _ _ h => h)
end Go.Proofs.Ytkndgpjamijbbaa
namespace Go.Proofs.Ytkndgpjamijbbaa
set_option maxRecDepth 100000
open Go Go.RowKit
section
variable {P : Program} {w : World}
theorem beq_dec {α : Type} [BEq α] [LawfulBEq α] [DecidableEq α] (x y : α) : (x == y) = decide (x = y) := by
  by_cases h : x = y <;> simp [h]
theorem u32_wrap (n : Nat) : IntKind.u32.wrap (n : Int) = ((n % 4294967296 : Nat) : Int) := by
  rw [IntKind.wrap_u32]; omega
theorem u32_wrap_id (x : UInt32) : IntKind.u32.wrap (x.toNat : Int) = (x.toNat : Int) := by
  rw [u32_wrap, Nat.mod_eq_of_lt x.toNat_lt]
theorem eqGuard_bin {op : BinOp} {t : TypeId} {x y : Operand} {u v : Value} (h : (op matches .eql | .neq) = false) : (eqGuard op t x y u v).run P w = .ok () w := by
  cases op <;> simp_all [eqGuard]
theorem bin_add32 (t : TypeId) (x y : UInt32) : (binOp .add t (.int .u32 (u32i x)) (.int .u32 (u32i y))).run P w = .ok (.int .u32 (u32i (x + y))) w := by
  simp only [u32i]
  have e : IntKind.u32.wrap ((x.toNat : Int) + (y.toNat : Int)) = (((x + y).toNat : Nat) : Int) := by
    rw [← Int.natCast_add, u32_wrap, UInt32.toNat_add]
  simp [binOp, Op.intArith, e]
theorem bitvec_u32 (x : UInt32) : BitVec.ofInt (IntKind.u32).bits (x.toNat : Int) = x.toBitVec := by
  apply BitVec.eq_of_toNat_eq
  have := x.toNat_lt
  simp [IntKind.bits]
theorem bin_xor32 (t : TypeId) (x y : UInt32) : (binOp .xor t (.int .u32 (u32i x)) (.int .u32 (u32i y))).run P w = .ok (.int .u32 (u32i (x ^^^ y))) w := by
  simp only [u32i]
  simp only [binOp, Op.intBits, bitvec_u32]
  simp [-UInt32.toNat_xor]
  exact u32_wrap_id (x ^^^ y)
theorem bin_and32 (t : TypeId) (x y : UInt32) : (binOp .and t (.int .u32 (u32i x)) (.int .u32 (u32i y))).run P w = .ok (.int .u32 (u32i (x &&& y))) w := by
  simp only [u32i]
  simp only [binOp, Op.intBits, bitvec_u32]
  simp [-UInt32.toNat_and]
  exact u32_wrap_id (x &&& y)
theorem bin_or32 (t : TypeId) (x y : UInt32) : (binOp .or t (.int .u32 (u32i x)) (.int .u32 (u32i y))).run P w = .ok (.int .u32 (u32i (x ||| y))) w := by
  simp only [u32i]
  simp only [binOp, Op.intBits, bitvec_u32]
  simp [-UInt32.toNat_or]
  exact u32_wrap_id (x ||| y)
theorem bin_shr32 (t : TypeId) {kk : IntKind} (x : UInt32) (k : Nat) (kI : Int) (hk : kI = (k : Int) := by rfl) (h : k ≤ 32 := by omega) : (binOp .shr t (.int .u32 (u32i x)) (.int kk kI)).run P w = .ok (.int .u32 (u32i (shr x k))) w := by
  simp only [u32i]
  subst hk
  have h1 : ¬ ((k : Int) < 0) := by omega
  have h2 : min (k : Int).toNat IntKind.u32.bits = k := by simp [IntKind.bits]; omega
  have e : ((x.toNat : Int)).fdiv (2 ^ k) = (((shr x k).toNat : Nat) : Int) := by
    rw [shr_toNat, Int.fdiv_eq_ediv_of_nonneg _ (Int.pow_nonneg (by decide))]
    simp
  simp only [binOp, Op.shift, if_neg h1, h2, e, Sem.run_pure]
theorem bin_shl32 (t : TypeId) {kk : IntKind} (x : UInt32) (k : Nat) (kI : Int) (hk : kI = (k : Int) := by rfl) (h : k ≤ 32 := by omega) : (binOp .shl t (.int .u32 (u32i x)) (.int kk kI)).run P w = .ok (.int .u32 (u32i (shl x k))) w := by
  simp only [u32i]
  subst hk
  have h1 : ¬ ((k : Int) < 0) := by omega
  have h2 : min (k : Int).toNat IntKind.u32.bits = k := by simp [IntKind.bits]; omega
  have e : IntKind.u32.wrap ((x.toNat : Int) * 2 ^ k) = (((shl x k).toNat : Nat) : Int) := by
    rw [shl_toNat, ← u32_wrap]
    simp
  simp only [binOp, Op.shift, if_neg h1, h2, e, Sem.run_pure]
theorem un_not32 (x : UInt32) : (Op.unary .xor (.int .u32 (u32i x))).run P w = .ok (.int .u32 (u32i (~~~x))) w := by
  simp only [u32i]
  have e : BitVec.ofInt 32 4294967295 ^^^ x.toBitVec = (~~~x).toBitVec := by
    have : BitVec.ofInt 32 4294967295 = BitVec.allOnes 32 := by decide
    rw [this, BitVec.allOnes_xor]
    rfl
  have hs : (IntKind.u32).signed = false := rfl
  simp only [Op.unary, hs, Op.intBits, bitvec_u32]
  simp [-UInt32.toNat_not, -BitVec.allOnes_xor]
  show IntKind.u32.wrap ((BitVec.ofInt 32 4294967295 ^^^ x.toBitVec).toNat : Int) = _
  rw [e]
  exact u32_wrap_id (~~~x)
theorem i64_wrap_id {x : Int} (h1 : -9223372036854775808 ≤ x) (h2 : x ≤ 9223372036854775807) : IntKind.i64.wrap x = x := by rw [IntKind.wrap_i64]; omega
theorem bin_add64 (t : TypeId) (x y : Int) (h1 : -9223372036854775808 ≤ x + y) (h2 : x + y ≤ 9223372036854775807) : (binOp .add t (.int .i64 x) (.int .i64 y)).run P w = .ok (.int .i64 (x + y)) w := by
  simp [binOp, Op.intArith, i64_wrap_id h1 h2]
theorem bin_sub64 (t : TypeId) (x y : Int) (h1 : -9223372036854775808 ≤ x - y) (h2 : x - y ≤ 9223372036854775807) : (binOp .sub t (.int .i64 x) (.int .i64 y)).run P w = .ok (.int .i64 (x - y)) w := by
  simp [binOp, Op.intArith, i64_wrap_id h1 h2]
theorem bin_mul64 (t : TypeId) (x y : Int) (h1 : -9223372036854775808 ≤ x * y) (h2 : x * y ≤ 9223372036854775807) : (binOp .mul t (.int .i64 x) (.int .i64 y)).run P w = .ok (.int .i64 (x * y)) w := by
  simp [binOp, Op.intArith, i64_wrap_id h1 h2]
theorem bin_sub64u (t : TypeId) (k : Nat) (h : k ≤ 32) : (binOp .sub t (.int .u64 (32 : Int)) (.int .u64 (k : Int))).run P w = .ok (.int .u64 (32 - (k : Int))) w := by
  have e : IntKind.u64.wrap (32 - (k : Int)) = 32 - (k : Int) := by rw [IntKind.wrap_u64]; omega
  simp [binOp, Op.intArith, e]
theorem bin_leq (t : TypeId) (k : IntKind) (x y : Int) : (binOp .leq t (.int k x) (.int k y)).run P w = .ok (.bool (decide (x ≤ y))) w := by simp [binOp, Op.intCmp]
theorem bin_gtr (t : TypeId) (k : IntKind) (x y : Int) : (binOp .gtr t (.int k x) (.int k y)).run P w = .ok (.bool (decide (y < x))) w := by simp [binOp, Op.intCmp]
theorem bin_eql (t : TypeId) (k : IntKind) (x y : Int) : (binOp .eql t (.int k x) (.int k y)).run P w = .ok (.bool (decide (x = y))) w := by
  simp [binOp, Op.intCmp, beq_dec]
theorem bin_neq (t : TypeId) (k : IntKind) (x y : Int) : (binOp .neq t (.int k x) (.int k y)).run P w = .ok (.bool (decide (x ≠ y))) w := by
  simp [binOp, Op.intCmp, bne, beq_dec]
/-- 'uint32(b)' of a byte -/
theorem conv_u8_u32 {s t : TypeId} (hs : P.underlying s = some (.int .u8)) (ht : P.underlying t = some (.int .u32)) (b : UInt8) : (convert s t (.int .u8 (u8i b))).run P w = .ok (.int .u32 (u32i b.toUInt32)) w := by
  simp only [u32i, u8i]
  have e : IntKind.u32.wrap (b.toNat : Int) = ((b.toUInt32.toNat : Nat) : Int) := by
    rw [u32_wrap, UInt8.toNat_toUInt32, Nat.mod_eq_of_lt]
    have := b.toNat_lt; omega
  simp [convert, run_underlying hs, run_underlying ht, Conv.intToInt, e]
theorem conv_u32_u8 {s t : TypeId} (hs : P.underlying s = some (.int .u32)) (ht : P.underlying t = some (.int .u8)) (x : UInt32) : (convert s t (.int .u32 (u32i x))).run P w = .ok (.int .u8 (u8i x.toUInt8)) w := by
  simp only [u32i, u8i]
  have e : IntKind.u8.wrap (x.toNat : Int) = ((x.toUInt8.toNat : Nat) : Int) := by
    rw [IntKind.wrap_u8, UInt32.toNat_toUInt8]
    omega
  simp [convert, run_underlying hs, run_underlying ht, Conv.intToInt, e]
end
end Go.Proofs.Ytkndgpjamijbbaa

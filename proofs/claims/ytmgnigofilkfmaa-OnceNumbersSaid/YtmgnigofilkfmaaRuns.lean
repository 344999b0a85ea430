/-
  One operation at a time: what each kind of operation yields, for the region law. Plain theorems.
-/
import Derived.Test.YtmgnigofilkfmaaPar
import Derived.Test.YtmgnigofilkfmaaBase
namespace Go.Proofs.Ytmgnigofilkfmaa
set_option maxRecDepth 100000
open Go Go.RowKit

section
variable {P : Program} {o : Oper} {ρ : Operand → Value} {w : World} {G : Value → World → Prop}
theorem Runs.move {x : Operand} {v : Value} (ho : o.op = .move x) (hx : ρ x = v) (h : G v w) : Runs P o ρ w G := by
  unfold Runs execOp
  simp only [ho, Sem.run_pure, hx]
  exact h
theorem Runs.assign {x : Operand} {v : Value} (ho : o.op = .assign x) (hx : ρ x = v) (h : G v w) : Runs P o ρ w G := by
  unfold Runs execOp
  simp only [ho, Sem.run_pure, hx]
  exact h
theorem Runs.pick {c x y : Operand} {b : Bool} (ho : o.op = .pick c x y) (hc : ρ c = .bool b) (h : G (if b then ρ x else ρ y) w) : Runs P o ρ w G := by
  unfold Runs execOp
  simp only [ho, hc, asBool, Sem.run_bind, Sem.run_pure, Result.andThen_ok]
  exact h
theorem Runs.bin {op : BinOp} {t yt : TypeId} {x y : Operand} {u v r : Value} (ho : o.op = .binOp op t x y yt) (hx : ρ x = u) (hy : ρ y = v)
    (hg : (eqGuard op t x y u v).run P w = .ok () w) (hr : (binOp op t u v).run P w = .ok r w) (h : G r w) : Runs P o ρ w G := by
  unfold Runs execOp
  simp only [ho, hx, hy, Sem.run_bind, hg, hr, Result.andThen_ok, Sem.run_pure]
  exact h
theorem Runs.un {op : UnOp} {t : TypeId} {x : Operand} {u r : Value} (ho : o.op = .unOp op t x) (hx : ρ x = u) (hr : (Op.unary op u).run P w = .ok r w) (h : G r w) : Runs P o ρ w G := by
  unfold Runs execOp
  simp only [ho, hx, Sem.run_bind, hr, Result.andThen_ok, Sem.run_pure]
  exact h
theorem Runs.conv {s t : TypeId} {x : Operand} {u r : Value} (ho : o.op = .convert s t x) (hx : ρ x = u) (hr : (convert s t u).run P w = .ok r w) (h : G r w) : Runs P o ρ w G := by
  unfold Runs execOp
  simp only [ho, hx, Sem.run_bind, hr, Result.andThen_ok, Sem.run_pure]
  exact h
/-- any operation whose run is known -/
theorem Runs.of_run {r : Value} {w' : World} (hr : (execOp ρ o).run P w = .ok (.value r) w') (h : G r w') : Runs P o ρ w G := by
  unfold Runs
  simp only [hr]
  exact h
theorem Runs.call {f : FuncId} {vs : List Value} {c : Call} (ho : o.op = .call c) (hc : c.callee = .value (.func f)) (hf : ρ (.func f) = .func (.func f) #[] #[]) (ha : (c.args.map ρ) = vs.toArray)
    (hrun : (callFunc f vs.toArray).run P w = .ok (.enter f vs.toArray) w)
    (h : Calls P f vs.toArray w fun e w' => ∃ v, e = .returned v ∧ G v w') : Runs P o ρ w G := by
  unfold Runs execOp
  simp only [ho, resolve, hc, ha, hf, Deferred.ofValue, Sem.run_bind, Sem.run_pure, Result.andThen_ok, invoke, Array.empty_append, Array.append_empty, hrun]
  exact h
theorem run_enter {P : Program} {f : FuncId} {fn : Func} (hf : P.funcs[f]? = some fn) (hn : (fn.name == "runtime.NumGoroutine") = false) (hb : fn.body.isNone = false) (args : Array Value) (w : World) :
    (callFunc f args).run P w = .ok (.enter f args) w := by
  have hn' : ¬ fn.name = "runtime.NumGoroutine" := by simpa using hn
  have hb' : ¬ fn.body = none := by intro h; rw [h] at hb; cases hb
  simp [callFunc, hf, hn', hb']
end

/-! ### the common case: nothing that was there is turned -/
def MP.is {R : World → World → Prop} (v : Value) : MP R := ⟨fun u _ => u = v, fun _ _ _ _ h => h⟩
def MP.any {R : World → World → Prop} : MP R := ⟨fun _ _ => True, fun _ _ _ _ _ => trivial⟩
/-- a byte slice that reads as L -/
def MP.rb (L : List UInt8) : MP Ext := ⟨fun u w => ∃ A n c, u = .slice A n c ∧ RB w A n c L, fun _ _ _ e ⟨A, n, c, h1, h2⟩ => ⟨A, n, c, h1, h2.ext e⟩⟩
/-- a byte slice of the call's own, at or beyond block b -/
def MP.ob (b : Nat) (L : List UInt8) : MP Ext := ⟨fun u w => ∃ A n c, u = .slice A n c ∧ OB w b A n c L, fun _ _ _ e ⟨A, n, c, h1, h2⟩ => ⟨A, n, c, h1, h2.ext e⟩⟩

def depsOf (o : Oper) : List Nat := (o.after.toList.filter (Region.binds .any)).map (·.on)
theorem deps_done {o : Oper} {done : Nat → Bool} (h : ∀ e ∈ o.after, Region.binds .any e = true → done e.on = true) (j : Nat) (hj : (depsOf o).contains j = true) : done j = true := by
  have := List.contains_iff_mem.1 hj
  simp only [depsOf, List.mem_map, List.mem_filter] at this
  obtain ⟨e, ⟨h1, h2⟩, h3⟩ := this
  rw [← h3]
  exact h e (Array.mem_toList_iff.1 h1) h2

section
variable {P : Program} {ops : Array Oper} {H : List Tmp} {F : List (MP Ext)} {a0 : Act} {w0 : World} {i : Nat} {o : Oper}
theorem stepE (ho : o.guard = none) (h : ∀ (done : Nat → Bool) (a : Act) (w : World), Ext w0 w → (∀ j, (depsOf o).contains j = true → done j = true) → Known ops H F a0 done a w →
    Runs P o a.eval w fun v w' => Ext w w' ∧ factAt F i v w') : StepOK P ops H F (fun _ w' => Ext w0 w') a0 i o := by
  intro done a w hJ _ hd hk
  rw [if_pos (by simp [Region.wanted, ho])]
  exact (h done a w hJ (deps_done hd) hk).mono fun v w' hg => ⟨fun j _ u hu => factAt_keep hg.1 j u hu, hJ.trans hg.1, hg.2⟩
theorem yielded_of {d j : Nat} {a : Act} {b : Bool} (hj : dstAt ops j = some d) (h : a.eval (.tmp d) = .bool b) : yielded ops a.tmps j = some b := by
  unfold yielded
  unfold dstAt at hj
  rw [hj]
  simp only [Option.bind_some]
  have h1 : a.tmps.getD d undef = .bool b := h
  rw [Array.getD_eq_getD_getElem?] at h1
  cases hc : a.tmps[d]? with
  | none => rw [hc] at h1; simp [undef] at h1
  | some v => rw [hc] at h1; simp at h1; rw [h1]
/-- a guarded operation whose guard says yes -/
theorem stepY {j d : Nat} {b : Bool} (ho : o.guard = some (j, b)) (hj : dstAt ops j = some d) (hdep : (depsOf o).contains j = true) (hyes : ∀ v w, factAt F j v w → v = .bool b)
    (h : ∀ (done : Nat → Bool) (a : Act) (w : World), Ext w0 w → (∀ j, (depsOf o).contains j = true → done j = true) → Known ops H F a0 done a w →
    Runs P o a.eval w fun v w' => Ext w w' ∧ factAt F i v w') : StepOK P ops H F (fun _ w' => Ext w0 w') a0 i o := by
  intro done a w hJ _ hd hk
  have hd' := deps_done hd
  have hb := hyes _ _ (hk.fact j d hj (hd' j hdep))
  rw [if_pos (by simp [Region.wanted, ho, yielded_of hj hb])]
  exact (h done a w hJ hd' hk).mono fun v w' hg => ⟨fun j _ u hu => factAt_keep hg.1 j u hu, hJ.trans hg.1, hg.2⟩
/-- a guarded operation whose guard says no -/
theorem stepN {j d : Nat} {b : Bool} (ho : o.guard = some (j, !b)) (hj : dstAt ops j = some d) (hdep : (depsOf o).contains j = true) (hno : ∀ v w, factAt F j v w → v = .bool b)
    (h : ∀ w, factAt F i undef w) : StepOK P ops H F (fun _ w' => Ext w0 w') a0 i o := by
  intro done a w hJ _ hd hk
  have hd' := deps_done hd
  have hb := hno _ _ (hk.fact j d hj (hd' j hdep))
  rw [if_neg (by simp [Region.wanted, ho, yielded_of hj hb])]
  exact ⟨hJ, h w⟩
theorem yielded_undef {d j : Nat} {a : Act} (hj : dstAt ops j = some d) (h : a.eval (.tmp d) = undef) : yielded ops a.tmps j = none := by
  unfold yielded
  unfold dstAt at hj
  rw [hj]
  simp only [Option.bind_some]
  have h1 : a.tmps.getD d undef = undef := h
  rw [Array.getD_eq_getD_getElem?] at h1
  cases hc : a.tmps[d]? with
  | none => rfl
  | some v => rw [hc] at h1; simp at h1; rw [h1]; rfl
/-- a guarded operation whose guard was passed over -/
theorem stepU {j d : Nat} {b : Bool} (ho : o.guard = some (j, b)) (hj : dstAt ops j = some d) (hdep : (depsOf o).contains j = true) (hno : ∀ v w, factAt F j v w → v = undef)
    (h : ∀ w, factAt F i undef w) : StepOK P ops H F (fun _ w' => Ext w0 w') a0 i o := by
  intro done a w hJ _ hd hk
  have hd' := deps_done hd
  have hb := hno _ _ (hk.fact j d hj (hd' j hdep))
  rw [if_neg (by simp [Region.wanted, ho, yielded_undef hj hb])]
  exact ⟨hJ, h w⟩
end

theorem par_ext {ops : Array Oper} {id n : Nat} {a : Act} {w : World} {Q : Exit → Act → World → Prop}
    (hB : parB ops n = true) (F : List (MP Ext))
    (hsz : (dsts ops).all (fun t => decide (t < a.tmps.size)) = true)
    (steps : StepsOK Try.prog ops ((ops.toList.take n).filterMap (·.dst)) F (fun _ w' => Ext w w') a 0 (ops.toList.take n))
    (fin : ∀ (vals : Nat → Value) (w' : World), Ext w w' → (∀ j, j < n → ∀ d, dstAt ops j = some d → factAt F j (vals j) w') → wpList Try.prog ops Q (ops.toList.drop n) (putAll a 0 (ops.toList.take n) vals) w') :
    (Code.region id ops true).wp Try.prog Q a w :=
  par_region (R := Ext) (by kernel_rfl) hB F (fun _ w' => Ext w w') (Ext.refl w).drew (fun t ht => by simpa using List.all_eq_true.1 hsz t ht) steps (fun vals w' h1 h2 => fin vals w' h1 h2) (fun _ _ _ _ h => h)

theorem seq_ext {ops : Array Oper} {id n : Nat} {a : Act} {w : World} {Q : Exit → Act → World → Prop}
    (hB : (decide (n ≤ ops.size) && ((ops.toList.take n).zipIdx.all fun (o, i) => o.after.all fun e => !Region.binds .any e || decide (e.on < i)) && once ops.toList) = true) (F : List (MP Ext))
    (hsz : (dsts ops).all (fun t => decide (t < a.tmps.size)) = true)
    (steps : StepsOK Try.prog ops ((ops.toList.take n).filterMap (·.dst)) F (fun _ w' => Ext w w') a 0 (ops.toList.take n))
    (fin : ∀ (vals : Nat → Value) (w' : World), Ext w w' → (∀ j, j < n → ∀ d, dstAt ops j = some d → factAt F j (vals j) w') → wpList Try.prog ops Q (ops.toList.drop n) (putAll a 0 (ops.toList.take n) vals) w') :
    (Code.region id ops false).wp Try.prog Q a w :=
  seq_region (R := Ext) hB F (fun _ w' => Ext w w') (Ext.refl w) (fun t ht => by simpa using List.all_eq_true.1 hsz t ht) steps (fun vals w' h1 h2 => fin vals w' h1 h2) (fun _ _ _ _ h => h)
end Go.Proofs.Ytmgnigofilkfmaa

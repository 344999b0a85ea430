/-
  A region that draws its order, one of whose operations appends to a row of the call's own. Plain theorems.
-/
import Derived.Test.YtmgnigofilkfmaaLit
namespace Go.Proofs.Ytmgnigofilkfmaa
set_option maxRecDepth 100000
open Go Go.RowKit
/-- What holds while the region runs: but for the row nothing older was turned; till the append the row is as it was. -/
def JA (w wI : World) (A : Option Addr) (n c : Nat) (L : List UInt8) (k : Nat) (done : Nat → Bool) (w' : World) : Prop :=
  w.grownBy w' (blk A) ∧ Ext wI w' ∧ (done k = false → OB w' wI.heap.size A n c L)
def Stays (A : Option Addr) (m : MP Ext) : Prop := ∀ u w w', w.grownBy w' (blk A) → m.p u w → m.p u w'
def StaysL (A : Option Addr) (k : Nat) : Nat → List (MP Ext) → Prop
  | _, [] => True
  | j, m :: l => (j = k ∨ Stays A m) ∧ StaysL A k (j + 1) l
theorem StaysL.at_ {A : Option Addr} {k : Nat} {F : List (MP Ext)} : ∀ {i j : Nat} {m : MP Ext}, StaysL A k i F → F[j]? = some m → i + j ≠ k → Stays A m := by
  induction F with
  | nil => intro i j m _ h; simp at h
  | cons x l ih =>
    intro i j m h hj hne
    cases j with
    | zero =>
      simp only [List.getElem?_cons_zero, Option.some.injEq] at hj
      subst hj
      rcases h.1 with e | e
      · exact absurd e (by omega)
      · exact e
    | succ j => exact ih (i := i + 1) (j := j) h.2 (by simpa only [List.getElem?_cons_succ] using hj) (by omega)
theorem stays_is (A : Option Addr) (v : Value) : Stays A (MP.is v) := fun _ _ _ _ h => h
theorem stays_any (A : Option Addr) : Stays A MP.any := fun _ _ _ _ _ => trivial
/-- a byte slice that reads as L, in a block at or beyond q -/
def MP.rbf (q : Nat) (L : List UInt8) : MP Ext := ⟨fun u w => ∃ B n c, u = .slice B n c ∧ RB w B n c L ∧ ∀ k, blk B = some k → q ≤ k, fun _ _ _ e ⟨B, n, c, h1, h2, h3⟩ => ⟨B, n, c, h1, h2.ext e, h3⟩⟩
theorem RB.grown {w w' : World} {B : Option Addr} {n c : Nat} {L : List UInt8} (h : RB w B n c L) {row : Option Nat} (g : w.grownBy w' row) (hne : 0 < n → blk B ≠ row) : RB w' B n c L :=
  ⟨h.len, h.room, h.cap, fun hn => by
    obtain ⟨ad, rfl, hc⟩ := h.cells hn
    refine ⟨ad, rfl, fun j hj => g.cell (hc j hj) ?_⟩
    rw [block_of_add]
    exact hne hn⟩
theorem stays_rbf {A : Option Addr} {q : Nat} {L : List UInt8} (h : ∀ k, blk A = some k → k < q) : Stays A (MP.rbf q L) := by
  rintro u w w' g ⟨B, n, c, h1, h2, h3⟩
  refine ⟨B, n, c, h1, h2.grown g (fun hn e => ?_), h3⟩
  obtain ⟨ad, rfl, _⟩ := h2.cells hn
  have h4 := h3 ad.block rfl
  have h5 := h ad.block (by rw [← e]; rfl)
  omega
/-- a row of the call's own behind an append -/
def MP.app (base q : Nat) (A : Option Addr) (N : Nat) (LM : List UInt8) : MP Ext :=
  ⟨fun u w => ∃ A' c', u = .slice A' N c' ∧ OB w base A' N c' LM ∧ (blk A' = blk A ∨ ∃ k, blk A' = some k ∧ q ≤ k), fun _ _ _ e ⟨A', c', h1, h2, h3⟩ => ⟨A', c', h1, h2.ext e, h3⟩⟩
section
variable {ops : Array Oper} {H : List Tmp} {F : List (MP Ext)} {a0 : Act} {w0 wI : World} {A : Option Addr} {n c : Nat} {L : List UInt8} {i k : Nat} {o : Oper}
theorem stepEA (ho : o.guard = none) (hik : i ≠ k) (h : ∀ (done : Nat → Bool) (a : Act) (w : World), w0.grownBy w (blk A) → Ext wI w → (∀ j, (depsOf o).contains j = true → done j = true) → Known ops H F a0 done a w →
    Runs Try.prog o a.eval w fun v w' => Ext w w' ∧ factAt F i v w') : StepOK Try.prog ops H F (JA w0 wI A n c L k) a0 i o := by
  intro done a w hJ _ hd hk
  rw [if_pos (by simp [Region.wanted, ho])]
  refine (h done a w hJ.1 hJ.2.1 (deps_done hd) hk).mono fun v w' hg => ⟨fun j _ u hu => factAt_keep hg.1 j u hu, ⟨hJ.1.trans (hg.1.grownBy _), hJ.2.1.trans hg.1, fun hdk => ?_⟩, hg.2⟩
  refine (hJ.2.2 ?_).ext hg.1
  unfold setDone at hdk
  rw [if_neg (by omega)] at hdk
  exact hdk
theorem stepApp {s x : Operand} {M : List UInt8} {N : Nat} {LM : List UInt8} {q : Nat} (ho : o.guard = none) (hop : o.op = .call { callee := .builtin .append, args := #[s, x], argTypes := #[22, 22] })
    (hN : N ≤ 140737488355328) (hLM : L ++ M = LM) (hF : F[k]? = some (MP.app wI.heap.size q A N LM)) (hq : q ≤ w0.heap.size) (hst : StaysL A k 0 F)
    (h : ∀ (done : Nat → Bool) (a : Act) (w : World), w0.grownBy w (blk A) → Ext wI w → (∀ j, (depsOf o).contains j = true → done j = true) → Known ops H F a0 done a w →
      a.eval s = .slice A n c ∧ ∃ B m d, a.eval x = .slice B m d ∧ RB w B m d M ∧ n + m = N) : StepOK Try.prog ops H F (JA w0 wI A n c L k) a0 k o := by
  intro done a w hJ hnd hd hk
  rw [if_pos (by simp [Region.wanted, ho])]
  obtain ⟨hs, B, m, d, hx, hr, hnm⟩ := h done a w hJ.1 hJ.2.1 (deps_done hd) hk
  subst hnm
  subst hLM
  have own := hJ.2.2 hnd
  obtain ⟨A', c', w', hrun, h2, h3, h4⟩ := run_app (w := w) o.type own hr hN hJ.2.1.size
  refine Runs.of_run (r := .slice A' (n + m) c') (w' := w') ?_ ⟨fun j hj u hu => ?_, ⟨hJ.1.trans h3, own.step hJ.2.1 h3, fun hdk => ?_⟩, ?_⟩
  · unfold execOp
    simp only [hop, resolve, invoke, builtin, Sem.run_bind, Sem.run_pure, Result.andThen_ok, List.map_toArray, List.map_cons, List.map_nil, hs, hx, hrun]
  · have hjk : j ≠ k := fun e => by subst e; rw [hj] at hnd; cases hnd
    unfold factAt at hu ⊢
    cases hm : F[j]? with
    | none => trivial
    | some mm => rw [hm] at hu; exact hst.at_ (i := 0) hm (by omega) u w w' h3 hu
  · unfold setDone at hdk
    rw [if_pos rfl] at hdk
    cases hdk
  · unfold factAt
    rw [hF]
    refine ⟨A', c', rfl, h2, ?_⟩
    rcases h4 with e | e
    · exact .inl e
    · exact .inr ⟨_, e, Nat.le_trans hq hJ.1.size⟩
end
theorem par_app {ops : Array Oper} {id n : Nat} {a : Act} {w wI : World} {Q : Exit → Act → World → Prop} {A : Option Addr} {m c : Nat} {L : List UInt8} (k : Nat) (hE : Ext wI w) (own : OB w wI.heap.size A m c L)
    (hB : parB ops n = true) (F : List (MP Ext))
    (hsz : (dsts ops).all (fun t => decide (t < a.tmps.size)) = true)
    (steps : StepsOK Try.prog ops ((ops.toList.take n).filterMap (·.dst)) F (JA w wI A m c L k) a 0 (ops.toList.take n))
    (fin : ∀ (vals : Nat → Value) (w' : World), w.grownBy w' (blk A) → Ext wI w' → (∀ j, j < n → ∀ d, dstAt ops j = some d → factAt F j (vals j) w') → wpList Try.prog ops Q (ops.toList.drop n) (putAll a 0 (ops.toList.take n) vals) w') :
    (Code.region id ops true).wp Try.prog Q a w :=
  par_region (R := Ext) (by kernel_rfl) hB F (JA w wI A m c L k) ⟨(Ext.refl w).drew.grownBy _, hE.drew, fun _ => own⟩ (fun t ht => by simpa using List.all_eq_true.1 hsz t ht) steps (fun vals w' h1 h2 => fin vals w' h1.1 h1.2.1 h2)
    (fun d d' w h hj => ⟨hj.1, hj.2.1, fun hk => hj.2.2 ((h k).trans hk)⟩)
end Go.Proofs.Ytmgnigofilkfmaa

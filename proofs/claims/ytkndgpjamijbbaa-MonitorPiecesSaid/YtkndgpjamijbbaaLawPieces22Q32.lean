/-
  A monitor in memory; monitor.New, Size, walked. Rows of byte slices are appended to an own row: pure run and laws. Plain theorems. Facts of rows and structs that stay under the run-time's marks. Plain theorems. An own row of cosignatures; append to it. Rows of cosignatures: what they hold; append. The plain law of law11's known: the two keys differ, the cosignature verifies, it counts once.
-/
import Derived.Test.YtkndgpjamijbbaaLawPieces22Q28
import Derived.Test.YtkndgpjamijbbaaLawPieces22Q31
import Derived.Test.YtkndgpjamijbbaaLawPieces22Q30
import Derived.Lib.AppendZerosOnto
import Derived.Test.YtkndgpjamijbbaaLawPieces22Q17
import Derived.Test.YtkndgpjamijbbaaLawPieces22Q19
import Derived.Test.YtkndgpjamijbbaaLawPieces22Q5
import Derived.Test.YtkndgpjamijbbaaLawPieces22Q27
import Derived.Test.YtkndgpjamijbbaaLawPieces22Q26
import Derived.Test.YtkndgpjamijbbaaLawPieces22Q1
import Derived.Test.YtkndgpjamijbbaaLawPieces22Q16
namespace Go.Proofs.Ytkndgpjamijbbaa
set_option maxRecDepth 100000
open Go Go.RowKit
theorem Keep.at_ {φ : Nat → Prop} {X : World → Prop} {w w' : World} (h : Keep φ X w) (u : Upd φ w w') : X w' := h w' u
/-- what was known before the blocks of φ were there -/
theorem Keep.old {φ : Nat → Prop} {X : World → Prop} {w0 w : World} (hx : ∀ w', Ext w0 w' → X w') (e : Ext w0 w) (hφ : ∀ k, φ k → w0.heap.size ≤ k) : Keep φ X w := fun w' u => hx w' (u.ext e hφ)
/-- no byte lies in the blocks of φ -/
def NoB (φ : Nat → Prop) (w : World) : Prop := ∀ k, φ k → ∃ t cs, Blk w k t cs ∧ ∀ (i : Nat) (x : Int), cs[i]? ≠ some (.int .u8 x)
theorem NoB.ext {φ : Nat → Prop} {w w' : World} (h : NoB φ w) (e : Ext w w') : NoB φ w' := fun k hk => by
  obtain ⟨t, cs, h1, h2⟩ := h k hk
  exact ⟨t, cs, h1.ext e, h2⟩
theorem RB.keepS {φ : Nat → Prop} {w : World} {A : Option Addr} {n c : Nat} {L : List UInt8} (h : RB w A n c L) (hs : NoB φ w) : Keep φ (fun w => RB w A n c L) w :=
  h.keep_ (fun hn k hk hp => by
    obtain ⟨t, cs, h1, h2⟩ := hs k hp
    exact h.apart5 h1 h2 hn hk)
theorem RBB.keepS {φ : Nat → Prop} {w : World} {A : Option Addr} {n c : Nat} {Ls : List (List UInt8)} (h : RBB w A n c Ls) (hs : NoB φ w) (hA : 0 < n → ∀ k, blk A = some k → ¬ φ k) : Keep φ (fun w => RBB w A n c Ls) w := by
  intro w' u
  refine ⟨h.len, h.room, h.cap, fun hn => ?_⟩
  obtain ⟨ad, rfl, hc⟩ := h.cells hn
  refine ⟨ad, rfl, fun j hj => ?_⟩
  obtain ⟨B, m, d, h1, h2⟩ := hc j hj
  have hb : (ad.add j).block = ad.block := block_of_add _ _
  have hlt := World.block_lt_of_cell? w _ h1
  refine ⟨B, m, d, ?_, (h2.keepS hs).at_ u⟩
  rw [World.cell?_of_block (w := w) (w' := w') (u.block _ hlt (by rw [hb]; exact hA hn ad.block rfl))]
  exact h1
def isSl1 (v : Value) : Prop := ∃ A n c, v = .slice A n c
def isI1 (v : Value) : Prop := ∃ x, v = .int .i64 x
theorem kItems : OwK isSl1 23 22 1 24 (.slice none 0 0) := ⟨Try.underlying23, info_bb', rfl, by omega, fun u hu => by
  have h : u = .slice none 0 0 := by simpa [Value.cells] using hu
  exact ⟨none, 0, 0, h⟩, by omega⟩
theorem kAlarms : OwK isI1 72 75 2 16 (.agg #[.int .i64 0, .int .i64 0]) := ⟨Try.underlying72, by kernel_rfl, rfl, by omega, fun u hu => by
  have h : u = .int .i64 0 := by simpa [Value.cells] using hu
  exact ⟨0, h⟩, by omega⟩
structure MSt where
  log : List UInt8
  its : List (List UInt8)
  al : List (Int × Int)
  lx : Int
  lr : List UInt8
  li : Int
  lp : List (List UInt8)
  lq : List (List UInt8)
  has : Bool
def alC (al : List (Int × Int)) : List Value := al.flatMap fun a => [.int .i64 a.1, .int .i64 a.2]
theorem alC_len (al : List (Int × Int)) : (alC al).length = al.length * 2 := by
  induction al with
  | nil => rfl
  | cons a r ih =>
    unfold alC at ih ⊢
    rw [List.flatMap_cons, List.length_append, ih, List.length_cons]
    simp
    omega
/-- the blocks that a monitor turns: its own, its items' row, its alarms' row -/
def phiM (I Al : Option Addr) (g : Nat) (k : Nat) : Prop := k = g ∨ blk I = some k ∨ blk Al = some k
def monC (G I V Al R P Q : Option Addr) (cg n ci cv na ca nr cr np cp nq cq : Nat) (lx li : Int) (has : Bool) : Array Value :=
  #[.slice G 32 cg, .slice I n ci, .slice V n cv, .slice Al na ca, .int .i64 lx, .slice R nr cr, .int .i64 li, .slice P np cp, .slice Q nq cq, .bool has]
/-- a monitor, with where its parts lie -/
structure MonA (w : World) (base g : Nat) (s : MSt) (G I V Al R P Q : Option Addr) (cg ci cv ca nr cr np cp nq cq : Nat) (vs : List Value) : Prop where
  ge : base ≤ g
  blk : Blk w g 110 (monC G I V Al R P Q cg s.its.length ci cv s.al.length ca nr cr np cp nq cq s.lx s.li s.has)
  row : OwP isSl1 22 1 w base I s.its.length ci vs
  el : ∀ j, j < s.its.length → ∃ B m d, vs[j]? = some (.slice B m d) ∧ RB w B m d (lb s.its j)
  als : OwP isI1 75 2 w base Al s.al.length ca (alC s.al)
  rG : RB w G 32 cg s.log
  rV : RBB w V s.its.length cv (s.its.map leafH)
  nV : 0 < s.its.length → ∀ k, Go.Proofs.Ytkndgpjamijbbaa.blk V = some k → ¬ phiM I Al g k
  rR : RB w R nr cr s.lr
  rP : RBB w P np cp s.lp
  nP : 0 < np → ∀ k, Go.Proofs.Ytkndgpjamijbbaa.blk P = some k → ¬ phiM I Al g k
  rQ : RBB w Q nq cq s.lq
  nQ : 0 < nq → ∀ k, Go.Proofs.Ytkndgpjamijbbaa.blk Q = some k → ¬ phiM I Al g k
def MonR (w : World) (base : Nat) (φ : Nat → Prop) (g : Nat) (s : MSt) : Prop :=
  ∃ G I V Al R P Q cg ci cv ca nr cr np cp nq cq vs, φ = phiM I Al g ∧ MonA w base g s G I V Al R P Q cg ci cv ca nr cr np cp nq cq vs
theorem mon_no (G I V Al R P Q : Option Addr) (cg n ci cv na ca nr cr np cp nq cq : Nat) (lx li : Int) (has : Bool) (i : Nat) (z : Int) : (monC G I V Al R P Q cg n ci cv na ca nr cr np cp nq cq lx li has)[i]? ≠ some (.int .u8 z) := by
  unfold monC
  rcases i with _ | _ | _ | _ | _ | _ | _ | _ | _ | _ | i <;> simp
section
variable {w w' : World} {base g : Nat} {s : MSt} {G I V Al R P Q : Option Addr} {cg ci cv ca nr cr np cp nq cq : Nat} {vs : List Value}
theorem MonA.nob (h : MonA w base g s G I V Al R P Q cg ci cv ca nr cr np cp nq cq vs) : NoB (phiM I Al g) w := by
  rintro k (rfl | hk | hk)
  · exact ⟨_, _, h.blk, mon_no _ _ _ _ _ _ _ _ _ _ _ _ _ _ _ _ _ _ _ _ _ _⟩
  · obtain ⟨cs, h1, h2⟩ := h.row.blk_ hk
    refine ⟨_, cs, h1, fun i x e => ?_⟩
    obtain ⟨A, n, c, h3⟩ := h2 _ (List.mem_of_getElem? (by rw [Array.getElem?_toList]; exact e))
    cases h3
  · obtain ⟨cs, h1, h2⟩ := h.als.blk_ hk
    refine ⟨_, cs, h1, fun i x e => ?_⟩
    obtain ⟨y, h3⟩ := h2 _ (List.mem_of_getElem? (by rw [Array.getElem?_toList]; exact e))
    injection h3 with h3 _
    cases h3
theorem MonA.lt (h : MonA w base g s G I V Al R P Q cg ci cv ca nr cr np cp nq cq vs) {k : Nat} (hk : phiM I Al g k) : base ≤ k ∧ k < w.heap.size := by
  rcases hk with rfl | hk | hk
  · exact ⟨h.ge, h.blk.lt⟩
  · exact h.row.lt hk
  · exact h.als.lt hk
theorem MonA.ext (h : MonA w base g s G I V Al R P Q cg ci cv ca nr cr np cp nq cq vs) (e : Ext w w') : MonA w' base g s G I V Al R P Q cg ci cv ca nr cr np cp nq cq vs :=
  ⟨h.ge, h.blk.ext e, h.row.ext e, fun j hj => by
    obtain ⟨B, m, d, h1, h2⟩ := h.el j hj
    exact ⟨B, m, d, h1, h2.ext e⟩, h.als.ext e, h.rG.ext e, h.rV.ext e, h.nV, h.rR.ext e, h.rP.ext e, h.nP, h.rQ.ext e, h.nQ⟩
end
theorem MonR.ext {w w' : World} {base g : Nat} {φ : Nat → Prop} {s : MSt} (h : MonR w base φ g s) (e : Ext w w') : MonR w' base φ g s := by
  obtain ⟨G, I, V, Al, R, P, Q, cg, ci, cv, ca, nr, cr, np, cp, nq, cq, vs, h1, h2⟩ := h
  exact ⟨G, I, V, Al, R, P, Q, cg, ci, cv, ca, nr, cr, np, cp, nq, cq, vs, h1, h2.ext e⟩
/-- the rows that a monitor reads and does not turn -/
def dltM (V P Q : Option Addr) (nv np nq : Nat) (k : Nat) : Prop := (0 < nv ∧ blk V = some k) ∨ (0 < np ∧ blk P = some k) ∨ (0 < nq ∧ blk Q = some k)
/-- a monitor, with the blocks that it turns and the rows that it reads -/
def MonD (w : World) (base : Nat) (φ ρ : Nat → Prop) (g : Nat) (s : MSt) : Prop :=
  ∃ G I V Al R P Q cg ci cv ca nr cr np cp nq cq vs, φ = phiM I Al g ∧ ρ = dltM V P Q s.its.length np nq ∧ MonA w base g s G I V Al R P Q cg ci cv ca nr cr np cp nq cq vs
theorem MonD.toR {w : World} {base g : Nat} {φ ρ : Nat → Prop} {s : MSt} (h : MonD w base φ ρ g s) : MonR w base φ g s := by
  obtain ⟨G, I, V, Al, R, P, Q, cg, ci, cv, ca, nr, cr, np, cp, nq, cq, vs, h1, _, h2⟩ := h
  exact ⟨G, I, V, Al, R, P, Q, cg, ci, cv, ca, nr, cr, np, cp, nq, cq, vs, h1, h2⟩
theorem MonR.toD {w : World} {base g : Nat} {φ : Nat → Prop} {s : MSt} (h : MonR w base φ g s) : ∃ ρ, MonD w base φ ρ g s := by
  obtain ⟨G, I, V, Al, R, P, Q, cg, ci, cv, ca, nr, cr, np, cp, nq, cq, vs, h1, h2⟩ := h
  exact ⟨_, G, I, V, Al, R, P, Q, cg, ci, cv, ca, nr, cr, np, cp, nq, cq, vs, h1, rfl, h2⟩
theorem MonD.ext {w w' : World} {base g : Nat} {φ ρ : Nat → Prop} {s : MSt} (h : MonD w base φ ρ g s) (e : Ext w w') : MonD w' base φ ρ g s := by
  obtain ⟨G, I, V, Al, R, P, Q, cg, ci, cv, ca, nr, cr, np, cp, nq, cq, vs, h1, h2, h3⟩ := h
  exact ⟨G, I, V, Al, R, P, Q, cg, ci, cv, ca, nr, cr, np, cp, nq, cq, vs, h1, h2, h3.ext e⟩
theorem MonR.nob {w : World} {base g : Nat} {φ : Nat → Prop} {s : MSt} (h : MonR w base φ g s) : NoB φ w := by
  obtain ⟨G, I, V, Al, R, P, Q, cg, ci, cv, ca, nr, cr, np, cp, nq, cq, vs, rfl, h2⟩ := h
  exact h2.nob
theorem MonR.lt {w : World} {base g : Nat} {φ : Nat → Prop} {s : MSt} (h : MonR w base φ g s) {k : Nat} (hk : φ k) : base ≤ k ∧ k < w.heap.size := by
  obtain ⟨G, I, V, Al, R, P, Q, cg, ci, cv, ca, nr, cr, np, cp, nq, cq, vs, rfl, h2⟩ := h
  exact h2.lt hk
def newM (L : List UInt8) : MSt := ⟨L, [], [], 0, [], 0, [], [], false⟩
def NewP (w : World) (L : List UInt8) (e : Ending) (w' : World) : Prop := ∃ g φ, e = .returned (.tuple #[.pointer (some ⟨g, 0, none⟩), .int .i64 0]) ∧ MonR w' w.heap.size φ g (newM L) ∧ Ext w w'
theorem mnew_yes (A : Option Addr) (c : Nat) (L : List UInt8) (w : World) (hr : RB w A 32 c L) :
    Calls Try.prog 35 #[.slice A 32 c] w fun e w' => NewP w L e w' := by
  go_enter Try.func35, Try.ntmps35
  go_wp2_with fail
  refine (clone_any A 32 c L w hr (by omega)).mono ?_
  rintro e w1 ⟨B, d, rfl, own, hE⟩
  go_wp2_with fail
  go_ret2
  have hB := Blk.new w1 110 (monC B none none none none none none d 0 0 0 0 0 0 0 0 0 0 0 0 0 false)
  have hEn := Ext.new w1 (.cells (monC B none none none none none none d 0 0 0 0 0 0 0 0 0 0 0 0 0 false) 110)
  exact ⟨w1.heap.size, _, rfl, ⟨B, none, none, none, none, none, none, d, 0, 0, 0, 0, 0, 0, 0, 0, 0, [], rfl, hE.size, hB, OwP.none_ _ _, fun j hj => absurd hj (Nat.not_lt_zero _), OwP.none_ _ _, own.rb.ext hEn, RBB.nil_ _, fun h => absurd h (Nat.lt_irrefl _), RB.nil_ _, RBB.nil_ _, fun h => absurd h (Nat.lt_irrefl _), RBB.nil_ _, fun h => absurd h (Nat.lt_irrefl _)⟩, hE.trans hEn⟩
theorem msize_any (w : World) (base g : Nat) (φ : Nat → Prop) (s : MSt) (h : MonR w base φ g s) :
    Calls Try.prog 43 #[.pointer (some ⟨g, 0, none⟩)] w fun e w' => e = .returned (.int .i64 (s.its.length : Nat)) ∧ w' = w := by
  obtain ⟨G, I, V, Al, R, P, Q, cg, ci, cv, ca, nr, cr, np, cp, nq, cq, vs, rfl, h2⟩ := h
  have y1 := h2.blk.cell (i := 1) (v := .slice I s.its.length ci) rfl
  go_enter Try.func43, Try.ntmps43
  go_wp2_with fail
  go_ret
  exact ⟨rfl, rfl⟩
end Go.Proofs.Ytkndgpjamijbbaa
namespace Go.Proofs.Ytkndgpjamijbbaa
set_option maxRecDepth 100000
open Go Go.RowKit
theorem OBC.lit0 (w : World) : OBC (w.alloc (.cells #[] 22)) w.heap.size (some ⟨w.heap.size, 0, none⟩) 0 0 [] :=
  ⟨[], ⟨rfl, .inr ⟨w.heap.size, 0, #[], rfl, Nat.le_refl _, heap_alloc_new w _, Nat.le_refl _, Nat.zero_le _, rfl, rfl⟩⟩, rfl, fun j hj => absurd hj (Nat.not_lt_zero _)⟩
theorem lb_app_l {Ls Ms : List (List UInt8)} {j : Nat} (h : j < Ls.length) : lb (Ls ++ Ms) j = lb Ls j := by unfold lb; simp [List.getElem?_append_left h]
theorem lb_app_r {Ls Ms : List (List UInt8)} {j : Nat} (h : Ls.length ≤ j) : lb (Ls ++ Ms) j = lb Ms (j - Ls.length) := by unfold lb; simp [List.getElem?_append_right h]
theorem run_apprb (ty : TypeId) {w0 w : World} {base n c k d : Nat} {A B : Option Addr} {Ls Ms : List (List UInt8)} (hown : OBC w base A n c Ls) (hx : RBB w0 B k d Ms) (e : Ext w0 w) (hb : w0.heap.size ≤ base) (hbase : base ≤ w.heap.size) (hnk : n + k ≤ 1000000) :
    ∃ A' c' w', (Builtin.append_ #[23, 23] ty #[.slice A n c, .slice B k d]).run Try.prog w = .ok (.slice A' (n + k) c') w' ∧ OBC w' base A' (n + k) c' (Ls ++ Ms) ∧ w.grownBy w' (blk A) ∧ (blk A' = blk A ∨ blk A' = some w.heap.size) := by
  obtain ⟨i0, hi0, hz0, hz1, hz2⟩ := info_parts info_bb'
  have hm := hx.len
  rcases B with _ | ad
  · obtain rfl : k = 0 := by
      rcases Nat.eq_zero_or_pos k with h0 | h0
      · exact h0
      · obtain ⟨ad, h1, _⟩ := hx.cells h0
        cases h1
    obtain rfl : Ms = [] := List.eq_nil_of_length_eq_zero hm
    refine ⟨A, c, w, ?_, by simpa using hown, World.grownBy.refl w _, .inl rfl⟩
    obtain ⟨vs, own, hl, h3⟩ := hown
    rcases own.2 with ⟨e1, h0⟩ | ⟨g, cap, cur, e1, _, _, hnc, _⟩
    · injection e1 with e1 e2 e3
      subst e1 e2 e3
      simp [Builtin.append_, run_underlying Try.underlying23, sizeOf, typeInfo, hi0, Builtin.lenOf, Builtin.firstCells]
    · injection e1 with e1 e2 e3
      subst e1 e3
      simp [Builtin.append_, run_underlying Try.underlying23, sizeOf, typeInfo, hi0, Builtin.lenOf, Builtin.firstCells, hnc, storeCells]
  · have hx' := hx.ext e
    obtain ⟨us, hul, hcells, hone, hus⟩ := hx.vals
    obtain ⟨vs, own, hl, h3⟩ := hown
    obtain ⟨v', w', hrun, r1, r2, _, r4⟩ := run_append_own_at (P := Try.prog) w base 23 ty 22 i0 (.slice none 0 0) 1 24 Try.underlying23 hi0 hz0 hz1 hz2 rfl (by decide) (.slice A n c) n vs own ad k d us (by rw [hul, Nat.mul_one]) (fun j u hu => e.cell (hcells ad rfl j u hu)) hone (small_maxLen hnk) (by omega) hbase
    obtain ⟨A', c', rfl⟩ : ∃ A' c', v' = .slice A' (n + k) c' := by
      rcases r1.2 with ⟨rfl, h0⟩ | ⟨g, cap, _, rfl, _⟩
      · exact ⟨none, 0, by rw [h0]⟩
      · exact ⟨_, cap, rfl⟩
    rw [ownBlock_slice] at r2
    rw [ownBlock_slice, ownBlock_slice] at r4
    have hvl : vs.length = n := by have := own.1; omega
    have hAlt : ∀ q, blk A = some q → base ≤ q ∧ q < w.heap.size := fun q hq => World.ownsRow.lt own q (by rw [ownBlock_slice]; exact hq)
    refine ⟨A', c', w', hrun, ⟨vs ++ us, r1, by rw [List.length_append]; omega, fun j hj => ?_⟩, r2, r4⟩
    by_cases hjn : j < n
    · obtain ⟨E, m, d', h4, h5, h6⟩ := h3 j hjn
      rw [lb_app_l (by omega)]
      refine ⟨E, m, d', by rw [List.getElem?_append_left (by omega)]; exact h4, h5.grown r2 h6, fun hm e' => ?_⟩
      rcases r4 with r4 | r4
      · exact h6 hm (e'.trans r4)
      · have := rb_blk_lt h5 hm _ (e'.trans r4)
        omega
    · obtain ⟨E, m, d', h4, h5⟩ := hus (j - n) (by omega)
      rw [lb_app_r (by omega), hl]
      have hlt : 0 < m → ∀ q, blk E = some q → q < w0.heap.size := fun hm q hq => rb_blk_lt h5 hm q hq
      have he : 0 < m → ∃ q, blk E = some q := by
        intro hm
        obtain ⟨ad', h1, _⟩ := h5.cells hm
        rw [h1]
        exact ⟨_, rfl⟩
      refine ⟨E, m, d', by rw [List.getElem?_append_right (by omega), hvl]; exact h4, (h5.ext e).grown r2 (fun hm e' => ?_), fun hm e' => ?_⟩
      · obtain ⟨q, hq⟩ := he hm
        have h7 := hlt hm q hq
        have h8 := (hAlt q (e'.symm.trans hq)).1
        omega
      · obtain ⟨q, hq⟩ := he hm
        have h7 := hlt hm q hq
        rcases r4 with r4 | r4
        · have h8 := (hAlt q ((e'.trans r4).symm.trans hq)).1
          omega
        · have h9 := (e'.trans r4).symm.trans hq
          injection h9 with h9
          have := e.size
          omega
theorem apprb_law {ops : Array Oper} {rest : List Oper} {o : Oper} {a : Act} {Q : Exit → Act → World → Prop} {w0 w : World} (hgd : o.guard = none) {s x : Operand} (ho : o.op = .call { callee := .builtin .append, args := #[s, x], argTypes := #[23, 23] })
    {A B : Option Addr} {n c k d : Nat} (hs : a.eval s = .slice A n c) (hx : a.eval x = .slice B k d) {base : Nat} {Ls Ms : List (List UInt8)} (hown : OBC w base A n c Ls) (hr : RBB w0 B k d Ms) (e : Ext w0 w) (hb : w0.heap.size ≤ base) (hbase : base ≤ w.heap.size) (hnk : n + k ≤ 1000000)
    (h : ∀ A' c' w', OBC w' base A' (n + k) c' (Ls ++ Ms) → w.grownBy w' (blk A) → (blk A' = blk A ∨ blk A' = some w.heap.size) → wpList Try.prog ops Q rest (a.put o.dst (.slice A' (n + k) c')) w') : wpList Try.prog ops Q (o :: rest) a w := by
  obtain ⟨A', c', w', hrun, h1, h2, h3⟩ := run_apprb o.type hown hr e hb hbase hnk
  refine run_law hgd (v := .slice A' (n + k) c') (w' := w') ?_ (h A' c' w' h1 h2 h3)
  unfold execOp
  simp only [ho, resolve, invoke, builtin, Sem.run_bind, Sem.run_pure, Result.andThen_ok, List.map_toArray, List.map_cons, List.map_nil, hs, hx, hrun]
end Go.Proofs.Ytkndgpjamijbbaa
namespace Go.Proofs.Ytkndgpjamijbbaa
set_option maxRecDepth 100000
open Go Go.RowKit
theorem RBB.mk_ {w w' : World} {A : Option Addr} {n c : Nat} {Ls : List (List UInt8)} (h : RBB w A n c Ls) (e : Mk w w') : RBB w' A n c Ls :=
  ⟨h.len, h.room, h.cap, fun hn => by
    obtain ⟨ad, ha, hc⟩ := h.cells hn
    refine ⟨ad, ha, fun j hj => ?_⟩
    obtain ⟨B, m, d, h1, h2⟩ := hc j hj
    exact ⟨B, m, d, e.cell h1, h2.mk_ e⟩⟩
end Go.Proofs.Ytkndgpjamijbbaa
namespace Go.Proofs.Ytkndgpjamijbbaa
set_option maxRecDepth 100000
open Go Go.RowKit
/-- two words, two slices, two words .. -/
def ShapeL (l : List Value) : Prop := ∀ i v, l[i]? = some v → (i % 4 < 2 → ∃ x, v = .int .i64 x) ∧ (2 ≤ i % 4 → ∃ P n c, v = .slice P n c)
theorem ShapeL.nil : ShapeL [] := by
  intro i v h
  cases h
theorem ShapeL.app {xs ys : List Value} (hx : ShapeL xs) (hy : ShapeL ys) (h4 : xs.length % 4 = 0) : ShapeL (xs ++ ys) := by
  intro i v h
  by_cases hi : i < xs.length
  · rw [List.getElem?_append_left hi] at h
    exact hx i v h
  · rw [List.getElem?_append_right (by omega)] at h
    have h2 := hy _ v h
    have e : (i - xs.length) % 4 = i % 4 := by omega
    rw [e] at h2
    exact h2
theorem ShapeL.take {xs : List Value} (hx : ShapeL xs) (k : Nat) : ShapeL (xs.take k) := by
  intro i v h
  by_cases hi : i < k
  · rw [List.getElem?_take_of_lt hi] at h
    exact hx i v h
  · rw [List.getElem?_eq_none (by simp; omega)] at h
    cases h
theorem ShapeL.drop {xs : List Value} (hx : ShapeL xs) (k : Nat) (h4 : k % 4 = 0) : ShapeL (xs.drop k) := by
  intro i v h
  rw [List.getElem?_drop] at h
  have h2 := hx _ v h
  have e : (k + i) % 4 = i % 4 := by omega
  rw [e] at h2
  exact h2
theorem ShapeL.no3 {cs : Array Value} (h : ShapeL cs.toList) (i : Nat) (a b c : Value) (ha : cs[i]? = some a) (hb : cs[i + 1]? = some b) (hc : cs[i + 2]? = some c) : ¬ (isSl (some a) = true ∧ isSl (some b) = true ∧ isSl (some c) = true) := by
  rintro ⟨k1, k2, k3⟩
  have h1 : i % 4 < 2 ∨ (i + 1) % 4 < 2 ∨ (i + 2) % 4 < 2 := by omega
  rcases h1 with h1 | h1 | h1
  · obtain ⟨x, rfl⟩ := (h i a (by rw [Array.getElem?_toList]; exact ha)).1 h1
    cases k1
  · obtain ⟨x, rfl⟩ := (h (i + 1) b (by rw [Array.getElem?_toList]; exact hb)).1 h1
    cases k2
  · obtain ⟨x, rfl⟩ := (h (i + 2) c (by rw [Array.getElem?_toList]; exact hc)).1 h1
    cases k3
theorem ShapeL.nou8 {cs : Array Value} (h : ShapeL cs.toList) (i : Nat) (x : Int) : cs[i]? ≠ some (.int .u8 x) := by
  intro e
  have h1 := h i _ (by rw [Array.getElem?_toList]; exact e)
  rcases Nat.lt_or_ge (i % 4) 2 with h2 | h2
  · obtain ⟨y, hy⟩ := h1.1 h2
    injection hy with hy _
    cases hy
  · obtain ⟨_, _, _, hy⟩ := h1.2 h2
    cases hy
/-- an own row of cosignatures: its cells -/
def OwZ (w : World) (base : Nat) (A : Option Addr) (n c : Nat) (xs : List Value) : Prop :=
  xs.length = n * 4 ∧ ((A = none ∧ n = 0 ∧ c = 0) ∨ ∃ g cs, A = some ⟨g, 0, none⟩ ∧ base ≤ g ∧ Blk w g 104 cs ∧ n ≤ c ∧ c ≤ maxLen ∧ cs.size = c * 4 ∧ ShapeL cs.toList ∧ cs.toList.take (n * 4) = xs)
theorem OwZ.none_ (w : World) (base : Nat) : OwZ w base none 0 0 [] := ⟨rfl, .inl ⟨rfl, rfl, rfl⟩⟩
theorem OwZ.ext {w w' : World} {base n c : Nat} {A : Option Addr} {xs : List Value} (h : OwZ w base A n c xs) (e : Ext w w') : OwZ w' base A n c xs := by
  obtain ⟨h1, h2⟩ := h
  refine ⟨h1, ?_⟩
  rcases h2 with h2 | ⟨g, cs, k1, k2, k3, k4⟩
  · exact .inl h2
  · exact .inr ⟨g, cs, k1, k2, k3.ext e, k4⟩
theorem OwZ.grown {w w' : World} {base n c : Nat} {A : Option Addr} {xs : List Value} (h : OwZ w base A n c xs) {row : Option Nat} (e : w.grownBy w' row) (hne : ∀ g, blk A = some g → some g ≠ row) : OwZ w' base A n c xs := by
  obtain ⟨h1, h2⟩ := h
  refine ⟨h1, ?_⟩
  rcases h2 with h2 | ⟨g, cs, rfl, k2, k3, k4⟩
  · exact .inl h2
  · exact .inr ⟨g, cs, rfl, k2, k3.grown e (hne g rfl), k4⟩
theorem OwZ.lt {w : World} {base n c : Nat} {A : Option Addr} {xs : List Value} (h : OwZ w base A n c xs) {k : Nat} (hk : blk A = some k) : base ≤ k ∧ k < w.heap.size := by
  rcases h.2 with ⟨rfl, _⟩ | ⟨g, cs, rfl, k2, k3, _⟩
  · cases hk
  · have e : some g = some k := hk
    injection e with e
    subst e
    exact ⟨k2, k3.lt⟩
end Go.Proofs.Ytkndgpjamijbbaa
namespace Go.Proofs.Ytkndgpjamijbbaa
set_option maxRecDepth 100000
open Go Go.RowKit
structure CV where
  wn : Int
  k : Int
  P : Option Addr
  cp : Nat
  Q : Option Addr
  cq : Nat
def CV.cells (v : CV) : List Value := [.int .i64 v.wn, .int .i64 v.k, .slice v.P 64 v.cp, .slice v.Q 4 v.cq]
def vz : CV := ⟨0, 0, none, 0, none, 0⟩
def cv_ (vs : List CV) (j : Nat) : CV := vs.getD j vz
structure CVR (w : World) (v : CV) (g : CSig) : Prop where
  wn : g.wn = v.wn
  k : g.k = v.k
  ps : RBB w v.P 64 v.cp g.ps
  qs : RBB w v.Q 4 v.cq g.qs
theorem CVR.ext {w w' : World} {v : CV} {g : CSig} (h : CVR w v g) (e : Ext w w') : CVR w' v g := ⟨h.wn, h.k, h.ps.ext e, h.qs.ext e⟩
theorem CVR.away {w w' : World} {v : CV} {g : CSig} (h : CVR w v g) {k : Nat} {t : TypeId} {cs : Array Value} (hb : Blk w k t cs) (h8 : ∀ (i : Nat) (x : Int), cs[i]? ≠ some (.int .u8 x))
    (h3 : ∀ (i : Nat) (a b c : Value), cs[i]? = some a → cs[i + 1]? = some b → cs[i + 2]? = some c → ¬ (isSl (some a) = true ∧ isSl (some b) = true ∧ isSl (some c) = true)) (e : w.grownBy w' (some k)) : CVR w' v g :=
  ⟨h.wn, h.k, h.ps.away hb h8 e (fun _ => h.ps.apart3 hb h3 (by omega)), h.qs.away hb h8 e (fun _ => h.qs.apart3 hb h3 (by omega))⟩
theorem fm_get (vs : List CV) : ∀ (j i : Nat), i < 4 → j < vs.length → (vs.flatMap CV.cells)[j * 4 + i]? = (cv_ vs j).cells[i]? := by
  induction vs with
  | nil => intro j i _ h; exact absurd h (Nat.not_lt_zero _)
  | cons v vs ih =>
    intro j i hi hj
    have h4 : v.cells.length = 4 := rfl
    rw [List.flatMap_cons]
    cases j with
    | zero =>
      rw [List.getElem?_append_left (by omega)]
      rw [Nat.zero_mul, Nat.zero_add]
      rfl
    | succ j =>
      rw [List.getElem?_append_right (by omega)]
      rw [show (j + 1) * 4 + i - v.cells.length = j * 4 + i by rw [h4]; omega]
      exact ih j i hi (by rw [List.length_cons] at hj; omega)
/-- a slice of cosignatures that is read, its cells -/
structure RCV (w : World) (A : Option Addr) (n c : Nat) (vs : List CV) (gs : List CSig) : Prop where
  lv : vs.length = n
  lg : gs.length = n
  room : n ≤ c
  cap : c ≤ maxLen
  cells : 0 < n → ∃ ad, A = some ad ∧ ∀ j u, (vs.flatMap CV.cells)[j]? = some u → w.cell? (ad.add j) = some u
  each : ∀ j, j < n → CVR w (cv_ vs j) (cg_ gs j)
theorem RCV.ext {w w' : World} {A : Option Addr} {n c : Nat} {vs : List CV} {gs : List CSig} (h : RCV w A n c vs gs) (e : Ext w w') : RCV w' A n c vs gs :=
  ⟨h.lv, h.lg, h.room, h.cap, fun hn => by
    obtain ⟨ad, ha, hc⟩ := h.cells hn
    exact ⟨ad, ha, fun j u hu => e.cell (hc j u hu)⟩, fun j hj => (h.each j hj).ext e⟩
theorem add_lit_ (ad : Addr) (j i : Nat) : (ad.add j).add i = ad.add (j + i) := by
  unfold Addr.add
  by_cases hj : j = 0 <;> by_cases hi : i = 0 <;> simp [hj, hi]
  omega
theorem RCV.at_ {w : World} {ad : Addr} {n c : Nat} {vs : List CV} {gs : List CSig} (h : RCV w (some ad) n c vs gs) {j : Nat} (hj : j < n) :
    w.cell? (ad.add (j * 4)) = some (.int .i64 (cv_ vs j).wn) ∧ w.cell? ((ad.add (j * 4)).add 1) = some (.int .i64 (cv_ vs j).k) ∧ w.cell? ((ad.add (j * 4)).add 2) = some (.slice (cv_ vs j).P 64 (cv_ vs j).cp) ∧ w.cell? ((ad.add (j * 4)).add 3) = some (.slice (cv_ vs j).Q 4 (cv_ vs j).cq) := by
  obtain ⟨ad', ha, hc⟩ := h.cells (by omega)
  injection ha with ha
  subst ha
  have hl := h.lv
  have k := fun i (hi : i < 4) => fm_get vs j i hi (by omega)
  refine ⟨?_, ?_, ?_, ?_⟩
  · exact hc _ _ (k 0 (by omega))
  · rw [add_lit_]; exact hc _ _ (k 1 (by omega))
  · rw [add_lit_]; exact hc _ _ (k 2 (by omega))
  · rw [add_lit_]; exact hc _ _ (k 3 (by omega))
/-- an own row of cosignatures -/
def OCS (w : World) (base : Nat) (A : Option Addr) (n c : Nat) (vs : List CV) (gs : List CSig) : Prop :=
  vs.length = n ∧ gs.length = n ∧ OwZ w base A n c (vs.flatMap CV.cells) ∧ ∀ j, j < n → CVR w (cv_ vs j) (cg_ gs j)
theorem OCS.none_ (w : World) (base : Nat) : OCS w base none 0 0 [] [] := ⟨rfl, rfl, OwZ.none_ _ _, fun j hj => absurd hj (Nat.not_lt_zero _)⟩
theorem OCS.ext {w w' : World} {base n c : Nat} {A : Option Addr} {vs : List CV} {gs : List CSig} (h : OCS w base A n c vs gs) (e : Ext w w') : OCS w' base A n c vs gs :=
  ⟨h.1, h.2.1, h.2.2.1.ext e, fun j hj => (h.2.2.2 j hj).ext e⟩
theorem OCS.lt {w : World} {base n c : Nat} {A : Option Addr} {vs : List CV} {gs : List CSig} (h : OCS w base A n c vs gs) {k : Nat} (hk : blk A = some k) : base ≤ k ∧ k < w.heap.size := h.2.2.1.lt hk
theorem OCS.blk_ {w : World} {base n c : Nat} {A : Option Addr} {vs : List CV} {gs : List CSig} (h : OCS w base A n c vs gs) {k : Nat} (hk : blk A = some k) : ∃ cs, Blk w k 104 cs ∧ ShapeL cs.toList := by
  rcases h.2.2.1.2 with ⟨rfl, _⟩ | ⟨g, cs, rfl, _, k3, _, _, _, k7, _⟩
  · cases hk
  · have e : some g = some k := hk
    injection e with e
    subst e
    exact ⟨cs, k3, k7⟩
/-- another block is turned -/
theorem OCS.away {w w' : World} {base n c : Nat} {A : Option Addr} {vs : List CV} {gs : List CSig} (h : OCS w base A n c vs gs) {k : Nat} {t : TypeId} {cs : Array Value} (hb : Blk w k t cs) (h8 : noU8 cs = true) (h3 : no3B cs = true) (hne : blk A ≠ some k) (e : w.grownBy w' (some k)) : OCS w' base A n c vs gs :=
  ⟨h.1, h.2.1, h.2.2.1.grown e (fun g hg e' => hne (hg.trans e')), fun j hj => (h.2.2.2 j hj).away hb (nou8 h8) (no3 h3) e⟩
theorem OCS.ne_blk {w : World} {base n c : Nat} {A : Option Addr} {vs : List CV} {gs : List CSig} (h : OCS w base A n c vs gs) {k : Nat} {t : TypeId} {cs : Array Value} (hb : Blk w k t cs) (ht : t ≠ 104) : blk A ≠ some k := by
  intro hk
  obtain ⟨cs', h1, _⟩ := h.blk_ hk
  exact h1.ne_ hb (fun e => ht e.symm) rfl
/-- one cosignature in a block of its own, as 'append' lays it -/
theorem RCV.one {w : World} {g : Nat} {wn k : Int} {P Q : Option Addr} {cp cq : Nat} {ps qs : List (List UInt8)} (hb : Blk w g 104 #[.int .i64 wn, .int .i64 k, .slice P 64 cp, .slice Q 4 cq]) (rP : RBB w P 64 cp ps) (rQ : RBB w Q 4 cq qs) :
    RCV w (some ⟨g, 0, none⟩) 1 1 [⟨wn, k, P, cp, Q, cq⟩] [⟨wn, k, ps, qs⟩] := by
  refine ⟨rfl, rfl, Nat.le_refl _, by unfold maxLen; omega, fun _ => ⟨_, rfl, fun j u hu => ?_⟩, fun j hj => ?_⟩
  · rw [add_plain]
    refine hb.cell ?_
    rw [← hu]
    show _ = (CV.cells ⟨wn, k, P, cp, Q, cq⟩ ++ [])[j]?
    rw [List.append_nil]
    exact List.getElem?_toArray
  · obtain rfl : j = 0 := by omega
    exact ⟨rfl, rfl, rP, rQ⟩
end Go.Proofs.Ytkndgpjamijbbaa
namespace Go.Proofs.Ytkndgpjamijbbaa
set_option maxRecDepth 100000
open Go Go.RowKit
/-- a slice of two like cosignatures in a block of its own -/
theorem RCS.two {w : World} {b : Nat} {P Q : Option Addr} {np cp nq cq : Nat} {x k : Int} {PS QS : List (List UInt8)} {t : TypeId}
    (hB : Blk w b t #[.int .i64 x, .int .i64 k, .slice P np cp, .slice Q nq cq, .int .i64 x, .int .i64 k, .slice P np cp, .slice Q nq cq]) (rP : RBB w P np cp PS) (rQ : RBB w Q nq cq QS) :
    RCS w (some ⟨b, 0, none⟩) 2 2 [⟨x, k, PS, QS⟩, ⟨x, k, PS, QS⟩] := by
  refine ⟨rfl, Nat.le_refl _, small_maxLen (by decide), fun _ => ⟨_, rfl, fun j hj => ?_⟩⟩
  have h : j = 0 ∨ j = 1 := by omega
  rcases h with rfl | rfl
  · exact ⟨P, np, cp, Q, nq, cq, hB.cell (i := 0) rfl, hB.cell (i := 1) rfl, hB.cell (i := 2) rfl, hB.cell (i := 3) rfl, rP, rQ⟩
  · exact ⟨P, np, cp, Q, nq, cq, hB.cell (i := 4) rfl, hB.cell (i := 5) rfl, hB.cell (i := 6) rfl, hB.cell (i := 7) rfl, rP, rQ⟩
theorem RCS.one {w : World} {b : Nat} {P Q : Option Addr} {np cp nq cq : Nat} {x k : Int} {PS QS : List (List UInt8)} {t : TypeId}
    (hB : Blk w b t #[.int .i64 x, .int .i64 k, .slice P np cp, .slice Q nq cq]) (rP : RBB w P np cp PS) (rQ : RBB w Q nq cq QS) :
    RCS w (some ⟨b, 0, none⟩) 1 1 [⟨x, k, PS, QS⟩] := by
  refine ⟨rfl, Nat.le_refl _, small_maxLen (by decide), fun _ => ⟨_, rfl, fun j hj => ?_⟩⟩
  obtain rfl : j = 0 := by omega
  exact ⟨P, np, cp, Q, nq, cq, hB.cell (i := 0) rfl, hB.cell (i := 1) rfl, hB.cell (i := 2) rfl, hB.cell (i := 3) rfl, rP, rQ⟩
end Go.Proofs.Ytkndgpjamijbbaa

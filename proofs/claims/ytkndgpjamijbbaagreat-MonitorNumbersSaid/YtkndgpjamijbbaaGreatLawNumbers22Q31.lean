/-
  Monitor.Feed, walked (under way).
-/
import Derived.Test.YtkndgpjamijbbaaGreatLawNumbers22Q29
import Derived.Test.YtkndgpjamijbbaaGreatLawNumbers22Q21
import Derived.Test.YtkndgpjamijbbaaGreatLawNumbers22Q16
import Derived.Test.YtkndgpjamijbbaaGreatLawNumbers22Q30
namespace Go.Proofs.YtkndgpjamijbbaaGreat
set_option maxRecDepth 100000
open Go Go.RowKit
noncomputable def feedE (s : MSt) (x : Int) (R : List UInt8) (i : Int) (Ps Qs its : List (List UInt8)) : Int :=
  if cverB s.log x R i Ps Qs = false then 30
  else if x ≤ (s.its.length : Int) ∧ 0 < its.length then 1
  else if x ≤ (s.its.length : Int) ∧ rootL ((s.its.map leafH).take x.toNat) ≠ R then 34
  else if x ≤ (s.its.length : Int) then 0
  else if (its.length : Int) ≠ x - (s.its.length : Int) then 31
  else if rootL ((s.its ++ its).map leafH) ≠ R then 31 else 0
noncomputable def feedS (s : MSt) (x : Int) (R : List UInt8) (i : Int) (Ps Qs its : List (List UInt8)) : MSt :=
  if feedE s x R i Ps Qs its = 34 then { s with al := s.al ++ [(1, x)] }
  else if feedE s x R i Ps Qs its = 0 ∧ ¬ x ≤ (s.its.length : Int) then { s with its := s.its ++ its, lx := x, lr := R, li := i, lp := Ps, lq := Qs, has := true }
  else s
def FeedP (w : World) (base : Nat) (φ : Nat → Prop) (g : Nat) (s' : MSt) (r : Int) (e : Ending) (w' : World) : Prop :=
  e = .returned (.int .i64 r) ∧ (r ≠ 0 → r ≠ 34 → Ext w w') ∧ ∃ φ', MonR w' base φ' g s' ∧ Upd φ w w' ∧ ∀ k, k < w.heap.size → φ' k → φ k
theorem FeedP.same {w w' : World} {base g : Nat} {φ : Nat → Prop} {s : MSt} {r : Int} (h : MonR w base φ g s) (e : Ext w w') : FeedP w base φ g s r (.returned (.int .i64 r)) w' :=
  ⟨rfl, fun _ _ => e, φ, h.ext e, Upd.of_ext e, fun _ _ h => h⟩
def FeedD (w : World) (base : Nat) (φ ρ : Nat → Prop) (g : Nat) (s' : MSt) (r : Int) (e : Ending) (w' : World) : Prop :=
  e = .returned (.int .i64 r) ∧ (r ≠ 0 → r ≠ 34 → Ext w w') ∧ ∃ φ' ρ', MonD w' base φ' ρ' g s' ∧ Upd φ w w' ∧ (∀ k, k < w.heap.size → φ' k → φ k) ∧ ∀ k, k < w.heap.size → ρ' k → ρ k
theorem FeedD.same {w w' : World} {base g : Nat} {φ ρ : Nat → Prop} {s : MSt} {r : Int} (h : MonD w base φ ρ g s) (e : Ext w w') : FeedD w base φ ρ g s r (.returned (.int .i64 r)) w' :=
  ⟨rfl, fun _ _ => e, φ, ρ, h.ext e, Upd.of_ext e, fun _ _ h => h, fun _ _ h => h⟩
theorem FeedD.toP {w w' : World} {base g : Nat} {φ ρ : Nat → Prop} {s' : MSt} {r : Int} {e : Ending} (h : FeedD w base φ ρ g s' r e w') : FeedP w base φ g s' r e w' := by
  obtain ⟨h1, h2, φ', ρ', h3, h4, h5, _⟩ := h
  exact ⟨h1, h2, φ', h3.toR, h4, h5⟩
theorem cverB_right {L : List UInt8} {x : Int} {R : List UInt8} {i : Int} {Ps Qs : List (List UInt8)} (h : cverB L x R i Ps Qs = true) : 0 ≤ x ∧ x ≤ 256 ∧ R.length = 32 ∧ (0 ≤ i ∧ i < 16) ∧ (Ps.length = 64 ∧ ∀ a ∈ Ps, a.length = 32) ∧ (Qs.length = 4 ∧ ∀ a ∈ Qs, a.length = 32) := by
  unfold cverB at h
  rw [Bool.and_eq_true] at h
  obtain ⟨h1, h2, h3⟩ := rightC_true h.1
  have hv := h.2
  unfold verB rightB hashB at hv
  simp only [Bool.and_eq_true, decide_eq_true_eq] at hv
  have mem : ∀ {Ls : List (List UInt8)} {n : Nat}, (Ls.length = n ∧ ∀ i, i < Ls.length → (lb Ls i).length = 32) → ∀ a ∈ Ls, a.length = 32 := by
    intro Ls n hl a ha
    obtain ⟨j, hj, e⟩ := List.getElem_of_mem ha
    have h4 := hl.2 j hj
    unfold lb at h4
    rw [List.getD_eq_getElem?_getD, List.getElem?_eq_getElem hj] at h4
    simp only [Option.getD_some] at h4
    rw [← e]
    exact h4
  exact ⟨h1, h2, h3, hv.1.1.1, ⟨hv.1.1.2.1, mem hv.1.1.2⟩, ⟨hv.1.2.1, mem hv.1.2⟩⟩
theorem feed_30 {s : MSt} {x : Int} {R : List UInt8} {i : Int} {Ps Qs its : List (List UInt8)} (h : cverB s.log x R i Ps Qs = false) : feedE s x R i Ps Qs its = 30 ∧ feedS s x R i Ps Qs its = s := by
  have e : feedE s x R i Ps Qs its = 30 := by unfold feedE; rw [if_pos h]
  refine ⟨e, ?_⟩
  unfold feedS
  rw [e, if_neg (by decide), if_neg (fun h => absurd h.1 (by decide))]
section
variable {s : MSt} {X : Nat} {R : List UInt8} {i : Int} {Ps Qs its : List (List UInt8)}
theorem feed_1 (h : cverB s.log X R i Ps Qs = true) (h1 : X ≤ s.its.length) (h2 : 0 < its.length) : feedE s X R i Ps Qs its = 1 ∧ feedS s X R i Ps Qs its = s := by
  have e : feedE s X R i Ps Qs its = 1 := by unfold feedE; rw [if_neg (by rw [h]; decide), if_pos ⟨by omega, h2⟩]
  refine ⟨e, ?_⟩
  unfold feedS
  rw [e, if_neg (by decide), if_neg (fun h => absurd h.1 (by decide))]
theorem feed_34 (h : cverB s.log X R i Ps Qs = true) (h1 : X ≤ s.its.length) (h2 : its.length = 0) (h3 : rootL ((s.its.map leafH).take X) ≠ R) : feedE s X R i Ps Qs its = 34 ∧ feedS s X R i Ps Qs its = { s with al := s.al ++ [(1, (X : Int))] } := by
  have e : feedE s X R i Ps Qs its = 34 := by unfold feedE; rw [if_neg (by rw [h]; decide), if_neg (by omega), if_pos ⟨by omega, h3⟩]
  refine ⟨e, ?_⟩
  unfold feedS
  rw [e, if_pos rfl]
theorem feed_0 (h : cverB s.log X R i Ps Qs = true) (h1 : X ≤ s.its.length) (h2 : its.length = 0) (h3 : rootL ((s.its.map leafH).take X) = R) : feedE s X R i Ps Qs its = 0 ∧ feedS s X R i Ps Qs its = s := by
  have e : feedE s X R i Ps Qs its = 0 := by unfold feedE; rw [if_neg (by rw [h]; decide), if_neg (by omega), if_neg (fun h => h.2 h3), if_pos (by omega)]
  refine ⟨e, ?_⟩
  unfold feedS
  rw [e, if_neg (by decide), if_neg (fun h => h.2 (by omega))]
theorem feed_31 (h : cverB s.log X R i Ps Qs = true) (h1 : ¬ X ≤ s.its.length) (h2 : ¬ ((its.length : Int) = (X : Int) - (s.its.length : Int)) ∨ rootL ((s.its ++ its).map leafH) ≠ R) : feedE s X R i Ps Qs its = 31 ∧ feedS s X R i Ps Qs its = s := by
  have e : feedE s X R i Ps Qs its = 31 := by
    unfold feedE
    rw [if_neg (by rw [h]; decide), if_neg (by omega), if_neg (by omega), if_neg (by omega)]
    by_cases h3 : (its.length : Int) = (X : Int) - (s.its.length : Int)
    · rw [if_neg (fun h => h h3), if_pos (h2.resolve_left (fun h => h h3))]
    · rw [if_pos h3]
  refine ⟨e, ?_⟩
  unfold feedS
  rw [e, if_neg (by decide), if_neg (fun h => absurd h.1 (by decide))]
theorem feed_ok (h : cverB s.log X R i Ps Qs = true) (h1 : ¬ X ≤ s.its.length) (h2 : (its.length : Int) = (X : Int) - (s.its.length : Int)) (h3 : rootL ((s.its ++ its).map leafH) = R) : feedE s X R i Ps Qs its = 0 ∧ feedS s X R i Ps Qs its = { s with its := s.its ++ its, lx := X, lr := R, li := i, lp := Ps, lq := Qs, has := true } := by
  have e : feedE s X R i Ps Qs its = 0 := by
    unfold feedE
    rw [if_neg (by rw [h]; decide), if_neg (by omega), if_neg (by omega), if_neg (by omega), if_neg (fun h => h h2), if_neg (fun h => h h3)]
  refine ⟨e, ?_⟩
  unfold feedS
  rw [e, if_neg (by decide), if_pos ⟨rfl, by omega⟩]
end
def phi1 (A : Option Addr) (k : Nat) : Prop := blk A = some k
def ZRow (P : Value → Prop) (tE : TypeId) (sz sz0 base : Nat) (A : Option Addr) (n : Nat) (xs : List Value) (v : Value) (w : World) : Prop :=
  ∃ A' c', v = .slice A' n c' ∧ OwP P tE sz w base A' n c' xs ∧ (blk A' = blk A ∨ ∀ k, blk A' = some k → sz0 ≤ k)
theorem ZRow.ext {P : Value → Prop} {tE : TypeId} {sz sz0 base : Nat} {A : Option Addr} {n : Nat} {xs : List Value} (v : Value) (w w' : World) (e : Ext w w') (h : ZRow P tE sz sz0 base A n xs v w) : ZRow P tE sz sz0 base A n xs v w' := by
  obtain ⟨A', c', h1, h2, h3⟩ := h
  exact ⟨A', c', h1, h2.ext e, h3⟩
theorem alC_snoc (al : List (Int × Int)) (a b : Int) : alC (al ++ [(a, b)]) = alC al ++ [.int .i64 a, .int .i64 b] := by
  unfold alC
  rw [List.flatMap_append]
  simp
theorem two_one {a b : Int} : ∀ u ∈ ([.int .i64 a, .int .i64 b] : List Value), u.oneCell' = true := by
  intro u hu
  simp at hu
  rcases hu with rfl | rfl <;> rfl
theorem two_I {a b : Int} : ∀ u ∈ ([.int .i64 a, .int .i64 b] : List Value), isI1 u := by
  intro u hu
  simp at hu
  rcases hu with rfl | rfl <;> exact ⟨_, rfl⟩
theorem RBB.blk_lt {w : World} {A : Option Addr} {n c : Nat} {Ls : List (List UInt8)} (h : RBB w A n c Ls) (hn : 0 < n) {k : Nat} (hk : blk A = some k) : k < w.heap.size := by
  obtain ⟨ad, rfl, hc⟩ := h.cells hn
  obtain ⟨B, m, d, h1, _⟩ := hc 0 hn
  have h2 := World.block_lt_of_cell? w _ h1
  rw [block_of_add] at h2
  have h3 : ad.block = k := Option.some.inj hk
  omega
/-- what stays of a monitor's parts when its own blocks are turned -/
theorem mon_rest {w w' : World} {base g : Nat} {s : MSt} {G I V Al R P Q I' Al' : Option Addr} {cg ci cv ca nr cr np cp nq cq : Nat} {vs : List Value} (h : MonA w base g s G I V Al R P Q cg ci cv ca nr cr np cp nq cq vs) (u : Upd (phiM I Al g) w w') (hm : ∀ k, k < w.heap.size → phiM I' Al' g k → phiM I Al g k) :
    (∀ j, j < s.its.length → ∃ B m d, vs[j]? = some (.slice B m d) ∧ RB w' B m d (lb s.its j)) ∧ RB w' G 32 cg s.log ∧ (RBB w' V s.its.length cv (s.its.map leafH) ∧ (0 < s.its.length → ∀ k, blk V = some k → ¬ phiM I' Al' g k)) ∧ RB w' R nr cr s.lr ∧ (RBB w' P np cp s.lp ∧ (0 < np → ∀ k, blk P = some k → ¬ phiM I' Al' g k)) ∧ (RBB w' Q nq cq s.lq ∧ (0 < nq → ∀ k, blk Q = some k → ¬ phiM I' Al' g k)) := by
  have hs := h.nob
  refine ⟨fun j hj => ?_, (h.rG.keepS hs).at_ u, ⟨(h.rV.keepS hs h.nV).at_ u, fun hn k hk hp => h.nV hn k hk (hm k (h.rV.blk_lt hn hk) hp)⟩, (h.rR.keepS hs).at_ u, ⟨(h.rP.keepS hs h.nP).at_ u, fun hn k hk hp => h.nP hn k hk (hm k (h.rP.blk_lt hn hk) hp)⟩, ⟨(h.rQ.keepS hs h.nQ).at_ u, fun hn k hk hp => h.nQ hn k hk (hm k (h.rQ.blk_lt hn hk) hp)⟩⟩
  obtain ⟨B, m, d, h1, h2⟩ := h.el j hj
  exact ⟨B, m, d, h1, (h2.keepS hs).at_ u⟩
theorem row_kept_p {P P2 : Value → Prop} {tE tF : TypeId} {sz sz2 base b2 n c n2 c2 : Nat} {w w' : World} {A B : Option Addr} {xs ys : List Value} (h : OwP P tE sz w base A n c xs) (h2 : OwP P2 tF sz2 w b2 B n2 c2 ys) (ht : tF ≠ tE) (u : Upd (phi1 B) w w') : OwP P tE sz w' base A n c xs :=
  h.upd u (fun k hk hp => by
    obtain ⟨cs, h1, _⟩ := h2.blk_ hp
    exact h.ne_blk h1 ht hk)
@[go_sem] theorem eql_nil_rows (w : World) (A : Option Addr) (n c : Nat) : (binOp .eql 33 (.slice A n c) (.slice none 0 0)).run Tryz.prog w = .ok (.bool A.isNone) w :=
  Lib.run_eql_slice_nil w 33 26 A n c 0 0 Tryz.underlying33
theorem bbclone_any (A : Option Addr) (n c : Nat) (Ls : List (List UInt8)) (w : World) (hr : RBB w A n c Ls) (hn : n ≤ 1000000) :
    Calls Tryz.prog 42 #[.slice A n c] w fun e w' => ∃ P d, e = .returned (.slice P n d) ∧ OBC w' w.heap.size P n d Ls ∧ Ext w w' := by
  go_enter Tryz.func42, Tryz.ntmps42
  rcases A with _ | A
  · go_wp2_with fail
    go_ret
    have h0 : n = 0 := by
      rcases Nat.eq_zero_or_pos n with h | h
      · exact h
      · obtain ⟨ad, h1, _⟩ := hr.cells h
        cases h1
    subst h0
    obtain rfl : Ls = [] := List.eq_nil_of_length_eq_zero hr.len
    exact ⟨none, 0, rfl, OBC.none_ _ _, Ext.refl _⟩
  · have own0 := OBC.lit0 w
    have hEl := Ext.new w (.cells #[] 26)
    go_wp2_with (refine apprb_law (w0 := w) (base := w.heap.size) rfl rfl rfl rfl own0 hr hEl (Nat.le_refl _) hEl.size (by omega) ?_; intro A7 c7 w2 own2 g2 b2)
    go_ret
    rw [Nat.zero_add, List.nil_append] at own2
    exact ⟨A7, c7, rfl, own2, hEl.then_grown g2 (by intro x hx; cases hx; exact Nat.le_refl _)⟩
def LvM (w : World) (N : Nat) (A0 its : List (List UInt8)) (v i : Value) (wr : World) : Prop :=
  ∃ (p d : Nat) (P : Option Addr), p ≤ its.length ∧ i = .int .i64 p ∧ v = .slice P (N + p) d ∧ OBC wr w.heap.size P (N + p) d (A0 ++ (its.take p).map leafH) ∧ Ext w wr
def monC2 (G I V Al R P Q : Option Addr) (cg n1 ci n cv na ca nr cr np cp nq cq : Nat) (lx li : Int) (has : Bool) : Array Value :=
  #[.slice G 32 cg, .slice I n1 ci, .slice V n cv, .slice Al na ca, .int .i64 lx, .slice R nr cr, .int .i64 li, .slice P np cp, .slice Q nq cq, .bool has]
def phi2 (I : Option Addr) (g : Nat) (k : Nat) : Prop := k = g ∨ blk I = some k
def FdI (w0 : World) (base g : Nat) (I : Option Addr) (cs : Option Addr → Nat → Nat → Array Value) (its ITS : List (List UInt8)) (i : Value) (wr : World) : Prop :=
  ∃ (p : Nat) (I1 : Option Addr) (c1 : Nat) (vs : List Value), p ≤ ITS.length ∧ i = .int .i64 p ∧ Upd (phi2 I g) w0 wr ∧ (blk I1 = blk I ∨ ∀ k, blk I1 = some k → w0.heap.size ≤ k) ∧ Blk wr g 42 (cs I1 (its.length + p) c1) ∧ OwP isSl1 26 1 wr base I1 (its.length + p) c1 vs ∧ ∀ j, j < its.length + p → ∃ B m d, vs[j]? = some (.slice B m d) ∧ RB wr B m d (lb (its ++ ITS) j)
def ZItem (sz0 base : Nat) (I1 : Option Addr) (n : Nat) (vs : List Value) (z : Nat) (L : List UInt8) (v : Value) (w : World) : Prop :=
  ∃ A' c', v = .slice A' n c' ∧ (∃ B d, OwP isSl1 26 1 w base A' n c' (vs ++ [.slice B z d]) ∧ RB w B z d L) ∧ (blk A' = blk I1 ∨ ∀ k, blk A' = some k → sz0 ≤ k)
theorem ZItem.ext {sz0 base : Nat} {I1 : Option Addr} {n : Nat} {vs : List Value} {z : Nat} {L : List UInt8} (v : Value) (w w' : World) (e : Ext w w') (h : ZItem sz0 base I1 n vs z L v w) : ZItem sz0 base I1 n vs z L v w' := by
  obtain ⟨A', c', h1, ⟨B, d, h2, h3⟩, h4⟩ := h
  exact ⟨A', c', h1, ⟨B, d, h2.ext e, h3.ext e⟩, h4⟩
theorem OwP.nob {w : World} {base n c : Nat} {A : Option Addr} {xs : List Value} (h : OwP isSl1 26 1 w base A n c xs) : NoB (phi1 A) w := fun k hk => by
  obtain ⟨cs, h1, h2⟩ := h.blk_ hk
  refine ⟨_, cs, h1, fun i x e => ?_⟩
  obtain ⟨A, n, c, h3⟩ := h2 _ (List.mem_of_getElem? (by rw [Array.getElem?_toList]; exact e))
  cases h3
theorem mon_no2 (G I V Al R P Q : Option Addr) (cg n1 n ci cv na ca nr cr np cp nq cq : Nat) (lx li : Int) (has : Bool) (i : Nat) (z : Int) : (monC2 G I V Al R P Q cg n1 ci n cv na ca nr cr np cp nq cq lx li has)[i]? ≠ some (.int .u8 z) := by
  unfold monC2
  rcases i with _ | _ | _ | _ | _ | _ | _ | _ | _ | _ | i <;> simp
theorem Keep.sub {φ ψ : Nat → Prop} {X : World → Prop} {w : World} (h : Keep φ X w) (hs : ∀ k, ψ k → φ k) : Keep ψ X w := fun w' u => h w' (u.mono (fun k _ => hs k))
theorem Upd.then_ {φ ψ : Nat → Prop} {a b c : World} (h : Upd φ a b) (k : Upd ψ b c) (hs : ∀ i, i < a.heap.size → ψ i → φ i) : Upd φ a c :=
  ⟨k.os.trans h.os, k.tape.trans h.tape, k.output.trans h.output, Nat.le_trans h.size k.size, fun i hi hn => (k.block i (Nat.lt_of_lt_of_le hi h.size) (fun p => hn (hs i hi p))).trans (h.block i hi hn)⟩
theorem one_sl {B : Option Addr} {z d : Nat} : ∀ u ∈ ([.slice B z d] : List Value), isSl1 u := by
  intro u hu
  simp at hu
  subst hu
  exact ⟨_, _, _, rfl⟩
theorem one_c {B : Option Addr} {z d : Nat} : ∀ u ∈ ([.slice B z d] : List Value), u.oneCell' = true := by
  intro u hu
  simp at hu
  subst hu
  rfl
set_option maxHeartbeats 64000000 in
theorem feed_anyd (w : World) (base g : Nat) (φ ρ : Nat → Prop) (s : MSt) (hM : MonD w base φ ρ g s) (x i : Int) (B P Q A : Option Addr) (nb d np cp nq cq n c : Nat) (R : List UInt8) (Ps Qs ITS : List (List UInt8))
    (kR : Keep φ (fun w => RB w B nb d R) w) (kP : Keep φ (fun w => RBB w P np cp Ps) w) (kQ : Keep φ (fun w => RBB w Q nq cq Qs) w) (kI : Keep φ (fun w => RBB w A n c ITS) w) (hits0 : ((ITS.length : Nat) : Int) = x - (s.its.length : Nat) → ∀ a ∈ ITS, a.length ≤ 1000000) (hal : s.al.length ≤ 100000) :
    Calls Tryz.prog 18 #[.pointer (some ⟨g, 0, none⟩), .agg #[.int .i64 x, .slice B nb d, .int .i64 i, .slice P np cp, .slice Q nq cq], .slice A n c] w fun e w' => FeedD w base φ ρ g (feedS s x R i Ps Qs ITS) (feedE s x R i Ps Qs ITS) e w' := by
  have hIl := kI.self.len
  obtain ⟨G, I, V, Al, R0, P0, Q0, cg, ci, cv, ca, nr, cr, np0, cp0, nq0, cq0, vs, rfl, rfl, hA⟩ := hM
  have hM : MonD w base (phiM I Al g) (dltM V P0 Q0 s.its.length np0 nq0) g s := ⟨G, I, V, Al, R0, P0, Q0, cg, ci, cv, ca, nr, cr, np0, cp0, nq0, cq0, vs, rfl, rfl, hA⟩
  have hE1 := Ext.new w (.cells #[.int .i64 x, .slice B nb d, .int .i64 i, .slice P np cp, .slice Q nq cq] 40)
  have hB4 := Blk.new w 40 #[.int .i64 x, .slice B nb d, .int .i64 i, .slice P np cp, .slice Q nq cq]
  have hE2 := Ext.new (w.alloc (.cells #[.int .i64 x, .slice B nb d, .int .i64 i, .slice P np cp, .slice Q nq cq] 40)) (.cells #[.int .i64 x, .slice B nb d] 36)
  have hB7 := Blk.new (w.alloc (.cells #[.int .i64 x, .slice B nb d, .int .i64 i, .slice P np cp, .slice Q nq cq] 40)) 36 #[.int .i64 x, .slice B nb d]
  rw [World.size_alloc] at hB7
  have y0 := hB4.cell (i := 0) (v := .int .i64 x) rfl
  have y1 := hB4.cell (i := 1) (v := .slice B nb d) rfl
  replace hB4 := hB4.ext hE2
  have hEa := hE1.trans hE2
  go_enter Tryz.func18, Tryz.ntmps18
  go_upto_region 2 with (fail)
  clear hE1 hE2 y0 y1
  generalize (w.alloc (.cells #[.int .i64 x, .slice B nb d, .int .i64 i, .slice P np cp, .slice Q nq cq] 40)).alloc (.cells #[.int .i64 x, .slice B nb d] 36) = w1 at *
  have hg7 : w.heap.size ≤ w.heap.size + 1 := by omega
  generalize w.heap.size + 1 = g7 at *
  obtain ⟨g4, hg⟩ : ∃ g4, g4 = w.heap.size := ⟨_, rfl⟩
  rw [← hg] at hB4 ⊢
  have hg4 : w.heap.size ≤ g4 := by omega
  clear hg
  have M1 := hA.ext hEa
  have hBg := M1.blk
  have rG := M1.rG
  have rV := M1.rV
  have rR := (kR.ext hEa).self
  have rP := (kP.ext hEa).self
  have rQ := (kQ.ext hEa).self
  have rI := (kI.ext hEa).self
  have hrv := rV.room
  have hcv0 := rV.cap
  unfold maxLen at hcv0
  cases hcv : cverB s.log x R i Ps Qs with
  | false =>
    have Hr := Lib.hid (feed_30 (its := ITS) hcv)
    refine par_ext (n := 7) (by kernel_rfl) [.is (.pointer (some ⟨g, 0, none⟩)), .is (.pointer (some ⟨g, 0, none⟩)), .is (.pointer (some ⟨g, 0, none⟩)), .is (.slice (G) (32) (cg)), .is (.agg #[.int .i64 (x), .slice (B) (nb) (d), .int .i64 (i), .slice (P) (np) (cp), .slice (Q) (nq) (cq)]), .is (.bool (false)), .is (.bool (true))] rfl ⟨?_, ?_, ?_, ?_, ?_, ?_, ?_, trivial⟩ ?_
    · refine stepE rfl fun sdn sa sw sE sd sk => ?_
      have h0 : sa.eval (.tmp 0) = .pointer (some ⟨g, 0, none⟩) := sk.old 0 rfl
      exact Runs.move rfl h0 ⟨Ext.refl _, rfl⟩
    · refine stepE rfl fun sdn sa sw sE sd sk => ?_
      have h16 : sa.eval (.tmp 16) = .pointer (some ⟨g, 0, none⟩) := sk.fact 0 16 rfl (sd 0 rfl)
      exact Runs.nil_ rfl h16 ⟨Ext.refl _, rfl⟩
    · refine stepE rfl fun sdn sa sw sE sd sk => ?_
      have h17 : sa.eval (.tmp 17) = .pointer (some ⟨g, 0, none⟩) := sk.fact 1 17 rfl (sd 1 rfl)
      refine Runs.of_run (r := .pointer (some ⟨g, 0, none⟩)) (w' := sw) ?_ ⟨Ext.refl _, rfl⟩
      unfold execOp
      simp only [h17]
      go_simp
    · refine stepE rfl fun sdn sa sw sE sd sk => ?_
      have h18 : sa.eval (.tmp 18) = .pointer (some ⟨g, 0, none⟩) := sk.fact 2 18 rfl (sd 2 rfl)
      exact Runs.load rfl h18 (run_load1 Tryz.underlying26 rfl ((hBg.ext sE).cell (i := 0) rfl)) ⟨Ext.refl _, rfl⟩
    · refine stepE rfl fun sdn sa sw sE sd sk => ?_
      have h4 : sa.eval (.tmp 4) = .pointer (some ⟨g4, 0, none⟩) := sk.old 4 rfl
      exact Runs.load rfl h4 (load_part (hB4.ext sE) 0 (vs := [.int .i64 (x), .slice (B) (nb) (d), .int .i64 (i), .slice (P) (np) (cp), .slice (Q) (nq) (cq)]) rfl Tryz.underlying40 rfl (by kernel_rfl)) ⟨Ext.refl _, rfl⟩
    · refine stepE rfl fun sdn sa sw sE sd sk => ?_
      have h19 : sa.eval (.tmp 19) = .slice (G) (32) (cg) := sk.fact 3 19 rfl (sd 3 rfl)
      have h20 : sa.eval (.tmp 20) = .agg #[.int .i64 (x), .slice (B) (nb) (d), .int .i64 (i), .slice (P) (np) (cp), .slice (Q) (nq) (cq)] := sk.fact 4 20 rfl (sd 4 rfl)
      refine Runs.call (f := 39) (vs := [.slice (G) (32) (cg), .agg #[.int .i64 (x), .slice (B) (nb) (d), .int .i64 (i), .slice (P) (np) (cp), .slice (Q) (nq) (cq)]]) rfl rfl rfl (by simp only [List.map_toArray, List.map_cons, List.map_nil, h19, h20] <;> rfl) (ent39 _ _) ((cverify_any _ _ _ _ _ _ _ _ _ _ _ _ _ _ _ _ _ _ sw (rG.ext sE) (rR.ext sE) (rP.ext sE) (rQ.ext sE)).mono ?_); rintro e w' ⟨rfl, hx⟩; exact ⟨_, rfl, hx, congrArg Value.bool (hcv)⟩
    · refine stepE rfl fun sdn sa sw sE sd sk => ?_
      have h21 : sa.eval (.tmp 21) = .bool (false) := sk.fact 5 21 rfl (sd 5 rfl)
      exact Runs.un rfl h21 (by rfl) ⟨Ext.refl _, rfl⟩
    intro vals W2 hE2 hv2
    have e0 : vals 0 = .pointer (some ⟨g, 0, none⟩) := hv2 0 (by omega) 16 rfl
    have e1 : vals 1 = .pointer (some ⟨g, 0, none⟩) := hv2 1 (by omega) 17 rfl
    have e2 : vals 2 = .pointer (some ⟨g, 0, none⟩) := hv2 2 (by omega) 18 rfl
    have e3 : vals 3 = .slice (G) (32) (cg) := hv2 3 (by omega) 19 rfl
    have e4 : vals 4 = .agg #[.int .i64 (x), .slice (B) (nb) (d), .int .i64 (i), .slice (P) (np) (cp), .slice (Q) (nq) (cq)] := hv2 4 (by omega) 20 rfl
    have e5 : vals 5 = .bool (false) := hv2 5 (by omega) 21 rfl
    have e6 : vals 6 = .bool (true) := hv2 6 (by omega) 22 rfl
    simp only [putAll, Act.put, List.take_succ_cons, List.take_zero, List.drop_succ_cons, List.drop_zero, List.drop_nil, List.take_nil, Nat.reduceAdd, List.setIfInBounds_toArray, List.set_cons_succ, List.set_cons_zero, e0, e1, e2, e3, e4, e5, e6]
    clear hv2 e0 e1 e2 e3 e4 e5 e6
    go_wp2_with fail
    go_ret
    rw [Hr.out.1, Hr.out.2]
    exact FeedD.same hM (hEa.trans hE2)
  | true =>
    obtain ⟨hx0, hx1, hRl, _, hPs, hQs⟩ := cverB_right hcv
    refine par_ext (n := 7) (by kernel_rfl) [.is (.pointer (some ⟨g, 0, none⟩)), .is (.pointer (some ⟨g, 0, none⟩)), .is (.pointer (some ⟨g, 0, none⟩)), .is (.slice (G) (32) (cg)), .is (.agg #[.int .i64 (x), .slice (B) (nb) (d), .int .i64 (i), .slice (P) (np) (cp), .slice (Q) (nq) (cq)]), .is (.bool (true)), .is (.bool (false))] rfl ⟨?_, ?_, ?_, ?_, ?_, ?_, ?_, trivial⟩ ?_
    · refine stepE rfl fun sdn sa sw sE sd sk => ?_
      have h0 : sa.eval (.tmp 0) = .pointer (some ⟨g, 0, none⟩) := sk.old 0 rfl
      exact Runs.move rfl h0 ⟨Ext.refl _, rfl⟩
    · refine stepE rfl fun sdn sa sw sE sd sk => ?_
      have h16 : sa.eval (.tmp 16) = .pointer (some ⟨g, 0, none⟩) := sk.fact 0 16 rfl (sd 0 rfl)
      exact Runs.nil_ rfl h16 ⟨Ext.refl _, rfl⟩
    · refine stepE rfl fun sdn sa sw sE sd sk => ?_
      have h17 : sa.eval (.tmp 17) = .pointer (some ⟨g, 0, none⟩) := sk.fact 1 17 rfl (sd 1 rfl)
      refine Runs.of_run (r := .pointer (some ⟨g, 0, none⟩)) (w' := sw) ?_ ⟨Ext.refl _, rfl⟩
      unfold execOp
      simp only [h17]
      go_simp
    · refine stepE rfl fun sdn sa sw sE sd sk => ?_
      have h18 : sa.eval (.tmp 18) = .pointer (some ⟨g, 0, none⟩) := sk.fact 2 18 rfl (sd 2 rfl)
      exact Runs.load rfl h18 (run_load1 Tryz.underlying26 rfl ((hBg.ext sE).cell (i := 0) rfl)) ⟨Ext.refl _, rfl⟩
    · refine stepE rfl fun sdn sa sw sE sd sk => ?_
      have h4 : sa.eval (.tmp 4) = .pointer (some ⟨g4, 0, none⟩) := sk.old 4 rfl
      exact Runs.load rfl h4 (load_part (hB4.ext sE) 0 (vs := [.int .i64 (x), .slice (B) (nb) (d), .int .i64 (i), .slice (P) (np) (cp), .slice (Q) (nq) (cq)]) rfl Tryz.underlying40 rfl (by kernel_rfl)) ⟨Ext.refl _, rfl⟩
    · refine stepE rfl fun sdn sa sw sE sd sk => ?_
      have h19 : sa.eval (.tmp 19) = .slice (G) (32) (cg) := sk.fact 3 19 rfl (sd 3 rfl)
      have h20 : sa.eval (.tmp 20) = .agg #[.int .i64 (x), .slice (B) (nb) (d), .int .i64 (i), .slice (P) (np) (cp), .slice (Q) (nq) (cq)] := sk.fact 4 20 rfl (sd 4 rfl)
      refine Runs.call (f := 39) (vs := [.slice (G) (32) (cg), .agg #[.int .i64 (x), .slice (B) (nb) (d), .int .i64 (i), .slice (P) (np) (cp), .slice (Q) (nq) (cq)]]) rfl rfl rfl (by simp only [List.map_toArray, List.map_cons, List.map_nil, h19, h20] <;> rfl) (ent39 _ _) ((cverify_any _ _ _ _ _ _ _ _ _ _ _ _ _ _ _ _ _ _ sw (rG.ext sE) (rR.ext sE) (rP.ext sE) (rQ.ext sE)).mono ?_); rintro e w' ⟨rfl, hx⟩; exact ⟨_, rfl, hx, congrArg Value.bool (hcv)⟩
    · refine stepE rfl fun sdn sa sw sE sd sk => ?_
      have h21 : sa.eval (.tmp 21) = .bool (true) := sk.fact 5 21 rfl (sd 5 rfl)
      exact Runs.un rfl h21 (by rfl) ⟨Ext.refl _, rfl⟩
    intro vals W2 hE2 hv2
    have e0 : vals 0 = .pointer (some ⟨g, 0, none⟩) := hv2 0 (by omega) 16 rfl
    have e1 : vals 1 = .pointer (some ⟨g, 0, none⟩) := hv2 1 (by omega) 17 rfl
    have e2 : vals 2 = .pointer (some ⟨g, 0, none⟩) := hv2 2 (by omega) 18 rfl
    have e3 : vals 3 = .slice (G) (32) (cg) := hv2 3 (by omega) 19 rfl
    have e4 : vals 4 = .agg #[.int .i64 (x), .slice (B) (nb) (d), .int .i64 (i), .slice (P) (np) (cp), .slice (Q) (nq) (cq)] := hv2 4 (by omega) 20 rfl
    have e5 : vals 5 = .bool (true) := hv2 5 (by omega) 21 rfl
    have e6 : vals 6 = .bool (false) := hv2 6 (by omega) 22 rfl
    simp only [putAll, Act.put, List.take_succ_cons, List.take_zero, List.drop_succ_cons, List.drop_zero, List.drop_nil, List.take_nil, Nat.reduceAdd, List.setIfInBounds_toArray, List.set_cons_succ, List.set_cons_zero, e0, e1, e2, e3, e4, e5, e6]
    clear hv2 e0 e1 e2 e3 e4 e5 e6
    have Hcv := Lib.hid hcv
    clear hcv
    replace hBg := hBg.ext hE2
    replace rG := rG.ext hE2
    replace rV := rV.ext hE2
    replace rR := rR.ext hE2
    replace rP := rP.ext hE2
    replace rQ := rQ.ext hE2
    replace rI := rI.ext hE2
    replace hB4 := hB4.ext hE2
    replace hB7 := hB7.ext hE2
    replace hEa := hEa.trans hE2
    clear hE2
    obtain ⟨X, rfl⟩ : ∃ X : Nat, x = (X : Int) := ⟨x.toNat, by omega⟩
    go_upto_region 4 with (fail)
    by_cases c1 : X ≤ s.its.length
    · have e1 : decide (((X : Nat) : Int) ≤ ((s.its.length : Nat) : Int)) = true := decide_eq_true (by omega)
      by_cases c2 : 0 < n
      · have e2 : decide ((0 : Int) < ((n : Nat) : Int)) = true := decide_eq_true (by omega)
        have Hr := Lib.hid (feed_1 (its := ITS) Hcv.out c1 (by omega))
        refine par_ext (n := 13) (by kernel_rfl) [.is (.pointer (some ⟨g7, 0, none⟩)), .is (.int .i64 (((X : Nat) : Int))), .is (.pointer (some ⟨g, 0, none⟩)), .is (.pointer (some ⟨g, 0, none⟩)), .is (.pointer (some ⟨g, 1, none⟩)), .is (.slice (I) (s.its.length) (ci)), .is (.int .i64 ((s.its.length : Nat))), .is (.bool (true)), .is (.bool (true)), .is (.slice (A) (n) (c)), .is (.int .i64 ((n : Nat))), .is (.bool (true)), .is (.bool (true))] rfl ⟨?_, ?_, ?_, ?_, ?_, ?_, ?_, ?_, ?_, ?_, ?_, ?_, ?_, trivial⟩ ?_
        · refine stepE rfl fun sdn sa sw sE sd sk => ?_
          have h7 : sa.eval (.tmp 7) = .pointer (some ⟨g7, 0, none⟩) := sk.old 7 rfl
          refine Runs.of_run (r := .pointer (some ⟨g7, 0, none⟩)) (w' := sw) ?_ ⟨Ext.refl _, rfl⟩
          unfold execOp
          simp only [h7]
          go_simp
        · refine stepE rfl fun sdn sa sw sE sd sk => ?_
          have h24 : sa.eval (.tmp 24) = .pointer (some ⟨g7, 0, none⟩) := sk.fact 0 24 rfl (sd 0 rfl)
          exact Runs.load rfl h24 (run_load1 Tryz.underlying3 rfl ((hB7.ext sE).cell (i := 0) rfl)) ⟨Ext.refl _, rfl⟩
        · refine stepE rfl fun sdn sa sw sE sd sk => ?_
          have h0 : sa.eval (.tmp 0) = .pointer (some ⟨g, 0, none⟩) := sk.old 0 rfl
          exact Runs.move rfl h0 ⟨Ext.refl _, rfl⟩
        · refine stepE rfl fun sdn sa sw sE sd sk => ?_
          have h26 : sa.eval (.tmp 26) = .pointer (some ⟨g, 0, none⟩) := sk.fact 2 26 rfl (sd 2 rfl)
          exact Runs.nil_ rfl h26 ⟨Ext.refl _, rfl⟩
        · refine stepE rfl fun sdn sa sw sE sd sk => ?_
          have h27 : sa.eval (.tmp 27) = .pointer (some ⟨g, 0, none⟩) := sk.fact 3 27 rfl (sd 3 rfl)
          refine Runs.of_run (r := .pointer (some ⟨g, 1, none⟩)) (w' := sw) ?_ ⟨Ext.refl _, rfl⟩
          unfold execOp
          simp only [h27]
          go_simp
        · refine stepE rfl fun sdn sa sw sE sd sk => ?_
          have h28 : sa.eval (.tmp 28) = .pointer (some ⟨g, 1, none⟩) := sk.fact 4 28 rfl (sd 4 rfl)
          exact Runs.load rfl h28 (run_load1 Tryz.underlying33 rfl ((hBg.ext sE).cell (i := 1) rfl)) ⟨Ext.refl _, rfl⟩
        · refine stepE rfl fun sdn sa sw sE sd sk => ?_
          have h29 : sa.eval (.tmp 29) = .slice (I) (s.its.length) (ci) := sk.fact 5 29 rfl (sd 5 rfl)
          exact Runs.len Tryz.underlying33 rfl h29 ⟨Ext.refl _, rfl⟩
        · refine stepE rfl fun sdn sa sw sE sd sk => ?_
          have h25 : sa.eval (.tmp 25) = .int .i64 (((X : Nat) : Int)) := sk.fact 1 25 rfl (sd 1 rfl)
          have h30 : sa.eval (.tmp 30) = .int .i64 ((s.its.length : Nat)) := sk.fact 6 30 rfl (sd 6 rfl)
          exact Runs.bin rfl h25 h30 (by rfl) (bin_leq _ _ _ _) ⟨Ext.refl _, congrArg Value.bool (e1)⟩
        · refine stepE rfl fun sdn sa sw sE sd sk => ?_
          have h31 : sa.eval (.tmp 31) = .bool (true) := sk.fact 7 31 rfl (sd 7 rfl)
          exact Runs.move rfl h31 ⟨Ext.refl _, rfl⟩
        · refine stepY (j := 8) (d := 32) (b := true) rfl rfl rfl (fun v w h => h) fun sdn sa sw sE sd sk => ?_
          have h2 : sa.eval (.tmp 2) = .slice (A) (n) (c) := sk.old 2 rfl
          exact Runs.move rfl h2 ⟨Ext.refl _, rfl⟩
        · refine stepY (j := 8) (d := 32) (b := true) rfl rfl rfl (fun v w h => h) fun sdn sa sw sE sd sk => ?_
          have h33 : sa.eval (.tmp 33) = .slice (A) (n) (c) := sk.fact 9 33 rfl (sd 9 rfl)
          exact Runs.len Tryz.underlying33 rfl h33 ⟨Ext.refl _, rfl⟩
        · refine stepY (j := 8) (d := 32) (b := true) rfl rfl rfl (fun v w h => h) fun sdn sa sw sE sd sk => ?_
          have h34 : sa.eval (.tmp 34) = .int .i64 ((n : Nat)) := sk.fact 10 34 rfl (sd 10 rfl)
          exact Runs.bin rfl h34 rfl (by rfl) (bin_gtr _ _ _ _) ⟨Ext.refl _, congrArg Value.bool (e2)⟩
        · refine stepE rfl fun sdn sa sw sE sd sk => ?_
          have h32 : sa.eval (.tmp 32) = .bool (true) := sk.fact 8 32 rfl (sd 8 rfl)
          have h35 : sa.eval (.tmp 35) = .bool (true) := sk.fact 11 35 rfl (sd 11 rfl)
          exact Runs.pick rfl h32 ⟨Ext.refl _, by first | exact h35 | simpa using h35⟩
        intro vals W4 hE4 hv4
        have e0 : vals 0 = .pointer (some ⟨g7, 0, none⟩) := hv4 0 (by omega) 24 rfl
        have e1 : vals 1 = .int .i64 (((X : Nat) : Int)) := hv4 1 (by omega) 25 rfl
        have e2 : vals 2 = .pointer (some ⟨g, 0, none⟩) := hv4 2 (by omega) 26 rfl
        have e3 : vals 3 = .pointer (some ⟨g, 0, none⟩) := hv4 3 (by omega) 27 rfl
        have e4 : vals 4 = .pointer (some ⟨g, 1, none⟩) := hv4 4 (by omega) 28 rfl
        have e5 : vals 5 = .slice (I) (s.its.length) (ci) := hv4 5 (by omega) 29 rfl
        have e6 : vals 6 = .int .i64 ((s.its.length : Nat)) := hv4 6 (by omega) 30 rfl
        have e7 : vals 7 = .bool (true) := hv4 7 (by omega) 31 rfl
        have e8 : vals 8 = .bool (true) := hv4 8 (by omega) 32 rfl
        have e9 : vals 9 = .slice (A) (n) (c) := hv4 9 (by omega) 33 rfl
        have e10 : vals 10 = .int .i64 ((n : Nat)) := hv4 10 (by omega) 34 rfl
        have e11 : vals 11 = .bool (true) := hv4 11 (by omega) 35 rfl
        have e12 : vals 12 = .bool (true) := hv4 12 (by omega) 36 rfl
        simp only [putAll, Act.put, List.take_succ_cons, List.take_zero, List.drop_succ_cons, List.drop_zero, List.drop_nil, List.take_nil, Nat.reduceAdd, List.setIfInBounds_toArray, List.set_cons_succ, List.set_cons_zero, e0, e1, e2, e3, e4, e5, e6, e7, e8, e9, e10, e11, e12]
        clear hv4 e0 e1 e2 e3 e4 e5 e6 e7 e8 e9 e10 e11 e12
        go_wp2_with fail
        go_ret
        rw [Hr.out.1, Hr.out.2]
        exact FeedD.same hM (hEa.trans hE4)
      · have e2 : decide ((0 : Int) < ((n : Nat) : Int)) = false := decide_eq_false (by omega)
        refine par_ext (n := 13) (by kernel_rfl) [.is (.pointer (some ⟨g7, 0, none⟩)), .is (.int .i64 (((X : Nat) : Int))), .is (.pointer (some ⟨g, 0, none⟩)), .is (.pointer (some ⟨g, 0, none⟩)), .is (.pointer (some ⟨g, 1, none⟩)), .is (.slice (I) (s.its.length) (ci)), .is (.int .i64 ((s.its.length : Nat))), .is (.bool (true)), .is (.bool (true)), .is (.slice (A) (n) (c)), .is (.int .i64 ((n : Nat))), .is (.bool (false)), .is (.bool (false))] rfl ⟨?_, ?_, ?_, ?_, ?_, ?_, ?_, ?_, ?_, ?_, ?_, ?_, ?_, trivial⟩ ?_
        · refine stepE rfl fun sdn sa sw sE sd sk => ?_
          have h7 : sa.eval (.tmp 7) = .pointer (some ⟨g7, 0, none⟩) := sk.old 7 rfl
          refine Runs.of_run (r := .pointer (some ⟨g7, 0, none⟩)) (w' := sw) ?_ ⟨Ext.refl _, rfl⟩
          unfold execOp
          simp only [h7]
          go_simp
        · refine stepE rfl fun sdn sa sw sE sd sk => ?_
          have h24 : sa.eval (.tmp 24) = .pointer (some ⟨g7, 0, none⟩) := sk.fact 0 24 rfl (sd 0 rfl)
          exact Runs.load rfl h24 (run_load1 Tryz.underlying3 rfl ((hB7.ext sE).cell (i := 0) rfl)) ⟨Ext.refl _, rfl⟩
        · refine stepE rfl fun sdn sa sw sE sd sk => ?_
          have h0 : sa.eval (.tmp 0) = .pointer (some ⟨g, 0, none⟩) := sk.old 0 rfl
          exact Runs.move rfl h0 ⟨Ext.refl _, rfl⟩
        · refine stepE rfl fun sdn sa sw sE sd sk => ?_
          have h26 : sa.eval (.tmp 26) = .pointer (some ⟨g, 0, none⟩) := sk.fact 2 26 rfl (sd 2 rfl)
          exact Runs.nil_ rfl h26 ⟨Ext.refl _, rfl⟩
        · refine stepE rfl fun sdn sa sw sE sd sk => ?_
          have h27 : sa.eval (.tmp 27) = .pointer (some ⟨g, 0, none⟩) := sk.fact 3 27 rfl (sd 3 rfl)
          refine Runs.of_run (r := .pointer (some ⟨g, 1, none⟩)) (w' := sw) ?_ ⟨Ext.refl _, rfl⟩
          unfold execOp
          simp only [h27]
          go_simp
        · refine stepE rfl fun sdn sa sw sE sd sk => ?_
          have h28 : sa.eval (.tmp 28) = .pointer (some ⟨g, 1, none⟩) := sk.fact 4 28 rfl (sd 4 rfl)
          exact Runs.load rfl h28 (run_load1 Tryz.underlying33 rfl ((hBg.ext sE).cell (i := 1) rfl)) ⟨Ext.refl _, rfl⟩
        · refine stepE rfl fun sdn sa sw sE sd sk => ?_
          have h29 : sa.eval (.tmp 29) = .slice (I) (s.its.length) (ci) := sk.fact 5 29 rfl (sd 5 rfl)
          exact Runs.len Tryz.underlying33 rfl h29 ⟨Ext.refl _, rfl⟩
        · refine stepE rfl fun sdn sa sw sE sd sk => ?_
          have h25 : sa.eval (.tmp 25) = .int .i64 (((X : Nat) : Int)) := sk.fact 1 25 rfl (sd 1 rfl)
          have h30 : sa.eval (.tmp 30) = .int .i64 ((s.its.length : Nat)) := sk.fact 6 30 rfl (sd 6 rfl)
          exact Runs.bin rfl h25 h30 (by rfl) (bin_leq _ _ _ _) ⟨Ext.refl _, congrArg Value.bool (e1)⟩
        · refine stepE rfl fun sdn sa sw sE sd sk => ?_
          have h31 : sa.eval (.tmp 31) = .bool (true) := sk.fact 7 31 rfl (sd 7 rfl)
          exact Runs.move rfl h31 ⟨Ext.refl _, rfl⟩
        · refine stepY (j := 8) (d := 32) (b := true) rfl rfl rfl (fun v w h => h) fun sdn sa sw sE sd sk => ?_
          have h2 : sa.eval (.tmp 2) = .slice (A) (n) (c) := sk.old 2 rfl
          exact Runs.move rfl h2 ⟨Ext.refl _, rfl⟩
        · refine stepY (j := 8) (d := 32) (b := true) rfl rfl rfl (fun v w h => h) fun sdn sa sw sE sd sk => ?_
          have h33 : sa.eval (.tmp 33) = .slice (A) (n) (c) := sk.fact 9 33 rfl (sd 9 rfl)
          exact Runs.len Tryz.underlying33 rfl h33 ⟨Ext.refl _, rfl⟩
        · refine stepY (j := 8) (d := 32) (b := true) rfl rfl rfl (fun v w h => h) fun sdn sa sw sE sd sk => ?_
          have h34 : sa.eval (.tmp 34) = .int .i64 ((n : Nat)) := sk.fact 10 34 rfl (sd 10 rfl)
          exact Runs.bin rfl h34 rfl (by rfl) (bin_gtr _ _ _ _) ⟨Ext.refl _, congrArg Value.bool (e2)⟩
        · refine stepE rfl fun sdn sa sw sE sd sk => ?_
          have h32 : sa.eval (.tmp 32) = .bool (true) := sk.fact 8 32 rfl (sd 8 rfl)
          have h35 : sa.eval (.tmp 35) = .bool (false) := sk.fact 11 35 rfl (sd 11 rfl)
          exact Runs.pick rfl h32 ⟨Ext.refl _, by first | exact h35 | simpa using h35⟩
        intro vals W4 hE4 hv4
        have e0 : vals 0 = .pointer (some ⟨g7, 0, none⟩) := hv4 0 (by omega) 24 rfl
        have e1 : vals 1 = .int .i64 (((X : Nat) : Int)) := hv4 1 (by omega) 25 rfl
        have e2 : vals 2 = .pointer (some ⟨g, 0, none⟩) := hv4 2 (by omega) 26 rfl
        have e3 : vals 3 = .pointer (some ⟨g, 0, none⟩) := hv4 3 (by omega) 27 rfl
        have e4 : vals 4 = .pointer (some ⟨g, 1, none⟩) := hv4 4 (by omega) 28 rfl
        have e5 : vals 5 = .slice (I) (s.its.length) (ci) := hv4 5 (by omega) 29 rfl
        have e6 : vals 6 = .int .i64 ((s.its.length : Nat)) := hv4 6 (by omega) 30 rfl
        have e7 : vals 7 = .bool (true) := hv4 7 (by omega) 31 rfl
        have e8 : vals 8 = .bool (true) := hv4 8 (by omega) 32 rfl
        have e9 : vals 9 = .slice (A) (n) (c) := hv4 9 (by omega) 33 rfl
        have e10 : vals 10 = .int .i64 ((n : Nat)) := hv4 10 (by omega) 34 rfl
        have e11 : vals 11 = .bool (false) := hv4 11 (by omega) 35 rfl
        have e12 : vals 12 = .bool (false) := hv4 12 (by omega) 36 rfl
        simp only [putAll, Act.put, List.take_succ_cons, List.take_zero, List.drop_succ_cons, List.drop_zero, List.drop_nil, List.take_nil, Nat.reduceAdd, List.setIfInBounds_toArray, List.set_cons_succ, List.set_cons_zero, e0, e1, e2, e3, e4, e5, e6, e7, e8, e9, e10, e11, e12]
        clear hv4 e0 e1 e2 e3 e4 e5 e6 e7 e8 e9 e10 e11 e12
        replace hBg := hBg.ext hE4
        replace rG := rG.ext hE4
        replace rV := rV.ext hE4
        replace rR := rR.ext hE4
        replace rP := rP.ext hE4
        replace rQ := rQ.ext hE4
        replace rI := rI.ext hE4
        replace hB4 := hB4.ext hE4
        replace hB7 := hB7.ext hE4
        replace hEa := hEa.trans hE4
        clear hE4
        have rVX := rV.fst (k := X) c1
        have l32X : ∀ a ∈ (s.its.map leafH).take X, a.length = 32 := fun a ha => leaf_len s.its a (List.mem_of_mem_take ha)
        go_upto_region 6 with (fail)
        by_cases c3 : rootL ((s.its.map leafH).take X) = R
        · have e3 : decide (rootL ((s.its.map leafH).take X) = R) = true := decide_eq_true c3
          have Hr := Lib.hid (feed_0 (its := ITS) Hcv.out c1 (by omega) c3)
          refine par_ext (n := 22) (by kernel_rfl) [.is (.pointer (some ⟨g7, 0, none⟩)), .is (.int .i64 (((X : Nat) : Int))), .is (.pointer (some ⟨g, 0, none⟩)), .is (.pointer (some ⟨g, 0, none⟩)), .is (.pointer (some ⟨g, 1, none⟩)), .is (.slice (I) (s.its.length) (ci)), .is (.int .i64 ((s.its.length : Nat))), .is (.bool (true)), .is (.bool (true)), .is (.pointer (some ⟨g, 0, none⟩)), .is (.pointer (some ⟨g, 0, none⟩)), .is (.pointer (some ⟨g, 2, none⟩)), .is (.slice (V) (s.its.length) (cv)), .is (.pointer (some ⟨g7, 0, none⟩)), .is (.int .i64 (((X : Nat) : Int))), .is (.slice (V) (X) (cv)), .rk (32) (rootL ((s.its.map leafH).take X)), .is (.pointer (some ⟨g7, 1, none⟩)), .is (.slice (B) (nb) (d)), .is (.bool (true)), .is (.bool (false)), .is (.bool (false))] rfl ⟨?_, ?_, ?_, ?_, ?_, ?_, ?_, ?_, ?_, ?_, ?_, ?_, ?_, ?_, ?_, ?_, ?_, ?_, ?_, ?_, ?_, ?_, trivial⟩ ?_
          · refine stepE rfl fun sdn sa sw sE sd sk => ?_
            have h7 : sa.eval (.tmp 7) = .pointer (some ⟨g7, 0, none⟩) := sk.old 7 rfl
            refine Runs.of_run (r := .pointer (some ⟨g7, 0, none⟩)) (w' := sw) ?_ ⟨Ext.refl _, rfl⟩
            unfold execOp
            simp only [h7]
            go_simp
          · refine stepE rfl fun sdn sa sw sE sd sk => ?_
            have h38 : sa.eval (.tmp 38) = .pointer (some ⟨g7, 0, none⟩) := sk.fact 0 38 rfl (sd 0 rfl)
            exact Runs.load rfl h38 (run_load1 Tryz.underlying3 rfl ((hB7.ext sE).cell (i := 0) rfl)) ⟨Ext.refl _, rfl⟩
          · refine stepE rfl fun sdn sa sw sE sd sk => ?_
            have h0 : sa.eval (.tmp 0) = .pointer (some ⟨g, 0, none⟩) := sk.old 0 rfl
            exact Runs.move rfl h0 ⟨Ext.refl _, rfl⟩
          · refine stepE rfl fun sdn sa sw sE sd sk => ?_
            have h40 : sa.eval (.tmp 40) = .pointer (some ⟨g, 0, none⟩) := sk.fact 2 40 rfl (sd 2 rfl)
            exact Runs.nil_ rfl h40 ⟨Ext.refl _, rfl⟩
          · refine stepE rfl fun sdn sa sw sE sd sk => ?_
            have h41 : sa.eval (.tmp 41) = .pointer (some ⟨g, 0, none⟩) := sk.fact 3 41 rfl (sd 3 rfl)
            refine Runs.of_run (r := .pointer (some ⟨g, 1, none⟩)) (w' := sw) ?_ ⟨Ext.refl _, rfl⟩
            unfold execOp
            simp only [h41]
            go_simp
          · refine stepE rfl fun sdn sa sw sE sd sk => ?_
            have h42 : sa.eval (.tmp 42) = .pointer (some ⟨g, 1, none⟩) := sk.fact 4 42 rfl (sd 4 rfl)
            exact Runs.load rfl h42 (run_load1 Tryz.underlying33 rfl ((hBg.ext sE).cell (i := 1) rfl)) ⟨Ext.refl _, rfl⟩
          · refine stepE rfl fun sdn sa sw sE sd sk => ?_
            have h43 : sa.eval (.tmp 43) = .slice (I) (s.its.length) (ci) := sk.fact 5 43 rfl (sd 5 rfl)
            exact Runs.len Tryz.underlying33 rfl h43 ⟨Ext.refl _, rfl⟩
          · refine stepE rfl fun sdn sa sw sE sd sk => ?_
            have h39 : sa.eval (.tmp 39) = .int .i64 (((X : Nat) : Int)) := sk.fact 1 39 rfl (sd 1 rfl)
            have h44 : sa.eval (.tmp 44) = .int .i64 ((s.its.length : Nat)) := sk.fact 6 44 rfl (sd 6 rfl)
            exact Runs.bin rfl h39 h44 (by rfl) (bin_leq _ _ _ _) ⟨Ext.refl _, congrArg Value.bool (e1)⟩
          · refine stepE rfl fun sdn sa sw sE sd sk => ?_
            have h45 : sa.eval (.tmp 45) = .bool (true) := sk.fact 7 45 rfl (sd 7 rfl)
            exact Runs.move rfl h45 ⟨Ext.refl _, rfl⟩
          · refine stepY (j := 8) (d := 46) (b := true) rfl rfl rfl (fun v w h => h) fun sdn sa sw sE sd sk => ?_
            have h0 : sa.eval (.tmp 0) = .pointer (some ⟨g, 0, none⟩) := sk.old 0 rfl
            exact Runs.move rfl h0 ⟨Ext.refl _, rfl⟩
          · refine stepY (j := 8) (d := 46) (b := true) rfl rfl rfl (fun v w h => h) fun sdn sa sw sE sd sk => ?_
            have h47 : sa.eval (.tmp 47) = .pointer (some ⟨g, 0, none⟩) := sk.fact 9 47 rfl (sd 9 rfl)
            exact Runs.nil_ rfl h47 ⟨Ext.refl _, rfl⟩
          · refine stepY (j := 8) (d := 46) (b := true) rfl rfl rfl (fun v w h => h) fun sdn sa sw sE sd sk => ?_
            have h48 : sa.eval (.tmp 48) = .pointer (some ⟨g, 0, none⟩) := sk.fact 10 48 rfl (sd 10 rfl)
            refine Runs.of_run (r := .pointer (some ⟨g, 2, none⟩)) (w' := sw) ?_ ⟨Ext.refl _, rfl⟩
            unfold execOp
            simp only [h48]
            go_simp
          · refine stepY (j := 8) (d := 46) (b := true) rfl rfl rfl (fun v w h => h) fun sdn sa sw sE sd sk => ?_
            have h49 : sa.eval (.tmp 49) = .pointer (some ⟨g, 2, none⟩) := sk.fact 11 49 rfl (sd 11 rfl)
            exact Runs.load rfl h49 (run_load1 Tryz.underlying33 rfl ((hBg.ext sE).cell (i := 2) rfl)) ⟨Ext.refl _, rfl⟩
          · refine stepY (j := 8) (d := 46) (b := true) rfl rfl rfl (fun v w h => h) fun sdn sa sw sE sd sk => ?_
            have h7 : sa.eval (.tmp 7) = .pointer (some ⟨g7, 0, none⟩) := sk.old 7 rfl
            refine Runs.of_run (r := .pointer (some ⟨g7, 0, none⟩)) (w' := sw) ?_ ⟨Ext.refl _, rfl⟩
            unfold execOp
            simp only [h7]
            go_simp
          · refine stepY (j := 8) (d := 46) (b := true) rfl rfl rfl (fun v w h => h) fun sdn sa sw sE sd sk => ?_
            have h51 : sa.eval (.tmp 51) = .pointer (some ⟨g7, 0, none⟩) := sk.fact 13 51 rfl (sd 13 rfl)
            exact Runs.load rfl h51 (run_load1 Tryz.underlying3 rfl ((hB7.ext sE).cell (i := 0) rfl)) ⟨Ext.refl _, rfl⟩
          · refine stepY (j := 8) (d := 46) (b := true) rfl rfl rfl (fun v w h => h) fun sdn sa sw sE sd sk => ?_
            have h50 : sa.eval (.tmp 50) = .slice (V) (s.its.length) (cv) := sk.fact 12 50 rfl (sd 12 rfl)
            have h52 : sa.eval (.tmp 52) = .int .i64 (((X : Nat) : Int)) := sk.fact 14 52 rfl (sd 14 rfl)
            exact Runs.slice rfl h50 (by simp only [Option.map_some, Option.map_none, h52]; exact run_cut_h Tryz.underlying33 infZZ_eq X (by first | rfl | omega) (by omega)) ⟨Ext.refl _, rfl⟩
          · refine stepY (j := 8) (d := 46) (b := true) rfl rfl rfl (fun v w h => h) fun sdn sa sw sE sd sk => ?_
            have h53 : sa.eval (.tmp 53) = .slice (V) (X) (cv) := sk.fact 15 53 rfl (sd 15 rfl)
            refine Runs.call (f := 41) (vs := [.slice (V) (X) (cv)]) rfl rfl rfl (by simp only [List.map_toArray, List.map_cons, List.map_nil, h53] <;> rfl) (ent41 _ _) ((troot_any _ _ _ _ sw (by omega) (rVX.ext sE) l32X).mono ?_); rintro e w' ⟨A', c', rfl, own, hx⟩; exact ⟨_, rfl, hx, A', c', rfl, own.rb⟩
          · refine stepY (j := 8) (d := 46) (b := true) rfl rfl rfl (fun v w h => h) fun sdn sa sw sE sd sk => ?_
            have h7 : sa.eval (.tmp 7) = .pointer (some ⟨g7, 0, none⟩) := sk.old 7 rfl
            refine Runs.of_run (r := .pointer (some ⟨g7, 1, none⟩)) (w' := sw) ?_ ⟨Ext.refl _, rfl⟩
            unfold execOp
            simp only [h7]
            go_simp
          · refine stepY (j := 8) (d := 46) (b := true) rfl rfl rfl (fun v w h => h) fun sdn sa sw sE sd sk => ?_
            have h55 : sa.eval (.tmp 55) = .pointer (some ⟨g7, 1, none⟩) := sk.fact 17 55 rfl (sd 17 rfl)
            exact Runs.load rfl h55 (run_load1 Tryz.underlying26 rfl ((hB7.ext sE).cell (i := 1) rfl)) ⟨Ext.refl _, rfl⟩
          · refine stepY (j := 8) (d := 46) (b := true) rfl rfl rfl (fun v w h => h) fun sdn sa sw sE sd sk => ?_
            obtain ⟨A54, c54, h54, r54⟩ := sk.fact 16 54 rfl (sd 16 rfl)
            have h56 : sa.eval (.tmp 56) = .slice (B) (nb) (d) := sk.fact 18 56 rfl (sd 18 rfl)
            refine Runs.call (f := 40) (vs := [.slice (A54) (32) (c54), .slice (B) (nb) (d)]) rfl rfl rfl (by simp only [List.map_toArray, List.map_cons, List.map_nil, h54, h56] <;> rfl) (ent40 _ _) ((hsame_any _ _ _ _ _ _ _ _ sw r54 (rR.ext sE)).mono ?_); rintro e w' ⟨rfl, rfl⟩; exact ⟨_, rfl, Ext.refl _, congrArg Value.bool (e3)⟩
          · refine stepY (j := 8) (d := 46) (b := true) rfl rfl rfl (fun v w h => h) fun sdn sa sw sE sd sk => ?_
            have h57 : sa.eval (.tmp 57) = .bool (true) := sk.fact 19 57 rfl (sd 19 rfl)
            exact Runs.un rfl h57 (by rfl) ⟨Ext.refl _, rfl⟩
          · refine stepE rfl fun sdn sa sw sE sd sk => ?_
            have h46 : sa.eval (.tmp 46) = .bool (true) := sk.fact 8 46 rfl (sd 8 rfl)
            have h58 : sa.eval (.tmp 58) = .bool (false) := sk.fact 20 58 rfl (sd 20 rfl)
            exact Runs.pick rfl h46 ⟨Ext.refl _, by first | exact h58 | simpa using h58⟩
          intro vals W6 hE6 hv6
          have e0 : vals 0 = .pointer (some ⟨g7, 0, none⟩) := hv6 0 (by omega) 38 rfl
          have e1 : vals 1 = .int .i64 (((X : Nat) : Int)) := hv6 1 (by omega) 39 rfl
          have e2 : vals 2 = .pointer (some ⟨g, 0, none⟩) := hv6 2 (by omega) 40 rfl
          have e3 : vals 3 = .pointer (some ⟨g, 0, none⟩) := hv6 3 (by omega) 41 rfl
          have e4 : vals 4 = .pointer (some ⟨g, 1, none⟩) := hv6 4 (by omega) 42 rfl
          have e5 : vals 5 = .slice (I) (s.its.length) (ci) := hv6 5 (by omega) 43 rfl
          have e6 : vals 6 = .int .i64 ((s.its.length : Nat)) := hv6 6 (by omega) 44 rfl
          have e7 : vals 7 = .bool (true) := hv6 7 (by omega) 45 rfl
          have e8 : vals 8 = .bool (true) := hv6 8 (by omega) 46 rfl
          have e9 : vals 9 = .pointer (some ⟨g, 0, none⟩) := hv6 9 (by omega) 47 rfl
          have e10 : vals 10 = .pointer (some ⟨g, 0, none⟩) := hv6 10 (by omega) 48 rfl
          have e11 : vals 11 = .pointer (some ⟨g, 2, none⟩) := hv6 11 (by omega) 49 rfl
          have e12 : vals 12 = .slice (V) (s.its.length) (cv) := hv6 12 (by omega) 50 rfl
          have e13 : vals 13 = .pointer (some ⟨g7, 0, none⟩) := hv6 13 (by omega) 51 rfl
          have e14 : vals 14 = .int .i64 (((X : Nat) : Int)) := hv6 14 (by omega) 52 rfl
          have e15 : vals 15 = .slice (V) (X) (cv) := hv6 15 (by omega) 53 rfl
          obtain ⟨A54, c54, e16, r54⟩ := hv6 16 (by omega) 54 rfl
          have e17 : vals 17 = .pointer (some ⟨g7, 1, none⟩) := hv6 17 (by omega) 55 rfl
          have e18 : vals 18 = .slice (B) (nb) (d) := hv6 18 (by omega) 56 rfl
          have e19 : vals 19 = .bool (true) := hv6 19 (by omega) 57 rfl
          have e20 : vals 20 = .bool (false) := hv6 20 (by omega) 58 rfl
          have e21 : vals 21 = .bool (false) := hv6 21 (by omega) 59 rfl
          simp only [putAll, Act.put, List.take_succ_cons, List.take_zero, List.drop_succ_cons, List.drop_zero, List.drop_nil, List.take_nil, Nat.reduceAdd, List.setIfInBounds_toArray, List.set_cons_succ, List.set_cons_zero, e0, e1, e2, e3, e4, e5, e6, e7, e8, e9, e10, e11, e12, e13, e14, e15, e16, e17, e18, e19, e20, e21]
          clear hv6 e0 e1 e2 e3 e4 e5 e6 e7 e8 e9 e10 e11 e12 e13 e14 e15 e16 e17 e18 e19 e20 e21
          replace hBg := hBg.ext hE6
          replace rG := rG.ext hE6
          replace rV := rV.ext hE6
          replace rR := rR.ext hE6
          replace rP := rP.ext hE6
          replace rQ := rQ.ext hE6
          replace rI := rI.ext hE6
          replace hB4 := hB4.ext hE6
          replace hB7 := hB7.ext hE6
          replace hEa := hEa.trans hE6
          clear hE6
          go_upto_region 9 with (fail)
          refine par_ext (n := 8) (by kernel_rfl) [.is (.pointer (some ⟨g7, 0, none⟩)), .is (.int .i64 (((X : Nat) : Int))), .is (.pointer (some ⟨g, 0, none⟩)), .is (.pointer (some ⟨g, 0, none⟩)), .is (.pointer (some ⟨g, 1, none⟩)), .is (.slice (I) (s.its.length) (ci)), .is (.int .i64 ((s.its.length : Nat))), .is (.bool (true))] rfl ⟨?_, ?_, ?_, ?_, ?_, ?_, ?_, ?_, trivial⟩ ?_
          · refine stepE rfl fun sdn sa sw sE sd sk => ?_
            have h7 : sa.eval (.tmp 7) = .pointer (some ⟨g7, 0, none⟩) := sk.old 7 rfl
            refine Runs.of_run (r := .pointer (some ⟨g7, 0, none⟩)) (w' := sw) ?_ ⟨Ext.refl _, rfl⟩
            unfold execOp
            simp only [h7]
            go_simp
          · refine stepE rfl fun sdn sa sw sE sd sk => ?_
            have h73 : sa.eval (.tmp 73) = .pointer (some ⟨g7, 0, none⟩) := sk.fact 0 73 rfl (sd 0 rfl)
            exact Runs.load rfl h73 (run_load1 Tryz.underlying3 rfl ((hB7.ext sE).cell (i := 0) rfl)) ⟨Ext.refl _, rfl⟩
          · refine stepE rfl fun sdn sa sw sE sd sk => ?_
            have h0 : sa.eval (.tmp 0) = .pointer (some ⟨g, 0, none⟩) := sk.old 0 rfl
            exact Runs.move rfl h0 ⟨Ext.refl _, rfl⟩
          · refine stepE rfl fun sdn sa sw sE sd sk => ?_
            have h75 : sa.eval (.tmp 75) = .pointer (some ⟨g, 0, none⟩) := sk.fact 2 75 rfl (sd 2 rfl)
            exact Runs.nil_ rfl h75 ⟨Ext.refl _, rfl⟩
          · refine stepE rfl fun sdn sa sw sE sd sk => ?_
            have h76 : sa.eval (.tmp 76) = .pointer (some ⟨g, 0, none⟩) := sk.fact 3 76 rfl (sd 3 rfl)
            refine Runs.of_run (r := .pointer (some ⟨g, 1, none⟩)) (w' := sw) ?_ ⟨Ext.refl _, rfl⟩
            unfold execOp
            simp only [h76]
            go_simp
          · refine stepE rfl fun sdn sa sw sE sd sk => ?_
            have h77 : sa.eval (.tmp 77) = .pointer (some ⟨g, 1, none⟩) := sk.fact 4 77 rfl (sd 4 rfl)
            exact Runs.load rfl h77 (run_load1 Tryz.underlying33 rfl ((hBg.ext sE).cell (i := 1) rfl)) ⟨Ext.refl _, rfl⟩
          · refine stepE rfl fun sdn sa sw sE sd sk => ?_
            have h78 : sa.eval (.tmp 78) = .slice (I) (s.its.length) (ci) := sk.fact 5 78 rfl (sd 5 rfl)
            exact Runs.len Tryz.underlying33 rfl h78 ⟨Ext.refl _, rfl⟩
          · refine stepE rfl fun sdn sa sw sE sd sk => ?_
            have h74 : sa.eval (.tmp 74) = .int .i64 (((X : Nat) : Int)) := sk.fact 1 74 rfl (sd 1 rfl)
            have h79 : sa.eval (.tmp 79) = .int .i64 ((s.its.length : Nat)) := sk.fact 6 79 rfl (sd 6 rfl)
            exact Runs.bin rfl h74 h79 (by rfl) (bin_leq _ _ _ _) ⟨Ext.refl _, congrArg Value.bool (e1)⟩
          intro vals W9 hE9 hv9
          have e0 : vals 0 = .pointer (some ⟨g7, 0, none⟩) := hv9 0 (by omega) 73 rfl
          have e1 : vals 1 = .int .i64 (((X : Nat) : Int)) := hv9 1 (by omega) 74 rfl
          have e2 : vals 2 = .pointer (some ⟨g, 0, none⟩) := hv9 2 (by omega) 75 rfl
          have e3 : vals 3 = .pointer (some ⟨g, 0, none⟩) := hv9 3 (by omega) 76 rfl
          have e4 : vals 4 = .pointer (some ⟨g, 1, none⟩) := hv9 4 (by omega) 77 rfl
          have e5 : vals 5 = .slice (I) (s.its.length) (ci) := hv9 5 (by omega) 78 rfl
          have e6 : vals 6 = .int .i64 ((s.its.length : Nat)) := hv9 6 (by omega) 79 rfl
          have e7 : vals 7 = .bool (true) := hv9 7 (by omega) 80 rfl
          simp only [putAll, Act.put, List.take_succ_cons, List.take_zero, List.drop_succ_cons, List.drop_zero, List.drop_nil, List.take_nil, Nat.reduceAdd, List.setIfInBounds_toArray, List.set_cons_succ, List.set_cons_zero, e0, e1, e2, e3, e4, e5, e6, e7]
          clear hv9 e0 e1 e2 e3 e4 e5 e6 e7
          go_wp2_with fail
          go_ret
          rw [Hr.out.1, Hr.out.2]
          exact FeedD.same hM (hEa.trans hE9)
        · have e3 : decide (rootL ((s.its.map leafH).take X) = R) = false := decide_eq_false c3
          have Hr := Lib.hid (feed_34 (its := ITS) Hcv.out c1 (by omega) c3)
          refine par_ext (n := 22) (by kernel_rfl) [.is (.pointer (some ⟨g7, 0, none⟩)), .is (.int .i64 (((X : Nat) : Int))), .is (.pointer (some ⟨g, 0, none⟩)), .is (.pointer (some ⟨g, 0, none⟩)), .is (.pointer (some ⟨g, 1, none⟩)), .is (.slice (I) (s.its.length) (ci)), .is (.int .i64 ((s.its.length : Nat))), .is (.bool (true)), .is (.bool (true)), .is (.pointer (some ⟨g, 0, none⟩)), .is (.pointer (some ⟨g, 0, none⟩)), .is (.pointer (some ⟨g, 2, none⟩)), .is (.slice (V) (s.its.length) (cv)), .is (.pointer (some ⟨g7, 0, none⟩)), .is (.int .i64 (((X : Nat) : Int))), .is (.slice (V) (X) (cv)), .rk (32) (rootL ((s.its.map leafH).take X)), .is (.pointer (some ⟨g7, 1, none⟩)), .is (.slice (B) (nb) (d)), .is (.bool (false)), .is (.bool (true)), .is (.bool (true))] rfl ⟨?_, ?_, ?_, ?_, ?_, ?_, ?_, ?_, ?_, ?_, ?_, ?_, ?_, ?_, ?_, ?_, ?_, ?_, ?_, ?_, ?_, ?_, trivial⟩ ?_
          · refine stepE rfl fun sdn sa sw sE sd sk => ?_
            have h7 : sa.eval (.tmp 7) = .pointer (some ⟨g7, 0, none⟩) := sk.old 7 rfl
            refine Runs.of_run (r := .pointer (some ⟨g7, 0, none⟩)) (w' := sw) ?_ ⟨Ext.refl _, rfl⟩
            unfold execOp
            simp only [h7]
            go_simp
          · refine stepE rfl fun sdn sa sw sE sd sk => ?_
            have h38 : sa.eval (.tmp 38) = .pointer (some ⟨g7, 0, none⟩) := sk.fact 0 38 rfl (sd 0 rfl)
            exact Runs.load rfl h38 (run_load1 Tryz.underlying3 rfl ((hB7.ext sE).cell (i := 0) rfl)) ⟨Ext.refl _, rfl⟩
          · refine stepE rfl fun sdn sa sw sE sd sk => ?_
            have h0 : sa.eval (.tmp 0) = .pointer (some ⟨g, 0, none⟩) := sk.old 0 rfl
            exact Runs.move rfl h0 ⟨Ext.refl _, rfl⟩
          · refine stepE rfl fun sdn sa sw sE sd sk => ?_
            have h40 : sa.eval (.tmp 40) = .pointer (some ⟨g, 0, none⟩) := sk.fact 2 40 rfl (sd 2 rfl)
            exact Runs.nil_ rfl h40 ⟨Ext.refl _, rfl⟩
          · refine stepE rfl fun sdn sa sw sE sd sk => ?_
            have h41 : sa.eval (.tmp 41) = .pointer (some ⟨g, 0, none⟩) := sk.fact 3 41 rfl (sd 3 rfl)
            refine Runs.of_run (r := .pointer (some ⟨g, 1, none⟩)) (w' := sw) ?_ ⟨Ext.refl _, rfl⟩
            unfold execOp
            simp only [h41]
            go_simp
          · refine stepE rfl fun sdn sa sw sE sd sk => ?_
            have h42 : sa.eval (.tmp 42) = .pointer (some ⟨g, 1, none⟩) := sk.fact 4 42 rfl (sd 4 rfl)
            exact Runs.load rfl h42 (run_load1 Tryz.underlying33 rfl ((hBg.ext sE).cell (i := 1) rfl)) ⟨Ext.refl _, rfl⟩
          · refine stepE rfl fun sdn sa sw sE sd sk => ?_
            have h43 : sa.eval (.tmp 43) = .slice (I) (s.its.length) (ci) := sk.fact 5 43 rfl (sd 5 rfl)
            exact Runs.len Tryz.underlying33 rfl h43 ⟨Ext.refl _, rfl⟩
          · refine stepE rfl fun sdn sa sw sE sd sk => ?_
            have h39 : sa.eval (.tmp 39) = .int .i64 (((X : Nat) : Int)) := sk.fact 1 39 rfl (sd 1 rfl)
            have h44 : sa.eval (.tmp 44) = .int .i64 ((s.its.length : Nat)) := sk.fact 6 44 rfl (sd 6 rfl)
            exact Runs.bin rfl h39 h44 (by rfl) (bin_leq _ _ _ _) ⟨Ext.refl _, congrArg Value.bool (e1)⟩
          · refine stepE rfl fun sdn sa sw sE sd sk => ?_
            have h45 : sa.eval (.tmp 45) = .bool (true) := sk.fact 7 45 rfl (sd 7 rfl)
            exact Runs.move rfl h45 ⟨Ext.refl _, rfl⟩
          · refine stepY (j := 8) (d := 46) (b := true) rfl rfl rfl (fun v w h => h) fun sdn sa sw sE sd sk => ?_
            have h0 : sa.eval (.tmp 0) = .pointer (some ⟨g, 0, none⟩) := sk.old 0 rfl
            exact Runs.move rfl h0 ⟨Ext.refl _, rfl⟩
          · refine stepY (j := 8) (d := 46) (b := true) rfl rfl rfl (fun v w h => h) fun sdn sa sw sE sd sk => ?_
            have h47 : sa.eval (.tmp 47) = .pointer (some ⟨g, 0, none⟩) := sk.fact 9 47 rfl (sd 9 rfl)
            exact Runs.nil_ rfl h47 ⟨Ext.refl _, rfl⟩
          · refine stepY (j := 8) (d := 46) (b := true) rfl rfl rfl (fun v w h => h) fun sdn sa sw sE sd sk => ?_
            have h48 : sa.eval (.tmp 48) = .pointer (some ⟨g, 0, none⟩) := sk.fact 10 48 rfl (sd 10 rfl)
            refine Runs.of_run (r := .pointer (some ⟨g, 2, none⟩)) (w' := sw) ?_ ⟨Ext.refl _, rfl⟩
            unfold execOp
            simp only [h48]
            go_simp
          · refine stepY (j := 8) (d := 46) (b := true) rfl rfl rfl (fun v w h => h) fun sdn sa sw sE sd sk => ?_
            have h49 : sa.eval (.tmp 49) = .pointer (some ⟨g, 2, none⟩) := sk.fact 11 49 rfl (sd 11 rfl)
            exact Runs.load rfl h49 (run_load1 Tryz.underlying33 rfl ((hBg.ext sE).cell (i := 2) rfl)) ⟨Ext.refl _, rfl⟩
          · refine stepY (j := 8) (d := 46) (b := true) rfl rfl rfl (fun v w h => h) fun sdn sa sw sE sd sk => ?_
            have h7 : sa.eval (.tmp 7) = .pointer (some ⟨g7, 0, none⟩) := sk.old 7 rfl
            refine Runs.of_run (r := .pointer (some ⟨g7, 0, none⟩)) (w' := sw) ?_ ⟨Ext.refl _, rfl⟩
            unfold execOp
            simp only [h7]
            go_simp
          · refine stepY (j := 8) (d := 46) (b := true) rfl rfl rfl (fun v w h => h) fun sdn sa sw sE sd sk => ?_
            have h51 : sa.eval (.tmp 51) = .pointer (some ⟨g7, 0, none⟩) := sk.fact 13 51 rfl (sd 13 rfl)
            exact Runs.load rfl h51 (run_load1 Tryz.underlying3 rfl ((hB7.ext sE).cell (i := 0) rfl)) ⟨Ext.refl _, rfl⟩
          · refine stepY (j := 8) (d := 46) (b := true) rfl rfl rfl (fun v w h => h) fun sdn sa sw sE sd sk => ?_
            have h50 : sa.eval (.tmp 50) = .slice (V) (s.its.length) (cv) := sk.fact 12 50 rfl (sd 12 rfl)
            have h52 : sa.eval (.tmp 52) = .int .i64 (((X : Nat) : Int)) := sk.fact 14 52 rfl (sd 14 rfl)
            exact Runs.slice rfl h50 (by simp only [Option.map_some, Option.map_none, h52]; exact run_cut_h Tryz.underlying33 infZZ_eq X (by first | rfl | omega) (by omega)) ⟨Ext.refl _, rfl⟩
          · refine stepY (j := 8) (d := 46) (b := true) rfl rfl rfl (fun v w h => h) fun sdn sa sw sE sd sk => ?_
            have h53 : sa.eval (.tmp 53) = .slice (V) (X) (cv) := sk.fact 15 53 rfl (sd 15 rfl)
            refine Runs.call (f := 41) (vs := [.slice (V) (X) (cv)]) rfl rfl rfl (by simp only [List.map_toArray, List.map_cons, List.map_nil, h53] <;> rfl) (ent41 _ _) ((troot_any _ _ _ _ sw (by omega) (rVX.ext sE) l32X).mono ?_); rintro e w' ⟨A', c', rfl, own, hx⟩; exact ⟨_, rfl, hx, A', c', rfl, own.rb⟩
          · refine stepY (j := 8) (d := 46) (b := true) rfl rfl rfl (fun v w h => h) fun sdn sa sw sE sd sk => ?_
            have h7 : sa.eval (.tmp 7) = .pointer (some ⟨g7, 0, none⟩) := sk.old 7 rfl
            refine Runs.of_run (r := .pointer (some ⟨g7, 1, none⟩)) (w' := sw) ?_ ⟨Ext.refl _, rfl⟩
            unfold execOp
            simp only [h7]
            go_simp
          · refine stepY (j := 8) (d := 46) (b := true) rfl rfl rfl (fun v w h => h) fun sdn sa sw sE sd sk => ?_
            have h55 : sa.eval (.tmp 55) = .pointer (some ⟨g7, 1, none⟩) := sk.fact 17 55 rfl (sd 17 rfl)
            exact Runs.load rfl h55 (run_load1 Tryz.underlying26 rfl ((hB7.ext sE).cell (i := 1) rfl)) ⟨Ext.refl _, rfl⟩
          · refine stepY (j := 8) (d := 46) (b := true) rfl rfl rfl (fun v w h => h) fun sdn sa sw sE sd sk => ?_
            obtain ⟨A54, c54, h54, r54⟩ := sk.fact 16 54 rfl (sd 16 rfl)
            have h56 : sa.eval (.tmp 56) = .slice (B) (nb) (d) := sk.fact 18 56 rfl (sd 18 rfl)
            refine Runs.call (f := 40) (vs := [.slice (A54) (32) (c54), .slice (B) (nb) (d)]) rfl rfl rfl (by simp only [List.map_toArray, List.map_cons, List.map_nil, h54, h56] <;> rfl) (ent40 _ _) ((hsame_any _ _ _ _ _ _ _ _ sw r54 (rR.ext sE)).mono ?_); rintro e w' ⟨rfl, rfl⟩; exact ⟨_, rfl, Ext.refl _, congrArg Value.bool (e3)⟩
          · refine stepY (j := 8) (d := 46) (b := true) rfl rfl rfl (fun v w h => h) fun sdn sa sw sE sd sk => ?_
            have h57 : sa.eval (.tmp 57) = .bool (false) := sk.fact 19 57 rfl (sd 19 rfl)
            exact Runs.un rfl h57 (by rfl) ⟨Ext.refl _, rfl⟩
          · refine stepE rfl fun sdn sa sw sE sd sk => ?_
            have h46 : sa.eval (.tmp 46) = .bool (true) := sk.fact 8 46 rfl (sd 8 rfl)
            have h58 : sa.eval (.tmp 58) = .bool (true) := sk.fact 20 58 rfl (sd 20 rfl)
            exact Runs.pick rfl h46 ⟨Ext.refl _, by first | exact h58 | simpa using h58⟩
          intro vals W6 hE6 hv6
          have e0 : vals 0 = .pointer (some ⟨g7, 0, none⟩) := hv6 0 (by omega) 38 rfl
          have e1 : vals 1 = .int .i64 (((X : Nat) : Int)) := hv6 1 (by omega) 39 rfl
          have e2 : vals 2 = .pointer (some ⟨g, 0, none⟩) := hv6 2 (by omega) 40 rfl
          have e3 : vals 3 = .pointer (some ⟨g, 0, none⟩) := hv6 3 (by omega) 41 rfl
          have e4 : vals 4 = .pointer (some ⟨g, 1, none⟩) := hv6 4 (by omega) 42 rfl
          have e5 : vals 5 = .slice (I) (s.its.length) (ci) := hv6 5 (by omega) 43 rfl
          have e6 : vals 6 = .int .i64 ((s.its.length : Nat)) := hv6 6 (by omega) 44 rfl
          have e7 : vals 7 = .bool (true) := hv6 7 (by omega) 45 rfl
          have e8 : vals 8 = .bool (true) := hv6 8 (by omega) 46 rfl
          have e9 : vals 9 = .pointer (some ⟨g, 0, none⟩) := hv6 9 (by omega) 47 rfl
          have e10 : vals 10 = .pointer (some ⟨g, 0, none⟩) := hv6 10 (by omega) 48 rfl
          have e11 : vals 11 = .pointer (some ⟨g, 2, none⟩) := hv6 11 (by omega) 49 rfl
          have e12 : vals 12 = .slice (V) (s.its.length) (cv) := hv6 12 (by omega) 50 rfl
          have e13 : vals 13 = .pointer (some ⟨g7, 0, none⟩) := hv6 13 (by omega) 51 rfl
          have e14 : vals 14 = .int .i64 (((X : Nat) : Int)) := hv6 14 (by omega) 52 rfl
          have e15 : vals 15 = .slice (V) (X) (cv) := hv6 15 (by omega) 53 rfl
          obtain ⟨A54, c54, e16, r54⟩ := hv6 16 (by omega) 54 rfl
          have e17 : vals 17 = .pointer (some ⟨g7, 1, none⟩) := hv6 17 (by omega) 55 rfl
          have e18 : vals 18 = .slice (B) (nb) (d) := hv6 18 (by omega) 56 rfl
          have e19 : vals 19 = .bool (false) := hv6 19 (by omega) 57 rfl
          have e20 : vals 20 = .bool (true) := hv6 20 (by omega) 58 rfl
          have e21 : vals 21 = .bool (true) := hv6 21 (by omega) 59 rfl
          simp only [putAll, Act.put, List.take_succ_cons, List.take_zero, List.drop_succ_cons, List.drop_zero, List.drop_nil, List.take_nil, Nat.reduceAdd, List.setIfInBounds_toArray, List.set_cons_succ, List.set_cons_zero, e0, e1, e2, e3, e4, e5, e6, e7, e8, e9, e10, e11, e12, e13, e14, e15, e16, e17, e18, e19, e20, e21]
          clear hv6 e0 e1 e2 e3 e4 e5 e6 e7 e8 e9 e10 e11 e12 e13 e14 e15 e16 e17 e18 e19 e20 e21
          replace hBg := hBg.ext hE6
          replace rG := rG.ext hE6
          replace rV := rV.ext hE6
          replace rR := rR.ext hE6
          replace rP := rP.ext hE6
          replace rQ := rQ.ext hE6
          replace rI := rI.ext hE6
          replace hB4 := hB4.ext hE6
          replace hB7 := hB7.ext hE6
          replace hEa := hEa.trans hE6
          clear hE6
          have M6 := hA.ext hEa
          have als := M6.als
          have hlt1 : ∀ k, phi1 Al k → k < W6.heap.size := fun k hk => (als.lt hk).2
          have hbz : base ≤ W6.heap.size := Nat.le_trans M6.ge (Nat.le_of_lt hBg.lt)
          have hBgp := hBg
          have hB7p := hB7
          replace hBg : Keep (phi1 Al) (fun w => Blk w g 42 (monC G I V Al R0 P0 Q0 cg s.its.length ci cv s.al.length ca nr cr np0 cp0 nq0 cq0 s.lx s.li s.has)) W6 := fun w' u => hBgp.upd u (fun h => als.ne_blk hBgp (by decide) h)
          replace hB7 : Keep (phi1 Al) (fun w => Blk w g7 36 #[.int .i64 ((X : Nat) : Int), .slice B nb d]) W6 := fun w' u => hB7p.upd u (fun h => als.ne_blk hB7p (by decide) h)
          have hZ : ∀ v w w', Ext w w' → ZRow isI1 54 2 W6.heap.size base Al (s.al.length + 1) (alC (s.al ++ [(1, ((X : Nat) : Int))])) v w → ZRow isI1 54 2 W6.heap.size base Al (s.al.length + 1) (alC (s.al ++ [(1, ((X : Nat) : Int))])) v w' := ZRow.ext
          clear rG rV rR rP rQ rI hB4 rVX l32X hrv hcv0 kR kP kQ kI hits0 hIl hB7p
          go_upto_region 7 with (fail)
          refine par_one (n := 10) (phi1 Al) 9 69 (ZRow isI1 54 2 W6.heap.size base Al (s.al.length + 1) (alC (s.al ++ [(1, ((X : Nat) : Int))]))) (by kernel_rfl) [.is (.pointer (some ⟨g, 0, none⟩)), .is (.pointer (some ⟨g, 0, none⟩)), .is (.pointer (some ⟨g, 0, none⟩)), .is (.pointer (some ⟨g, 3, none⟩)), .is (.slice (Al) (s.al.length) (ca)), .is (.pointer (some ⟨g7, 0, none⟩)), .is (.int .i64 (((X : Nat) : Int))), .is (.agg #[.int .i64 ((1 : Int)), .int .i64 (((X : Nat) : Int))]), .kp (fun u w => ∃ y, u = .slice (some ⟨y, 0, none⟩) 1 1 ∧ Blk w y 54 #[.int .i64 1, .int .i64 ((X : Nat) : Int)]), .any] rfl rfl (by decide) ⟨?_, ?_, ?_, ?_, ?_, ?_, ?_, ?_, ?_, ?_, trivial⟩ ?_
          · refine step1 hZ rfl (by decide) fun sdn sa sw sU sd sk => ?_
            have h0 : sa.eval (.tmp 0) = .pointer (some ⟨g, 0, none⟩) := sk.old 0 rfl
            exact Runs.move rfl h0 ⟨Ext.refl _, rfl⟩
          · refine step1 hZ rfl (by decide) fun sdn sa sw sU sd sk => ?_
            have h0 : sa.eval (.tmp 0) = .pointer (some ⟨g, 0, none⟩) := sk.old 0 rfl
            exact Runs.move rfl h0 ⟨Ext.refl _, rfl⟩
          · refine step1 hZ rfl (by decide) fun sdn sa sw sU sd sk => ?_
            have h61 : sa.eval (.tmp 61) = .pointer (some ⟨g, 0, none⟩) := sk.fact 1 61 rfl (sd 1 rfl)
            exact Runs.nil_ rfl h61 ⟨Ext.refl _, rfl⟩
          · refine step1 hZ rfl (by decide) fun sdn sa sw sU sd sk => ?_
            have h62 : sa.eval (.tmp 62) = .pointer (some ⟨g, 0, none⟩) := sk.fact 2 62 rfl (sd 2 rfl)
            refine Runs.of_run (r := .pointer (some ⟨g, 3, none⟩)) (w' := sw) ?_ ⟨Ext.refl _, rfl⟩
            unfold execOp
            simp only [h62]
            go_simp
          · refine step1 hZ rfl (by decide) fun sdn sa sw sU sd sk => ?_
            have h63 : sa.eval (.tmp 63) = .pointer (some ⟨g, 3, none⟩) := sk.fact 3 63 rfl (sd 3 rfl)
            exact Runs.load rfl h63 (run_load1 Tryz.underlying34 rfl ((hBg.at_ sU).cell (i := 3) rfl)) ⟨Ext.refl _, rfl⟩
          · refine step1 hZ rfl (by decide) fun sdn sa sw sU sd sk => ?_
            have h7 : sa.eval (.tmp 7) = .pointer (some ⟨g7, 0, none⟩) := sk.old 7 rfl
            refine Runs.of_run (r := .pointer (some ⟨g7, 0, none⟩)) (w' := sw) ?_ ⟨Ext.refl _, rfl⟩
            unfold execOp
            simp only [h7]
            go_simp
          · refine step1 hZ rfl (by decide) fun sdn sa sw sU sd sk => ?_
            have h65 : sa.eval (.tmp 65) = .pointer (some ⟨g7, 0, none⟩) := sk.fact 5 65 rfl (sd 5 rfl)
            exact Runs.load rfl h65 (run_load1 Tryz.underlying3 rfl ((hB7.at_ sU).cell (i := 0) rfl)) ⟨Ext.refl _, rfl⟩
          · refine step1 hZ rfl (by decide) fun sdn sa sw sU sd sk => ?_
            have h66 : sa.eval (.tmp 66) = .int .i64 (((X : Nat) : Int)) := sk.fact 6 66 rfl (sd 6 rfl)
            refine Runs.of_run (r := .agg #[.int .i64 ((1 : Int)), .int .i64 (((X : Nat) : Int))]) (w' := sw) ?_ ⟨Ext.refl _, rfl⟩
            unfold execOp
            simp only [List.map_toArray, List.map_cons, List.map_nil, h66]
            go_simp
          · refine step1 hZ rfl (by decide) fun sdn sa sw sU sd sk => ?_
            have h67 : sa.eval (.tmp 67) = .agg #[.int .i64 ((1 : Int)), .int .i64 (((X : Nat) : Int))] := sk.fact 7 67 rfl (sd 7 rfl)
            refine Runs.of_run (r := .slice (some ⟨sw.heap.size, 0, none⟩) 1 1) (w' := sw.alloc (.cells #[.int .i64 1, .int .i64 ((X : Nat) : Int)] 54)) ?_ ⟨Ext.new _ _, fun w2 u2 => ⟨_, rfl, (Blk.new _ _ _).upd u2 (fun h => by have := hlt1 _ h; have := sU.size; omega)⟩⟩
            unfold execOp
            simp only [List.map_toArray, List.map_cons, List.map_nil, h67]
            go_simp
          · refine stepT rfl rfl (by first | decide | simp) fun sdn sa sw sE sd sk => ?_
            have h64 : sa.eval (.tmp 64) = .slice (Al) (s.al.length) (ca) := sk.fact 4 64 rfl (sd 4 rfl)
            obtain ⟨y68, h68, hl68⟩ := (sk.fact 8 68 rfl (sd 8 rfl)).self
            have hn9 : ∀ (j : Nat) (u : Value), ([.int .i64 1, .int .i64 ((X : Nat) : Int)] : List Value)[j]? = some u → sw.cell? ((⟨y68, 0, none⟩ : Addr).add j) = some u := fun j u hu => by rw [add_plain]; exact hl68.cell (i := j) (by rw [← hu]; exact List.getElem?_toArray)
            exact Runs.appp kAlarms rfl h64 h68 (als.ext sE) rfl hn9 two_one two_I (by omega) (Nat.le_trans hbz sE.size) (by omega) (fun A' c' w' o1 g1 b1 => ⟨Upd.of_grown g1 (fun k hk => hk), ⟨A', c', rfl, by rw [alC_snoc]; exact o1, b1.elim Or.inl (fun e => Or.inr (fun k hk => by rw [e] at hk; injection hk with hk; have := sE.size; omega))⟩, trivial⟩)
          intro vals W7 hE7 hZ7 hv7
          have e0 : vals 0 = .pointer (some ⟨g, 0, none⟩) := hv7 0 (by omega) 60 rfl
          have e1 : vals 1 = .pointer (some ⟨g, 0, none⟩) := hv7 1 (by omega) 61 rfl
          have e2 : vals 2 = .pointer (some ⟨g, 0, none⟩) := hv7 2 (by omega) 62 rfl
          have e3 : vals 3 = .pointer (some ⟨g, 3, none⟩) := hv7 3 (by omega) 63 rfl
          have e4 : vals 4 = .slice (Al) (s.al.length) (ca) := hv7 4 (by omega) 64 rfl
          have e5 : vals 5 = .pointer (some ⟨g7, 0, none⟩) := hv7 5 (by omega) 65 rfl
          have e6 : vals 6 = .int .i64 (((X : Nat) : Int)) := hv7 6 (by omega) 66 rfl
          have e7 : vals 7 = .agg #[.int .i64 ((1 : Int)), .int .i64 (((X : Nat) : Int))] := hv7 7 (by omega) 67 rfl
          obtain ⟨y68, e8, hl68⟩ := (hv7 8 (by omega) 68 rfl).self
          obtain ⟨A69, c69, e9, oZ7, bZ7⟩ := hZ7
          simp only [putAll, Act.put, List.take_succ_cons, List.take_zero, List.drop_succ_cons, List.drop_zero, List.drop_nil, List.take_nil, Nat.reduceAdd, List.setIfInBounds_toArray, List.set_cons_succ, List.set_cons_zero, e0, e1, e2, e3, e4, e5, e6, e7, e8, e9]
          clear hv7 e0 e1 e2 e3 e4 e5 e6 e7 e8 e9
          have hBg7 : Blk W7 g 42 (monC G I V Al R0 P0 Q0 cg s.its.length ci cv s.al.length ca nr cr np0 cp0 nq0 cq0 s.lx s.li s.has) := hBg.at_ hE7
          have f3 := hBg7.frozen 3
          have x3 := hBg7.cell (i := 3) (v := .slice Al s.al.length ca) rfl
          go_wp2_with fail
          go_ret
          rw [Hr.out.1, Hr.out.2]
          have gs := grown_set W7 ⟨g, 3, none⟩ (.slice A69 (s.al.length + 1) c69)
          have uF : Upd (phiM I Al g) W6 (W7.setCell ⟨g, 3, none⟩ (.slice A69 (s.al.length + 1) c69)) := (hE7.mono (fun k _ hk => .inr (.inr hk))).trans (Upd.of_grown gs (fun k hk => by
            have hk2 : g = k := Option.some.inj hk
            exact .inl hk2.symm))
          have hm : ∀ k, k < W6.heap.size → phiM I A69 g k → phiM I Al g k := by
            rintro k hk (h | h | h)
            · exact .inl h
            · exact .inr (.inl h)
            · rcases bZ7 with e | e
              · exact .inr (.inr (e.symm.trans h))
              · have := e k h
                omega
          obtain ⟨q1, q2, ⟨q3, q4⟩, q5, ⟨q6, q7⟩, q8, q9⟩ := mon_rest M6 uF hm
          have row7 := row_kept_p M6.row als (by decide) hE7
          have rowF := row7.grown gs (fun k hk e => row7.ne_blk hBg7 (by decide) (hk.trans e))
          have alF := oZ7.grown gs (fun k hk e => oZ7.ne_blk hBg7 (by decide) (hk.trans e))
          have bF := hBg7.set 3 (.slice A69 (s.al.length + 1) c69)
          have hlen : (s.al ++ [(1, ((X : Nat) : Int))]).length = s.al.length + 1 := by simp
          refine ⟨rfl, fun _ h => absurd rfl h, phiM I A69 g, dltM V P0 Q0 s.its.length np0 nq0, ⟨G, I, V, A69, R0, P0, Q0, cg, ci, cv, c69, nr, cr, np0, cp0, nq0, cq0, vs, rfl, rfl, M6.ge, ?_, rowF, q1, ?_, q2, q3, q4, q5, q6, q7, q8, q9⟩, ?_, ?_, fun _ _ h => h⟩
          · show Blk _ g 42 (monC G I V A69 R0 P0 Q0 cg s.its.length ci cv (s.al ++ [(1, ((X : Nat) : Int))]).length c69 nr cr np0 cp0 nq0 cq0 s.lx s.li s.has)
            rw [hlen]
            exact bF
          · show OwP isI1 54 2 _ base A69 (s.al ++ [(1, ((X : Nat) : Int))]).length c69 (alC (s.al ++ [(1, ((X : Nat) : Int))]))
            rw [hlen]
            exact alF
          · exact (Upd.of_ext hEa).trans uF
          · intro k hk hp
            exact hm k (Nat.lt_of_lt_of_le hk hEa.size) hp
    · have e1 : decide (((X : Nat) : Int) ≤ ((s.its.length : Nat) : Int)) = false := decide_eq_false (by omega)
      refine par_ext (n := 13) (by kernel_rfl) [.is (.pointer (some ⟨g7, 0, none⟩)), .is (.int .i64 (((X : Nat) : Int))), .is (.pointer (some ⟨g, 0, none⟩)), .is (.pointer (some ⟨g, 0, none⟩)), .is (.pointer (some ⟨g, 1, none⟩)), .is (.slice (I) (s.its.length) (ci)), .is (.int .i64 ((s.its.length : Nat))), .is (.bool (false)), .is (.bool (false)), .is undef, .is undef, .is undef, .is (.bool (false))] rfl ⟨?_, ?_, ?_, ?_, ?_, ?_, ?_, ?_, ?_, ?_, ?_, ?_, ?_, trivial⟩ ?_
      · refine stepE rfl fun sdn sa sw sE sd sk => ?_
        have h7 : sa.eval (.tmp 7) = .pointer (some ⟨g7, 0, none⟩) := sk.old 7 rfl
        refine Runs.of_run (r := .pointer (some ⟨g7, 0, none⟩)) (w' := sw) ?_ ⟨Ext.refl _, rfl⟩
        unfold execOp
        simp only [h7]
        go_simp
      · refine stepE rfl fun sdn sa sw sE sd sk => ?_
        have h24 : sa.eval (.tmp 24) = .pointer (some ⟨g7, 0, none⟩) := sk.fact 0 24 rfl (sd 0 rfl)
        exact Runs.load rfl h24 (run_load1 Tryz.underlying3 rfl ((hB7.ext sE).cell (i := 0) rfl)) ⟨Ext.refl _, rfl⟩
      · refine stepE rfl fun sdn sa sw sE sd sk => ?_
        have h0 : sa.eval (.tmp 0) = .pointer (some ⟨g, 0, none⟩) := sk.old 0 rfl
        exact Runs.move rfl h0 ⟨Ext.refl _, rfl⟩
      · refine stepE rfl fun sdn sa sw sE sd sk => ?_
        have h26 : sa.eval (.tmp 26) = .pointer (some ⟨g, 0, none⟩) := sk.fact 2 26 rfl (sd 2 rfl)
        exact Runs.nil_ rfl h26 ⟨Ext.refl _, rfl⟩
      · refine stepE rfl fun sdn sa sw sE sd sk => ?_
        have h27 : sa.eval (.tmp 27) = .pointer (some ⟨g, 0, none⟩) := sk.fact 3 27 rfl (sd 3 rfl)
        refine Runs.of_run (r := .pointer (some ⟨g, 1, none⟩)) (w' := sw) ?_ ⟨Ext.refl _, rfl⟩
        unfold execOp
        simp only [h27]
        go_simp
      · refine stepE rfl fun sdn sa sw sE sd sk => ?_
        have h28 : sa.eval (.tmp 28) = .pointer (some ⟨g, 1, none⟩) := sk.fact 4 28 rfl (sd 4 rfl)
        exact Runs.load rfl h28 (run_load1 Tryz.underlying33 rfl ((hBg.ext sE).cell (i := 1) rfl)) ⟨Ext.refl _, rfl⟩
      · refine stepE rfl fun sdn sa sw sE sd sk => ?_
        have h29 : sa.eval (.tmp 29) = .slice (I) (s.its.length) (ci) := sk.fact 5 29 rfl (sd 5 rfl)
        exact Runs.len Tryz.underlying33 rfl h29 ⟨Ext.refl _, rfl⟩
      · refine stepE rfl fun sdn sa sw sE sd sk => ?_
        have h25 : sa.eval (.tmp 25) = .int .i64 (((X : Nat) : Int)) := sk.fact 1 25 rfl (sd 1 rfl)
        have h30 : sa.eval (.tmp 30) = .int .i64 ((s.its.length : Nat)) := sk.fact 6 30 rfl (sd 6 rfl)
        exact Runs.bin rfl h25 h30 (by rfl) (bin_leq _ _ _ _) ⟨Ext.refl _, congrArg Value.bool (e1)⟩
      · refine stepE rfl fun sdn sa sw sE sd sk => ?_
        have h31 : sa.eval (.tmp 31) = .bool (false) := sk.fact 7 31 rfl (sd 7 rfl)
        exact Runs.move rfl h31 ⟨Ext.refl _, rfl⟩
      · exact stepN (j := 8) (d := 32) (b := false) rfl rfl rfl (fun v w h => h) fun w => rfl
      · exact stepN (j := 8) (d := 32) (b := false) rfl rfl rfl (fun v w h => h) fun w => rfl
      · exact stepN (j := 8) (d := 32) (b := false) rfl rfl rfl (fun v w h => h) fun w => rfl
      · refine stepE rfl fun sdn sa sw sE sd sk => ?_
        have h32 : sa.eval (.tmp 32) = .bool (false) := sk.fact 8 32 rfl (sd 8 rfl)
        exact Runs.pick rfl h32 ⟨Ext.refl _, rfl⟩
      intro vals W4 hE4 hv4
      have e0 : vals 0 = .pointer (some ⟨g7, 0, none⟩) := hv4 0 (by omega) 24 rfl
      have e1 : vals 1 = .int .i64 (((X : Nat) : Int)) := hv4 1 (by omega) 25 rfl
      have e2 : vals 2 = .pointer (some ⟨g, 0, none⟩) := hv4 2 (by omega) 26 rfl
      have e3 : vals 3 = .pointer (some ⟨g, 0, none⟩) := hv4 3 (by omega) 27 rfl
      have e4 : vals 4 = .pointer (some ⟨g, 1, none⟩) := hv4 4 (by omega) 28 rfl
      have e5 : vals 5 = .slice (I) (s.its.length) (ci) := hv4 5 (by omega) 29 rfl
      have e6 : vals 6 = .int .i64 ((s.its.length : Nat)) := hv4 6 (by omega) 30 rfl
      have e7 : vals 7 = .bool (false) := hv4 7 (by omega) 31 rfl
      have e8 : vals 8 = .bool (false) := hv4 8 (by omega) 32 rfl
      have e12 : vals 12 = .bool (false) := hv4 12 (by omega) 36 rfl
      simp only [putAll, Act.put, List.take_succ_cons, List.take_zero, List.drop_succ_cons, List.drop_zero, List.drop_nil, List.take_nil, Nat.reduceAdd, List.setIfInBounds_toArray, List.set_cons_succ, List.set_cons_zero, e0, e1, e2, e3, e4, e5, e6, e7, e8, e12]
      clear hv4 e0 e1 e2 e3 e4 e5 e6 e7 e8 e12
      replace hBg := hBg.ext hE4
      replace rG := rG.ext hE4
      replace rV := rV.ext hE4
      replace rR := rR.ext hE4
      replace rP := rP.ext hE4
      replace rQ := rQ.ext hE4
      replace rI := rI.ext hE4
      replace hB4 := hB4.ext hE4
      replace hB7 := hB7.ext hE4
      replace hEa := hEa.trans hE4
      clear hE4
      go_upto_region 6 with (fail)
      refine par_ext (n := 22) (by kernel_rfl) [.is (.pointer (some ⟨g7, 0, none⟩)), .is (.int .i64 (((X : Nat) : Int))), .is (.pointer (some ⟨g, 0, none⟩)), .is (.pointer (some ⟨g, 0, none⟩)), .is (.pointer (some ⟨g, 1, none⟩)), .is (.slice (I) (s.its.length) (ci)), .is (.int .i64 ((s.its.length : Nat))), .is (.bool (false)), .is (.bool (false)), .is undef, .is undef, .is undef, .is undef, .is undef, .is undef, .is undef, .is undef, .is undef, .is undef, .is undef, .is undef, .is (.bool (false))] rfl ⟨?_, ?_, ?_, ?_, ?_, ?_, ?_, ?_, ?_, ?_, ?_, ?_, ?_, ?_, ?_, ?_, ?_, ?_, ?_, ?_, ?_, ?_, trivial⟩ ?_
      · refine stepE rfl fun sdn sa sw sE sd sk => ?_
        have h7 : sa.eval (.tmp 7) = .pointer (some ⟨g7, 0, none⟩) := sk.old 7 rfl
        refine Runs.of_run (r := .pointer (some ⟨g7, 0, none⟩)) (w' := sw) ?_ ⟨Ext.refl _, rfl⟩
        unfold execOp
        simp only [h7]
        go_simp
      · refine stepE rfl fun sdn sa sw sE sd sk => ?_
        have h38 : sa.eval (.tmp 38) = .pointer (some ⟨g7, 0, none⟩) := sk.fact 0 38 rfl (sd 0 rfl)
        exact Runs.load rfl h38 (run_load1 Tryz.underlying3 rfl ((hB7.ext sE).cell (i := 0) rfl)) ⟨Ext.refl _, rfl⟩
      · refine stepE rfl fun sdn sa sw sE sd sk => ?_
        have h0 : sa.eval (.tmp 0) = .pointer (some ⟨g, 0, none⟩) := sk.old 0 rfl
        exact Runs.move rfl h0 ⟨Ext.refl _, rfl⟩
      · refine stepE rfl fun sdn sa sw sE sd sk => ?_
        have h40 : sa.eval (.tmp 40) = .pointer (some ⟨g, 0, none⟩) := sk.fact 2 40 rfl (sd 2 rfl)
        exact Runs.nil_ rfl h40 ⟨Ext.refl _, rfl⟩
      · refine stepE rfl fun sdn sa sw sE sd sk => ?_
        have h41 : sa.eval (.tmp 41) = .pointer (some ⟨g, 0, none⟩) := sk.fact 3 41 rfl (sd 3 rfl)
        refine Runs.of_run (r := .pointer (some ⟨g, 1, none⟩)) (w' := sw) ?_ ⟨Ext.refl _, rfl⟩
        unfold execOp
        simp only [h41]
        go_simp
      · refine stepE rfl fun sdn sa sw sE sd sk => ?_
        have h42 : sa.eval (.tmp 42) = .pointer (some ⟨g, 1, none⟩) := sk.fact 4 42 rfl (sd 4 rfl)
        exact Runs.load rfl h42 (run_load1 Tryz.underlying33 rfl ((hBg.ext sE).cell (i := 1) rfl)) ⟨Ext.refl _, rfl⟩
      · refine stepE rfl fun sdn sa sw sE sd sk => ?_
        have h43 : sa.eval (.tmp 43) = .slice (I) (s.its.length) (ci) := sk.fact 5 43 rfl (sd 5 rfl)
        exact Runs.len Tryz.underlying33 rfl h43 ⟨Ext.refl _, rfl⟩
      · refine stepE rfl fun sdn sa sw sE sd sk => ?_
        have h39 : sa.eval (.tmp 39) = .int .i64 (((X : Nat) : Int)) := sk.fact 1 39 rfl (sd 1 rfl)
        have h44 : sa.eval (.tmp 44) = .int .i64 ((s.its.length : Nat)) := sk.fact 6 44 rfl (sd 6 rfl)
        exact Runs.bin rfl h39 h44 (by rfl) (bin_leq _ _ _ _) ⟨Ext.refl _, congrArg Value.bool (e1)⟩
      · refine stepE rfl fun sdn sa sw sE sd sk => ?_
        have h45 : sa.eval (.tmp 45) = .bool (false) := sk.fact 7 45 rfl (sd 7 rfl)
        exact Runs.move rfl h45 ⟨Ext.refl _, rfl⟩
      · exact stepN (j := 8) (d := 46) (b := false) rfl rfl rfl (fun v w h => h) fun w => rfl
      · exact stepN (j := 8) (d := 46) (b := false) rfl rfl rfl (fun v w h => h) fun w => rfl
      · exact stepN (j := 8) (d := 46) (b := false) rfl rfl rfl (fun v w h => h) fun w => rfl
      · exact stepN (j := 8) (d := 46) (b := false) rfl rfl rfl (fun v w h => h) fun w => rfl
      · exact stepN (j := 8) (d := 46) (b := false) rfl rfl rfl (fun v w h => h) fun w => rfl
      · exact stepN (j := 8) (d := 46) (b := false) rfl rfl rfl (fun v w h => h) fun w => rfl
      · exact stepN (j := 8) (d := 46) (b := false) rfl rfl rfl (fun v w h => h) fun w => rfl
      · exact stepN (j := 8) (d := 46) (b := false) rfl rfl rfl (fun v w h => h) fun w => rfl
      · exact stepN (j := 8) (d := 46) (b := false) rfl rfl rfl (fun v w h => h) fun w => rfl
      · exact stepN (j := 8) (d := 46) (b := false) rfl rfl rfl (fun v w h => h) fun w => rfl
      · exact stepN (j := 8) (d := 46) (b := false) rfl rfl rfl (fun v w h => h) fun w => rfl
      · exact stepN (j := 8) (d := 46) (b := false) rfl rfl rfl (fun v w h => h) fun w => rfl
      · refine stepE rfl fun sdn sa sw sE sd sk => ?_
        have h46 : sa.eval (.tmp 46) = .bool (false) := sk.fact 8 46 rfl (sd 8 rfl)
        exact Runs.pick rfl h46 ⟨Ext.refl _, rfl⟩
      intro vals W6 hE6 hv6
      have e0 : vals 0 = .pointer (some ⟨g7, 0, none⟩) := hv6 0 (by omega) 38 rfl
      have e1 : vals 1 = .int .i64 (((X : Nat) : Int)) := hv6 1 (by omega) 39 rfl
      have e2 : vals 2 = .pointer (some ⟨g, 0, none⟩) := hv6 2 (by omega) 40 rfl
      have e3 : vals 3 = .pointer (some ⟨g, 0, none⟩) := hv6 3 (by omega) 41 rfl
      have e4 : vals 4 = .pointer (some ⟨g, 1, none⟩) := hv6 4 (by omega) 42 rfl
      have e5 : vals 5 = .slice (I) (s.its.length) (ci) := hv6 5 (by omega) 43 rfl
      have e6 : vals 6 = .int .i64 ((s.its.length : Nat)) := hv6 6 (by omega) 44 rfl
      have e7 : vals 7 = .bool (false) := hv6 7 (by omega) 45 rfl
      have e8 : vals 8 = .bool (false) := hv6 8 (by omega) 46 rfl
      have e21 : vals 21 = .bool (false) := hv6 21 (by omega) 59 rfl
      simp only [putAll, Act.put, List.take_succ_cons, List.take_zero, List.drop_succ_cons, List.drop_zero, List.drop_nil, List.take_nil, Nat.reduceAdd, List.setIfInBounds_toArray, List.set_cons_succ, List.set_cons_zero, e0, e1, e2, e3, e4, e5, e6, e7, e8, e21]
      clear hv6 e0 e1 e2 e3 e4 e5 e6 e7 e8 e21
      replace hBg := hBg.ext hE6
      replace rG := rG.ext hE6
      replace rV := rV.ext hE6
      replace rR := rR.ext hE6
      replace rP := rP.ext hE6
      replace rQ := rQ.ext hE6
      replace rI := rI.ext hE6
      replace hB4 := hB4.ext hE6
      replace hB7 := hB7.ext hE6
      replace hEa := hEa.trans hE6
      clear hE6
      go_upto_region 9 with (fail)
      refine par_ext (n := 8) (by kernel_rfl) [.is (.pointer (some ⟨g7, 0, none⟩)), .is (.int .i64 (((X : Nat) : Int))), .is (.pointer (some ⟨g, 0, none⟩)), .is (.pointer (some ⟨g, 0, none⟩)), .is (.pointer (some ⟨g, 1, none⟩)), .is (.slice (I) (s.its.length) (ci)), .is (.int .i64 ((s.its.length : Nat))), .is (.bool (false))] rfl ⟨?_, ?_, ?_, ?_, ?_, ?_, ?_, ?_, trivial⟩ ?_
      · refine stepE rfl fun sdn sa sw sE sd sk => ?_
        have h7 : sa.eval (.tmp 7) = .pointer (some ⟨g7, 0, none⟩) := sk.old 7 rfl
        refine Runs.of_run (r := .pointer (some ⟨g7, 0, none⟩)) (w' := sw) ?_ ⟨Ext.refl _, rfl⟩
        unfold execOp
        simp only [h7]
        go_simp
      · refine stepE rfl fun sdn sa sw sE sd sk => ?_
        have h73 : sa.eval (.tmp 73) = .pointer (some ⟨g7, 0, none⟩) := sk.fact 0 73 rfl (sd 0 rfl)
        exact Runs.load rfl h73 (run_load1 Tryz.underlying3 rfl ((hB7.ext sE).cell (i := 0) rfl)) ⟨Ext.refl _, rfl⟩
      · refine stepE rfl fun sdn sa sw sE sd sk => ?_
        have h0 : sa.eval (.tmp 0) = .pointer (some ⟨g, 0, none⟩) := sk.old 0 rfl
        exact Runs.move rfl h0 ⟨Ext.refl _, rfl⟩
      · refine stepE rfl fun sdn sa sw sE sd sk => ?_
        have h75 : sa.eval (.tmp 75) = .pointer (some ⟨g, 0, none⟩) := sk.fact 2 75 rfl (sd 2 rfl)
        exact Runs.nil_ rfl h75 ⟨Ext.refl _, rfl⟩
      · refine stepE rfl fun sdn sa sw sE sd sk => ?_
        have h76 : sa.eval (.tmp 76) = .pointer (some ⟨g, 0, none⟩) := sk.fact 3 76 rfl (sd 3 rfl)
        refine Runs.of_run (r := .pointer (some ⟨g, 1, none⟩)) (w' := sw) ?_ ⟨Ext.refl _, rfl⟩
        unfold execOp
        simp only [h76]
        go_simp
      · refine stepE rfl fun sdn sa sw sE sd sk => ?_
        have h77 : sa.eval (.tmp 77) = .pointer (some ⟨g, 1, none⟩) := sk.fact 4 77 rfl (sd 4 rfl)
        exact Runs.load rfl h77 (run_load1 Tryz.underlying33 rfl ((hBg.ext sE).cell (i := 1) rfl)) ⟨Ext.refl _, rfl⟩
      · refine stepE rfl fun sdn sa sw sE sd sk => ?_
        have h78 : sa.eval (.tmp 78) = .slice (I) (s.its.length) (ci) := sk.fact 5 78 rfl (sd 5 rfl)
        exact Runs.len Tryz.underlying33 rfl h78 ⟨Ext.refl _, rfl⟩
      · refine stepE rfl fun sdn sa sw sE sd sk => ?_
        have h74 : sa.eval (.tmp 74) = .int .i64 (((X : Nat) : Int)) := sk.fact 1 74 rfl (sd 1 rfl)
        have h79 : sa.eval (.tmp 79) = .int .i64 ((s.its.length : Nat)) := sk.fact 6 79 rfl (sd 6 rfl)
        exact Runs.bin rfl h74 h79 (by rfl) (bin_leq _ _ _ _) ⟨Ext.refl _, congrArg Value.bool (e1)⟩
      intro vals W9 hE9 hv9
      have e0 : vals 0 = .pointer (some ⟨g7, 0, none⟩) := hv9 0 (by omega) 73 rfl
      have e1 : vals 1 = .int .i64 (((X : Nat) : Int)) := hv9 1 (by omega) 74 rfl
      have e2 : vals 2 = .pointer (some ⟨g, 0, none⟩) := hv9 2 (by omega) 75 rfl
      have e3 : vals 3 = .pointer (some ⟨g, 0, none⟩) := hv9 3 (by omega) 76 rfl
      have e4 : vals 4 = .pointer (some ⟨g, 1, none⟩) := hv9 4 (by omega) 77 rfl
      have e5 : vals 5 = .slice (I) (s.its.length) (ci) := hv9 5 (by omega) 78 rfl
      have e6 : vals 6 = .int .i64 ((s.its.length : Nat)) := hv9 6 (by omega) 79 rfl
      have e7 : vals 7 = .bool (false) := hv9 7 (by omega) 80 rfl
      simp only [putAll, Act.put, List.take_succ_cons, List.take_zero, List.drop_succ_cons, List.drop_zero, List.drop_nil, List.take_nil, Nat.reduceAdd, List.setIfInBounds_toArray, List.set_cons_succ, List.set_cons_zero, e0, e1, e2, e3, e4, e5, e6, e7]
      clear hv9 e0 e1 e2 e3 e4 e5 e6 e7
      replace hBg := hBg.ext hE9
      replace rG := rG.ext hE9
      replace rV := rV.ext hE9
      replace rR := rR.ext hE9
      replace rP := rP.ext hE9
      replace rQ := rQ.ext hE9
      replace rI := rI.ext hE9
      replace hB4 := hB4.ext hE9
      replace hB7 := hB7.ext hE9
      replace hEa := hEa.trans hE9
      clear hE9
      go_upto_region 11 with (fail)
      by_cases c4 : (n : Int) = (X : Int) - (s.its.length : Int)
      · have hits : ∀ a ∈ ITS, a.length ≤ 1000000 := hits0 (by rw [hIl]; exact c4)
        clear hits0
        have e4 : decide (((n : Nat) : Int) ≠ ((X : Nat) : Int) - ((s.its.length : Nat) : Int)) = false := decide_eq_false (fun h => h c4)
        refine par_ext (n := 11) (by kernel_rfl) [.is (.slice (A) (n) (c)), .is (.int .i64 ((n : Nat))), .is (.pointer (some ⟨g7, 0, none⟩)), .is (.int .i64 (((X : Nat) : Int))), .is (.pointer (some ⟨g, 0, none⟩)), .is (.pointer (some ⟨g, 0, none⟩)), .is (.pointer (some ⟨g, 1, none⟩)), .is (.slice (I) (s.its.length) (ci)), .is (.int .i64 ((s.its.length : Nat))), .is (.int .i64 (((X : Nat) : Int) - (s.its.length : Nat))), .is (.bool (false))] rfl ⟨?_, ?_, ?_, ?_, ?_, ?_, ?_, ?_, ?_, ?_, ?_, trivial⟩ ?_
        · refine stepE rfl fun sdn sa sw sE sd sk => ?_
          have h2 : sa.eval (.tmp 2) = .slice (A) (n) (c) := sk.old 2 rfl
          exact Runs.move rfl h2 ⟨Ext.refl _, rfl⟩
        · refine stepE rfl fun sdn sa sw sE sd sk => ?_
          have h82 : sa.eval (.tmp 82) = .slice (A) (n) (c) := sk.fact 0 82 rfl (sd 0 rfl)
          exact Runs.len Tryz.underlying33 rfl h82 ⟨Ext.refl _, rfl⟩
        · refine stepE rfl fun sdn sa sw sE sd sk => ?_
          have h7 : sa.eval (.tmp 7) = .pointer (some ⟨g7, 0, none⟩) := sk.old 7 rfl
          refine Runs.of_run (r := .pointer (some ⟨g7, 0, none⟩)) (w' := sw) ?_ ⟨Ext.refl _, rfl⟩
          unfold execOp
          simp only [h7]
          go_simp
        · refine stepE rfl fun sdn sa sw sE sd sk => ?_
          have h84 : sa.eval (.tmp 84) = .pointer (some ⟨g7, 0, none⟩) := sk.fact 2 84 rfl (sd 2 rfl)
          exact Runs.load rfl h84 (run_load1 Tryz.underlying3 rfl ((hB7.ext sE).cell (i := 0) rfl)) ⟨Ext.refl _, rfl⟩
        · refine stepE rfl fun sdn sa sw sE sd sk => ?_
          have h0 : sa.eval (.tmp 0) = .pointer (some ⟨g, 0, none⟩) := sk.old 0 rfl
          exact Runs.move rfl h0 ⟨Ext.refl _, rfl⟩
        · refine stepE rfl fun sdn sa sw sE sd sk => ?_
          have h86 : sa.eval (.tmp 86) = .pointer (some ⟨g, 0, none⟩) := sk.fact 4 86 rfl (sd 4 rfl)
          exact Runs.nil_ rfl h86 ⟨Ext.refl _, rfl⟩
        · refine stepE rfl fun sdn sa sw sE sd sk => ?_
          have h87 : sa.eval (.tmp 87) = .pointer (some ⟨g, 0, none⟩) := sk.fact 5 87 rfl (sd 5 rfl)
          refine Runs.of_run (r := .pointer (some ⟨g, 1, none⟩)) (w' := sw) ?_ ⟨Ext.refl _, rfl⟩
          unfold execOp
          simp only [h87]
          go_simp
        · refine stepE rfl fun sdn sa sw sE sd sk => ?_
          have h88 : sa.eval (.tmp 88) = .pointer (some ⟨g, 1, none⟩) := sk.fact 6 88 rfl (sd 6 rfl)
          exact Runs.load rfl h88 (run_load1 Tryz.underlying33 rfl ((hBg.ext sE).cell (i := 1) rfl)) ⟨Ext.refl _, rfl⟩
        · refine stepE rfl fun sdn sa sw sE sd sk => ?_
          have h89 : sa.eval (.tmp 89) = .slice (I) (s.its.length) (ci) := sk.fact 7 89 rfl (sd 7 rfl)
          exact Runs.len Tryz.underlying33 rfl h89 ⟨Ext.refl _, rfl⟩
        · refine stepE rfl fun sdn sa sw sE sd sk => ?_
          have h85 : sa.eval (.tmp 85) = .int .i64 (((X : Nat) : Int)) := sk.fact 3 85 rfl (sd 3 rfl)
          have h90 : sa.eval (.tmp 90) = .int .i64 ((s.its.length : Nat)) := sk.fact 8 90 rfl (sd 8 rfl)
          exact Runs.bin rfl h85 h90 (eqGuard_bin rfl) (bin_sub64 _ _ _ (by omega) (by omega)) ⟨Ext.refl _, rfl⟩
        · refine stepE rfl fun sdn sa sw sE sd sk => ?_
          have h83 : sa.eval (.tmp 83) = .int .i64 ((n : Nat)) := sk.fact 1 83 rfl (sd 1 rfl)
          have h91 : sa.eval (.tmp 91) = .int .i64 (((X : Nat) : Int) - (s.its.length : Nat)) := sk.fact 9 91 rfl (sd 9 rfl)
          exact Runs.bin rfl h83 h91 (by rfl) (bin_neq _ _ _ _) ⟨Ext.refl _, congrArg Value.bool (e4)⟩
        intro vals W11 hE11 hv11
        have e0 : vals 0 = .slice (A) (n) (c) := hv11 0 (by omega) 82 rfl
        have e1 : vals 1 = .int .i64 ((n : Nat)) := hv11 1 (by omega) 83 rfl
        have e2 : vals 2 = .pointer (some ⟨g7, 0, none⟩) := hv11 2 (by omega) 84 rfl
        have e3 : vals 3 = .int .i64 (((X : Nat) : Int)) := hv11 3 (by omega) 85 rfl
        have e4 : vals 4 = .pointer (some ⟨g, 0, none⟩) := hv11 4 (by omega) 86 rfl
        have e5 : vals 5 = .pointer (some ⟨g, 0, none⟩) := hv11 5 (by omega) 87 rfl
        have e6 : vals 6 = .pointer (some ⟨g, 1, none⟩) := hv11 6 (by omega) 88 rfl
        have e7 : vals 7 = .slice (I) (s.its.length) (ci) := hv11 7 (by omega) 89 rfl
        have e8 : vals 8 = .int .i64 ((s.its.length : Nat)) := hv11 8 (by omega) 90 rfl
        have e9 : vals 9 = .int .i64 (((X : Nat) : Int) - (s.its.length : Nat)) := hv11 9 (by omega) 91 rfl
        have e10 : vals 10 = .bool (false) := hv11 10 (by omega) 92 rfl
        simp only [putAll, Act.put, List.take_succ_cons, List.take_zero, List.drop_succ_cons, List.drop_zero, List.drop_nil, List.take_nil, Nat.reduceAdd, List.setIfInBounds_toArray, List.set_cons_succ, List.set_cons_zero, e0, e1, e2, e3, e4, e5, e6, e7, e8, e9, e10]
        clear hv11 e0 e1 e2 e3 e4 e5 e6 e7 e8 e9 e10
        replace hBg := hBg.ext hE11
        replace rG := rG.ext hE11
        replace rV := rV.ext hE11
        replace rR := rR.ext hE11
        replace rP := rP.ext hE11
        replace rQ := rQ.ext hE11
        replace rI := rI.ext hE11
        replace hB4 := hB4.ext hE11
        replace hB7 := hB7.ext hE11
        replace hEa := hEa.trans hE11
        clear hE11 e1
        have hX : X = s.its.length + n := by omega
        have Hx := Lib.hid hX
        have hsm : s.its.length + n ≤ 256 := by omega
        clear c4 hX
        have hcl := bbclone_any V s.its.length cv _ W11 rV (by omega)
        have Hcl := Lib.hid hcl
        have Hcv2 := Hcv
        clear hcl
        have y2 := hBg.cell (i := 2) (v := .slice V s.its.length cv) rfl
        go_wp2_with fail
        refine Hcl.out.mono ?_
        rintro e w13 ⟨P3, d3, rfl, own3, hE13⟩
        clear y2 Hcl e4
        go_wp2_with fail
        go_loopw [8, 100] (fun v i wr => LvM W11 s.its.length (s.its.map leafH) ITS v i wr) (fun _ i _ => n - (intOf i).toNat)
        case atStart => exact ⟨0, d3, P3, by omega, rfl, rfl, by simpa using own3, hE13⟩
        case round =>
          obtain ⟨p, d1, P1, hp, rfl, rfl, own, hEr⟩ := hrel
          rw [hIl] at hp
          by_cases hlt : p < n
          · have hpn : (p : Int) < (n : Int) := by omega
            obtain ⟨ad, rfl, hc⟩ := rI.cells (by omega)
            obtain ⟨E, z, y, hcell, hrE⟩ := hc p (by omega)
            have y1 := hEr.cell hcell
            have rE := hrE.ext hEr
            have hz : z ≤ 1000000 := by
              have h1 := hrE.len
              have h2 := hits (lb ITS p) (lb_mem (by omega))
              omega
            have hcu := trleaf_any E z y _ wr rE (by omega)
            have Hcu := Lib.hid hcu
            clear hcu hc hcell
            go_wp2_with fail
            refine Hcu.out.mono ?_
            rintro e w2 ⟨E1, z1, rfl, ownC, hE2⟩
            clear Hcu
            have hEl := Ext.new w2 (.cells #[.slice E1 32 z1] 26)
            have hBa := Blk.new w2 26 #[.slice E1 32 z1]
            have own4 := (own.ext hE2).ext hEl
            have hne : 0 < 32 → blk E1 ≠ blk P1 := by
              intro hz e
              obtain ⟨b, hb⟩ : ∃ b, blk E1 = some b := by
                obtain ⟨ad', h1, _⟩ := ownC.rb.cells (by omega)
                rw [h1]
                exact ⟨_, rfl⟩
              have h1 := ownC.lt hb
              have h2 := own.lt (e.symm.trans hb)
              omega
            go_wp2_with (refine appbc_law (base := W11.heap.size) (Y := leafH (lb ITS p)) rfl rfl rfl rfl (by rw [add_plain]; exact hBa.cell (i := 0) rfl) own4 (ownC.rb.ext hEl) hne ((hEr.trans hE2).trans hEl).size (by omega) ?_; intro P5 d5 w5 own5 g5)
            go_roundw
            case rel =>
              rw [List.append_assoc, ← leaf_snoc ITS (by omega)] at own5
              exact ⟨p + 1, d5, P5, by omega, by go_num, rfl, own5, ((hEr.trans hE2).trans hEl).then_grown g5 (fun b hb => (own4.lt hb).1)⟩
            case measure => simp [intOf]; omega
          · obtain rfl : n = p := by omega
            have hpn : ¬ (n : Int) < (n : Int) := by omega
            rw [List.take_of_length_le (by omega), ← List.map_append] at own
            have rAll := own.rbb
            have l32 : ∀ a ∈ (s.its ++ ITS).map leafH, a.length = 32 := fun a ha => leaf_len (s.its ++ ITS) a ha
            have sz11 := hEa.size
            replace hBg := hBg.ext hEr
            replace rG := rG.ext hEr
            replace rV := rV.ext hEr
            replace rR := rR.ext hEr
            replace rP := rP.ext hEr
            replace rQ := rQ.ext hEr
            replace rI := rI.ext hEr
            replace hB4 := hB4.ext hEr
            replace hB7 := hB7.ext hEr
            replace hEa := hEa.trans hEr
            clear hEr hE13 own3
            go_upto_region 19 with (fail)
            by_cases c5 : rootL ((s.its ++ ITS).map leafH) = R
            · have e5 : decide (rootL ((s.its ++ ITS).map leafH) = R) = true := decide_eq_true c5
              have Hr := Lib.hid (feed_ok (its := ITS) Hcv.out c1 (by have := Hx.out; omega) c5)
              refine par_ext (n := 6) (by kernel_rfl) [.is (.slice (P1) ((s.its.length + n)) (d1)), .rk (32) (rootL ((s.its ++ ITS).map leafH)), .is (.pointer (some ⟨g7, 1, none⟩)), .is (.slice (B) (nb) (d)), .is (.bool (true)), .is (.bool (false))] rfl ⟨?_, ?_, ?_, ?_, ?_, ?_, trivial⟩ ?_
              · refine stepE rfl fun sdn sa sw sE sd sk => ?_
                have h8 : sa.eval (.tmp 8) = .slice (P1) ((s.its.length + n)) (d1) := sk.old 8 rfl
                exact Runs.move rfl h8 ⟨Ext.refl _, rfl⟩
              · refine stepE rfl fun sdn sa sw sE sd sk => ?_
                have h110 : sa.eval (.tmp 110) = .slice (P1) ((s.its.length + n)) (d1) := sk.fact 0 110 rfl (sd 0 rfl)
                refine Runs.call (f := 41) (vs := [.slice (P1) ((s.its.length + n)) (d1)]) rfl rfl rfl (by simp only [List.map_toArray, List.map_cons, List.map_nil, h110] <;> rfl) (ent41 _ _) ((troot_any _ _ _ _ sw (by omega) (rAll.ext sE) l32).mono ?_); rintro e w' ⟨A', c', rfl, own, hx⟩; exact ⟨_, rfl, hx, A', c', rfl, own.rb⟩
              · refine stepE rfl fun sdn sa sw sE sd sk => ?_
                have h7 : sa.eval (.tmp 7) = .pointer (some ⟨g7, 0, none⟩) := sk.old 7 rfl
                refine Runs.of_run (r := .pointer (some ⟨g7, 1, none⟩)) (w' := sw) ?_ ⟨Ext.refl _, rfl⟩
                unfold execOp
                simp only [h7]
                go_simp
              · refine stepE rfl fun sdn sa sw sE sd sk => ?_
                have h112 : sa.eval (.tmp 112) = .pointer (some ⟨g7, 1, none⟩) := sk.fact 2 112 rfl (sd 2 rfl)
                exact Runs.load rfl h112 (run_load1 Tryz.underlying26 rfl ((hB7.ext sE).cell (i := 1) rfl)) ⟨Ext.refl _, rfl⟩
              · refine stepE rfl fun sdn sa sw sE sd sk => ?_
                obtain ⟨A111, c111, h111, r111⟩ := sk.fact 1 111 rfl (sd 1 rfl)
                have h113 : sa.eval (.tmp 113) = .slice (B) (nb) (d) := sk.fact 3 113 rfl (sd 3 rfl)
                refine Runs.call (f := 40) (vs := [.slice (A111) (32) (c111), .slice (B) (nb) (d)]) rfl rfl rfl (by simp only [List.map_toArray, List.map_cons, List.map_nil, h111, h113] <;> rfl) (ent40 _ _) ((hsame_any _ _ _ _ _ _ _ _ sw r111 (rR.ext sE)).mono ?_); rintro e w' ⟨rfl, rfl⟩; exact ⟨_, rfl, Ext.refl _, congrArg Value.bool (e5)⟩
              · refine stepE rfl fun sdn sa sw sE sd sk => ?_
                have h114 : sa.eval (.tmp 114) = .bool (true) := sk.fact 4 114 rfl (sd 4 rfl)
                exact Runs.un rfl h114 (by rfl) ⟨Ext.refl _, rfl⟩
              intro vals W19 hE19 hv19
              have e0 : vals 0 = .slice (P1) ((s.its.length + n)) (d1) := hv19 0 (by omega) 110 rfl
              obtain ⟨A111, c111, e1, r111⟩ := hv19 1 (by omega) 111 rfl
              have e2 : vals 2 = .pointer (some ⟨g7, 1, none⟩) := hv19 2 (by omega) 112 rfl
              have e3 : vals 3 = .slice (B) (nb) (d) := hv19 3 (by omega) 113 rfl
              have e4 : vals 4 = .bool (true) := hv19 4 (by omega) 114 rfl
              have e5 : vals 5 = .bool (false) := hv19 5 (by omega) 115 rfl
              simp only [putAll, Act.put, List.take_succ_cons, List.take_zero, List.drop_succ_cons, List.drop_zero, List.drop_nil, List.take_nil, Nat.reduceAdd, List.setIfInBounds_toArray, List.set_cons_succ, List.set_cons_zero, e0, e1, e2, e3, e4, e5]
              clear hv19 e0 e1 e2 e3 e4 e5
              have own19 := own.ext hE19
              replace hBg := hBg.ext hE19
              replace rG := rG.ext hE19
              replace rV := rV.ext hE19
              replace rR := rR.ext hE19
              replace rP := rP.ext hE19
              replace rQ := rQ.ext hE19
              replace rI := rI.ext hE19
              replace hB4 := hB4.ext hE19
              replace hB7 := hB7.ext hE19
              replace rAll := rAll.ext hE19
              replace hEa := hEa.trans hE19
              clear hE19 own e5
              have M19 := hA.ext hEa
              have hn2 : NoB (phi2 I g) W19 := fun k hk => M19.nob k (hk.elim .inl (fun h => .inr (.inl h)))
              have hp2 : ∀ k, phi2 I g k → base ≤ k ∧ k < w.heap.size := fun k hk => hA.lt (hk.elim .inl (fun h => .inr (.inl h)))
              have hp3 : ∀ k, phi2 I g k → phiM I Al g k := fun k hk => hk.elim .inl (fun h => .inr (.inl h))
              have kI19 : Keep (phi2 I g) (fun w => RBB w A n c ITS) W19 := (kI.ext hEa).sub hp3
              go_wp2_with fail
              go_loopw [118] (fun i wr => FdI W19 base g I (fun I1 n1 c1 => monC2 G I1 V Al R0 P0 Q0 cg n1 c1 s.its.length cv s.al.length ca nr cr np0 cp0 nq0 cq0 s.lx s.li s.has) s.its ITS i wr) (fun i _ => n - (intOf i).toNat)
              case atStart =>
                refine ⟨0, I, ci, vs, by omega, rfl, Upd.refl _ _, .inl rfl, hBg, M19.row, fun j hj => ?_⟩
                obtain ⟨B, m, d, h1, h2⟩ := M19.el j hj
                exact ⟨B, m, d, h1, by rw [lb_app_l hj]; exact h2⟩
              case round =>
                obtain ⟨p, I1, k1, vs1, hp, rfl, hU, hbI, hBg1, row1, el1⟩ := hrel
                rw [hIl] at hp
                by_cases hlt : p < n
                · have hpn : (p : Int) < (n : Int) := by omega
                  obtain ⟨ad, rfl, hc⟩ := (kI19.at_ hU).cells (by omega)
                  obtain ⟨E, z, y, hcell, hrE⟩ := hc p (by omega)
                  have hz : z ≤ 1000000 := by
                    have h1 := hrE.len
                    have h2 := hits (lb ITS p) (lb_mem (by omega))
                    omega
                  have rE : Keep (phi1 I1) (fun w => RB w E z y (lb ITS p)) wr := hrE.keepS row1.nob
                  have hBgp := hBg1
                  have hBg2 : Keep (phi1 I1) (fun w => Blk w g 42 (monC2 G I1 V Al R0 P0 Q0 cg (s.its.length + p) k1 s.its.length cv s.al.length ca nr cr np0 cp0 nq0 cq0 s.lx s.li s.has)) wr := fun w' u => hBgp.upd u (fun h => row1.ne_blk hBgp (by decide) h)
                  have hlt1 : ∀ k, phi1 I1 k → k < wr.heap.size := fun k hk => (row1.lt hk).2
                  have hbz : base ≤ wr.heap.size := Nat.le_trans M19.ge (Nat.le_of_lt (Nat.lt_of_lt_of_le hBg.lt hU.size))
                  have hnb1 := row1.nob
                  have hZ : ∀ v w w', Ext w w' → ZItem wr.heap.size base I1 (s.its.length + p + 1) vs1 z (lb ITS p) v w → ZItem wr.heap.size base I1 (s.its.length + p + 1) vs1 z (lb ITS p) v w' := ZItem.ext
                  clear hc hrE
                  go_upto_region 24 with (fail)
                  clear hcell
                  refine par_one (n := 9) (phi1 I1) 8 130 (ZItem wr.heap.size base I1 (s.its.length + p + 1) vs1 z (lb ITS p)) (by kernel_rfl) [.is (.pointer (some ⟨g, 0, none⟩)), .is (.pointer (some ⟨g, 0, none⟩)), .is (.pointer (some ⟨g, 0, none⟩)), .is (.pointer (some ⟨g, 1, none⟩)), .is (.slice (I1) ((s.its.length + p)) (k1)), .is (.slice (E) (z) (y)), .kp (fun u w => ∃ A c, u = .slice A (z) c ∧ RB w A (z) c (lb ITS p)), .kp (fun u w => ∃ y B d, u = .slice (some ⟨y, 0, none⟩) 1 1 ∧ Blk w y 26 #[.slice B (z) d] ∧ RB w B (z) d (lb ITS p)), .any] rfl rfl (by decide) ⟨?_, ?_, ?_, ?_, ?_, ?_, ?_, ?_, ?_, trivial⟩ ?_
                  · refine step1 hZ rfl (by decide) fun sdn sa sw sU sd sk => ?_
                    have h0 : sa.eval (.tmp 0) = .pointer (some ⟨g, 0, none⟩) := sk.old 0 rfl
                    exact Runs.move rfl h0 ⟨Ext.refl _, rfl⟩
                  · refine step1 hZ rfl (by decide) fun sdn sa sw sU sd sk => ?_
                    have h0 : sa.eval (.tmp 0) = .pointer (some ⟨g, 0, none⟩) := sk.old 0 rfl
                    exact Runs.move rfl h0 ⟨Ext.refl _, rfl⟩
                  · refine step1 hZ rfl (by decide) fun sdn sa sw sU sd sk => ?_
                    have h123 : sa.eval (.tmp 123) = .pointer (some ⟨g, 0, none⟩) := sk.fact 1 123 rfl (sd 1 rfl)
                    exact Runs.nil_ rfl h123 ⟨Ext.refl _, rfl⟩
                  · refine step1 hZ rfl (by decide) fun sdn sa sw sU sd sk => ?_
                    have h124 : sa.eval (.tmp 124) = .pointer (some ⟨g, 0, none⟩) := sk.fact 2 124 rfl (sd 2 rfl)
                    refine Runs.of_run (r := .pointer (some ⟨g, 1, none⟩)) (w' := sw) ?_ ⟨Ext.refl _, rfl⟩
                    unfold execOp
                    simp only [h124]
                    go_simp
                  · refine step1 hZ rfl (by decide) fun sdn sa sw sU sd sk => ?_
                    have h125 : sa.eval (.tmp 125) = .pointer (some ⟨g, 1, none⟩) := sk.fact 3 125 rfl (sd 3 rfl)
                    exact Runs.load rfl h125 (run_load1 Tryz.underlying33 rfl ((hBg2.at_ sU).cell (i := 1) rfl)) ⟨Ext.refl _, rfl⟩
                  · refine step1 hZ rfl (by decide) fun sdn sa sw sU sd sk => ?_
                    have h12 : sa.eval (.tmp 12) = .slice (E) (z) (y) := sk.old 12 rfl
                    exact Runs.move rfl h12 ⟨Ext.refl _, rfl⟩
                  · refine step1 hZ rfl (by decide) fun sdn sa sw sU sd sk => ?_
                    have h127 : sa.eval (.tmp 127) = .slice (E) (z) (y) := sk.fact 5 127 rfl (sd 5 rfl)
                    refine Runs.call (f := 8) (vs := [.slice (E) (z) (y)]) rfl rfl rfl (by simp only [List.map_toArray, List.map_cons, List.map_nil, h127] <;> rfl) (ent8 _ _) ((clone_any _ _ _ _ sw (rE.at_ sU) (by omega)).mono ?_); rintro e w' ⟨A', c', rfl, own, hx⟩; exact ⟨_, rfl, hx, fun w2 u2 => ⟨A', c', rfl, (own.upd u2 (fun k hk h => by have := (own.lt hk).1; have := hlt1 _ h; have := sU.size; omega)).rb⟩⟩
                  · refine step1 hZ rfl (by decide) fun sdn sa sw sU sd sk => ?_
                    obtain ⟨A128, c128, h128, r128⟩ := (sk.fact 6 128 rfl (sd 6 rfl)).self
                    have kk := sk.fact 6 128 rfl (sd 6 rfl)
                    refine Runs.of_run (r := .slice (some ⟨sw.heap.size, 0, none⟩) 1 1) (w' := sw.alloc (.cells #[.slice (A128) (z) (c128)] 26)) ?_ ⟨Ext.new _ _, fun w2 u2 => ⟨_, _, _, rfl, (Blk.new _ _ _).upd u2 (fun h => by have := hlt1 _ h; have := sU.size; omega), ?_⟩⟩
                    · unfold execOp
                      simp only [List.map_toArray, List.map_cons, List.map_nil, h128]
                      go_simp
                    · obtain ⟨A2, c2, e2, r2⟩ := kk w2 ((Upd.of_ext (Ext.new _ _)).trans u2)
                      rw [h128] at e2
                      injection e2 with e2 _ e3
                      subst e2 e3
                      exact r2
                  · refine stepT rfl rfl (by first | decide | simp) fun sdn sa sw sE sd sk => ?_
                    have h126 : sa.eval (.tmp 126) = .slice (I1) ((s.its.length + p)) (k1) := sk.fact 4 126 rfl (sd 4 rfl)
                    obtain ⟨y129, B129, d129, h129, hl129, rl129⟩ := (sk.fact 7 129 rfl (sd 7 rfl)).self
                    have hn9 : ∀ (j : Nat) (u : Value), ([.slice B129 z d129] : List Value)[j]? = some u → sw.cell? ((⟨y129, 0, none⟩ : Addr).add j) = some u := fun j u hu => by rw [add_plain]; exact hl129.cell (i := j) (by rw [← hu]; exact List.getElem?_toArray)
                    exact Runs.appp kItems rfl h126 h129 (row1.ext sE) rfl hn9 one_c one_sl (by omega) (Nat.le_trans hbz sE.size) (by omega) (fun A' c' w' o1 g1 b1 => ⟨Upd.of_grown g1 (fun k hk => hk), ⟨A', c', rfl, ⟨B129, d129, o1, (rl129.keepS (hnb1.ext sE)).at_ (Upd.of_grown g1 (fun k hk => hk))⟩, b1.elim Or.inl (fun e => Or.inr (fun k hk => by rw [e] at hk; injection hk with hk; have := sE.size; omega))⟩, trivial⟩)
                  intro vals W24 hE24 hZ24 hv24
                  have e0 : vals 0 = .pointer (some ⟨g, 0, none⟩) := hv24 0 (by omega) 122 rfl
                  have e1 : vals 1 = .pointer (some ⟨g, 0, none⟩) := hv24 1 (by omega) 123 rfl
                  have e2 : vals 2 = .pointer (some ⟨g, 0, none⟩) := hv24 2 (by omega) 124 rfl
                  have e3 : vals 3 = .pointer (some ⟨g, 1, none⟩) := hv24 3 (by omega) 125 rfl
                  have e4 : vals 4 = .slice (I1) ((s.its.length + p)) (k1) := hv24 4 (by omega) 126 rfl
                  have e5 : vals 5 = .slice (E) (z) (y) := hv24 5 (by omega) 127 rfl
                  obtain ⟨A128, c128, e6, r128⟩ := (hv24 6 (by omega) 128 rfl).self
                  obtain ⟨y129, B129, d129, e7, hl129, rl129⟩ := (hv24 7 (by omega) 129 rfl).self
                  obtain ⟨A130, c130, e8, oZ24, bZ24⟩ := hZ24
                  simp only [putAll, Act.put, List.take_succ_cons, List.take_zero, List.drop_succ_cons, List.drop_zero, List.drop_nil, List.take_nil, Nat.reduceAdd, List.setIfInBounds_toArray, List.set_cons_succ, List.set_cons_zero, e0, e1, e2, e3, e4, e5, e6, e7, e8]
                  clear hv24 e0 e1 e2 e3 e4 e5 e6 e7 e8
                  obtain ⟨E2, z2, oR24, rR24⟩ := oZ24
                  have hBg4 := hBg2.at_ hE24
                  have f1 := hBg4.frozen 1
                  have x1 := hBg4.cell (i := 1) (v := .slice I1 (s.its.length + p) k1) rfl
                  go_wp2_with fail
                  go_roundw
                  case rel =>
                    have gs := grown_set W24 ⟨g, 1, none⟩ (.slice A130 (s.its.length + p + 1) c130)
                    have uF : Upd (phi2 I1 g) wr (W24.setCell ⟨g, 1, none⟩ (.slice A130 (s.its.length + p + 1) c130)) := (hE24.mono (fun k _ hk => .inr hk)).trans (Upd.of_grown gs (fun k hk => by
                      have hk2 : g = k := Option.some.inj hk
                      exact .inl hk2.symm))
                    have hnbI : NoB (phi2 I1 g) wr := fun k hk => by
                      rcases hk with rfl | hk
                      · exact ⟨_, _, hBgp, mon_no2 _ _ _ _ _ _ _ _ _ _ _ _ _ _ _ _ _ _ _ _ _ _ _⟩
                      · exact hnb1 k hk
                    have rR2 : RB (W24.setCell ⟨g, 1, none⟩ (.slice A130 (s.its.length + p + 1) c130)) E2 z z2 (lb ITS p) := rR24.grown gs (rR24.apart5 hBg4 (mon_no2 _ _ _ _ _ _ _ _ _ _ _ _ _ _ _ _ _ _ _ _ _ _ _))
                    refine ⟨p + 1, A130, c130, vs1 ++ [.slice E2 z z2], by omega, by go_num, hU.then_ uF ?_, ?_, hBg4.set 1 (.slice A130 (s.its.length + p + 1) c130), oR24.grown gs (fun k hk e => oR24.ne_blk hBg4 (by decide) (hk.trans e)), fun j hj => ?_⟩
                    · rintro k hk (h | h)
                      · exact .inl h
                      · rcases hbI with e | e
                        · exact .inr (e.symm.trans h)
                        · have := e k h
                          omega
                    · rcases bZ24 with e | e
                      · rcases hbI with e' | e'
                        · exact .inl (e.trans e')
                        · exact .inr (fun k hk => e' k (e.symm.trans hk))
                      · exact .inr (fun k hk => Nat.le_trans hU.size (e k hk))
                    · by_cases hj2 : j < s.its.length + p
                      · obtain ⟨B, m, d, h1, h2⟩ := el1 j hj2
                        exact ⟨B, m, d, by rw [List.getElem?_append_left (by rw [row1.1]; omega)]; exact h1, (h2.keepS hnbI).at_ uF⟩
                      · obtain rfl : j = s.its.length + p := by omega
                        refine ⟨E2, z, z2, by rw [List.getElem?_append_right (by rw [row1.1]; omega), row1.1, Nat.mul_one, Nat.sub_self]; rfl, ?_⟩
                        rw [lb_app_r (by omega), show s.its.length + p - s.its.length = p by omega]
                        exact rR2
                  case measure => simp [intOf]; omega
                · obtain rfl : n = p := by omega
                  have hpn : ¬ (n : Int) < (n : Int) := by omega
                  have hUM : Upd (phiM I Al g) W19 wr := hU.mono (fun k _ => hp3 k)
                  have rR1 := (kR.ext hEa).at_ hUM
                  have rP1 := (kP.ext hEa).at_ hUM
                  have rQ1 := (kQ.ext hEa).at_ hUM
                  have hB41 := hB4.upd hU (fun h => by have := (hp2 _ h).2; omega)
                  have rAl1 : RBB wr P1 (s.its.length + n) d1 ((s.its ++ ITS).map leafH) := (rAll.keepS hn2 (fun _ k hk h => by have := (own19.lt hk).1; have := (hp2 _ h).2; omega)).at_ hU
                  have rG1 := (rG.keepS hn2).at_ hU
                  have als1 : OwP isI1 54 2 wr base Al s.al.length ca (alC s.al) := M19.als.upd hU (by
                    rintro k hk (h | h)
                    · subst h
                      exact M19.als.ne_blk hBg (by decide) hk
                    · obtain ⟨cs, h1, _⟩ := M19.row.blk_ h
                      exact M19.als.ne_blk h1 (by decide) hk)
                  have hAlt : ∀ k, blk Al = some k → k < w.heap.size := fun k hk => (hA.lt (.inr (.inr hk))).2
                  have hIlt : ∀ k, blk I = some k → k < w.heap.size := fun k hk => (hA.lt (.inr (.inl hk))).2
                  have hglt : g < w.heap.size := (hA.lt (.inl rfl)).2
                  have hPn := fun k hk => own19.lt (k := k) hk
                  have hnb : nb ≤ 1000000 := by
                    have := rR1.len
                    omega
                  have hnp : np ≤ 100000 := by
                    have := rP1.len
                    omega
                  have hnq : nq ≤ 100000 := by
                    have := rQ1.len
                    omega
                  have hcc := ccopy_any X i B P Q nb d np cp nq cq R Ps Qs wr rR1 hnb rP1 rQ1 hnp hnq (fun a ha => by rw [hPs.2 a ha]; decide) (fun a ha => by rw [hQs.2 a ha]; decide)
                  have Hcc := Lib.hid hcc
                  clear hcc rR1 rP1 rQ1 rR rP rQ rI rG rV rAll own19 hB7
                  have z0 := hB41.cell (i := 0) (v := .int .i64 ((X : Nat) : Int)) rfl
                  have z1 := hB41.cell (i := 1) (v := .slice B nb d) rfl
                  have z2 := hB41.cell (i := 2) (v := .int .i64 i) rfl
                  have z3 := hB41.cell (i := 3) (v := .slice P np cp) rfl
                  have z4 := hB41.cell (i := 4) (v := .slice Q nq cq) rfl
                  go_wp2_with fail
                  refine Hcc.out.mono ?_
                  rintro e w26 ⟨B5, cb5, P5, c5x, Q5, d5, rfl, oR, oP, oQ, hE26⟩
                  clear Hcc z0 z1 z2 z3 z4
                  have b0 := hBg1.ext hE26
                  have fx2 := b0.frozen 2
                  have xx2 := b0.cell (i := 2) rfl
                  have fx4 := b0.frozen 4
                  have xx4 := b0.cell (i := 4) rfl
                  have fx5 := b0.frozen 5
                  have xx5 := b0.cell (i := 5) rfl
                  have fx6 := b0.frozen 6
                  have xx6 := b0.cell (i := 6) rfl
                  have fx7 := b0.frozen 7
                  have xx7 := b0.cell (i := 7) rfl
                  have fx8 := b0.frozen 8
                  have xx8 := b0.cell (i := 8) rfl
                  have fx9 := b0.frozen 9
                  have xx9 := b0.cell (i := 9) rfl
                  go_wp2_with fail
                  go_ret
                  rw [Hr.out.1, Hr.out.2]
                  have hlen : (s.its ++ ITS).length = s.its.length + n := by rw [List.length_append, hIl]
                  have b1 := b0.set 2 (.slice P1 (s.its.length + n) d1)
                  have b2 := b1.set 4 (.int .i64 ((X : Nat) : Int))
                  have b3 := b2.set 5 (.slice B5 nb cb5)
                  have b4 := b3.set 6 (.int .i64 i)
                  have b5 := b4.set 7 (.slice P5 np c5x)
                  have b6 := b5.set 8 (.slice Q5 nq d5)
                  have b7 := b6.set 9 (.bool true)
                  have u0 : Upd (fun k => k = g) w26 (w26.setCell ⟨g, 2, none⟩ (.slice P1 (s.its.length + n) d1)) := Upd.of_grown (grown_set _ ⟨g, 2, none⟩ (.slice P1 (s.its.length + n) d1)) (fun k hk => (Option.some.inj hk).symm)
                  have u1 : Upd (fun k => k = g) (w26.setCell ⟨g, 2, none⟩ (.slice P1 (s.its.length + n) d1)) ((w26.setCell ⟨g, 2, none⟩ (.slice P1 (s.its.length + n) d1)).setCell ⟨g, 4, none⟩ (.int .i64 ((X : Nat) : Int))) := Upd.of_grown (grown_set _ ⟨g, 4, none⟩ (.int .i64 ((X : Nat) : Int))) (fun k hk => (Option.some.inj hk).symm)
                  have u2 : Upd (fun k => k = g) ((w26.setCell ⟨g, 2, none⟩ (.slice P1 (s.its.length + n) d1)).setCell ⟨g, 4, none⟩ (.int .i64 ((X : Nat) : Int))) (((w26.setCell ⟨g, 2, none⟩ (.slice P1 (s.its.length + n) d1)).setCell ⟨g, 4, none⟩ (.int .i64 ((X : Nat) : Int))).setCell ⟨g, 5, none⟩ (.slice B5 nb cb5)) := Upd.of_grown (grown_set _ ⟨g, 5, none⟩ (.slice B5 nb cb5)) (fun k hk => (Option.some.inj hk).symm)
                  have u3 : Upd (fun k => k = g) (((w26.setCell ⟨g, 2, none⟩ (.slice P1 (s.its.length + n) d1)).setCell ⟨g, 4, none⟩ (.int .i64 ((X : Nat) : Int))).setCell ⟨g, 5, none⟩ (.slice B5 nb cb5)) ((((w26.setCell ⟨g, 2, none⟩ (.slice P1 (s.its.length + n) d1)).setCell ⟨g, 4, none⟩ (.int .i64 ((X : Nat) : Int))).setCell ⟨g, 5, none⟩ (.slice B5 nb cb5)).setCell ⟨g, 6, none⟩ (.int .i64 i)) := Upd.of_grown (grown_set _ ⟨g, 6, none⟩ (.int .i64 i)) (fun k hk => (Option.some.inj hk).symm)
                  have u4 : Upd (fun k => k = g) ((((w26.setCell ⟨g, 2, none⟩ (.slice P1 (s.its.length + n) d1)).setCell ⟨g, 4, none⟩ (.int .i64 ((X : Nat) : Int))).setCell ⟨g, 5, none⟩ (.slice B5 nb cb5)).setCell ⟨g, 6, none⟩ (.int .i64 i)) (((((w26.setCell ⟨g, 2, none⟩ (.slice P1 (s.its.length + n) d1)).setCell ⟨g, 4, none⟩ (.int .i64 ((X : Nat) : Int))).setCell ⟨g, 5, none⟩ (.slice B5 nb cb5)).setCell ⟨g, 6, none⟩ (.int .i64 i)).setCell ⟨g, 7, none⟩ (.slice P5 np c5x)) := Upd.of_grown (grown_set _ ⟨g, 7, none⟩ (.slice P5 np c5x)) (fun k hk => (Option.some.inj hk).symm)
                  have u5 : Upd (fun k => k = g) (((((w26.setCell ⟨g, 2, none⟩ (.slice P1 (s.its.length + n) d1)).setCell ⟨g, 4, none⟩ (.int .i64 ((X : Nat) : Int))).setCell ⟨g, 5, none⟩ (.slice B5 nb cb5)).setCell ⟨g, 6, none⟩ (.int .i64 i)).setCell ⟨g, 7, none⟩ (.slice P5 np c5x)) ((((((w26.setCell ⟨g, 2, none⟩ (.slice P1 (s.its.length + n) d1)).setCell ⟨g, 4, none⟩ (.int .i64 ((X : Nat) : Int))).setCell ⟨g, 5, none⟩ (.slice B5 nb cb5)).setCell ⟨g, 6, none⟩ (.int .i64 i)).setCell ⟨g, 7, none⟩ (.slice P5 np c5x)).setCell ⟨g, 8, none⟩ (.slice Q5 nq d5)) := Upd.of_grown (grown_set _ ⟨g, 8, none⟩ (.slice Q5 nq d5)) (fun k hk => (Option.some.inj hk).symm)
                  have u6 : Upd (fun k => k = g) ((((((w26.setCell ⟨g, 2, none⟩ (.slice P1 (s.its.length + n) d1)).setCell ⟨g, 4, none⟩ (.int .i64 ((X : Nat) : Int))).setCell ⟨g, 5, none⟩ (.slice B5 nb cb5)).setCell ⟨g, 6, none⟩ (.int .i64 i)).setCell ⟨g, 7, none⟩ (.slice P5 np c5x)).setCell ⟨g, 8, none⟩ (.slice Q5 nq d5)) (((((((w26.setCell ⟨g, 2, none⟩ (.slice P1 (s.its.length + n) d1)).setCell ⟨g, 4, none⟩ (.int .i64 ((X : Nat) : Int))).setCell ⟨g, 5, none⟩ (.slice B5 nb cb5)).setCell ⟨g, 6, none⟩ (.int .i64 i)).setCell ⟨g, 7, none⟩ (.slice P5 np c5x)).setCell ⟨g, 8, none⟩ (.slice Q5 nq d5)).setCell ⟨g, 9, none⟩ (.bool true)) := Upd.of_grown (grown_set _ ⟨g, 9, none⟩ (.bool true)) (fun k hk => (Option.some.inj hk).symm)
                  have uF := ((((((u0.trans u1).trans u2).trans u3).trans u4).trans u5).trans u6)
                  have hng : NoB (fun k => k = g) w26 := fun k hk => by
                    subst hk
                    exact ⟨_, _, b0, mon_no2 _ _ _ _ _ _ _ _ _ _ _ _ _ _ _ _ _ _ _ _ _ _ _⟩
                  have szE := hEa.size
                  have szU := hU.size
                  have row2 := row1.ext hE26
                  have als2 := als1.ext hE26
                  refine ⟨rfl, fun h => absurd rfl h, phiM I1 Al g, dltM P1 P5 Q5 (s.its ++ ITS).length np nq, ⟨G, I1, P1, Al, B5, P5, Q5, cg, k1, d1, ca, nb, cb5, np, c5x, nq, d5, vs1, rfl, rfl, M19.ge, ?_, ?_, fun j hj => ?_, als2.upd uF (fun k hk h => ?_), ((rG1.ext hE26).keepS hng).at_ uF, ?_, fun _ k hk => ?_, (oR.upd uF (fun k hk h => ?_)).rb, (oP.rbb.keepS hng (fun _ k hk h => ?_)).at_ uF, fun _ k hk => ?_, (oQ.rbb.keepS hng (fun _ k hk h => ?_)).at_ uF, fun _ k hk => ?_⟩, ((Upd.of_ext hEa).trans hUM).trans ((Upd.of_ext hE26).trans (uF.mono (fun k _ h => .inl h))), ?_, ?_⟩
                  · show Blk _ g 42 (monC G I1 P1 Al B5 P5 Q5 cg (s.its ++ ITS).length k1 d1 s.al.length ca nb cb5 np c5x nq d5 X i true)
                    rw [hlen]
                    exact b7
                  · show OwP isSl1 26 1 _ base I1 (s.its ++ ITS).length k1 vs1
                    rw [hlen]
                    exact row2.upd uF (fun k hk h => by subst h; exact row2.ne_blk b0 (by decide) hk)
                  · obtain ⟨B6, m6, d6, h1, h2⟩ := el1 j (by rw [← hlen]; exact hj)
                    exact ⟨B6, m6, d6, h1, ((h2.ext hE26).keepS hng).at_ uF⟩
                  · subst h
                    exact als2.ne_blk b0 (by decide) hk
                  · show RBB _ P1 (s.its ++ ITS).length d1 ((s.its ++ ITS).map leafH)
                    rw [hlen]
                    exact ((rAl1.ext hE26).keepS hng (fun _ k hk h => by have := (hPn k hk).1; omega)).at_ uF
                  · have := hPn k hk
                    rintro (h | h | h)
                    · omega
                    · rcases hbI with e | e
                      · have := hIlt k (e.symm.trans h)
                        omega
                      · have := e k h
                        omega
                    · have := hAlt k h
                      omega
                  · have := (oR.lt hk).1
                    omega
                  · have := (oP.lt hk).1
                    omega
                  · have := (oP.lt hk).1
                    rintro (h | h | h)
                    · omega
                    · have := (row1.lt h).2
                      omega
                    · have := hAlt k h
                      omega
                  · have := (oQ.lt hk).1
                    omega
                  · have := (oQ.lt hk).1
                    rintro (h | h | h)
                    · omega
                    · have := (row1.lt h).2
                      omega
                    · have := hAlt k h
                      omega
                  · rintro k hk (h | h | h)
                    · exact .inl h
                    · rcases hbI with e | e
                      · exact .inr (.inl (e.symm.trans h))
                      · have := e k h
                        omega
                    · exact .inr (.inr h)
                  · rintro k hk (⟨_, h⟩ | ⟨_, h⟩ | ⟨_, h⟩)
                    · have := (hPn k h).1
                      omega
                    · have := (oP.lt h).1
                      omega
                    · have := (oQ.lt h).1
                      omega
            · have e5 : decide (rootL ((s.its ++ ITS).map leafH) = R) = false := decide_eq_false c5
              have Hr := Lib.hid (feed_31 (its := ITS) Hcv.out c1 (.inr c5))
              refine par_ext (n := 6) (by kernel_rfl) [.is (.slice (P1) ((s.its.length + n)) (d1)), .rk (32) (rootL ((s.its ++ ITS).map leafH)), .is (.pointer (some ⟨g7, 1, none⟩)), .is (.slice (B) (nb) (d)), .is (.bool (false)), .is (.bool (true))] rfl ⟨?_, ?_, ?_, ?_, ?_, ?_, trivial⟩ ?_
              · refine stepE rfl fun sdn sa sw sE sd sk => ?_
                have h8 : sa.eval (.tmp 8) = .slice (P1) ((s.its.length + n)) (d1) := sk.old 8 rfl
                exact Runs.move rfl h8 ⟨Ext.refl _, rfl⟩
              · refine stepE rfl fun sdn sa sw sE sd sk => ?_
                have h110 : sa.eval (.tmp 110) = .slice (P1) ((s.its.length + n)) (d1) := sk.fact 0 110 rfl (sd 0 rfl)
                refine Runs.call (f := 41) (vs := [.slice (P1) ((s.its.length + n)) (d1)]) rfl rfl rfl (by simp only [List.map_toArray, List.map_cons, List.map_nil, h110] <;> rfl) (ent41 _ _) ((troot_any _ _ _ _ sw (by omega) (rAll.ext sE) l32).mono ?_); rintro e w' ⟨A', c', rfl, own, hx⟩; exact ⟨_, rfl, hx, A', c', rfl, own.rb⟩
              · refine stepE rfl fun sdn sa sw sE sd sk => ?_
                have h7 : sa.eval (.tmp 7) = .pointer (some ⟨g7, 0, none⟩) := sk.old 7 rfl
                refine Runs.of_run (r := .pointer (some ⟨g7, 1, none⟩)) (w' := sw) ?_ ⟨Ext.refl _, rfl⟩
                unfold execOp
                simp only [h7]
                go_simp
              · refine stepE rfl fun sdn sa sw sE sd sk => ?_
                have h112 : sa.eval (.tmp 112) = .pointer (some ⟨g7, 1, none⟩) := sk.fact 2 112 rfl (sd 2 rfl)
                exact Runs.load rfl h112 (run_load1 Tryz.underlying26 rfl ((hB7.ext sE).cell (i := 1) rfl)) ⟨Ext.refl _, rfl⟩
              · refine stepE rfl fun sdn sa sw sE sd sk => ?_
                obtain ⟨A111, c111, h111, r111⟩ := sk.fact 1 111 rfl (sd 1 rfl)
                have h113 : sa.eval (.tmp 113) = .slice (B) (nb) (d) := sk.fact 3 113 rfl (sd 3 rfl)
                refine Runs.call (f := 40) (vs := [.slice (A111) (32) (c111), .slice (B) (nb) (d)]) rfl rfl rfl (by simp only [List.map_toArray, List.map_cons, List.map_nil, h111, h113] <;> rfl) (ent40 _ _) ((hsame_any _ _ _ _ _ _ _ _ sw r111 (rR.ext sE)).mono ?_); rintro e w' ⟨rfl, rfl⟩; exact ⟨_, rfl, Ext.refl _, congrArg Value.bool (e5)⟩
              · refine stepE rfl fun sdn sa sw sE sd sk => ?_
                have h114 : sa.eval (.tmp 114) = .bool (false) := sk.fact 4 114 rfl (sd 4 rfl)
                exact Runs.un rfl h114 (by rfl) ⟨Ext.refl _, rfl⟩
              intro vals W19 hE19 hv19
              have e0 : vals 0 = .slice (P1) ((s.its.length + n)) (d1) := hv19 0 (by omega) 110 rfl
              obtain ⟨A111, c111, e1, r111⟩ := hv19 1 (by omega) 111 rfl
              have e2 : vals 2 = .pointer (some ⟨g7, 1, none⟩) := hv19 2 (by omega) 112 rfl
              have e3 : vals 3 = .slice (B) (nb) (d) := hv19 3 (by omega) 113 rfl
              have e4 : vals 4 = .bool (false) := hv19 4 (by omega) 114 rfl
              have e5 : vals 5 = .bool (true) := hv19 5 (by omega) 115 rfl
              simp only [putAll, Act.put, List.take_succ_cons, List.take_zero, List.drop_succ_cons, List.drop_zero, List.drop_nil, List.take_nil, Nat.reduceAdd, List.setIfInBounds_toArray, List.set_cons_succ, List.set_cons_zero, e0, e1, e2, e3, e4, e5]
              clear hv19 e0 e1 e2 e3 e4 e5
              go_wp2_with fail
              go_ret
              rw [Hr.out.1, Hr.out.2]
              exact FeedD.same hM (hEa.trans hE19)
      · have e4 : decide (((n : Nat) : Int) ≠ ((X : Nat) : Int) - ((s.its.length : Nat) : Int)) = true := decide_eq_true c4
        have Hr := Lib.hid (feed_31 (its := ITS) Hcv.out c1 (.inl (by rw [hIl]; exact c4)))
        refine par_ext (n := 11) (by kernel_rfl) [.is (.slice (A) (n) (c)), .is (.int .i64 ((n : Nat))), .is (.pointer (some ⟨g7, 0, none⟩)), .is (.int .i64 (((X : Nat) : Int))), .is (.pointer (some ⟨g, 0, none⟩)), .is (.pointer (some ⟨g, 0, none⟩)), .is (.pointer (some ⟨g, 1, none⟩)), .is (.slice (I) (s.its.length) (ci)), .is (.int .i64 ((s.its.length : Nat))), .is (.int .i64 (((X : Nat) : Int) - (s.its.length : Nat))), .is (.bool (true))] rfl ⟨?_, ?_, ?_, ?_, ?_, ?_, ?_, ?_, ?_, ?_, ?_, trivial⟩ ?_
        · refine stepE rfl fun sdn sa sw sE sd sk => ?_
          have h2 : sa.eval (.tmp 2) = .slice (A) (n) (c) := sk.old 2 rfl
          exact Runs.move rfl h2 ⟨Ext.refl _, rfl⟩
        · refine stepE rfl fun sdn sa sw sE sd sk => ?_
          have h82 : sa.eval (.tmp 82) = .slice (A) (n) (c) := sk.fact 0 82 rfl (sd 0 rfl)
          exact Runs.len Tryz.underlying33 rfl h82 ⟨Ext.refl _, rfl⟩
        · refine stepE rfl fun sdn sa sw sE sd sk => ?_
          have h7 : sa.eval (.tmp 7) = .pointer (some ⟨g7, 0, none⟩) := sk.old 7 rfl
          refine Runs.of_run (r := .pointer (some ⟨g7, 0, none⟩)) (w' := sw) ?_ ⟨Ext.refl _, rfl⟩
          unfold execOp
          simp only [h7]
          go_simp
        · refine stepE rfl fun sdn sa sw sE sd sk => ?_
          have h84 : sa.eval (.tmp 84) = .pointer (some ⟨g7, 0, none⟩) := sk.fact 2 84 rfl (sd 2 rfl)
          exact Runs.load rfl h84 (run_load1 Tryz.underlying3 rfl ((hB7.ext sE).cell (i := 0) rfl)) ⟨Ext.refl _, rfl⟩
        · refine stepE rfl fun sdn sa sw sE sd sk => ?_
          have h0 : sa.eval (.tmp 0) = .pointer (some ⟨g, 0, none⟩) := sk.old 0 rfl
          exact Runs.move rfl h0 ⟨Ext.refl _, rfl⟩
        · refine stepE rfl fun sdn sa sw sE sd sk => ?_
          have h86 : sa.eval (.tmp 86) = .pointer (some ⟨g, 0, none⟩) := sk.fact 4 86 rfl (sd 4 rfl)
          exact Runs.nil_ rfl h86 ⟨Ext.refl _, rfl⟩
        · refine stepE rfl fun sdn sa sw sE sd sk => ?_
          have h87 : sa.eval (.tmp 87) = .pointer (some ⟨g, 0, none⟩) := sk.fact 5 87 rfl (sd 5 rfl)
          refine Runs.of_run (r := .pointer (some ⟨g, 1, none⟩)) (w' := sw) ?_ ⟨Ext.refl _, rfl⟩
          unfold execOp
          simp only [h87]
          go_simp
        · refine stepE rfl fun sdn sa sw sE sd sk => ?_
          have h88 : sa.eval (.tmp 88) = .pointer (some ⟨g, 1, none⟩) := sk.fact 6 88 rfl (sd 6 rfl)
          exact Runs.load rfl h88 (run_load1 Tryz.underlying33 rfl ((hBg.ext sE).cell (i := 1) rfl)) ⟨Ext.refl _, rfl⟩
        · refine stepE rfl fun sdn sa sw sE sd sk => ?_
          have h89 : sa.eval (.tmp 89) = .slice (I) (s.its.length) (ci) := sk.fact 7 89 rfl (sd 7 rfl)
          exact Runs.len Tryz.underlying33 rfl h89 ⟨Ext.refl _, rfl⟩
        · refine stepE rfl fun sdn sa sw sE sd sk => ?_
          have h85 : sa.eval (.tmp 85) = .int .i64 (((X : Nat) : Int)) := sk.fact 3 85 rfl (sd 3 rfl)
          have h90 : sa.eval (.tmp 90) = .int .i64 ((s.its.length : Nat)) := sk.fact 8 90 rfl (sd 8 rfl)
          exact Runs.bin rfl h85 h90 (eqGuard_bin rfl) (bin_sub64 _ _ _ (by omega) (by omega)) ⟨Ext.refl _, rfl⟩
        · refine stepE rfl fun sdn sa sw sE sd sk => ?_
          have h83 : sa.eval (.tmp 83) = .int .i64 ((n : Nat)) := sk.fact 1 83 rfl (sd 1 rfl)
          have h91 : sa.eval (.tmp 91) = .int .i64 (((X : Nat) : Int) - (s.its.length : Nat)) := sk.fact 9 91 rfl (sd 9 rfl)
          exact Runs.bin rfl h83 h91 (by rfl) (bin_neq _ _ _ _) ⟨Ext.refl _, congrArg Value.bool (e4)⟩
        intro vals W11 hE11 hv11
        have e0 : vals 0 = .slice (A) (n) (c) := hv11 0 (by omega) 82 rfl
        have e1 : vals 1 = .int .i64 ((n : Nat)) := hv11 1 (by omega) 83 rfl
        have e2 : vals 2 = .pointer (some ⟨g7, 0, none⟩) := hv11 2 (by omega) 84 rfl
        have e3 : vals 3 = .int .i64 (((X : Nat) : Int)) := hv11 3 (by omega) 85 rfl
        have e4 : vals 4 = .pointer (some ⟨g, 0, none⟩) := hv11 4 (by omega) 86 rfl
        have e5 : vals 5 = .pointer (some ⟨g, 0, none⟩) := hv11 5 (by omega) 87 rfl
        have e6 : vals 6 = .pointer (some ⟨g, 1, none⟩) := hv11 6 (by omega) 88 rfl
        have e7 : vals 7 = .slice (I) (s.its.length) (ci) := hv11 7 (by omega) 89 rfl
        have e8 : vals 8 = .int .i64 ((s.its.length : Nat)) := hv11 8 (by omega) 90 rfl
        have e9 : vals 9 = .int .i64 (((X : Nat) : Int) - (s.its.length : Nat)) := hv11 9 (by omega) 91 rfl
        have e10 : vals 10 = .bool (true) := hv11 10 (by omega) 92 rfl
        simp only [putAll, Act.put, List.take_succ_cons, List.take_zero, List.drop_succ_cons, List.drop_zero, List.drop_nil, List.take_nil, Nat.reduceAdd, List.setIfInBounds_toArray, List.set_cons_succ, List.set_cons_zero, e0, e1, e2, e3, e4, e5, e6, e7, e8, e9, e10]
        clear hv11 e0 e1 e2 e3 e4 e5 e6 e7 e8 e9 e10
        go_wp2_with fail
        go_ret
        rw [Hr.out.1, Hr.out.2]
        exact FeedD.same hM (hEa.trans hE11)
theorem feed_any (w : World) (base g : Nat) (φ : Nat → Prop) (s : MSt) (hM : MonR w base φ g s) (x i : Int) (B P Q A : Option Addr) (nb d np cp nq cq n c : Nat) (R : List UInt8) (Ps Qs ITS : List (List UInt8))
    (kR : Keep φ (fun w => RB w B nb d R) w) (kP : Keep φ (fun w => RBB w P np cp Ps) w) (kQ : Keep φ (fun w => RBB w Q nq cq Qs) w) (kI : Keep φ (fun w => RBB w A n c ITS) w) (hits : ∀ a ∈ ITS, a.length ≤ 1000000) (hal : s.al.length ≤ 100000) :
    Calls Tryz.prog 18 #[.pointer (some ⟨g, 0, none⟩), .agg #[.int .i64 x, .slice B nb d, .int .i64 i, .slice P np cp, .slice Q nq cq], .slice A n c] w fun e w' => FeedP w base φ g (feedS s x R i Ps Qs ITS) (feedE s x R i Ps Qs ITS) e w' := by
  obtain ⟨ρ, hD⟩ := hM.toD
  exact (feed_anyd w base g φ ρ s hD x i B P Q A nb d np cp nq cq n c R Ps Qs ITS kR kP kQ kI (fun _ => hits) hal).mono fun e w' h => h.toP
end Go.Proofs.YtkndgpjamijbbaaGreat

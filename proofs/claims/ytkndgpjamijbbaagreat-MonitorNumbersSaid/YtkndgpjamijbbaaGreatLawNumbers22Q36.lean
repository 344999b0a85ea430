/-
  A monitor beside what the document says of it: law22's play, its parts. law22's play, walked. A part of a function's code, by its path. Plain definitions.
-/
import Derived.Test.YtkndgpjamijbbaaGreatLawNumbers22Q34
import Derived.Test.YtkndgpjamijbbaaGreatLawNumbers22Q35
import Derived.Test.YtkndgpjamijbbaaGreatLawNumbers22Q22
import Derived.Deep.DeepCutAuto
import Derived.Deep.CutBlock
import Derived.Test.YtkndgpjamijbbaaGreatLawNumbers22Q1
namespace Go.Proofs.YtkndgpjamijbbaaGreat
set_option maxRecDepth 100000
open Go Go.RowKit
/-- the blocks that a play turns -/
def plU (φ : Nat → Prop) (A7 : Option Addr) (g8 : Nat) (k : Nat) : Prop := φ k ∨ blk A7 = some k ∨ k = g8
/-- a monitor in state s; beside it the document's account in state t: its items (A6), its alarms (A7), its last checkpoint (block g8) -/
structure Pl (w : World) (base : Nat) (U : Nat → Prop) (g g8 : Nat) (s t : MSt) (A6 : Option Addr) (c6 : Nat) (A7 : Option Addr) (c7 : Nat) : Prop where
  ex : ∃ φ ρ, U = plU φ A7 g8 ∧ MonD w base φ ρ g s ∧ (∀ k, φ k → blk A7 ≠ some k) ∧ ∀ k, ρ k → ¬ k = g8
  als : OwP isI1 54 2 w base A7 t.al.length c7 (alC t.al)
  lst : ∃ B P Q nb d np cp nq cq, Blk w g8 40 #[.int .i64 t.lx, .slice B nb d, .int .i64 t.li, .slice P np cp, .slice Q nq cq] ∧ Keep U (fun w => RB w B nb d t.lr ∧ RBB w P np cp t.lp ∧ RBB w Q nq cq t.lq) w
  its : Keep U (fun w => RBB w A6 t.its.length c6 t.its) w
  ge : base ≤ g8
theorem sg_no8 (x i : Int) (B P Q : Option Addr) (nb d np cp nq cq : Nat) (j : Nat) (z : Int) : (#[.int .i64 x, .slice B nb d, .int .i64 i, .slice P np cp, .slice Q nq cq] : Array Value)[j]? ≠ some (.int .u8 z) := by
  rcases j with _ | _ | _ | _ | _ | j <;> simp
theorem OwP.nobI {w : World} {base n c : Nat} {A : Option Addr} {xs : List Value} (h : OwP isI1 54 2 w base A n c xs) : NoB (fun k => blk A = some k) w := fun k hk => by
  obtain ⟨cs, h1, h2⟩ := h.blk_ hk
  refine ⟨_, cs, h1, fun i x e => ?_⟩
  obtain ⟨y, h3⟩ := h2 _ (List.mem_of_getElem? (by rw [Array.getElem?_toList]; exact e))
  injection h3 with h3 _
  cases h3
section
variable {w w' : World} {base g g8 : Nat} {U : Nat → Prop} {s t : MSt} {A6 A7 : Option Addr} {c6 c7 : Nat}
theorem Pl.ext (h : Pl w base U g g8 s t A6 c6 A7 c7) (e : Ext w w') : Pl w' base U g g8 s t A6 c6 A7 c7 := by
  obtain ⟨⟨φ, ρ, h1, h2, h3⟩, h4, ⟨B, P, Q, nb, d, np, cp, nq, cq, h5, h6⟩, h7, h8⟩ := h
  exact ⟨⟨φ, ρ, h1, h2.ext e, h3⟩, h4.ext e, ⟨B, P, Q, nb, d, np, cp, nq, cq, h5.ext e, h6.ext e⟩, h7.ext e, h8⟩
theorem Pl.nob (h : Pl w base U g g8 s t A6 c6 A7 c7) : NoB U w := by
  obtain ⟨⟨φ, ρ, rfl, h2, h3⟩, h4, ⟨B, P, Q, nb, d, np, cp, nq, cq, h5, h6⟩, h7, h8⟩ := h
  rintro k (hk | hk | rfl)
  · exact h2.toR.nob k hk
  · exact h4.nobI k hk
  · exact ⟨_, _, h5, sg_no8 _ _ _ _ _ _ _ _ _ _ _⟩
theorem Pl.lt (h : Pl w base U g g8 s t A6 c6 A7 c7) {k : Nat} (hk : U k) : base ≤ k ∧ k < w.heap.size := by
  obtain ⟨⟨φ, ρ, rfl, h2, h3⟩, h4, ⟨B, P, Q, nb, d, np, cp, nq, cq, h5, h6⟩, h7, h8⟩ := h
  rcases hk with hk | hk | rfl
  · exact h2.toR.lt hk
  · exact h4.lt hk
  · exact ⟨h8, h5.lt⟩
theorem Pl.mon (h : Pl w base U g g8 s t A6 c6 A7 c7) : ∃ φ, MonR w base φ g s := by
  obtain ⟨⟨φ, ρ, rfl, h2, h3⟩, _⟩ := h
  exact ⟨φ, h2.toR⟩
theorem Pl.mon_sub (h : Pl w base U g g8 s t A6 c6 A7 c7) : ∃ φ ρ, MonD w base φ ρ g s ∧ (∀ k, φ k → U k) ∧ ∀ w' φ' ρ' s', MonD w' base φ' ρ' g s' → Upd φ w w' → (∀ k, k < w.heap.size → φ' k → φ k) → (∀ k, k < w.heap.size → ρ' k → ρ k) →
    ∃ U', Pl w' base U' g g8 s' t A6 c6 A7 c7 ∧ Upd U w w' ∧ ∀ k, k < w.heap.size → U' k → U k := by
  obtain ⟨⟨φ, ρ, rfl, h2, h3⟩, h4, ⟨B, P, Q, nb, d, np, cp, nq, cq, h5, h6⟩, h7, h8⟩ := h
  refine ⟨φ, ρ, h2, fun k hk => .inl hk, fun w' φ' ρ' s' k1 k2 k3 k4 => ?_⟩
  have hg8 : ¬ φ g8 := fun hp => by
    obtain ⟨G, I, V, Al, R, P', Q', cg, ci, cv, ca, nr, cr, np', cp', nq', cq', vs, rfl, _, hA⟩ := h2
    rcases hp with hp | hp | hp
    · exact (hp ▸ h5).ne_ hA.blk (by decide) rfl
    · exact hA.row.ne_blk h5 (by decide) hp
    · exact hA.als.ne_blk h5 (by decide) hp
  have uU : Upd (plU φ A7 g8) w w' := k2.mono (fun k _ h => .inl h)
  have hsub : ∀ k, k < w.heap.size → plU φ' A7 g8 k → plU φ A7 g8 k := fun k hk h => h.imp (k3 k hk) id
  refine ⟨plU φ' A7 g8, ⟨⟨φ', ρ', rfl, k1, fun k hk e => h3.1 k (k3 k (h4.lt e).2 hk) e, fun k hk e => h3.2 k (k4 k (by rw [e]; exact h5.lt) hk) e⟩, h4.upd k2 (fun k hk hp => h3.1 k hp hk), ⟨B, P, Q, nb, d, np, cp, nq, cq, h5.upd k2 hg8, h6.move uU hsub⟩, h7.move uU hsub, h8⟩, uU, hsub⟩
end
/-- a step of a play: what it comes to, and what it may have turned -/
def PlP (w : World) (base : Nat) (U : Nat → Prop) (g g8 : Nat) (s t : MSt) (A6 : Option Addr) (c6 : Nat) (A7 : Option Addr) (c7 : Nat) (w' : World) : Prop :=
  ∃ U', Pl w' base U' g g8 s t A6 c6 A7 c7 ∧ Upd U w w' ∧ ∀ k, k < w.heap.size → U' k → U k
theorem RBB.apart1 {w : World} {A : Option Addr} {n c : Nat} {Ls : List (List UInt8)} (h : RBB w A n c Ls) {g : Nat} {t : TypeId} {cs : Array Value} (hb : Blk w g t cs) (hno : ∀ (i : Nat) (B : Option Addr) (m d : Nat), cs[i]? ≠ some (.slice B m d)) : 0 < n → blk A ≠ some g := by
  intro hn e
  obtain ⟨ad, rfl, hc⟩ := h.cells hn
  obtain ⟨B, m, d, h1, _⟩ := hc 0 hn
  have h2 : ad.block = g := by simpa [blk] using e
  unfold World.cell? at h1
  have h3 : (ad.add 0).block = ad.block := rfl
  rw [h3, h2, show w.heap[g]? = _ from hb] at h1
  by_cases hs : (ad.add 0).spot.isSome = true
  · simp [hs] at h1
  · simp only [hs] at h1
    exact hno _ _ _ _ h1
theorem MonD.rho_ne {w : World} {base b g n c : Nat} {φ ρ : Nat → Prop} {s : MSt} {A : Option Addr} {xs : List Value} (h : MonD w base φ ρ g s) (o : OwP isI1 54 2 w b A n c xs) {k : Nat} (hk : ρ k) : blk A ≠ some k := by
  intro e
  obtain ⟨cs, h1, h2⟩ := o.blk_ e
  have hno : ∀ (i : Nat) (B : Option Addr) (m d : Nat), cs[i]? ≠ some (.slice B m d) := fun i B m d he => by
    obtain ⟨y, h3⟩ := h2 _ (List.mem_of_getElem? (by rw [Array.getElem?_toList]; exact he))
    cases h3
  obtain ⟨G, I, V, Al, R, P, Q, cg, ci, cv, ca, nr, cr, np, cp, nq, cq, vs, _, rfl, hA⟩ := h
  rcases hk with ⟨hn, hk⟩ | ⟨hn, hk⟩ | ⟨hn, hk⟩
  · exact hA.rV.apart1 h1 hno hn hk
  · exact hA.rP.apart1 h1 hno hn hk
  · exact hA.rQ.apart1 h1 hno hn hk
theorem Pl.alarm {w w' : World} {base g g8 : Nat} {U : Nat → Prop} {s t : MSt} {A6 A7 A7' : Option Addr} {c6 c7 c7' : Nat} (h : Pl w base U g g8 s t A6 c6 A7 c7) (a b : Int) (o' : OwP isI1 54 2 w' base A7' (t.al.length + 1) c7' (alC (t.al ++ [(a, b)]))) (gr : w.grownBy w' (blk A7)) (hb : blk A7' = blk A7 ∨ blk A7' = some w.heap.size) :
    PlP w base U g g8 s { t with al := t.al ++ [(a, b)] } A6 c6 A7' c7' w' := by
  obtain ⟨⟨φ, ρ, rfl, h2, h3⟩, h4, ⟨B, P, Q, nb, d, np, cp, nq, cq, h5, h6⟩, h7, h8⟩ := h
  have u7 : Upd (fun k => blk A7 = some k) w w' := Upd.of_grown gr (fun k hk => hk)
  have uU : Upd (plU φ A7 g8) w w' := u7.mono (fun k _ h => .inr (.inl h))
  have hsub : ∀ k, k < w.heap.size → plU φ A7' g8 k → plU φ A7 g8 k := by
    rintro k hk (h | h | h)
    · exact .inl h
    · rcases hb with e | e
      · exact .inr (.inl (e.symm.trans h))
      · rw [e] at h
        injection h with h
        omega
    · exact .inr (.inr h)
  have h2' := (h2.keepD h4.nobI (fun k hk e => h3.1 k hk e) (fun k hk e => h2.rho_ne h4 hk e)).at_ u7
  refine ⟨plU φ A7' g8, ⟨⟨φ, ρ, rfl, h2', fun k hk e => ?_, h3.2⟩, ?_, ⟨B, P, Q, nb, d, np, cp, nq, cq, h5.upd u7 (fun e => h4.ne_blk h5 (by decide) e), h6.move uU hsub⟩, h7.move uU hsub, h8⟩, uU, hsub⟩
  · rcases hb with e' | e'
    · exact h3.1 k hk (e'.symm.trans e)
    · rw [e'] at e
      injection e with e
      have := (h2.toR.lt hk).2
      omega
  · show OwP isI1 54 2 w' base A7' (t.al ++ [(a, b)]).length c7' (alC (t.al ++ [(a, b)]))
    rw [show (t.al ++ [(a, b)]).length = t.al.length + 1 by simp]
    exact o'
/-- bounds of what a monitor holds -/
def okS (s : MSt) : Prop := s.lr.length ≤ 1000 ∧ s.lp.length ≤ 1000 ∧ (∀ a ∈ s.lp, a.length ≤ 1000) ∧ s.lq.length ≤ 1000 ∧ (∀ a ∈ s.lq, a.length ≤ 1000)
theorem okS.new (L : List UInt8) : okS (newM L) := by
  refine ⟨Nat.zero_le _, Nat.zero_le _, ?_, Nat.zero_le _, ?_⟩
  · intro a h
    simp [newM] at h
  · intro a h
    simp [newM] at h
theorem feedS_ok {s : MSt} {x : Int} {R : List UInt8} {i : Int} {Ps Qs its : List (List UInt8)} (h : okS s) : okS (feedS s x R i Ps Qs its) := by
  unfold feedS
  split
  · exact h
  · split
    · rename_i h1
      have hc : cverB s.log x R i Ps Qs = true := by
        cases hc : cverB s.log x R i Ps Qs with
        | true => rfl
        | false =>
          have := (feed_30 (its := its) hc).1
          rw [h1.1] at this
          cases this
      obtain ⟨_, _, k1, _, ⟨k2, k3⟩, k4, k5⟩ := cverB_right hc
      exact ⟨by show R.length ≤ _; omega, by show Ps.length ≤ _; omega, fun a ha => by have := k3 a ha; omega, by show Qs.length ≤ _; omega, fun a ha => by have := k5 a ha; omega⟩
    · exact h
theorem rebS_ok {s : MSt} {i : Int} {F : List UInt8} (h : okS s) : okS (rebS s i F) := by
  unfold rebS
  split
  · exact h
  · exact h
noncomputable def infSg : TypeInfo := (Tryz.prog.info? 40).getD default
theorem infSg_eq : Tryz.prog.info? 40 = some infSg := by kernel_rfl
theorem infSg_size : infSg.size = 5 := by kernel_rfl
set_option maxHeartbeats 4000000 in
theorem mlast_any (w : World) (base g : Nat) (φ : Nat → Prop) (s : MSt) (hM : MonR w base φ g s) (hs : okS s) :
    Calls Tryz.prog 22 #[.pointer (some ⟨g, 0, none⟩)] w fun e w' => ∃ B P Q nb d np cp nq cq, e = .returned (.tuple #[.agg #[.int .i64 s.lx, .slice B nb d, .int .i64 s.li, .slice P np cp, .slice Q nq cq], .bool s.has]) ∧ RB w' B nb d s.lr ∧ RBB w' P np cp s.lp ∧ RBB w' Q nq cq s.lq ∧ Ext w w' := by
  obtain ⟨G, I, V, Al, R0, P0, Q0, cg, ci, cv, ca, nr, cr, np0, cp0, nq0, cq0, vs, rfl, hA⟩ := hM
  obtain ⟨k1, k2, k3, k4, k5⟩ := hs
  have hBg := hA.blk
  have rR := hA.rR
  have rP := hA.rP
  have rQ := hA.rQ
  have l1 := rR.len
  have l2 := rP.len
  have l3 := rQ.len
  have n1 : nr ≤ 1000000 := by omega
  have n2 : np0 ≤ 100000 := by omega
  have n3 : nq0 ≤ 100000 := by omega
  have n4 : ∀ a ∈ s.lp, a.length ≤ 1000000 := fun a ha => by have := k3 a ha; omega
  have n5 : ∀ a ∈ s.lq, a.length ≤ 1000000 := fun a ha => by have := k5 a ha; omega
  clear l1 l2 l3
  have hEa := Ext.new w (.cells #[.int .i64 0, .slice none 0 0, .int .i64 0, .slice none 0 0, .slice none 0 0] 40)
  have hB2 := Blk.new w 40 #[.int .i64 0, .slice none 0 0, .int .i64 0, .slice none 0 0, .slice none 0 0]
  go_enter Tryz.func22, Tryz.ntmps22
  go_upto_region 1 with (fail)
  have hgl := hBg.lt
  replace hBg := hBg.ext hEa
  replace rR := rR.ext hEa
  replace rP := rP.ext hEa
  replace rQ := rQ.ext hEa
  generalize w.alloc (.cells #[.int .i64 0, .slice none 0 0, .int .i64 0, .slice none 0 0, .slice none 0 0] 40) = w1 at *
  obtain ⟨g2, hg2⟩ : ∃ g2, g2 = w.heap.size := ⟨_, rfl⟩
  rw [← hg2] at hB2 ⊢
  have hgw : w.heap.size ≤ g2 := by omega
  have hg2l := hB2.lt
  have hne : ¬ g = g2 := by omega
  clear hg2
  have hN2 : NoB (fun k => k = g2) w1 := fun k hk => by
    subst hk
    exact ⟨_, _, hB2, sg_no8 _ _ _ _ _ _ _ _ _ _ _⟩
  have hBgp := hBg
  replace hBg : Keep (fun k => k = g2) (fun w => Blk w g 42 (monC G I V Al R0 P0 Q0 cg s.its.length ci cv s.al.length ca nr cr np0 cp0 nq0 cq0 s.lx s.li s.has)) w1 := fun w' u => hBgp.upd u hne
  have hZ : ∀ v w w', Ext w w' → (∃ cs, v = Value.agg cs ∧ Blk w g2 40 cs) → (∃ cs, v = Value.agg cs ∧ Blk w' g2 40 cs) := fun v w w' e ⟨cs, h1, h2⟩ => ⟨cs, h1, h2.ext e⟩
  refine par_st (n := 10) (fun k => k = g2) 9 4 8 (fun v w => ∃ cs, v = Value.agg cs ∧ Blk w g2 40 cs) (by kernel_rfl) [.is (.pointer (some ⟨g, 0, none⟩)), .is (.pointer (some ⟨g, 0, none⟩)), .is (.pointer (some ⟨g, 4, none⟩)), .is (.agg #[.int .i64 (s.lx), .slice (R0) (nr) (cr), .int .i64 (s.li), .slice (P0) (np0) (cp0), .slice (Q0) (nq0) (cq0)]), .kp (fun u w => ∃ B b P c Q d, u = Value.agg #[.int .i64 (s.lx), .slice B nr b, .int .i64 (s.li), .slice P np0 c, .slice Q nq0 d] ∧ RB w B nr b s.lr ∧ RBB w P np0 c s.lp ∧ RBB w Q nq0 d s.lq), .is (.pointer (some ⟨g, 0, none⟩)), .is (.pointer (some ⟨g, 0, none⟩)), .is (.pointer (some ⟨g, 9, none⟩)), .is (.bool (s.has)), .any] rfl rfl (by decide) (by decide) ⟨?_, ?_, ?_, ?_, ?_, ?_, ?_, ?_, ?_, ?_, trivial⟩ ?_
  · refine stepS1 hZ rfl (by decide) fun sdn sa sw sU sd sk => ?_
    have h0 : sa.eval (.tmp 0) = .pointer (some ⟨g, 0, none⟩) := sk.old 0 rfl
    exact Runs.move rfl h0 ⟨Ext.refl _, rfl⟩
  · refine stepS1 hZ rfl (by decide) fun sdn sa sw sU sd sk => ?_
    have h4 : sa.eval (.tmp 4) = .pointer (some ⟨g, 0, none⟩) := sk.fact 0 4 rfl (sd 0 rfl)
    exact Runs.nil_ rfl h4 ⟨Ext.refl _, rfl⟩
  · refine stepS1 hZ rfl (by decide) fun sdn sa sw sU sd sk => ?_
    have h5 : sa.eval (.tmp 5) = .pointer (some ⟨g, 0, none⟩) := sk.fact 1 5 rfl (sd 1 rfl)
    refine Runs.of_run (r := .pointer (some ⟨g, 4, none⟩)) (w' := sw) ?_ ⟨Ext.refl _, rfl⟩
    unfold execOp
    simp only [h5]
    go_simp
  · refine stepS1 hZ rfl (by decide) fun sdn sa sw sU sd sk => ?_
    have h6 : sa.eval (.tmp 6) = .pointer (some ⟨g, 4, none⟩) := sk.fact 2 6 rfl (sd 2 rfl)
    exact Runs.load rfl h6 (load_part (hBg.at_ sU) 4 (vs := [.int .i64 (s.lx), .slice (R0) (nr) (cr), .int .i64 (s.li), .slice (P0) (np0) (cp0), .slice (Q0) (nq0) (cq0)]) rfl Tryz.underlying40 rfl (by kernel_rfl)) ⟨Ext.refl _, rfl⟩
  · refine stepSV rfl (by decide) fun sdn sa sw sE sd sk => ?_
    have h7 : sa.eval (.tmp 7) = .agg #[.int .i64 (s.lx), .slice (R0) (nr) (cr), .int .i64 (s.li), .slice (P0) (np0) (cp0), .slice (Q0) (nq0) (cq0)] := sk.fact 3 7 rfl (sd 3 rfl)
    refine Runs.call (f := 44) (vs := [.agg #[.int .i64 (s.lx), .slice (R0) (nr) (cr), .int .i64 (s.li), .slice (P0) (np0) (cp0), .slice (Q0) (nq0) (cq0)]]) rfl rfl rfl (by simp only [List.map_toArray, List.map_cons, List.map_nil, h7] <;> rfl) (ent44 _ _) ((ccopy_any _ _ _ _ _ _ _ _ _ _ _ _ _ _ sw (rR.ext sE) n1 (rP.ext sE) (rQ.ext sE) n2 n3 n4 n5).mono ?_); rintro e w' ⟨B', b', P', c', Q', d', rfl, h1, h2, h3, hx⟩; exact ⟨_, rfl, hx, fun w2 u2 => ⟨B', b', P', c', Q', d', rfl, (h1.rb.keepS ((hN2.ext sE).ext hx)).at_ u2, (h2.rbb.keepS ((hN2.ext sE).ext hx) (fun _ k hk hp => by have := (h2.lt hk).1; have := sE.size; omega)).at_ u2, (h3.rbb.keepS ((hN2.ext sE).ext hx) (fun _ k hk hp => by have := (h3.lt hk).1; have := sE.size; omega)).at_ u2⟩⟩
  · refine stepS1 hZ rfl (by decide) fun sdn sa sw sU sd sk => ?_
    have h0 : sa.eval (.tmp 0) = .pointer (some ⟨g, 0, none⟩) := sk.old 0 rfl
    exact Runs.move rfl h0 ⟨Ext.refl _, rfl⟩
  · refine stepS1 hZ rfl (by decide) fun sdn sa sw sU sd sk => ?_
    have h9 : sa.eval (.tmp 9) = .pointer (some ⟨g, 0, none⟩) := sk.fact 5 9 rfl (sd 5 rfl)
    exact Runs.nil_ rfl h9 ⟨Ext.refl _, rfl⟩
  · refine stepS1 hZ rfl (by decide) fun sdn sa sw sU sd sk => ?_
    have h10 : sa.eval (.tmp 10) = .pointer (some ⟨g, 0, none⟩) := sk.fact 6 10 rfl (sd 6 rfl)
    refine Runs.of_run (r := .pointer (some ⟨g, 9, none⟩)) (w' := sw) ?_ ⟨Ext.refl _, rfl⟩
    unfold execOp
    simp only [h10]
    go_simp
  · refine stepS1 hZ rfl (by decide) fun sdn sa sw sU sd sk => ?_
    have h11 : sa.eval (.tmp 11) = .pointer (some ⟨g, 9, none⟩) := sk.fact 7 11 rfl (sd 7 rfl)
    exact Runs.load rfl h11 (run_load1 Tryz.underlying4 rfl ((hBg.at_ sU).cell (i := 9) rfl)) ⟨Ext.refl _, rfl⟩
  · refine stepSS rfl rfl (by decide) (by decide) fun sdn sa sw sE sd sk => ?_
    obtain ⟨B8, b8, P8, c8, Q8, d8, h8, r8, p8, q8⟩ := (sk.fact 4 8 rfl (sd 4 rfl)).self
    have h2 : sa.eval (.tmp 2) = .pointer (some ⟨g2, 0, none⟩) := sk.old 2 rfl
    refine Runs.storeRow infSg_eq rfl h2 h8 (hB2.ext sE) rfl infSg_size (by intro v hv; simp at hv; rcases hv with rfl | rfl | rfl | rfl | rfl <;> rfl) (fun v w' b1 g1 => ⟨Upd.of_grown g1 (fun k hk => (Option.some.inj hk).symm), ⟨_, h8, b1⟩, trivial⟩)
  intro vals W1 hE1 hZ1 hv1
  have e0 : vals 0 = .pointer (some ⟨g, 0, none⟩) := hv1 0 (by omega) 4 rfl
  have e1 : vals 1 = .pointer (some ⟨g, 0, none⟩) := hv1 1 (by omega) 5 rfl
  have e2 : vals 2 = .pointer (some ⟨g, 4, none⟩) := hv1 2 (by omega) 6 rfl
  have e3 : vals 3 = .agg #[.int .i64 (s.lx), .slice (R0) (nr) (cr), .int .i64 (s.li), .slice (P0) (np0) (cp0), .slice (Q0) (nq0) (cq0)] := hv1 3 (by omega) 7 rfl
  obtain ⟨B8, b8, P8, c8, Q8, d8, e4, r8, p8, q8⟩ := (hv1 4 (by omega) 8 rfl).self
  obtain ⟨cs1, hcs1, bS1⟩ := hZ1
  obtain rfl : cs1 = #[.int .i64 (s.lx), .slice (B8) (nr) (b8), .int .i64 (s.li), .slice (P8) (np0) (c8), .slice (Q8) (nq0) (d8)] := Value.agg.inj (hcs1.symm.trans e4)
  clear hcs1
  have e5 : vals 5 = .pointer (some ⟨g, 0, none⟩) := hv1 5 (by omega) 9 rfl
  have e6 : vals 6 = .pointer (some ⟨g, 0, none⟩) := hv1 6 (by omega) 10 rfl
  have e7 : vals 7 = .pointer (some ⟨g, 9, none⟩) := hv1 7 (by omega) 11 rfl
  have e8 : vals 8 = .bool (s.has) := hv1 8 (by omega) 12 rfl
  simp only [putAll, Act.put, List.take_succ_cons, List.take_zero, List.drop_succ_cons, List.drop_zero, List.drop_nil, List.take_nil, Nat.reduceAdd, List.setIfInBounds_toArray, List.set_cons_succ, List.set_cons_zero, e0, e1, e2, e3, e4, e5, e6, e7, e8]
  clear hv1 e0 e1 e2 e3 e4 e5 e6 e7 e8
  go_wp2_with fail
  refine bodyPost_ret (results_sig rfl _ _ g2 _ _ _ rfl bS1 Tryz.underlying40 rfl rfl) rfl ?_
  exact ⟨_, _, _, _, _, _, _, _, _, rfl, r8, p8, q8, Upd.ext hEa hE1 (fun k hk => by omega)⟩
end Go.Proofs.YtkndgpjamijbbaaGreat
namespace Go.Proofs.YtkndgpjamijbbaaGreat
set_option maxRecDepth 100000
open Go Go.RowKit
theorem within_fin3 {x lo hi r : Int} (h0 : -1000 ≤ lo) (h1 : lo ≤ hi) (h2 : hi ≤ 140737488355328) (hout : ¬ (lo ≤ x ∧ x ≤ hi))
    (hr : (0 ≤ x.tmod (hi - lo + 1) → r = lo + x.tmod (hi - lo + 1)) ∧ (¬ 0 ≤ x.tmod (hi - lo + 1) → r = lo + (x.tmod (hi - lo + 1) + hi - lo + 1))) : r = within x lo hi := by
  obtain ⟨e, e1, e2⟩ := tmod_is x (hi - lo + 1) (by omega)
  unfold within
  rw [if_neg hout, e]
  by_cases h : 0 ≤ x.tmod (hi - lo + 1)
  · rw [if_pos h, hr.1 h]
  · rw [if_neg h, hr.2 h]; omega
set_option maxHeartbeats 1000000 in
theorem within_negP (x lo hi : Int) (w : World) (hx0 : -9223372036854775808 ≤ x) (hx1 : x ≤ 9223372036854775807) (h0 : -1000 ≤ lo) (h1 : lo ≤ hi) (h2 : hi ≤ 140737488355328) :
    Calls Tryz.prog 12 #[.int .i64 x, .int .i64 lo, .int .i64 hi] w fun e w' => e = .returned (.int .i64 (within x lo hi)) ∧ w = w' := by
  by_cases a1 : lo ≤ x
  · have d1 : decide (lo ≤ x) = true := by simpa using a1
    by_cases a2 : x ≤ hi
    · have d2 : decide (x ≤ hi) = true := by simpa using a2
      have hw : within x lo hi = x := by unfold within; rw [if_pos ⟨a1, a2⟩]
      rw [hw]
      go_enter Tryz.func12, Tryz.ntmps12
      go_wp2_with fail
      go_ret
      exact ⟨rfl, rfl⟩
    · have d2 : decide (x ≤ hi) = false := by simpa using a2
      have hout : ¬ (lo ≤ x ∧ x ≤ hi) := fun h => a2 h.2
      have Hout := Lib.hid hout
      clear hout a1 a2
      go_enter Tryz.func12, Tryz.ntmps12
      go_wp2_with fail
      all_goals
        go_ret
        refine ⟨?_, rfl⟩
        obtain ⟨_, e1, e2⟩ := tmod_is x (hi - lo + 1) (by omega)
        refine congrArg (fun z => Ending.returned (.int .i64 z)) (within_fin3 h0 h1 h2 Hout.out ⟨fun h => ?_, fun h => ?_⟩)
        · unfold wrap64; omega
        · unfold wrap64; omega
  · have d1 : decide (lo ≤ x) = false := by simpa using a1
    have hout : ¬ (lo ≤ x ∧ x ≤ hi) := fun h => a1 h.1
    have Hout := Lib.hid hout
    clear hout a1
    go_enter Tryz.func12, Tryz.ntmps12
    go_wp2_with fail
    all_goals
      go_ret
      refine ⟨?_, rfl⟩
      obtain ⟨_, e1, e2⟩ := tmod_is x (hi - lo + 1) (by omega)
      refine congrArg (fun z => Ending.returned (.int .i64 z)) (within_fin3 h0 h1 h2 Hout.out ⟨fun h => ?_, fun h => ?_⟩)
      · unfold wrap64; omega
      · unfold wrap64; omega

theorem str_neP {a b : List UInt8} (h : a ≠ b) : ¬ (str a).toList = (str b).toList := fun e => h (by rw [str_toList, str_toList] at e; exact e)
theorem reb_keep (s : MSt) (i : Int) (F : List UInt8) : (rebS s i F).its = s.its ∧ (rebS s i F).log = s.log ∧ (rebS s i F).has = s.has ∧ (rebS s i F).al.length ≤ s.al.length + 1 := by
  unfold rebS
  split
  · exact ⟨rfl, rfl, rfl, by show (s.al ++ _).length ≤ _; simp⟩
  · exact ⟨rfl, rfl, rfl, by omega⟩
/-- a row of asks -/
structure RAk (w : World) (A : Option Addr) (n c : Nat) : Prop where
  room : n ≤ c
  cap : c ≤ maxLen
  cells : 0 < n → ∃ ad, A = some ad ∧ ∀ j, j < n → ∃ (k sz fr nn : Int) (bad : Bool), w.cell? (ad.add (j * 5)) = some (.int .i64 k) ∧ w.cell? ((ad.add (j * 5)).add 1) = some (.int .i64 sz) ∧ w.cell? ((ad.add (j * 5)).add 2) = some (.int .i64 fr) ∧ w.cell? ((ad.add (j * 5)).add 3) = some (.int .i64 nn) ∧ w.cell? ((ad.add (j * 5)).add 4) = some (.bool bad) ∧ inR k ∧ inR sz ∧ inR fr ∧ inR nn
theorem RAk.ext {w w' : World} {A : Option Addr} {n c : Nat} (h : RAk w A n c) (e : Ext w w') : RAk w' A n c :=
  ⟨h.room, h.cap, fun hn => by
    obtain ⟨ad, h1, h2⟩ := h.cells hn
    refine ⟨ad, h1, fun j hj => ?_⟩
    obtain ⟨k, sz, fr, nn, bad, k1, k2, k3, k4, k5, k6⟩ := h2 j hj
    exact ⟨k, sz, fr, nn, bad, e.cell k1, e.cell k2, e.cell k3, e.cell k4, e.cell k5, k6⟩⟩
/-- what is known ahead of each ask -/
def PlI (w0 : World) (base g g8 bo g1 : Nat) (S : List UInt8) (m : Nat) (t6 t7 t9 i : Value) (wr : World) : Prop :=
  ∃ (p : Nat) (U : Nat → Prop) (s : MSt) (A6 : Option Addr) (c6 : Nat) (A7 : Option Addr) (c7 : Nat), p ≤ m ∧ i = .int .i64 p ∧ t6 = .slice A6 s.its.length c6 ∧ t7 = .slice A7 s.al.length c7 ∧ t9 = .bool s.has ∧ Pl wr base U g g8 s s A6 c6 A7 c7 ∧ okS s ∧ s.log = ownP S ∧ s.al.length ≤ p ∧ s.its.length ≤ 24 ∧ (∀ a ∈ s.its, a.length ≤ 1000000) ∧ Keep U (fun w => OwnR w bo g1 S) wr ∧ Ext w0 wr
/-- behind an ask -/
def PlB (w0 : World) (base g g8 bo g1 : Nat) (S : List UInt8) (q : Nat) (t6 t7 t9 : Value) (wr : World) : Prop :=
  ∃ (U : Nat → Prop) (s : MSt) (A6 : Option Addr) (c6 : Nat) (A7 : Option Addr) (c7 : Nat), t6 = .slice A6 s.its.length c6 ∧ t7 = .slice A7 s.al.length c7 ∧ t9 = .bool s.has ∧ Pl wr base U g g8 s s A6 c6 A7 c7 ∧ okS s ∧ s.log = ownP S ∧ s.al.length ≤ q ∧ s.its.length ≤ 24 ∧ (∀ a ∈ s.its, a.length ≤ 1000000) ∧ Keep U (fun w => OwnR w bo g1 S) wr ∧ Ext w0 wr
end Go.Proofs.YtkndgpjamijbbaaGreat
namespace Go.Proofs.YtkndgpjamijbbaaGreat
open Go
def cAt : List Bool → Code → Code
  | [], c => c
  | false :: p, .seq a _ => cAt p a
  | true :: p, .seq _ b => cAt p b
  | false :: p, .cond _ a _ => cAt p a
  | true :: p, .cond _ _ b => cAt p b
  | _ :: p, .block _ c => cAt p c
  | _ :: p, .loop c => cAt p c
  | _ :: p, .scope c => cAt p c
  | _, c => c
end Go.Proofs.YtkndgpjamijbbaaGreat

/-
  ExtractCommon, walked.
-/
import Derived.Test.YtkndgpjamijbbaaLawCom26Q30
import Derived.Test.YtkndgpjamijbbaaLawCom26Q36
import Derived.Test.YtkndgpjamijbbaaLawCom26Q15
import Derived.Test.YtkndgpjamijbbaaLawCom26Q31
import Derived.Test.YtkndgpjamijbbaaLawCom26Q26
import Derived.Test.YtkndgpjamijbbaaLawCom26Q24
import Derived.Test.YtkndgpjamijbbaaLawCom26Q20
import Derived.Test.YtkndgpjamijbbaaLawCom26Q25
namespace Go.Proofs.Ytkndgpjamijbbaa
set_option maxRecDepth 100000
open Go Go.RowKit
def MP.cos5 : MP Ext := ⟨fun u w => ∃ A n c b vs gs, u = .slice A n c ∧ n ≤ 5 ∧ OCS w b A n c vs gs, fun _ _ _ e ⟨A, n, c, b, vs, gs, h1, h2, h3⟩ => ⟨A, n, c, b, vs, gs, h1, h2, h3.ext e⟩⟩
/-- what may be turned while owners are gathered: the row of owners, the row of keys, the policy -/
def phiC (A Q : Option Addr) (g : Nat) (k : Nat) : Prop := blk A = some k ∨ blk Q = some k ∨ k = g
def CmI (w : World) (g17 cg : Nat) (G : Option Addr) (z : Int) (q : Nat) (o i : Value) (wr : World) : Prop :=
  ∃ (j c dq : Nat) (A Q : Option Addr) (vs us : List Value), j ≤ q ∧ i = .int .i64 (j : Int) ∧ o = .slice A j c ∧ wr.ownsRow w.heap.size 37 1 (.slice A j c) j vs ∧ wr.ownsRow w.heap.size 22 1 (.slice Q j dq) j us ∧
    (∀ t, t < j → ∃ g b B, vs[t]? = some (.pointer (some ⟨g, 0, none⟩)) ∧ Keep (phiC A Q g17) (fun w => OwnS w b g B (seedL (t : Int))) wr ∧ blk B ≠ blk A) ∧
    (∀ t, t < j → ∃ E d, us[t]? = some (.slice E 32 d) ∧ Keep (phiC A Q g17) (fun w => RB w E 32 d (ownP (seedL (t : Int)))) wr) ∧
    Blk wr g17 52 #[.slice G 32 cg, .slice Q j dq, .int .i64 z] ∧ Keep (phiC A Q g17) (fun w => RB w G 32 cg (khash 1)) wr ∧ Ext w wr
theorem row_plain {w : World} {base n c : Nat} {e : TypeId} {A : Option Addr} {xs : List Value} (h : w.ownsRow base e 1 (.slice A n c) n xs) (hn : 0 < n) : ∃ g, A = some ⟨g, 0, none⟩ ∧ n ≤ c ∧ c ≤ maxLen := by
  rcases h.2 with ⟨_, h0⟩ | ⟨g, cap, cur, hv, hb, hg, h1, h2, _⟩
  · omega
  · injection hv with e1 e2 e3
    subst e1 e3
    exact ⟨g, rfl, h1, h2⟩
theorem row_blk {w : World} {base n c : Nat} {e : TypeId} {A : Option Addr} {xs : List Value} (h : w.ownsRow base e 1 (.slice A n c) n xs) {k : Nat} (hk : blk A = some k) : ∃ cs, Blk w k e cs := row_type h (by rw [ownBlock_slice]; exact hk)
theorem row_ne_blk {w : World} {base n c : Nat} {e t : TypeId} {A : Option Addr} {xs : List Value} (h : w.ownsRow base e 1 (.slice A n c) n xs) {k : Nat} {cs : Array Value} (hb : Blk w k t cs) (ht : t ≠ e) : blk A ≠ some k := by
  intro e'
  exact row_ne h hb ht (by rw [ownBlock_slice]; exact e')
theorem row_kept {w w' : World} {base n c b2 n2 c2 : Nat} {e t : TypeId} {A B : Option Addr} {xs ys : List Value} (h : w.ownsRow base e 1 (.slice A n c) n xs) (h2 : w.ownsRow b2 t 1 (.slice B n2 c2) n2 ys) (ht : t ≠ e) (g : w.grownBy w' (blk B)) : w'.ownsRow base e 1 (.slice A n c) n xs := by
  refine World.ownsRow.kept h g ?_
  rw [ownBlock_slice]
  cases hb : blk B with
  | none => cases ha : blk A <;> simp
  | some k =>
    obtain ⟨cs, hcs⟩ := row_blk h2 hb
    exact .inr (row_ne_blk h hcs ht)
/-- keys of owners: a row, whatever is turned -/
structure PubK (w : World) (φ : Nat → Prop) (base : Nat) (Q : Option Addr) (n d : Nat) (us : List Value) (f : Nat → List UInt8) : Prop where
  row : w.ownsRow base 22 1 (.slice Q n d) n us
  el : ∀ t, t < n → ∃ E d, us[t]? = some (.slice E 32 d) ∧ Keep φ (fun w => RB w E 32 d (f t)) w
theorem PubK.ext {w w' : World} {φ : Nat → Prop} {base n d : Nat} {Q : Option Addr} {us : List Value} {f : Nat → List UInt8} (h : PubK w φ base Q n d us f) (e : Ext w w') : PubK w' φ base Q n d us f :=
  ⟨ownsRow_upd h.row (Upd.of_ext (φ := fun _ => False) e) (fun _ _ h => h), fun t ht => by
    obtain ⟨E, d', h1, h2⟩ := h.el t ht
    exact ⟨E, d', h1, h2.ext e⟩⟩
theorem PubK.rbb {w : World} {φ : Nat → Prop} {base n d : Nat} {Q : Option Addr} {us : List Value} {f : Nat → List UInt8} (h : PubK w φ base Q n d us f) : RBB w Q n d ((List.range n).map f) := by
  have hd : n ≤ d ∧ d ≤ maxLen := by
    rcases h.row.2 with ⟨e, h0⟩ | ⟨g, cap, cur, hv, _, _, h1, h2, _⟩
    · injection e with e1 e2 e3
      omega
    · injection hv with e1 e2 e3
      subst e3
      exact ⟨h1, h2⟩
  refine ⟨by simp, hd.1, hd.2, fun hn => ?_⟩
  obtain ⟨g, rfl, _, _⟩ := row_plain h.row hn
  refine ⟨_, rfl, fun j hj => ?_⟩
  obtain ⟨E, d', h1, h2⟩ := h.el j hj
  refine ⟨E, 32, d', World.ownsRow.cells h.row (g := g) rfl j _ h1, ?_⟩
  rw [lb_range _ hj]
  exact h2.self
theorem PubK.store {w : World} {φ : Nat → Prop} {base n d : Nat} {Q : Option Addr} {us : List Value} {f : Nat → List UInt8} (h : PubK w φ base Q n d us f) {g i : Nat} {t : TypeId} {cs : Array Value} (hb : Blk w g t cs) (ht : t ≠ 22) (hg : φ g) (v : Value) : PubK (w.setCell ⟨g, i, none⟩ v) φ base Q n d us f := by
  have gs := grown_set w ⟨g, i, none⟩ v
  refine ⟨World.ownsRow.kept h.row gs (.inr (by rw [ownBlock_slice]; exact row_ne_blk h.row hb ht)), fun t ht => ?_⟩
  obtain ⟨E, d', h1, h2⟩ := h.el t ht
  exact ⟨E, d', h1, h2.step (Upd.of_grown gs (fun k hk => by cases hk; exact hg))⟩
def WL26 (k : Nat) : List (List UInt8) := (List.range k).map fun t : Nat => ownP (seedL ((t : Nat) : Int))
theorem WL26_len (k : Nat) : (WL26 k).length = k := by simp [WL26]
def WantI (w13 : World) (k : Nat) (s t : Nat → Bool) (v i : Value) (wr : World) : Prop :=
  ∃ (j p d : Nat) (P : Option Addr), j ≤ k ∧ i = .int .i64 (j : Int) ∧ v = .slice P p d ∧ p ≤ j ∧ OI wr w13.heap.size P p d (bothL s t j) ∧ Ext w13 wr
theorem seen_hi {LG R : List UInt8} {Ws : List (List UInt8)} {q x : Int} {gs : List CSig} {k : Nat} (hk : Ws.length = k) : ∀ i, k ≤ i → seenL (fun g => cosB LG Ws q x R g.wn g.k g.ps g.qs) gs i = false := by
  intro i hi
  cases h : seenL (fun g => cosB LG Ws q x R g.wn g.k g.ps g.qs) gs i with
  | false => rfl
  | true =>
    unfold seenL at h
    rw [List.any_eq_true] at h
    obtain ⟨g, _, h2⟩ := h
    rw [Bool.and_eq_true, decide_eq_true_eq] at h2
    have h3 := (cosB_in h2.2).2.2
    omega
theorem seen_zero {LG R : List UInt8} {Ws : List (List UInt8)} {x : Int} {gs : List CSig} (i : Nat) : seenL (fun g => cosB LG Ws 0 x R g.wn g.k g.ps g.qs) gs i = false := by
  unfold seenL
  rw [List.any_eq_false]
  intro g _
  have h : polB LG Ws 0 = false := polB_no (by omega)
  unfold cosB
  rw [h]
  simp
theorem both_zero {LG R T : List UInt8} {Ws : List (List UInt8)} {x y : Int} {gs hs : List CSig} : bothL (seenL (fun g => cosB LG Ws 0 x R g.wn g.k g.ps g.qs) gs) (seenL (fun g => cosB LG Ws 0 y T g.wn g.k g.ps g.qs) hs) 4 = [] := by
  unfold bothL
  rw [List.filter_eq_nil_iff.2 (fun i _ => by rw [seen_zero]; simp)]
  rfl
theorem sumTo_more {s : Nat → Bool} {k : Nat} (h : ∀ i, k ≤ i → s i = false) : ∀ n, k ≤ n → sumTo s n = sumTo s k := by
  intro n hn
  induction n with
  | zero => have e : k = 0 := by omega
            rw [e]
  | succ n ih =>
    by_cases e : k = n + 1
    · rw [e]
    · rw [← ih (by omega)]
      unfold sumTo one01
      rw [h n (by omega)]
      simp
      cases n <;> rfl
theorem cnt_sum (v : CSig → Bool) (gs : List CSig) : cntL v gs = sumTo (seenL v gs) 4 := by
  unfold cntL b2i
  simp only [sumTo, one01]
  omega
set_option maxHeartbeats 64000000 in
theorem common26_any (n0 q0 s0 s1 : Int) (hn0 : inR n0) (hq0 : inR q0) (hs0 : inR s0) (hs1 : inR s1) (bad : Bool) (L M : Option Addr) (nl cl nm cm : Nat) (zs ys : List Int) (w : World) (hL : RI w L nl cl zs) (hM : RI w M nm cm ys) :
    Calls Try.prog 8 #[.int .i64 n0, .int .i64 q0, .slice L nl cl, .slice M nm cm, .int .i64 s0, .int .i64 s1, .bool bad] w fun e w' => e = .returned (.bool true) ∧ Ext w w' := by
  obtain ⟨k, hk⟩ : ∃ k : Nat, within n0 1 4 = (k : Int) := ⟨(within n0 1 4).toNat, (Int.toNat_of_nonneg (by have := (within_in n0 1 4 (by omega)).1; omega)).symm⟩
  have hk1 : 1 ≤ k := by have := (within_in n0 1 4 (by omega)).1; omega
  have hk4 : k ≤ 4 := by have := (within_in n0 1 4 (by omega)).2; omega
  have Hk := Lib.hid hk
  clear hk
  go_enter Try.func8, Try.ntmps8
  go_wp2_with fail
  refine (within_any n0 1 4 w hn0.1 hn0.2 (by omega) (by omega) (by omega)).mono ?_
  rintro e x1 ⟨rfl, rfl⟩
  rw [Hk.out]
  clear Hk
  go_wp2_with fail
  refine (hash_any 1 w (by omega) (by omega)).mono ?_
  rintro e w1 ⟨G, cg, rfl, oG, hE⟩
  go_wp2_with fail
  refine (within_any q0 1 (k : Int) w1 hq0.1 hq0.2 (by omega) (by omega) (by omega)).mono ?_
  rintro e x1 ⟨rfl, rfl⟩
  have hzi := within_in q0 1 (k : Int) (by omega)
  generalize within q0 1 (k : Int) = z at *
  have hEn := Ext.new w1 (.cells #[.slice G 32 cg, .slice none 0 0, .int .i64 z] 52)
  have hB17 := Blk.new w1 52 #[.slice G 32 cg, .slice none 0 0, .int .i64 z]
  have hGlt : ∀ x, blk G = some x → x < w1.heap.size := fun x hx => (oG.lt hx).2
  have hge17 : w.heap.size ≤ w1.heap.size := hE.size
  have rG0 := oG.rb.ext hEn
  replace hE := hE.trans hEn
  clear hEn
  go_wp2_with fail
  generalize w1.alloc (.cells #[.slice G 32 cg, .slice none 0 0, .int .i64 z] 52) = w2 at *
  obtain ⟨g17, hg17⟩ : ∃ g17, g17 = w1.heap.size := ⟨_, rfl⟩
  rw [← hg17] at hB17 hGlt hge17 ⊢
  clear hg17
  go_loopw [16, 18] (fun o i wr => CmI w g17 cg G z k o i wr) (fun _ i _ => k - (intOf i).toNat)
  case atStart =>
    refine ⟨0, 0, 0, none, none, [], [], by omega, rfl, rfl, World.ownsRow_nil w2 _ _ _, World.ownsRow_nil w2 _ _ _, fun t ht => absurd ht (Nat.not_lt_zero _), fun t ht => absurd ht (Nat.not_lt_zero _), hB17, rG0.keep_ (fun _ x hx => ?_), hE⟩
    rintro (h | h | h)
    · cases h
    · cases h
    · have := hGlt x hx
      omega
  case round =>
    clear hB17 rG0 hE
    obtain ⟨j, c, dq, A, Q, vs, us, hj, rfl, rfl, oA, oQ, hA, hQ, hB17, kG, hEr⟩ := hrel
    by_cases hlt : j < k
    · have hki : (j : Int) < (k : Int) := by omega
      have hAlt : ∀ x, blk A = some x → w.heap.size ≤ x ∧ x < wr.heap.size := fun x hx => World.ownsRow.lt oA x (by rw [ownBlock_slice]; exact hx)
      have hQlt : ∀ x, blk Q = some x → w.heap.size ≤ x ∧ x < wr.heap.size := fun x hx => World.ownsRow.lt oQ x (by rw [ownBlock_slice]; exact hx)
      have hglt := hB17.lt
      have hphi : ∀ x, phiC A Q g17 x → x < wr.heap.size := by
        rintro x (h | h | h)
        · exact (hAlt x h).2
        · exact (hQlt x h).2
        · omega
      have hphi2 : ∀ x, phiC A Q g17 x → w.heap.size ≤ x := by
        rintro x (h | h | h)
        · exact (hAlt x h).1
        · exact (hQlt x h).1
        · omega
      go_wp2_with fail
      refine (seed_any (j : Int) wr (by omega) (by omega)).mono ?_
      rintro e w3 ⟨A2, c2, rfl, o2, hE2⟩
      obtain ⟨Sd, hSd⟩ : ∃ Sd, Sd = seedL (j : Int) := ⟨_, rfl⟩
      rw [← hSd] at o2
      have HSd := Lib.hid hSd
      clear hSd
      go_wp2_with fail
      refine (rnew_at A2 c2 Sd w3 o2.rb).mono ?_
      rintro e w4 ⟨rfl, oS, hE3⟩
      obtain ⟨ad2, rfl, _⟩ := o2.rb.cells (by omega)
      obtain ⟨g2, rfl⟩ := o2.plain
      have hg2 := o2.ge
      have hs3 := hE2.size
      have hneA : blk (some (⟨g2, 0, none⟩ : Addr)) ≠ blk A := by
        intro e
        have h2 := (hAlt g2 e.symm).2
        omega
      have kS : Keep (phiC A Q g17) (fun w => OwnS w w3.heap.size w3.heap.size (some ⟨g2, 0, none⟩) Sd) w4 := oS.keep_ (fun x hx _ hp => by have := hphi x hp; omega) (fun hp => by have := hphi _ hp; omega) (fun x hx hp => by have hx2 : g2 = x := Option.some.inj hx; have := hphi x hp; omega)
      obtain ⟨bO, hbO⟩ : ∃ bO, bO = w3.heap.size := ⟨_, rfl⟩
      obtain ⟨gO, hgO⟩ : ∃ gO, gO = w3.heap.size := ⟨_, rfl⟩
      have kS' : Keep (phiC A Q g17) (fun w => OwnS w bO gO (some ⟨g2, 0, none⟩) Sd) w4 := by rw [hbO, hgO]; exact kS
      rw [← hgO]
      clear kS oS hgO hbO
      have hEa := Ext.new w4 (.cells #[.pointer (some ⟨gO, 0, none⟩)] 37)
      have hBa := Blk.new w4 37 #[.pointer (some ⟨gO, 0, none⟩)]
      have hEb := (hE2.trans hE3).trans hEa
      have kS := kS'.ext hEa
      have oA4 := ownsRow_upd oA (Upd.of_ext (φ := fun _ => False) hEb) (fun _ _ h => h)
      have oQ4 := ownsRow_upd oQ (Upd.of_ext (φ := fun _ => False) hEb) (fun _ _ h => h)
      have hB4 := hB17.ext hEb
      have hszb := Nat.le_trans hEr.size hEb.size
      clear kS' hE2 hE3
      go_upto_region 8 with (refine app1_law (z := .pointer none) (by_ := 8) Try.underlying50 info_po rfl (by omega) rfl rfl rfl rfl (by rw [add_plain]; exact hBa.cell (i := 0) rfl) oA4 rfl hszb (by omega) ?_; intro A5 c5 w5 oA5 g5 b5)
      have u5 : Upd (phiC A Q g17) (w4.alloc (.cells #[.pointer (some ⟨gO, 0, none⟩)] 37)) w5 := Upd.of_grown g5 (fun x hx => .inl hx)
      have hs5 : ∀ x, x < (w4.alloc (.cells #[.pointer (some ⟨gO, 0, none⟩)] 37)).heap.size → phiC A5 Q g17 x → phiC A Q g17 x := by
        rintro x hx (h | h | h)
        · rcases b5 with b5 | b5
          · exact .inl (b5.symm.trans h)
          · rw [b5] at h
            injection h with h
            omega
        · exact .inr (.inl h)
        · exact .inr (.inr h)
      have kS5 := kS.move u5 hs5
      have kG5 := (kG.ext hEb).move u5 hs5
      have hA5 : ∀ t, t < j → ∃ g b B, vs[t]? = some (.pointer (some ⟨g, 0, none⟩)) ∧ Keep (phiC A5 Q g17) (fun w => OwnS w b g B (seedL (t : Int))) w5 ∧ blk B ≠ blk A5 := fun t ht => by
        obtain ⟨g, b, B, h1, h2, h3⟩ := hA t ht
        refine ⟨g, b, B, h1, (h2.ext hEb).move u5 hs5, fun e => ?_⟩
        rcases b5 with b5 | b5
        · exact h3 (e.trans b5)
        · have h4 := ((h2.ext hEb).self).blk_lt (e.trans b5)
          omega
      have hQ5 : ∀ t, t < j → ∃ E d, us[t]? = some (.slice E 32 d) ∧ Keep (phiC A5 Q g17) (fun w => RB w E 32 d (ownP (seedL (t : Int)))) w5 := fun t ht => by
        obtain ⟨E, d, h1, h2⟩ := hQ t ht
        exact ⟨E, d, h1, (h2.ext hEb).move u5 hs5⟩
      have hne5 : blk (some (⟨g2, 0, none⟩ : Addr)) ≠ blk A5 := by
        intro e
        rcases b5 with b5 | b5
        · exact hneA (e.trans b5)
        · have h4 := kS.self.blk_lt (e.trans b5)
          omega
      have oQ5 := row_kept oQ4 oA4 (by decide) g5
      have hB5 := hB4.grown g5 (fun e => row_ne_blk oA4 hB4 (by decide) e.symm)
      have hEr5 := (hEr.trans hEb).then_grown g5 (fun x hx => (hAlt x hx).1)
      have rO := kS5.self.own
      have hne51 := hne5
      obtain ⟨gA, rfl, hcx1, hcx2⟩ := row_plain oA5 (by omega)
      have hvl : vs.length = j := by have := oA.1; omega
      have hul : us.length = j := by have := oQ.1; omega
      have hcO := World.ownsRow.cells oA5 (g := gA) rfl j (.pointer (some ⟨gO, 0, none⟩)) (by simp [← hvl])
      clear kS kG hA hQ hs5 u5 b5 g5 hEb hEa hBa oA4 oQ4 hB4 oA oQ hB17 hEr hszb hphi hphi2 hs3 hglt
      have hB17 := hB5
      refine par_ext (n := 8) (by kernel_rfl) [.is (.pointer (some ⟨g17, 1, none⟩)), .is (.slice (Q) (j) (dq)), .is (.slice ((some ⟨gA, 0, none⟩)) ((j + 1)) (c5)), .is (.int .i64 ((j : Int))), .is (.pointer (some ((⟨gA, 0, none⟩ : Addr).add (j)))), .is (.pointer (some ⟨gO, 0, none⟩)), .ob32 (bO) (ownP Sd), .one32 (bO) (ownP Sd)] rfl ⟨?_, ?_, ?_, ?_, ?_, ?_, ?_, ?_, trivial⟩ ?_
      · refine stepE rfl fun sdn sa sw sE sd sk => ?_
        have h17 : sa.eval (.tmp 17) = .pointer (some ⟨g17, 0, none⟩) := sk.old 17 rfl
        refine Runs.of_run (r := .pointer (some ⟨g17, 1, none⟩)) (w' := sw) ?_ ⟨Ext.refl _, rfl⟩
        unfold execOp
        simp only [h17]
        go_simp
      · refine stepE rfl fun sdn sa sw sE sd sk => ?_
        have h44 : sa.eval (.tmp 44) = .pointer (some ⟨g17, 1, none⟩) := sk.fact 0 44 rfl (sd 0 rfl)
        exact Runs.load rfl h44 (run_load1 Try.underlying23 rfl ((hB17.ext sE).cell (i := 1) rfl)) ⟨Ext.refl _, rfl⟩
      · refine stepE rfl fun sdn sa sw sE sd sk => ?_
        have h16 : sa.eval (.tmp 16) = .slice ((some ⟨gA, 0, none⟩)) ((j + 1)) (c5) := sk.old 16 rfl
        exact Runs.move rfl h16 ⟨Ext.refl _, rfl⟩
      · refine stepE rfl fun sdn sa sw sE sd sk => ?_
        have h18 : sa.eval (.tmp 18) = .int .i64 ((j : Int)) := sk.old 18 rfl
        exact Runs.move rfl h18 ⟨Ext.refl _, rfl⟩
      · refine stepE rfl fun sdn sa sw sE sd sk => ?_
        have h46 : sa.eval (.tmp 46) = .slice ((some ⟨gA, 0, none⟩)) ((j + 1)) (c5) := sk.fact 2 46 rfl (sd 2 rfl)
        have h47 : sa.eval (.tmp 47) = .int .i64 ((j : Int)) := sk.fact 3 47 rfl (sd 3 rfl)
        exact Runs.idx rfl h46 h47 (run_idx_sl1 Try.underlying50 infO_eq infO_size (j) (by omega) (by omega)) ⟨Ext.refl _, rfl⟩
      · refine stepE rfl fun sdn sa sw sE sd sk => ?_
        have h48 : sa.eval (.tmp 48) = .pointer (some ((⟨gA, 0, none⟩ : Addr).add (j))) := sk.fact 4 48 rfl (sd 4 rfl)
        exact Runs.load rfl h48 (run_load1 Try.underlying37 rfl (sE.cell hcO)) ⟨Ext.refl _, rfl⟩
      · refine stepE rfl fun sdn sa sw sE sd sk => ?_
        have h49 : sa.eval (.tmp 49) = .pointer (some ⟨gO, 0, none⟩) := sk.fact 5 49 rfl (sd 5 rfl)
        refine Runs.call (f := 27) (vs := [.pointer (some ⟨gO, 0, none⟩)]) rfl rfl rfl (by simp only [List.map_toArray, List.map_cons, List.map_nil, h49] <;> rfl) (ent27 _ _) ((rpublic_own gO bO _ sw (rO.ext sE)).mono ?_); rintro e w' ⟨g', c', rfl, own, hx⟩; exact ⟨_, rfl, hx, g', c', rfl, own⟩
      · refine stepE rfl fun sdn sa sw sE sd sk => ?_
        obtain ⟨g50, d50, h50, o50⟩ := sk.fact 6 50 rfl (sd 6 rfl)
        exact Runs.one1 rfl h50 (fun w1 e1 b1 => ⟨e1, _, _, _, rfl, b1, o50.ext e1⟩)
      intro vals W8 hE8 hv8
      have e0 : vals 0 = .pointer (some ⟨g17, 1, none⟩) := hv8 0 (by omega) 44 rfl
      have e1 : vals 1 = .slice (Q) (j) (dq) := hv8 1 (by omega) 45 rfl
      have e2 : vals 2 = .slice ((some ⟨gA, 0, none⟩)) ((j + 1)) (c5) := hv8 2 (by omega) 46 rfl
      have e3 : vals 3 = .int .i64 ((j : Int)) := hv8 3 (by omega) 47 rfl
      have e4 : vals 4 = .pointer (some ((⟨gA, 0, none⟩ : Addr).add (j))) := hv8 4 (by omega) 48 rfl
      have e5 : vals 5 = .pointer (some ⟨gO, 0, none⟩) := hv8 5 (by omega) 49 rfl
      obtain ⟨g50, d50, e6, o50⟩ := hv8 6 (by omega) 50 rfl
      obtain ⟨x51, g51, d51, e7, hc51, o51⟩ := hv8 7 (by omega) 51 rfl
      simp only [putAll, Act.put, List.take_succ_cons, List.take_zero, List.drop_succ_cons, List.drop_zero, List.drop_nil, List.take_nil, Nat.reduceAdd, List.setIfInBounds_toArray, List.set_cons_succ, List.set_cons_zero, e0, e1, e2, e3, e4, e5, e6, e7]
      clear hv8 e0 e1 e2 e3 e4 e5 e6 e7
      have oA8 := ownsRow_upd oA5 (Upd.of_ext (φ := fun _ => False) hE8) (fun _ _ h => h)
      have oQ8 := ownsRow_upd oQ5 (Upd.of_ext (φ := fun _ => False) hE8) (fun _ _ h => h)
      have hB8 := hB5.ext hE8
      have hEr8 := hEr5.trans hE8
      have kP : Keep (phiC (some ⟨gA, 0, none⟩) Q g17) (fun w => RB w (some ⟨g51, 0, none⟩) 32 d51 (ownP Sd)) W8 := o51.rb.keep_ (fun _ x hx hp => by
        have hx2 : g51 = x := Option.some.inj hx
        subst hx2
        rcases hp with h | h | h
        · obtain ⟨cs, hcs⟩ := row_blk oA8 h
          exact o51.ne_blk hcs (by decide) rfl
        · obtain ⟨cs, hcs⟩ := row_blk oQ8 h
          exact o51.ne_blk hcs (by decide) rfl
        · subst h
          exact o51.ne_blk hB8 (by decide) rfl)
      have hQlt8 : ∀ x, blk Q = some x → w.heap.size ≤ x := fun x hx => (hQlt x hx).1
      have kS8 := kS5.ext hE8
      have kG8 := kG5.ext hE8
      clear hB17 hcO rO hAlt hQlt o2 oA5 oQ5 hB5 kS5 kG5 hEr5 o50 hne5 hneA
      go_wp2_with (refine app1_law (z := .slice none 0 0) (by_ := 24) Try.underlying23 info_bb' rfl (by omega) rfl rfl rfl rfl hc51 oQ8 rfl hEr8.size (by omega) ?_; intro Q5 d5 w7 oQ7 g7 b7; have hB7 := hB8.grown g7 (fun e => row_ne_blk oQ8 hB8 (by decide) e.symm); have y5 := hB7.cell (i := 1) (v := .slice Q j dq) rfl; have y6 := hB7.frozen 1)
      have u7 : Upd (phiC (some ⟨gA, 0, none⟩) Q g17) W8 w7 := Upd.of_grown g7 (fun x hx => .inr (.inl hx))
      have hs7 : ∀ x, x < W8.heap.size → phiC (some ⟨gA, 0, none⟩) Q5 g17 x → phiC (some ⟨gA, 0, none⟩) Q g17 x := by
        rintro x hx (h | h | h)
        · exact .inl h
        · rcases b7 with b7 | b7
          · exact .inr (.inl (b7.symm.trans h))
          · rw [b7] at h
            injection h with h
            omega
        · exact .inr (.inr h)
      have gs := grown_set w7 ⟨g17, 1, none⟩ (.slice Q5 (j + 1) d5)
      have u9 : Upd (phiC (some ⟨gA, 0, none⟩) Q5 g17) w7 (w7.setCell ⟨g17, 1, none⟩ (.slice Q5 (j + 1) d5)) := Upd.of_grown gs (fun x hx => by
        have hx2 : g17 = x := Option.some.inj hx
        exact .inr (.inr hx2.symm))
      have oA7 := row_kept oA8 oQ8 (by decide) g7
      have oA9 := World.ownsRow.kept oA7 gs (.inr (by rw [ownBlock_slice]; exact row_ne_blk oA7 hB7 (by decide)))
      have oQ9 := World.ownsRow.kept oQ7 gs (.inr (by rw [ownBlock_slice]; exact row_ne_blk oQ7 hB7 (by decide)))
      have hB9 : Blk (w7.setCell ⟨g17, 1, none⟩ (.slice Q5 (j + 1) d5)) g17 52 #[.slice G 32 cg, .slice Q5 (j + 1) d5, .int .i64 z] := hB7.set 1 _
      have hE9 := (hEr8.then_grown g7 hQlt8).set (p := ⟨g17, 1, none⟩) hge17 (.slice Q5 (j + 1) d5)
      have kG9 := (kG8.move u7 hs7).step u9
      have kS9 := (kS8.move u7 hs7).step u9
      have kP9 := (kP.move u7 hs7).step u9
      have hA9 : ∀ t, t < j + 1 → ∃ g b B, (vs ++ [.pointer (some ⟨gO, 0, none⟩)])[t]? = some (.pointer (some ⟨g, 0, none⟩)) ∧ Keep (phiC (some ⟨gA, 0, none⟩) Q5 g17) (fun w => OwnS w b g B (seedL (t : Int))) (w7.setCell ⟨g17, 1, none⟩ (.slice Q5 (j + 1) d5)) ∧ blk B ≠ blk (some (⟨gA, 0, none⟩ : Addr)) := fun t ht => by
        by_cases htj : t < j
        · obtain ⟨g, b, B, h1, h2, h3⟩ := hA5 t htj
          exact ⟨g, b, B, by rw [List.getElem?_append_left (by omega)]; exact h1, ((h2.ext hE8).move u7 hs7).step u9, h3⟩
        · obtain rfl : t = j := by omega
          exact ⟨gO, bO, _, by rw [List.getElem?_append_right (by omega), hvl, Nat.sub_self]; rfl, by rw [← HSd.out]; exact kS9, hne51⟩
      have hQ9 : ∀ t, t < j + 1 → ∃ E d, (us ++ [.slice (some ⟨g51, 0, none⟩) 32 d51])[t]? = some (.slice E 32 d) ∧ Keep (phiC (some ⟨gA, 0, none⟩) Q5 g17) (fun w => RB w E 32 d (ownP (seedL (t : Int)))) (w7.setCell ⟨g17, 1, none⟩ (.slice Q5 (j + 1) d5)) := fun t ht => by
        by_cases htj : t < j
        · obtain ⟨E, d, h1, h2⟩ := hQ5 t htj
          exact ⟨E, d, by rw [List.getElem?_append_left (by omega)]; exact h1, ((h2.ext hE8).move u7 hs7).step u9⟩
        · obtain rfl : t = j := by omega
          exact ⟨_, d51, by rw [List.getElem?_append_right (by omega), hul, Nat.sub_self]; rfl, by rw [← HSd.out]; exact kP9⟩
      clear u7 hs7 u9 gs oA7 oQ7 oA8 oQ8 hB7 hB8 y5 y6 kG8 kS8 kP kS9 kP9 g7 b7 hE8 hEr8 hA5 hQ5 o51 hc51
      go_roundw
      case rel => exact ⟨j + 1, c5, d5, _, Q5, _, _, by omega, by go_num, rfl, oA9, oQ9, hA9, hQ9, hB9, kG9, hE9⟩
      case measure => simp [intOf]; omega
    · obtain rfl : j = k := by omega
      have pk : PubK wr (phiC A Q g17) w.heap.size Q j dq us (fun t => ownP (seedL (t : Int))) := ⟨oQ, hQ⟩
      have oO : OwO wr w.heap.size A j c ((List.range j).map fun t : Nat => seedL ((t : Nat) : Int)) := ⟨vs, oA, by simp, fun t ht => by
        obtain ⟨g, b, B, h1, h2, h3⟩ := hA t ht
        exact ⟨g, b, B, h1, by rw [lb_range _ ht]; exact h2.self, h3⟩⟩
      have hg17 : phiC A Q g17 g17 := .inr (.inr rfl)
      generalize (List.range j).map (fun t : Nat => seedL ((t : Nat) : Int)) = Ss at *
      obtain ⟨k, rfl⟩ : ∃ k, k = j := ⟨_, rfl⟩
      clear oA oQ hA hQ hj hGlt oG
      replace hL := hL.ext hEr
      replace hM := hM.ext hEr
      go_wp2_with fail
      refine (within_any s0 0 9 wr hs0.1 hs0.2 (by omega) (by omega) (by omega)).mono ?_
      rintro e x1 ⟨rfl, rfl⟩
      generalize within s0 0 9 = x at *
      go_wp2_with fail
      refine (hash_any s0 wr hs0.1 hs0.2).mono ?_
      rintro e w3 ⟨B, cb, rfl, oR, hE⟩
      generalize khash s0 = R at *
      have hEn := Ext.new w3 (.cells #[.int .i64 x, .slice B 32 cb] 54)
      have hB19 := Blk.new w3 54 #[.int .i64 x, .slice B 32 cb]
      have hn19 : w3.heap.size ≠ g17 := by
        have := (hB17.ext hE).lt
        omega
      replace hE := hE.trans hEn
      replace hL := hL.ext hE
      replace hM := hM.ext hE
      replace pk := pk.ext hE
      replace oO := oO.ext hE
      replace hB17 := hB17.ext hE
      replace kG := kG.ext hE
      replace oR := oR.ext hEn
      replace hEr := hEr.trans hE
      clear hEn hE
      go_wp2_with fail
      generalize w3.alloc (.cells #[.int .i64 x, .slice B 32 cb] 54) = w4 at *
      generalize w3.heap.size = g19 at *
      refine (within_any s1 0 9 w4 hs1.1 hs1.2 (by omega) (by omega) (by omega)).mono ?_
      rintro e x1 ⟨rfl, rfl⟩
      generalize within s1 0 9 = y at *
      go_wp2_with fail
      refine (hash_any s1 w4 hs1.1 hs1.2).mono ?_
      rintro e w5 ⟨D, cd, rfl, oT, hE⟩
      generalize khash s1 = T at *
      have hEn := Ext.new w5 (.cells #[.int .i64 y, .slice D 32 cd] 54)
      have hB20 := Blk.new w5 54 #[.int .i64 y, .slice D 32 cd]
      have hn20 : w5.heap.size ≠ g17 := by
        have := (hB17.ext hE).lt
        omega
      replace hE := hE.trans hEn
      replace hL := hL.ext hE
      replace hM := hM.ext hE
      replace pk := pk.ext hE
      replace oO := oO.ext hE
      replace hB17 := hB17.ext hE
      replace kG := kG.ext hE
      replace oR := oR.ext hE
      replace hB19 := hB19.ext hE
      replace oT := oT.ext hEn
      replace hEr := hEr.trans hE
      clear hEn hE
      go_upto_region 11 with (fail)
      generalize w5.alloc (.cells #[.int .i64 y, .slice D 32 cd] 54) = w12 at *
      generalize w5.heap.size = g20 at *
      have rR := oR.rb
      have rT := oT.rb
      refine par_ext (n := 9) (by kernel_rfl) [.is (.slice (L) (nl) (cl)), .is (.slice (A) (k) (c)), .is (.agg #[.int .i64 (x), .slice (B) (32) (cb)]), .cos5, .is (.slice (M) (nm) (cm)), .is (.slice (A) (k) (c)), .is (.agg #[.int .i64 (y), .slice (D) (32) (cd)]), .is (.bool (bad)), .cos5] rfl ⟨?_, ?_, ?_, ?_, ?_, ?_, ?_, ?_, ?_, trivial⟩ ?_
      · refine stepE rfl fun sdn sa sw sE sd sk => ?_
        have h2 : sa.eval (.tmp 2) = .slice (L) (nl) (cl) := sk.old 2 rfl
        exact Runs.move rfl h2 ⟨Ext.refl _, rfl⟩
      · refine stepE rfl fun sdn sa sw sE sd sk => ?_
        have h16 : sa.eval (.tmp 16) = .slice (A) (k) (c) := sk.old 16 rfl
        exact Runs.move rfl h16 ⟨Ext.refl _, rfl⟩
      · refine stepE rfl fun sdn sa sw sE sd sk => ?_
        have h19 : sa.eval (.tmp 19) = .pointer (some ⟨g19, 0, none⟩) := sk.old 19 rfl
        exact Runs.load rfl h19 (load_part (hB19.ext sE) 0 (vs := [.int .i64 (x), .slice (B) (32) (cb)]) rfl Try.underlying54 rfl (by kernel_rfl)) ⟨Ext.refl _, rfl⟩
      · refine stepE rfl fun sdn sa sw sE sd sk => ?_
        have h64 : sa.eval (.tmp 64) = .slice (L) (nl) (cl) := sk.fact 0 64 rfl (sd 0 rfl)
        have h65 : sa.eval (.tmp 65) = .slice (A) (k) (c) := sk.fact 1 65 rfl (sd 1 rfl)
        have h66 : sa.eval (.tmp 66) = .agg #[.int .i64 (x), .slice (B) (32) (cb)] := sk.fact 2 66 rfl (sd 2 rfl)
        refine Runs.call (f := 30) (vs := [.slice (L) (nl) (cl), .slice (A) (k) (c), .agg #[.int .i64 (x), .slice (B) (32) (cb)], .bool (false)]) rfl rfl rfl (by simp only [List.map_toArray, List.map_cons, List.map_nil, h64, h65, h66] <;> rfl) (ent30 _ _) ((made26_any _ _ _ _ _ _ _ _ _ _ _ _ _ _ _ sw (hL.ext sE) (oO.ext sE) (by omega) (by omega) (rR.ext sE)).mono ?_); rintro e w' ⟨A', m', c', vs, gs, rfl, hm, oc, hx⟩; exact ⟨_, rfl, hx, _, _, _, _, _, _, rfl, hm, oc⟩
      · refine stepE rfl fun sdn sa sw sE sd sk => ?_
        have h3 : sa.eval (.tmp 3) = .slice (M) (nm) (cm) := sk.old 3 rfl
        exact Runs.move rfl h3 ⟨Ext.refl _, rfl⟩
      · refine stepE rfl fun sdn sa sw sE sd sk => ?_
        have h16 : sa.eval (.tmp 16) = .slice (A) (k) (c) := sk.old 16 rfl
        exact Runs.move rfl h16 ⟨Ext.refl _, rfl⟩
      · refine stepE rfl fun sdn sa sw sE sd sk => ?_
        have h20 : sa.eval (.tmp 20) = .pointer (some ⟨g20, 0, none⟩) := sk.old 20 rfl
        exact Runs.load rfl h20 (load_part (hB20.ext sE) 0 (vs := [.int .i64 (y), .slice (D) (32) (cd)]) rfl Try.underlying54 rfl (by kernel_rfl)) ⟨Ext.refl _, rfl⟩
      · refine stepE rfl fun sdn sa sw sE sd sk => ?_
        have h6 : sa.eval (.tmp 6) = .bool (bad) := sk.old 6 rfl
        exact Runs.move rfl h6 ⟨Ext.refl _, rfl⟩
      · refine stepE rfl fun sdn sa sw sE sd sk => ?_
        have h68 : sa.eval (.tmp 68) = .slice (M) (nm) (cm) := sk.fact 4 68 rfl (sd 4 rfl)
        have h69 : sa.eval (.tmp 69) = .slice (A) (k) (c) := sk.fact 5 69 rfl (sd 5 rfl)
        have h70 : sa.eval (.tmp 70) = .agg #[.int .i64 (y), .slice (D) (32) (cd)] := sk.fact 6 70 rfl (sd 6 rfl)
        have h71 : sa.eval (.tmp 71) = .bool (bad) := sk.fact 7 71 rfl (sd 7 rfl)
        refine Runs.call (f := 30) (vs := [.slice (M) (nm) (cm), .slice (A) (k) (c), .agg #[.int .i64 (y), .slice (D) (32) (cd)], .bool (bad)]) rfl rfl rfl (by simp only [List.map_toArray, List.map_cons, List.map_nil, h68, h69, h70, h71] <;> rfl) (ent30 _ _) ((made26_any _ _ _ _ _ _ _ _ _ _ _ _ _ _ _ sw (hM.ext sE) (oO.ext sE) (by omega) (by omega) (rT.ext sE)).mono ?_); rintro e w' ⟨A', m', c', vs, gs, rfl, hm, oc, hx⟩; exact ⟨_, rfl, hx, _, _, _, _, _, _, rfl, hm, oc⟩
      intro vals W11 hE11 hv11
      have e0 : vals 0 = .slice (L) (nl) (cl) := hv11 0 (by omega) 64 rfl
      have e1 : vals 1 = .slice (A) (k) (c) := hv11 1 (by omega) 65 rfl
      have e2 : vals 2 = .agg #[.int .i64 (x), .slice (B) (32) (cb)] := hv11 2 (by omega) 66 rfl
      obtain ⟨A67, n67, c67, b67, vs67, gs67, e3, le67, r67⟩ := hv11 3 (by omega) 67 rfl
      have e4 : vals 4 = .slice (M) (nm) (cm) := hv11 4 (by omega) 68 rfl
      have e5 : vals 5 = .slice (A) (k) (c) := hv11 5 (by omega) 69 rfl
      have e6 : vals 6 = .agg #[.int .i64 (y), .slice (D) (32) (cd)] := hv11 6 (by omega) 70 rfl
      have e7 : vals 7 = .bool (bad) := hv11 7 (by omega) 71 rfl
      obtain ⟨A72, n72, c72, b72, vs72, gs72, e8, le72, r72⟩ := hv11 8 (by omega) 72 rfl
      simp only [putAll, Act.put, List.take_succ_cons, List.take_zero, List.drop_succ_cons, List.drop_zero, List.drop_nil, List.take_nil, Nat.reduceAdd, List.setIfInBounds_toArray, List.set_cons_succ, List.set_cons_zero, e0, e1, e2, e3, e4, e5, e6, e7, e8]
      clear hv11 e0 e1 e2 e3 e4 e5 e6 e7 e8
      replace pk := pk.ext hE11
      replace hB17 := hB17.ext hE11
      replace kG := kG.ext hE11
      replace oR := oR.ext hE11
      replace oT := oT.ext hE11
      replace hB19 := hB19.ext hE11
      replace hB20 := hB20.ext hE11
      replace hEr := hEr.trans hE11
      have ocA := r67
      have ocB := r72
      clear hL hM oO rR rT hE11 r67 r72
      go_wp2_with fail
      obtain ⟨w13, hw13⟩ : ∃ w13, w13 = W11 := ⟨_, rfl⟩
      rw [← hw13] at pk hB17 kG oR oT hB19 hB20 hEr ocA ocB ⊢
      clear hw13
      obtain ⟨s, hs⟩ : ∃ s, s = seenL (fun g => cosB (khash 1) (WL26 k) z x R g.wn g.k g.ps g.qs) gs67 := ⟨_, rfl⟩
      obtain ⟨t, ht⟩ : ∃ t, t = seenL (fun g => cosB (khash 1) (WL26 k) z y T g.wn g.k g.ps g.qs) gs72 := ⟨_, rfl⟩
      have Hs := Lib.hid hs
      have Ht := Lib.hid ht
      clear hs ht
      go_loopw [23, 24] (fun v i wr => WantI w13 k s t v i wr) (fun _ i _ => k - (intOf i).toNat)
      case atStart => exact ⟨0, 0, 0, none, by omega, rfl, rfl, Nat.le_refl _, OI.none_ _ _, Ext.refl _⟩
      case round =>
        obtain ⟨j, p, d, P, hj, rfl, rfl, hpj, oI, hE13⟩ := hrel
        have hB17r := hB17.ext hE13
        have hB19r := hB19.ext hE13
        have hB20r := hB20.ext hE13
        have y170 := hB17r.cell (i := 0) (v := .slice G 32 cg) rfl
        have y171 := hB17r.cell (i := 1) (v := .slice Q k dq) rfl
        have y172 := hB17r.cell (i := 2) (v := .int .i64 z) rfl
        have y190 := hB19r.cell (i := 0) (v := .int .i64 x) rfl
        have y191 := hB19r.cell (i := 1) (v := .slice B 32 cb) rfl
        have y200 := hB20r.cell (i := 0) (v := .int .i64 y) rfl
        have y201 := hB20r.cell (i := 1) (v := .slice D 32 cd) rfl
        have rG := (kG.ext hE13).self
        have rQ : RBB wr Q k dq (WL26 k) := (pk.ext hE13).rbb
        have rR := (oR.ext hE13).rb
        have rT := (oT.ext hE13).rb
        have rL := (ocA.ext hE13).rcv.rcs
        have rM := (ocB.ext hE13).rcv.rcs
        by_cases hlt2 : j < k
        · have hji : (j : Int) < (k : Int) := by omega
          go_wp2_with fail
          refine (by_any G Q B A67 32 cg k dq 32 cb n67 c67 j z x (khash 1) R _ gs67 wr rG rQ rR rL).mono ?_
          rintro e w14 ⟨rfl, hE⟩
          rw [← Hs.out]
          replace hE13 := hE13.trans hE
          replace oI := oI.ext hE
          replace hB17r := hB17r.ext hE
          replace hB20r := hB20r.ext hE
          replace rG := rG.ext hE
          replace rQ := rQ.ext hE
          replace rT := rT.ext hE
          replace rM := rM.ext hE
          clear y170 y171 y172 y190 y191 y200 y201 hB19r rR rL
          cases hsj : s j with
          | false =>
            have hno := bothL_no (s := s) (t := t) (n := j) (by rw [hsj]; rfl)
            have Hno := Lib.hid hno
            clear hno hsj hE
            go_wp2_with fail
            go_roundw
            case rel => exact ⟨j + 1, p, d, P, by omega, by go_num, rfl, by omega, by rw [Hno.out]; exact oI, hE13⟩
            case measure => simp [intOf]; omega
          | true =>
            have Hsj := Lib.hid hsj
            clear hsj hE
            have y170 := hB17r.cell (i := 0) (v := .slice G 32 cg) rfl
            have y171 := hB17r.cell (i := 1) (v := .slice Q k dq) rfl
            have y172 := hB17r.cell (i := 2) (v := .int .i64 z) rfl
            have y200 := hB20r.cell (i := 0) (v := .int .i64 y) rfl
            have y201 := hB20r.cell (i := 1) (v := .slice D 32 cd) rfl
            go_wp2_with fail
            refine (by_any G Q D A72 32 cg k dq 32 cd n72 c72 j z y (khash 1) T _ gs72 w14 rG rQ rT rM).mono ?_
            rintro e w15 ⟨rfl, hE⟩
            rw [← Ht.out]
            replace hE13 := hE13.trans hE
            replace oI := oI.ext hE
            clear y170 y171 y172 y200 y201 hB17r hB20r rG rQ rT rM hE
            cases htj : t j with
            | false =>
              have hno := bothL_no (s := s) (t := t) (n := j) (by rw [htj]; exact Bool.and_false _)
              have Hno := Lib.hid hno
              clear hno htj
              go_wp2_with fail
              go_roundw
              case rel => exact ⟨j + 1, p, d, P, by omega, by go_num, rfl, by omega, by rw [Hno.out]; exact oI, hE13⟩
              case measure => simp [intOf]; omega
            | true =>
              have hyes := bothL_yes (s := s) (t := t) (n := j) (by rw [Hsj.out, htj]; rfl)
              have Hy := Lib.hid hyes
              clear hyes htj
              have hEn := Ext.new w15 (.cells #[.int .i64 (j : Int)] 3)
              have hBn := Blk.new w15 3 #[.int .i64 (j : Int)]
              have oI2 := oI.ext hEn
              have hEw := hE13.trans hEn
              go_wp2_with (refine appi_law (base := w13.heap.size) (y := (j : Int)) rfl rfl rfl rfl (by rw [add_plain]; exact hBn.cell (i := 0) rfl) oI2 hEw.size (by omega) ?_; intro P5 d5 w5 oI5 g5)
              go_roundw
              case rel => exact ⟨j + 1, p + 1, d5, P5, by omega, by go_num, rfl, by omega, by rw [Hy.out]; exact oI5, hEw.then_grown g5 (fun b hb => (oI2.lt hb).1)⟩
              case measure => simp [intOf]; omega
        · obtain ⟨k, rfl⟩ : ∃ k', k' = k := ⟨_, rfl⟩
          obtain rfl : j = k := by omega
          obtain ⟨k, rfl⟩ : ∃ k', k' = j := ⟨_, rfl⟩
          have hsk := seen_hi (LG := khash 1) (R := R) (Ws := WL26 k) (q := z) (x := x) (gs := gs67) (k := k) (WL26_len k)
          have htk := seen_hi (LG := khash 1) (R := T) (Ws := WL26 k) (q := z) (x := y) (gs := gs72) (k := k) (WL26_len k)
          rw [← Hs.out] at hsk
          rw [← Ht.out] at htk
          have hb4 := bothL_more (t := t) hsk 4 hk4
          have hcs := cnt_sum (fun g => cosB (khash 1) (WL26 k) z x R g.wn g.k g.ps g.qs) gs67
          have hct := cnt_sum (fun g => cosB (khash 1) (WL26 k) z y T g.wn g.k g.ps g.qs) gs72
          rw [← Hs.out, sumTo_more hsk 4 hk4] at hcs
          rw [← Ht.out, sumTo_more htk 4 hk4] at hct
          have hbl := both_len s t k
          rw [← hcs, ← hct] at hbl
          have Hb4 := Lib.hid hb4
          have Hbl := Lib.hid hbl
          have RW := Lib.hid oI.ris
          clear hsk htk hb4 hcs hct hbl
          go_wp2_with fail
          refine (common_any G Q B D A67 A72 32 cg k dq 32 cb 32 cd n67 c67 n72 c72 z x y (khash 1) R T _ gs67 gs72 wr rG rQ rR rL rT rM).mono ?_
          rintro e w20 ⟨P25, p25, d25, rfl, rI, hE⟩
          rw [← Hs.out, ← Ht.out, Hb4.out] at rI
          have hE20 := hE13.trans hE
          clear y170 y171 y172 y190 y191 y200 y201
          go_wp2_with fail
          refine (samei_any P25 P p25 d25 p d _ _ w20 rI (RW.out.ext hE)).mono ?_
          rintro e w21 ⟨rfl, hE21⟩
          rw [decide_eq_true rfl]
          replace hE20 := hE20.trans hE21
          have hpl := rI.len
          have hpc := rI.room
          clear hE hE21 rI RW hB17r hB19r hB20r rG rQ rR rT rL rM oI hE13
          replace pk := pk.ext hE20
          replace hB17 := hB17.ext hE20
          replace kG := kG.ext hE20
          replace oR := oR.ext hE20
          replace oT := oT.ext hE20
          replace hB19 := hB19.ext hE20
          replace hB20 := hB20.ext hE20
          replace ocA := ocA.ext hE20
          replace ocB := ocB.ext hE20
          replace hEr := hEr.trans hE20
          have rG := kG.self
          have rQ : RBB w21 Q k dq (WL26 k) := pk.rbb
          have rR := oR.rb
          have rT := oT.rb
          have rL := ocA.rcv.rcs
          have rM := ocB.rcv.rcs
          go_upto_region 21 with (fail)
          by_cases c1 : z ≤ cntL (fun g => cosB (khash 1) (WL26 k) z x R g.wn g.k g.ps g.qs) gs67
          · have e1 : decide (z ≤ cntL (fun g => cosB (khash 1) (WL26 k) z x R g.wn g.k g.ps g.qs) gs67) = true := decide_eq_true c1
            by_cases c2 : z ≤ cntL (fun g => cosB (khash 1) (WL26 k) z y T g.wn g.k g.ps g.qs) gs72
            · have e2 : decide (z ≤ cntL (fun g => cosB (khash 1) (WL26 k) z y T g.wn g.k g.ps g.qs) gs72) = true := decide_eq_true c2
              have e3 : decide (((p25 : Nat) : Int) < ((2 : Int) * z) - (k : Int)) = false := decide_eq_false (by have h := Hbl.out; rw [hpl] at h; omega)
              clear c1 c2
              refine par_ext (n := 26) (by kernel_rfl) [.is (.agg #[.slice (G) (32) (cg), .slice (Q) (k) (dq), .int .i64 (z)]), .is (.agg #[.int .i64 (x), .slice (B) (32) (cb)]), .is (.slice (A67) (n67) (c67)), .is (.int .i64 (cntL (fun g => cosB (khash 1) (WL26 k) z x R g.wn g.k g.ps g.qs) gs67)), .is (.pointer (some ⟨g17, 2, none⟩)), .is (.int .i64 (z)), .is (.bool (true)), .is (.bool (true)), .is (.agg #[.slice (G) (32) (cg), .slice (Q) (k) (dq), .int .i64 (z)]), .is (.agg #[.int .i64 (y), .slice (D) (32) (cd)]), .is (.slice (A72) (n72) (c72)), .is (.int .i64 (cntL (fun g => cosB (khash 1) (WL26 k) z y T g.wn g.k g.ps g.qs) gs72)), .is (.pointer (some ⟨g17, 2, none⟩)), .is (.int .i64 (z)), .is (.bool (true)), .is (.bool (true)), .is (.bool (true)), .is (.slice (P25) (p25) (d25)), .is (.int .i64 ((p25 : Nat))), .is (.pointer (some ⟨g17, 2, none⟩)), .is (.int .i64 (z)), .is (.int .i64 ((2 : Int) * z)), .is (.int .i64 ((k : Int))), .is (.int .i64 (((2 : Int) * z) - (k : Int))), .is (.bool (false)), .is (.bool (false))] rfl ⟨?_, ?_, ?_, ?_, ?_, ?_, ?_, ?_, ?_, ?_, ?_, ?_, ?_, ?_, ?_, ?_, ?_, ?_, ?_, ?_, ?_, ?_, ?_, ?_, ?_, ?_, trivial⟩ ?_
              · refine stepE rfl fun sdn sa sw sE sd sk => ?_
                have h17 : sa.eval (.tmp 17) = .pointer (some ⟨g17, 0, none⟩) := sk.old 17 rfl
                exact Runs.load rfl h17 (load_part (hB17.ext sE) 0 (vs := [.slice (G) (32) (cg), .slice (Q) (k) (dq), .int .i64 (z)]) rfl Try.underlying52 rfl (by kernel_rfl)) ⟨Ext.refl _, rfl⟩
              · refine stepE rfl fun sdn sa sw sE sd sk => ?_
                have h19 : sa.eval (.tmp 19) = .pointer (some ⟨g19, 0, none⟩) := sk.old 19 rfl
                exact Runs.load rfl h19 (load_part (hB19.ext sE) 0 (vs := [.int .i64 (x), .slice (B) (32) (cb)]) rfl Try.underlying54 rfl (by kernel_rfl)) ⟨Ext.refl _, rfl⟩
              · refine stepE rfl fun sdn sa sw sE sd sk => ?_
                have h21 : sa.eval (.tmp 21) = .slice (A67) (n67) (c67) := sk.old 21 rfl
                exact Runs.move rfl h21 ⟨Ext.refl _, rfl⟩
              · refine stepE rfl fun sdn sa sw sE sd sk => ?_
                have h104 : sa.eval (.tmp 104) = .agg #[.slice (G) (32) (cg), .slice (Q) (k) (dq), .int .i64 (z)] := sk.fact 0 104 rfl (sd 0 rfl)
                have h105 : sa.eval (.tmp 105) = .agg #[.int .i64 (x), .slice (B) (32) (cb)] := sk.fact 1 105 rfl (sd 1 rfl)
                have h106 : sa.eval (.tmp 106) = .slice (A67) (n67) (c67) := sk.fact 2 106 rfl (sd 2 rfl)
                refine Runs.call (f := 34) (vs := [.agg #[.slice (G) (32) (cg), .slice (Q) (k) (dq), .int .i64 (z)], .agg #[.int .i64 (x), .slice (B) (32) (cb)], .slice (A67) (n67) (c67)]) rfl rfl rfl (by simp only [List.map_toArray, List.map_cons, List.map_nil, h104, h105, h106] <;> rfl) (ent34 _ _) ((rcount_any _ _ _ _ _ _ _ _ _ _ _ _ _ _ _ _ _ _ sw (rG.ext sE) (rQ.ext sE) (rR.ext sE) (rL.ext sE)).mono ?_); rintro e w' ⟨rfl, hx⟩; exact ⟨_, rfl, hx, rfl⟩
              · refine stepE rfl fun sdn sa sw sE sd sk => ?_
                have h17 : sa.eval (.tmp 17) = .pointer (some ⟨g17, 0, none⟩) := sk.old 17 rfl
                refine Runs.of_run (r := .pointer (some ⟨g17, 2, none⟩)) (w' := sw) ?_ ⟨Ext.refl _, rfl⟩
                unfold execOp
                simp only [h17]
                go_simp
              · refine stepE rfl fun sdn sa sw sE sd sk => ?_
                have h108 : sa.eval (.tmp 108) = .pointer (some ⟨g17, 2, none⟩) := sk.fact 4 108 rfl (sd 4 rfl)
                exact Runs.load rfl h108 (run_load1 Try.underlying3 rfl ((hB17.ext sE).cell (i := 2) rfl)) ⟨Ext.refl _, rfl⟩
              · refine stepE rfl fun sdn sa sw sE sd sk => ?_
                have h107 : sa.eval (.tmp 107) = .int .i64 (cntL (fun g => cosB (khash 1) (WL26 k) z x R g.wn g.k g.ps g.qs) gs67) := sk.fact 3 107 rfl (sd 3 rfl)
                have h109 : sa.eval (.tmp 109) = .int .i64 (z) := sk.fact 5 109 rfl (sd 5 rfl)
                exact Runs.bin rfl h107 h109 (by rfl) (bin_geq _ _ _ _) ⟨Ext.refl _, congrArg Value.bool (e1)⟩
              · refine stepE rfl fun sdn sa sw sE sd sk => ?_
                have h110 : sa.eval (.tmp 110) = .bool (true) := sk.fact 6 110 rfl (sd 6 rfl)
                exact Runs.move rfl h110 ⟨Ext.refl _, rfl⟩
              · refine stepY (j := 7) (d := 111) (b := true) rfl rfl rfl (fun v w h => h) fun sdn sa sw sE sd sk => ?_
                have h17 : sa.eval (.tmp 17) = .pointer (some ⟨g17, 0, none⟩) := sk.old 17 rfl
                exact Runs.load rfl h17 (load_part (hB17.ext sE) 0 (vs := [.slice (G) (32) (cg), .slice (Q) (k) (dq), .int .i64 (z)]) rfl Try.underlying52 rfl (by kernel_rfl)) ⟨Ext.refl _, rfl⟩
              · refine stepY (j := 7) (d := 111) (b := true) rfl rfl rfl (fun v w h => h) fun sdn sa sw sE sd sk => ?_
                have h20 : sa.eval (.tmp 20) = .pointer (some ⟨g20, 0, none⟩) := sk.old 20 rfl
                exact Runs.load rfl h20 (load_part (hB20.ext sE) 0 (vs := [.int .i64 (y), .slice (D) (32) (cd)]) rfl Try.underlying54 rfl (by kernel_rfl)) ⟨Ext.refl _, rfl⟩
              · refine stepY (j := 7) (d := 111) (b := true) rfl rfl rfl (fun v w h => h) fun sdn sa sw sE sd sk => ?_
                have h22 : sa.eval (.tmp 22) = .slice (A72) (n72) (c72) := sk.old 22 rfl
                exact Runs.move rfl h22 ⟨Ext.refl _, rfl⟩
              · refine stepY (j := 7) (d := 111) (b := true) rfl rfl rfl (fun v w h => h) fun sdn sa sw sE sd sk => ?_
                have h112 : sa.eval (.tmp 112) = .agg #[.slice (G) (32) (cg), .slice (Q) (k) (dq), .int .i64 (z)] := sk.fact 8 112 rfl (sd 8 rfl)
                have h113 : sa.eval (.tmp 113) = .agg #[.int .i64 (y), .slice (D) (32) (cd)] := sk.fact 9 113 rfl (sd 9 rfl)
                have h114 : sa.eval (.tmp 114) = .slice (A72) (n72) (c72) := sk.fact 10 114 rfl (sd 10 rfl)
                refine Runs.call (f := 34) (vs := [.agg #[.slice (G) (32) (cg), .slice (Q) (k) (dq), .int .i64 (z)], .agg #[.int .i64 (y), .slice (D) (32) (cd)], .slice (A72) (n72) (c72)]) rfl rfl rfl (by simp only [List.map_toArray, List.map_cons, List.map_nil, h112, h113, h114] <;> rfl) (ent34 _ _) ((rcount_any _ _ _ _ _ _ _ _ _ _ _ _ _ _ _ _ _ _ sw (rG.ext sE) (rQ.ext sE) (rT.ext sE) (rM.ext sE)).mono ?_); rintro e w' ⟨rfl, hx⟩; exact ⟨_, rfl, hx, rfl⟩
              · refine stepY (j := 7) (d := 111) (b := true) rfl rfl rfl (fun v w h => h) fun sdn sa sw sE sd sk => ?_
                have h17 : sa.eval (.tmp 17) = .pointer (some ⟨g17, 0, none⟩) := sk.old 17 rfl
                refine Runs.of_run (r := .pointer (some ⟨g17, 2, none⟩)) (w' := sw) ?_ ⟨Ext.refl _, rfl⟩
                unfold execOp
                simp only [h17]
                go_simp
              · refine stepY (j := 7) (d := 111) (b := true) rfl rfl rfl (fun v w h => h) fun sdn sa sw sE sd sk => ?_
                have h116 : sa.eval (.tmp 116) = .pointer (some ⟨g17, 2, none⟩) := sk.fact 12 116 rfl (sd 12 rfl)
                exact Runs.load rfl h116 (run_load1 Try.underlying3 rfl ((hB17.ext sE).cell (i := 2) rfl)) ⟨Ext.refl _, rfl⟩
              · refine stepY (j := 7) (d := 111) (b := true) rfl rfl rfl (fun v w h => h) fun sdn sa sw sE sd sk => ?_
                have h115 : sa.eval (.tmp 115) = .int .i64 (cntL (fun g => cosB (khash 1) (WL26 k) z y T g.wn g.k g.ps g.qs) gs72) := sk.fact 11 115 rfl (sd 11 rfl)
                have h117 : sa.eval (.tmp 117) = .int .i64 (z) := sk.fact 13 117 rfl (sd 13 rfl)
                exact Runs.bin rfl h115 h117 (by rfl) (bin_geq _ _ _ _) ⟨Ext.refl _, congrArg Value.bool (e2)⟩
              · refine stepE rfl fun sdn sa sw sE sd sk => ?_
                have h111 : sa.eval (.tmp 111) = .bool (true) := sk.fact 7 111 rfl (sd 7 rfl)
                have h118 : sa.eval (.tmp 118) = .bool (true) := sk.fact 14 118 rfl (sd 14 rfl)
                exact Runs.pick rfl h111 ⟨Ext.refl _, by first | exact h118 | simpa using h118⟩
              · refine stepE rfl fun sdn sa sw sE sd sk => ?_
                have h119 : sa.eval (.tmp 119) = .bool (true) := sk.fact 15 119 rfl (sd 15 rfl)
                exact Runs.move rfl h119 ⟨Ext.refl _, rfl⟩
              · refine stepY (j := 16) (d := 120) (b := true) rfl rfl rfl (fun v w h => h) fun sdn sa sw sE sd sk => ?_
                have h25 : sa.eval (.tmp 25) = .slice (P25) (p25) (d25) := sk.old 25 rfl
                exact Runs.move rfl h25 ⟨Ext.refl _, rfl⟩
              · refine stepY (j := 16) (d := 120) (b := true) rfl rfl rfl (fun v w h => h) fun sdn sa sw sE sd sk => ?_
                have h121 : sa.eval (.tmp 121) = .slice (P25) (p25) (d25) := sk.fact 17 121 rfl (sd 17 rfl)
                exact Runs.len Try.underlying49 rfl h121 ⟨Ext.refl _, rfl⟩
              · refine stepY (j := 16) (d := 120) (b := true) rfl rfl rfl (fun v w h => h) fun sdn sa sw sE sd sk => ?_
                have h17 : sa.eval (.tmp 17) = .pointer (some ⟨g17, 0, none⟩) := sk.old 17 rfl
                refine Runs.of_run (r := .pointer (some ⟨g17, 2, none⟩)) (w' := sw) ?_ ⟨Ext.refl _, rfl⟩
                unfold execOp
                simp only [h17]
                go_simp
              · refine stepY (j := 16) (d := 120) (b := true) rfl rfl rfl (fun v w h => h) fun sdn sa sw sE sd sk => ?_
                have h123 : sa.eval (.tmp 123) = .pointer (some ⟨g17, 2, none⟩) := sk.fact 19 123 rfl (sd 19 rfl)
                exact Runs.load rfl h123 (run_load1 Try.underlying3 rfl ((hB17.ext sE).cell (i := 2) rfl)) ⟨Ext.refl _, rfl⟩
              · refine stepY (j := 16) (d := 120) (b := true) rfl rfl rfl (fun v w h => h) fun sdn sa sw sE sd sk => ?_
                have h124 : sa.eval (.tmp 124) = .int .i64 (z) := sk.fact 20 124 rfl (sd 20 rfl)
                exact Runs.bin rfl rfl h124 (eqGuard_bin rfl) (bin_mul64 _ _ _ (by omega) (by omega)) ⟨Ext.refl _, rfl⟩
              · refine stepY (j := 16) (d := 120) (b := true) rfl rfl rfl (fun v w h => h) fun sdn sa sw sE sd sk => ?_
                have h15 : sa.eval (.tmp 15) = .int .i64 ((k : Int)) := sk.old 15 rfl
                exact Runs.move rfl h15 ⟨Ext.refl _, rfl⟩
              · refine stepY (j := 16) (d := 120) (b := true) rfl rfl rfl (fun v w h => h) fun sdn sa sw sE sd sk => ?_
                have h125 : sa.eval (.tmp 125) = .int .i64 ((2 : Int) * z) := sk.fact 21 125 rfl (sd 21 rfl)
                have h126 : sa.eval (.tmp 126) = .int .i64 ((k : Int)) := sk.fact 22 126 rfl (sd 22 rfl)
                exact Runs.bin rfl h125 h126 (eqGuard_bin rfl) (bin_sub64 _ _ _ (by omega) (by omega)) ⟨Ext.refl _, rfl⟩
              · refine stepY (j := 16) (d := 120) (b := true) rfl rfl rfl (fun v w h => h) fun sdn sa sw sE sd sk => ?_
                have h122 : sa.eval (.tmp 122) = .int .i64 ((p25 : Nat)) := sk.fact 18 122 rfl (sd 18 rfl)
                have h127 : sa.eval (.tmp 127) = .int .i64 (((2 : Int) * z) - (k : Int)) := sk.fact 23 127 rfl (sd 23 rfl)
                exact Runs.bin rfl h122 h127 (by rfl) (bin_lss _ _ _ _) ⟨Ext.refl _, congrArg Value.bool (e3)⟩
              · refine stepE rfl fun sdn sa sw sE sd sk => ?_
                have h120 : sa.eval (.tmp 120) = .bool (true) := sk.fact 16 120 rfl (sd 16 rfl)
                have h128 : sa.eval (.tmp 128) = .bool (false) := sk.fact 24 128 rfl (sd 24 rfl)
                exact Runs.pick rfl h120 ⟨Ext.refl _, by first | exact h128 | simpa using h128⟩
              intro vals W21 hE21 hv21
              have e0 : vals 0 = .agg #[.slice (G) (32) (cg), .slice (Q) (k) (dq), .int .i64 (z)] := hv21 0 (by omega) 104 rfl
              have e1 : vals 1 = .agg #[.int .i64 (x), .slice (B) (32) (cb)] := hv21 1 (by omega) 105 rfl
              have e2 : vals 2 = .slice (A67) (n67) (c67) := hv21 2 (by omega) 106 rfl
              have e3 : vals 3 = .int .i64 (cntL (fun g => cosB (khash 1) (WL26 k) z x R g.wn g.k g.ps g.qs) gs67) := hv21 3 (by omega) 107 rfl
              have e4 : vals 4 = .pointer (some ⟨g17, 2, none⟩) := hv21 4 (by omega) 108 rfl
              have e5 : vals 5 = .int .i64 (z) := hv21 5 (by omega) 109 rfl
              have e6 : vals 6 = .bool (true) := hv21 6 (by omega) 110 rfl
              have e7 : vals 7 = .bool (true) := hv21 7 (by omega) 111 rfl
              have e8 : vals 8 = .agg #[.slice (G) (32) (cg), .slice (Q) (k) (dq), .int .i64 (z)] := hv21 8 (by omega) 112 rfl
              have e9 : vals 9 = .agg #[.int .i64 (y), .slice (D) (32) (cd)] := hv21 9 (by omega) 113 rfl
              have e10 : vals 10 = .slice (A72) (n72) (c72) := hv21 10 (by omega) 114 rfl
              have e11 : vals 11 = .int .i64 (cntL (fun g => cosB (khash 1) (WL26 k) z y T g.wn g.k g.ps g.qs) gs72) := hv21 11 (by omega) 115 rfl
              have e12 : vals 12 = .pointer (some ⟨g17, 2, none⟩) := hv21 12 (by omega) 116 rfl
              have e13 : vals 13 = .int .i64 (z) := hv21 13 (by omega) 117 rfl
              have e14 : vals 14 = .bool (true) := hv21 14 (by omega) 118 rfl
              have e15 : vals 15 = .bool (true) := hv21 15 (by omega) 119 rfl
              have e16 : vals 16 = .bool (true) := hv21 16 (by omega) 120 rfl
              have e17 : vals 17 = .slice (P25) (p25) (d25) := hv21 17 (by omega) 121 rfl
              have e18 : vals 18 = .int .i64 ((p25 : Nat)) := hv21 18 (by omega) 122 rfl
              have e19 : vals 19 = .pointer (some ⟨g17, 2, none⟩) := hv21 19 (by omega) 123 rfl
              have e20 : vals 20 = .int .i64 (z) := hv21 20 (by omega) 124 rfl
              have e21 : vals 21 = .int .i64 ((2 : Int) * z) := hv21 21 (by omega) 125 rfl
              have e22 : vals 22 = .int .i64 ((k : Int)) := hv21 22 (by omega) 126 rfl
              have e23 : vals 23 = .int .i64 (((2 : Int) * z) - (k : Int)) := hv21 23 (by omega) 127 rfl
              have e24 : vals 24 = .bool (false) := hv21 24 (by omega) 128 rfl
              have e25 : vals 25 = .bool (false) := hv21 25 (by omega) 129 rfl
              simp only [putAll, Act.put, List.take_succ_cons, List.take_zero, List.drop_succ_cons, List.drop_zero, List.drop_nil, List.take_nil, Nat.reduceAdd, List.setIfInBounds_toArray, List.set_cons_succ, List.set_cons_zero, e0, e1, e2, e3, e4, e5, e6, e7, e8, e9, e10, e11, e12, e13, e14, e15, e16, e17, e18, e19, e20, e21, e22, e23, e24, e25]
              clear hv21 e0 e1 e2 e3 e4 e5 e6 e7 e8 e9 e10 e11 e12 e13 e14 e15 e16 e17 e18 e19 e20 e21 e22 e23 e24 e25
              replace pk := pk.ext hE21
              replace hB17 := hB17.ext hE21
              replace kG := kG.ext hE21
              replace oR := oR.ext hE21
              replace oT := oT.ext hE21
              replace hB19 := hB19.ext hE21
              replace hB20 := hB20.ext hE21
              replace ocA := ocA.ext hE21
              replace ocB := ocB.ext hE21
              replace hEr := hEr.trans hE21
              have gs_ := grown_set W21 ⟨g17, 2, none⟩ (.int .i64 0)
              have f17 := hB17.frozen 2
              have x17 := hB17.cell (i := 2) (v := .int .i64 z) rfl
              have pks := pk.store (i := 2) hB17 (by decide) hg17 (.int .i64 0)
              have kGs := kG.step (Upd.of_grown gs_ (fun x hx => by
                have hx2 : g17 = x := Option.some.inj hx
                exact .inr (.inr hx2.symm)))
              have oRs := oR.grown gs_ (oR.apart_blk hB17 (by decide))
              have oTs := oT.grown gs_ (oT.apart_blk hB17 (by decide))
              have hB17s : Blk (W21.setCell ⟨g17, 2, none⟩ (.int .i64 0)) g17 52 #[.slice G 32 cg, .slice Q k dq, .int .i64 0] := hB17.set 2 _
              have hB19s := hB19.far (p := ⟨g17, 2, none⟩) hn19 (.int .i64 0)
              have hB20s := hB20.far (p := ⟨g17, 2, none⟩) hn20 (.int .i64 0)
              have ocAs := ocA.away hB17 rfl rfl (fun e => by
                obtain ⟨cs', h1, _⟩ := ocA.blk_ e
                exact (h1.ne_ hB17 (by decide)) rfl) gs_
              have ocBs := ocB.away hB17 rfl rfl (fun e => by
                obtain ⟨cs', h1, _⟩ := ocB.blk_ e
                exact (h1.ne_ hB17 (by decide)) rfl) gs_
              have hErs := hEr.set (p := ⟨g17, 2, none⟩) hge17 (.int .i64 0)
              have y170 := hB17s.cell (i := 0) (v := .slice G 32 cg) rfl
              have y171 := hB17s.cell (i := 1) (v := .slice Q k dq) rfl
              have y172 := hB17s.cell (i := 2) (v := .int .i64 0) rfl
              have y190 := hB19s.cell (i := 0) (v := .int .i64 x) rfl
              have y191 := hB19s.cell (i := 1) (v := .slice B 32 cb) rfl
              have y200 := hB20s.cell (i := 0) (v := .int .i64 y) rfl
              have y201 := hB20s.cell (i := 1) (v := .slice D 32 cd) rfl
              clear rG rQ rR rT rL rM
              go_wp2_with fail
              refine (common_any G Q B D A67 A72 32 cg k dq 32 cb 32 cd n67 c67 n72 c72 0 x y (khash 1) R T (WL26 k) gs67 gs72 (W21.setCell ⟨g17, 2, none⟩ (.int .i64 0)) kGs.self pks.rbb oRs.rb ocAs.rcv.rcs oTs.rb ocBs.rcv.rcs).mono ?_
              rintro e w23 ⟨P30, p30, d30, rfl, rI, hE⟩
              rw [both_zero] at rI
              obtain rfl : p30 = 0 := rI.len.symm
              replace hErs := hErs.trans hE
              clear rI hE f17 x17 y170 y171 y172 y190 y191 y200 y201
              go_wp2_with fail
              refine (known26_any w23).mono ?_
              rintro e w24 ⟨rfl, hE⟩
              go_wp2_with fail
              go_ret
              exact ⟨rfl, hErs.trans hE⟩
            · have e2 : decide (z ≤ cntL (fun g => cosB (khash 1) (WL26 k) z y T g.wn g.k g.ps g.qs) gs72) = false := decide_eq_false c2
              clear c1 c2
              refine par_ext (n := 26) (by kernel_rfl) [.is (.agg #[.slice (G) (32) (cg), .slice (Q) (k) (dq), .int .i64 (z)]), .is (.agg #[.int .i64 (x), .slice (B) (32) (cb)]), .is (.slice (A67) (n67) (c67)), .is (.int .i64 (cntL (fun g => cosB (khash 1) (WL26 k) z x R g.wn g.k g.ps g.qs) gs67)), .is (.pointer (some ⟨g17, 2, none⟩)), .is (.int .i64 (z)), .is (.bool (true)), .is (.bool (true)), .is (.agg #[.slice (G) (32) (cg), .slice (Q) (k) (dq), .int .i64 (z)]), .is (.agg #[.int .i64 (y), .slice (D) (32) (cd)]), .is (.slice (A72) (n72) (c72)), .is (.int .i64 (cntL (fun g => cosB (khash 1) (WL26 k) z y T g.wn g.k g.ps g.qs) gs72)), .is (.pointer (some ⟨g17, 2, none⟩)), .is (.int .i64 (z)), .is (.bool (false)), .is (.bool (false)), .is (.bool (false)), .is undef, .is undef, .is undef, .is undef, .is undef, .is undef, .is undef, .is undef, .is (.bool (false))] rfl ⟨?_, ?_, ?_, ?_, ?_, ?_, ?_, ?_, ?_, ?_, ?_, ?_, ?_, ?_, ?_, ?_, ?_, ?_, ?_, ?_, ?_, ?_, ?_, ?_, ?_, ?_, trivial⟩ ?_
              · refine stepE rfl fun sdn sa sw sE sd sk => ?_
                have h17 : sa.eval (.tmp 17) = .pointer (some ⟨g17, 0, none⟩) := sk.old 17 rfl
                exact Runs.load rfl h17 (load_part (hB17.ext sE) 0 (vs := [.slice (G) (32) (cg), .slice (Q) (k) (dq), .int .i64 (z)]) rfl Try.underlying52 rfl (by kernel_rfl)) ⟨Ext.refl _, rfl⟩
              · refine stepE rfl fun sdn sa sw sE sd sk => ?_
                have h19 : sa.eval (.tmp 19) = .pointer (some ⟨g19, 0, none⟩) := sk.old 19 rfl
                exact Runs.load rfl h19 (load_part (hB19.ext sE) 0 (vs := [.int .i64 (x), .slice (B) (32) (cb)]) rfl Try.underlying54 rfl (by kernel_rfl)) ⟨Ext.refl _, rfl⟩
              · refine stepE rfl fun sdn sa sw sE sd sk => ?_
                have h21 : sa.eval (.tmp 21) = .slice (A67) (n67) (c67) := sk.old 21 rfl
                exact Runs.move rfl h21 ⟨Ext.refl _, rfl⟩
              · refine stepE rfl fun sdn sa sw sE sd sk => ?_
                have h104 : sa.eval (.tmp 104) = .agg #[.slice (G) (32) (cg), .slice (Q) (k) (dq), .int .i64 (z)] := sk.fact 0 104 rfl (sd 0 rfl)
                have h105 : sa.eval (.tmp 105) = .agg #[.int .i64 (x), .slice (B) (32) (cb)] := sk.fact 1 105 rfl (sd 1 rfl)
                have h106 : sa.eval (.tmp 106) = .slice (A67) (n67) (c67) := sk.fact 2 106 rfl (sd 2 rfl)
                refine Runs.call (f := 34) (vs := [.agg #[.slice (G) (32) (cg), .slice (Q) (k) (dq), .int .i64 (z)], .agg #[.int .i64 (x), .slice (B) (32) (cb)], .slice (A67) (n67) (c67)]) rfl rfl rfl (by simp only [List.map_toArray, List.map_cons, List.map_nil, h104, h105, h106] <;> rfl) (ent34 _ _) ((rcount_any _ _ _ _ _ _ _ _ _ _ _ _ _ _ _ _ _ _ sw (rG.ext sE) (rQ.ext sE) (rR.ext sE) (rL.ext sE)).mono ?_); rintro e w' ⟨rfl, hx⟩; exact ⟨_, rfl, hx, rfl⟩
              · refine stepE rfl fun sdn sa sw sE sd sk => ?_
                have h17 : sa.eval (.tmp 17) = .pointer (some ⟨g17, 0, none⟩) := sk.old 17 rfl
                refine Runs.of_run (r := .pointer (some ⟨g17, 2, none⟩)) (w' := sw) ?_ ⟨Ext.refl _, rfl⟩
                unfold execOp
                simp only [h17]
                go_simp
              · refine stepE rfl fun sdn sa sw sE sd sk => ?_
                have h108 : sa.eval (.tmp 108) = .pointer (some ⟨g17, 2, none⟩) := sk.fact 4 108 rfl (sd 4 rfl)
                exact Runs.load rfl h108 (run_load1 Try.underlying3 rfl ((hB17.ext sE).cell (i := 2) rfl)) ⟨Ext.refl _, rfl⟩
              · refine stepE rfl fun sdn sa sw sE sd sk => ?_
                have h107 : sa.eval (.tmp 107) = .int .i64 (cntL (fun g => cosB (khash 1) (WL26 k) z x R g.wn g.k g.ps g.qs) gs67) := sk.fact 3 107 rfl (sd 3 rfl)
                have h109 : sa.eval (.tmp 109) = .int .i64 (z) := sk.fact 5 109 rfl (sd 5 rfl)
                exact Runs.bin rfl h107 h109 (by rfl) (bin_geq _ _ _ _) ⟨Ext.refl _, congrArg Value.bool (e1)⟩
              · refine stepE rfl fun sdn sa sw sE sd sk => ?_
                have h110 : sa.eval (.tmp 110) = .bool (true) := sk.fact 6 110 rfl (sd 6 rfl)
                exact Runs.move rfl h110 ⟨Ext.refl _, rfl⟩
              · refine stepY (j := 7) (d := 111) (b := true) rfl rfl rfl (fun v w h => h) fun sdn sa sw sE sd sk => ?_
                have h17 : sa.eval (.tmp 17) = .pointer (some ⟨g17, 0, none⟩) := sk.old 17 rfl
                exact Runs.load rfl h17 (load_part (hB17.ext sE) 0 (vs := [.slice (G) (32) (cg), .slice (Q) (k) (dq), .int .i64 (z)]) rfl Try.underlying52 rfl (by kernel_rfl)) ⟨Ext.refl _, rfl⟩
              · refine stepY (j := 7) (d := 111) (b := true) rfl rfl rfl (fun v w h => h) fun sdn sa sw sE sd sk => ?_
                have h20 : sa.eval (.tmp 20) = .pointer (some ⟨g20, 0, none⟩) := sk.old 20 rfl
                exact Runs.load rfl h20 (load_part (hB20.ext sE) 0 (vs := [.int .i64 (y), .slice (D) (32) (cd)]) rfl Try.underlying54 rfl (by kernel_rfl)) ⟨Ext.refl _, rfl⟩
              · refine stepY (j := 7) (d := 111) (b := true) rfl rfl rfl (fun v w h => h) fun sdn sa sw sE sd sk => ?_
                have h22 : sa.eval (.tmp 22) = .slice (A72) (n72) (c72) := sk.old 22 rfl
                exact Runs.move rfl h22 ⟨Ext.refl _, rfl⟩
              · refine stepY (j := 7) (d := 111) (b := true) rfl rfl rfl (fun v w h => h) fun sdn sa sw sE sd sk => ?_
                have h112 : sa.eval (.tmp 112) = .agg #[.slice (G) (32) (cg), .slice (Q) (k) (dq), .int .i64 (z)] := sk.fact 8 112 rfl (sd 8 rfl)
                have h113 : sa.eval (.tmp 113) = .agg #[.int .i64 (y), .slice (D) (32) (cd)] := sk.fact 9 113 rfl (sd 9 rfl)
                have h114 : sa.eval (.tmp 114) = .slice (A72) (n72) (c72) := sk.fact 10 114 rfl (sd 10 rfl)
                refine Runs.call (f := 34) (vs := [.agg #[.slice (G) (32) (cg), .slice (Q) (k) (dq), .int .i64 (z)], .agg #[.int .i64 (y), .slice (D) (32) (cd)], .slice (A72) (n72) (c72)]) rfl rfl rfl (by simp only [List.map_toArray, List.map_cons, List.map_nil, h112, h113, h114] <;> rfl) (ent34 _ _) ((rcount_any _ _ _ _ _ _ _ _ _ _ _ _ _ _ _ _ _ _ sw (rG.ext sE) (rQ.ext sE) (rT.ext sE) (rM.ext sE)).mono ?_); rintro e w' ⟨rfl, hx⟩; exact ⟨_, rfl, hx, rfl⟩
              · refine stepY (j := 7) (d := 111) (b := true) rfl rfl rfl (fun v w h => h) fun sdn sa sw sE sd sk => ?_
                have h17 : sa.eval (.tmp 17) = .pointer (some ⟨g17, 0, none⟩) := sk.old 17 rfl
                refine Runs.of_run (r := .pointer (some ⟨g17, 2, none⟩)) (w' := sw) ?_ ⟨Ext.refl _, rfl⟩
                unfold execOp
                simp only [h17]
                go_simp
              · refine stepY (j := 7) (d := 111) (b := true) rfl rfl rfl (fun v w h => h) fun sdn sa sw sE sd sk => ?_
                have h116 : sa.eval (.tmp 116) = .pointer (some ⟨g17, 2, none⟩) := sk.fact 12 116 rfl (sd 12 rfl)
                exact Runs.load rfl h116 (run_load1 Try.underlying3 rfl ((hB17.ext sE).cell (i := 2) rfl)) ⟨Ext.refl _, rfl⟩
              · refine stepY (j := 7) (d := 111) (b := true) rfl rfl rfl (fun v w h => h) fun sdn sa sw sE sd sk => ?_
                have h115 : sa.eval (.tmp 115) = .int .i64 (cntL (fun g => cosB (khash 1) (WL26 k) z y T g.wn g.k g.ps g.qs) gs72) := sk.fact 11 115 rfl (sd 11 rfl)
                have h117 : sa.eval (.tmp 117) = .int .i64 (z) := sk.fact 13 117 rfl (sd 13 rfl)
                exact Runs.bin rfl h115 h117 (by rfl) (bin_geq _ _ _ _) ⟨Ext.refl _, congrArg Value.bool (e2)⟩
              · refine stepE rfl fun sdn sa sw sE sd sk => ?_
                have h111 : sa.eval (.tmp 111) = .bool (true) := sk.fact 7 111 rfl (sd 7 rfl)
                have h118 : sa.eval (.tmp 118) = .bool (false) := sk.fact 14 118 rfl (sd 14 rfl)
                exact Runs.pick rfl h111 ⟨Ext.refl _, by first | exact h118 | simpa using h118⟩
              · refine stepE rfl fun sdn sa sw sE sd sk => ?_
                have h119 : sa.eval (.tmp 119) = .bool (false) := sk.fact 15 119 rfl (sd 15 rfl)
                exact Runs.move rfl h119 ⟨Ext.refl _, rfl⟩
              · exact stepN (j := 16) (d := 120) (b := false) rfl rfl rfl (fun v w h => h) fun w => rfl
              · exact stepN (j := 16) (d := 120) (b := false) rfl rfl rfl (fun v w h => h) fun w => rfl
              · exact stepN (j := 16) (d := 120) (b := false) rfl rfl rfl (fun v w h => h) fun w => rfl
              · exact stepN (j := 16) (d := 120) (b := false) rfl rfl rfl (fun v w h => h) fun w => rfl
              · exact stepN (j := 16) (d := 120) (b := false) rfl rfl rfl (fun v w h => h) fun w => rfl
              · exact stepN (j := 16) (d := 120) (b := false) rfl rfl rfl (fun v w h => h) fun w => rfl
              · exact stepN (j := 16) (d := 120) (b := false) rfl rfl rfl (fun v w h => h) fun w => rfl
              · exact stepN (j := 16) (d := 120) (b := false) rfl rfl rfl (fun v w h => h) fun w => rfl
              · refine stepE rfl fun sdn sa sw sE sd sk => ?_
                have h120 : sa.eval (.tmp 120) = .bool (false) := sk.fact 16 120 rfl (sd 16 rfl)
                exact Runs.pick rfl h120 ⟨Ext.refl _, rfl⟩
              intro vals W21 hE21 hv21
              have e0 : vals 0 = .agg #[.slice (G) (32) (cg), .slice (Q) (k) (dq), .int .i64 (z)] := hv21 0 (by omega) 104 rfl
              have e1 : vals 1 = .agg #[.int .i64 (x), .slice (B) (32) (cb)] := hv21 1 (by omega) 105 rfl
              have e2 : vals 2 = .slice (A67) (n67) (c67) := hv21 2 (by omega) 106 rfl
              have e3 : vals 3 = .int .i64 (cntL (fun g => cosB (khash 1) (WL26 k) z x R g.wn g.k g.ps g.qs) gs67) := hv21 3 (by omega) 107 rfl
              have e4 : vals 4 = .pointer (some ⟨g17, 2, none⟩) := hv21 4 (by omega) 108 rfl
              have e5 : vals 5 = .int .i64 (z) := hv21 5 (by omega) 109 rfl
              have e6 : vals 6 = .bool (true) := hv21 6 (by omega) 110 rfl
              have e7 : vals 7 = .bool (true) := hv21 7 (by omega) 111 rfl
              have e8 : vals 8 = .agg #[.slice (G) (32) (cg), .slice (Q) (k) (dq), .int .i64 (z)] := hv21 8 (by omega) 112 rfl
              have e9 : vals 9 = .agg #[.int .i64 (y), .slice (D) (32) (cd)] := hv21 9 (by omega) 113 rfl
              have e10 : vals 10 = .slice (A72) (n72) (c72) := hv21 10 (by omega) 114 rfl
              have e11 : vals 11 = .int .i64 (cntL (fun g => cosB (khash 1) (WL26 k) z y T g.wn g.k g.ps g.qs) gs72) := hv21 11 (by omega) 115 rfl
              have e12 : vals 12 = .pointer (some ⟨g17, 2, none⟩) := hv21 12 (by omega) 116 rfl
              have e13 : vals 13 = .int .i64 (z) := hv21 13 (by omega) 117 rfl
              have e14 : vals 14 = .bool (false) := hv21 14 (by omega) 118 rfl
              have e15 : vals 15 = .bool (false) := hv21 15 (by omega) 119 rfl
              have e16 : vals 16 = .bool (false) := hv21 16 (by omega) 120 rfl
              have e25 : vals 25 = .bool (false) := hv21 25 (by omega) 129 rfl
              simp only [putAll, Act.put, List.take_succ_cons, List.take_zero, List.drop_succ_cons, List.drop_zero, List.drop_nil, List.take_nil, Nat.reduceAdd, List.setIfInBounds_toArray, List.set_cons_succ, List.set_cons_zero, e0, e1, e2, e3, e4, e5, e6, e7, e8, e9, e10, e11, e12, e13, e14, e15, e16, e25]
              clear hv21 e0 e1 e2 e3 e4 e5 e6 e7 e8 e9 e10 e11 e12 e13 e14 e15 e16 e25
              replace pk := pk.ext hE21
              replace hB17 := hB17.ext hE21
              replace kG := kG.ext hE21
              replace oR := oR.ext hE21
              replace oT := oT.ext hE21
              replace hB19 := hB19.ext hE21
              replace hB20 := hB20.ext hE21
              replace ocA := ocA.ext hE21
              replace ocB := ocB.ext hE21
              replace hEr := hEr.trans hE21
              have gs_ := grown_set W21 ⟨g17, 2, none⟩ (.int .i64 0)
              have f17 := hB17.frozen 2
              have x17 := hB17.cell (i := 2) (v := .int .i64 z) rfl
              have pks := pk.store (i := 2) hB17 (by decide) hg17 (.int .i64 0)
              have kGs := kG.step (Upd.of_grown gs_ (fun x hx => by
                have hx2 : g17 = x := Option.some.inj hx
                exact .inr (.inr hx2.symm)))
              have oRs := oR.grown gs_ (oR.apart_blk hB17 (by decide))
              have oTs := oT.grown gs_ (oT.apart_blk hB17 (by decide))
              have hB17s : Blk (W21.setCell ⟨g17, 2, none⟩ (.int .i64 0)) g17 52 #[.slice G 32 cg, .slice Q k dq, .int .i64 0] := hB17.set 2 _
              have hB19s := hB19.far (p := ⟨g17, 2, none⟩) hn19 (.int .i64 0)
              have hB20s := hB20.far (p := ⟨g17, 2, none⟩) hn20 (.int .i64 0)
              have ocAs := ocA.away hB17 rfl rfl (fun e => by
                obtain ⟨cs', h1, _⟩ := ocA.blk_ e
                exact (h1.ne_ hB17 (by decide)) rfl) gs_
              have ocBs := ocB.away hB17 rfl rfl (fun e => by
                obtain ⟨cs', h1, _⟩ := ocB.blk_ e
                exact (h1.ne_ hB17 (by decide)) rfl) gs_
              have hErs := hEr.set (p := ⟨g17, 2, none⟩) hge17 (.int .i64 0)
              have y170 := hB17s.cell (i := 0) (v := .slice G 32 cg) rfl
              have y171 := hB17s.cell (i := 1) (v := .slice Q k dq) rfl
              have y172 := hB17s.cell (i := 2) (v := .int .i64 0) rfl
              have y190 := hB19s.cell (i := 0) (v := .int .i64 x) rfl
              have y191 := hB19s.cell (i := 1) (v := .slice B 32 cb) rfl
              have y200 := hB20s.cell (i := 0) (v := .int .i64 y) rfl
              have y201 := hB20s.cell (i := 1) (v := .slice D 32 cd) rfl
              clear rG rQ rR rT rL rM
              go_wp2_with fail
              refine (common_any G Q B D A67 A72 32 cg k dq 32 cb 32 cd n67 c67 n72 c72 0 x y (khash 1) R T (WL26 k) gs67 gs72 (W21.setCell ⟨g17, 2, none⟩ (.int .i64 0)) kGs.self pks.rbb oRs.rb ocAs.rcv.rcs oTs.rb ocBs.rcv.rcs).mono ?_
              rintro e w23 ⟨P30, p30, d30, rfl, rI, hE⟩
              rw [both_zero] at rI
              obtain rfl : p30 = 0 := rI.len.symm
              replace hErs := hErs.trans hE
              clear rI hE f17 x17 y170 y171 y172 y190 y191 y200 y201
              go_wp2_with fail
              refine (known26_any w23).mono ?_
              rintro e w24 ⟨rfl, hE⟩
              go_wp2_with fail
              go_ret
              exact ⟨rfl, hErs.trans hE⟩
          · have e1 : decide (z ≤ cntL (fun g => cosB (khash 1) (WL26 k) z x R g.wn g.k g.ps g.qs) gs67) = false := decide_eq_false c1
            clear c1
            refine par_ext (n := 26) (by kernel_rfl) [.is (.agg #[.slice (G) (32) (cg), .slice (Q) (k) (dq), .int .i64 (z)]), .is (.agg #[.int .i64 (x), .slice (B) (32) (cb)]), .is (.slice (A67) (n67) (c67)), .is (.int .i64 (cntL (fun g => cosB (khash 1) (WL26 k) z x R g.wn g.k g.ps g.qs) gs67)), .is (.pointer (some ⟨g17, 2, none⟩)), .is (.int .i64 (z)), .is (.bool (false)), .is (.bool (false)), .is undef, .is undef, .is undef, .is undef, .is undef, .is undef, .is undef, .is (.bool (false)), .is (.bool (false)), .is undef, .is undef, .is undef, .is undef, .is undef, .is undef, .is undef, .is undef, .is (.bool (false))] rfl ⟨?_, ?_, ?_, ?_, ?_, ?_, ?_, ?_, ?_, ?_, ?_, ?_, ?_, ?_, ?_, ?_, ?_, ?_, ?_, ?_, ?_, ?_, ?_, ?_, ?_, ?_, trivial⟩ ?_
            · refine stepE rfl fun sdn sa sw sE sd sk => ?_
              have h17 : sa.eval (.tmp 17) = .pointer (some ⟨g17, 0, none⟩) := sk.old 17 rfl
              exact Runs.load rfl h17 (load_part (hB17.ext sE) 0 (vs := [.slice (G) (32) (cg), .slice (Q) (k) (dq), .int .i64 (z)]) rfl Try.underlying52 rfl (by kernel_rfl)) ⟨Ext.refl _, rfl⟩
            · refine stepE rfl fun sdn sa sw sE sd sk => ?_
              have h19 : sa.eval (.tmp 19) = .pointer (some ⟨g19, 0, none⟩) := sk.old 19 rfl
              exact Runs.load rfl h19 (load_part (hB19.ext sE) 0 (vs := [.int .i64 (x), .slice (B) (32) (cb)]) rfl Try.underlying54 rfl (by kernel_rfl)) ⟨Ext.refl _, rfl⟩
            · refine stepE rfl fun sdn sa sw sE sd sk => ?_
              have h21 : sa.eval (.tmp 21) = .slice (A67) (n67) (c67) := sk.old 21 rfl
              exact Runs.move rfl h21 ⟨Ext.refl _, rfl⟩
            · refine stepE rfl fun sdn sa sw sE sd sk => ?_
              have h104 : sa.eval (.tmp 104) = .agg #[.slice (G) (32) (cg), .slice (Q) (k) (dq), .int .i64 (z)] := sk.fact 0 104 rfl (sd 0 rfl)
              have h105 : sa.eval (.tmp 105) = .agg #[.int .i64 (x), .slice (B) (32) (cb)] := sk.fact 1 105 rfl (sd 1 rfl)
              have h106 : sa.eval (.tmp 106) = .slice (A67) (n67) (c67) := sk.fact 2 106 rfl (sd 2 rfl)
              refine Runs.call (f := 34) (vs := [.agg #[.slice (G) (32) (cg), .slice (Q) (k) (dq), .int .i64 (z)], .agg #[.int .i64 (x), .slice (B) (32) (cb)], .slice (A67) (n67) (c67)]) rfl rfl rfl (by simp only [List.map_toArray, List.map_cons, List.map_nil, h104, h105, h106] <;> rfl) (ent34 _ _) ((rcount_any _ _ _ _ _ _ _ _ _ _ _ _ _ _ _ _ _ _ sw (rG.ext sE) (rQ.ext sE) (rR.ext sE) (rL.ext sE)).mono ?_); rintro e w' ⟨rfl, hx⟩; exact ⟨_, rfl, hx, rfl⟩
            · refine stepE rfl fun sdn sa sw sE sd sk => ?_
              have h17 : sa.eval (.tmp 17) = .pointer (some ⟨g17, 0, none⟩) := sk.old 17 rfl
              refine Runs.of_run (r := .pointer (some ⟨g17, 2, none⟩)) (w' := sw) ?_ ⟨Ext.refl _, rfl⟩
              unfold execOp
              simp only [h17]
              go_simp
            · refine stepE rfl fun sdn sa sw sE sd sk => ?_
              have h108 : sa.eval (.tmp 108) = .pointer (some ⟨g17, 2, none⟩) := sk.fact 4 108 rfl (sd 4 rfl)
              exact Runs.load rfl h108 (run_load1 Try.underlying3 rfl ((hB17.ext sE).cell (i := 2) rfl)) ⟨Ext.refl _, rfl⟩
            · refine stepE rfl fun sdn sa sw sE sd sk => ?_
              have h107 : sa.eval (.tmp 107) = .int .i64 (cntL (fun g => cosB (khash 1) (WL26 k) z x R g.wn g.k g.ps g.qs) gs67) := sk.fact 3 107 rfl (sd 3 rfl)
              have h109 : sa.eval (.tmp 109) = .int .i64 (z) := sk.fact 5 109 rfl (sd 5 rfl)
              exact Runs.bin rfl h107 h109 (by rfl) (bin_geq _ _ _ _) ⟨Ext.refl _, congrArg Value.bool (e1)⟩
            · refine stepE rfl fun sdn sa sw sE sd sk => ?_
              have h110 : sa.eval (.tmp 110) = .bool (false) := sk.fact 6 110 rfl (sd 6 rfl)
              exact Runs.move rfl h110 ⟨Ext.refl _, rfl⟩
            · exact stepN (j := 7) (d := 111) (b := false) rfl rfl rfl (fun v w h => h) fun w => rfl
            · exact stepN (j := 7) (d := 111) (b := false) rfl rfl rfl (fun v w h => h) fun w => rfl
            · exact stepN (j := 7) (d := 111) (b := false) rfl rfl rfl (fun v w h => h) fun w => rfl
            · exact stepN (j := 7) (d := 111) (b := false) rfl rfl rfl (fun v w h => h) fun w => rfl
            · exact stepN (j := 7) (d := 111) (b := false) rfl rfl rfl (fun v w h => h) fun w => rfl
            · exact stepN (j := 7) (d := 111) (b := false) rfl rfl rfl (fun v w h => h) fun w => rfl
            · exact stepN (j := 7) (d := 111) (b := false) rfl rfl rfl (fun v w h => h) fun w => rfl
            · refine stepE rfl fun sdn sa sw sE sd sk => ?_
              have h111 : sa.eval (.tmp 111) = .bool (false) := sk.fact 7 111 rfl (sd 7 rfl)
              exact Runs.pick rfl h111 ⟨Ext.refl _, rfl⟩
            · refine stepE rfl fun sdn sa sw sE sd sk => ?_
              have h119 : sa.eval (.tmp 119) = .bool (false) := sk.fact 15 119 rfl (sd 15 rfl)
              exact Runs.move rfl h119 ⟨Ext.refl _, rfl⟩
            · exact stepN (j := 16) (d := 120) (b := false) rfl rfl rfl (fun v w h => h) fun w => rfl
            · exact stepN (j := 16) (d := 120) (b := false) rfl rfl rfl (fun v w h => h) fun w => rfl
            · exact stepN (j := 16) (d := 120) (b := false) rfl rfl rfl (fun v w h => h) fun w => rfl
            · exact stepN (j := 16) (d := 120) (b := false) rfl rfl rfl (fun v w h => h) fun w => rfl
            · exact stepN (j := 16) (d := 120) (b := false) rfl rfl rfl (fun v w h => h) fun w => rfl
            · exact stepN (j := 16) (d := 120) (b := false) rfl rfl rfl (fun v w h => h) fun w => rfl
            · exact stepN (j := 16) (d := 120) (b := false) rfl rfl rfl (fun v w h => h) fun w => rfl
            · exact stepN (j := 16) (d := 120) (b := false) rfl rfl rfl (fun v w h => h) fun w => rfl
            · refine stepE rfl fun sdn sa sw sE sd sk => ?_
              have h120 : sa.eval (.tmp 120) = .bool (false) := sk.fact 16 120 rfl (sd 16 rfl)
              exact Runs.pick rfl h120 ⟨Ext.refl _, rfl⟩
            intro vals W21 hE21 hv21
            have e0 : vals 0 = .agg #[.slice (G) (32) (cg), .slice (Q) (k) (dq), .int .i64 (z)] := hv21 0 (by omega) 104 rfl
            have e1 : vals 1 = .agg #[.int .i64 (x), .slice (B) (32) (cb)] := hv21 1 (by omega) 105 rfl
            have e2 : vals 2 = .slice (A67) (n67) (c67) := hv21 2 (by omega) 106 rfl
            have e3 : vals 3 = .int .i64 (cntL (fun g => cosB (khash 1) (WL26 k) z x R g.wn g.k g.ps g.qs) gs67) := hv21 3 (by omega) 107 rfl
            have e4 : vals 4 = .pointer (some ⟨g17, 2, none⟩) := hv21 4 (by omega) 108 rfl
            have e5 : vals 5 = .int .i64 (z) := hv21 5 (by omega) 109 rfl
            have e6 : vals 6 = .bool (false) := hv21 6 (by omega) 110 rfl
            have e7 : vals 7 = .bool (false) := hv21 7 (by omega) 111 rfl
            have e15 : vals 15 = .bool (false) := hv21 15 (by omega) 119 rfl
            have e16 : vals 16 = .bool (false) := hv21 16 (by omega) 120 rfl
            have e25 : vals 25 = .bool (false) := hv21 25 (by omega) 129 rfl
            simp only [putAll, Act.put, List.take_succ_cons, List.take_zero, List.drop_succ_cons, List.drop_zero, List.drop_nil, List.take_nil, Nat.reduceAdd, List.setIfInBounds_toArray, List.set_cons_succ, List.set_cons_zero, e0, e1, e2, e3, e4, e5, e6, e7, e15, e16, e25]
            clear hv21 e0 e1 e2 e3 e4 e5 e6 e7 e15 e16 e25
            replace pk := pk.ext hE21
            replace hB17 := hB17.ext hE21
            replace kG := kG.ext hE21
            replace oR := oR.ext hE21
            replace oT := oT.ext hE21
            replace hB19 := hB19.ext hE21
            replace hB20 := hB20.ext hE21
            replace ocA := ocA.ext hE21
            replace ocB := ocB.ext hE21
            replace hEr := hEr.trans hE21
            have gs_ := grown_set W21 ⟨g17, 2, none⟩ (.int .i64 0)
            have f17 := hB17.frozen 2
            have x17 := hB17.cell (i := 2) (v := .int .i64 z) rfl
            have pks := pk.store (i := 2) hB17 (by decide) hg17 (.int .i64 0)
            have kGs := kG.step (Upd.of_grown gs_ (fun x hx => by
              have hx2 : g17 = x := Option.some.inj hx
              exact .inr (.inr hx2.symm)))
            have oRs := oR.grown gs_ (oR.apart_blk hB17 (by decide))
            have oTs := oT.grown gs_ (oT.apart_blk hB17 (by decide))
            have hB17s : Blk (W21.setCell ⟨g17, 2, none⟩ (.int .i64 0)) g17 52 #[.slice G 32 cg, .slice Q k dq, .int .i64 0] := hB17.set 2 _
            have hB19s := hB19.far (p := ⟨g17, 2, none⟩) hn19 (.int .i64 0)
            have hB20s := hB20.far (p := ⟨g17, 2, none⟩) hn20 (.int .i64 0)
            have ocAs := ocA.away hB17 rfl rfl (fun e => by
              obtain ⟨cs', h1, _⟩ := ocA.blk_ e
              exact (h1.ne_ hB17 (by decide)) rfl) gs_
            have ocBs := ocB.away hB17 rfl rfl (fun e => by
              obtain ⟨cs', h1, _⟩ := ocB.blk_ e
              exact (h1.ne_ hB17 (by decide)) rfl) gs_
            have hErs := hEr.set (p := ⟨g17, 2, none⟩) hge17 (.int .i64 0)
            have y170 := hB17s.cell (i := 0) (v := .slice G 32 cg) rfl
            have y171 := hB17s.cell (i := 1) (v := .slice Q k dq) rfl
            have y172 := hB17s.cell (i := 2) (v := .int .i64 0) rfl
            have y190 := hB19s.cell (i := 0) (v := .int .i64 x) rfl
            have y191 := hB19s.cell (i := 1) (v := .slice B 32 cb) rfl
            have y200 := hB20s.cell (i := 0) (v := .int .i64 y) rfl
            have y201 := hB20s.cell (i := 1) (v := .slice D 32 cd) rfl
            clear rG rQ rR rT rL rM
            go_wp2_with fail
            refine (common_any G Q B D A67 A72 32 cg k dq 32 cb 32 cd n67 c67 n72 c72 0 x y (khash 1) R T (WL26 k) gs67 gs72 (W21.setCell ⟨g17, 2, none⟩ (.int .i64 0)) kGs.self pks.rbb oRs.rb ocAs.rcv.rcs oTs.rb ocBs.rcv.rcs).mono ?_
            rintro e w23 ⟨P30, p30, d30, rfl, rI, hE⟩
            rw [both_zero] at rI
            obtain rfl : p30 = 0 := rI.len.symm
            replace hErs := hErs.trans hE
            clear rI hE f17 x17 y170 y171 y172 y190 y191 y200 y201
            go_wp2_with fail
            refine (known26_any w23).mono ?_
            rintro e w24 ⟨rfl, hE⟩
            go_wp2_with fail
            go_ret
            exact ⟨rfl, hErs.trans hE⟩
end Go.Proofs.Ytkndgpjamijbbaa

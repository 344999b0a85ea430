/-
  A region whose calls turn one object of the call's own, one behind the other, with other operations between in any order. Plain theorems. manifest.Decode, walked.
-/
import Derived.Test.YthggfbpdhkpkjaaLawPuts11Q9
import Derived.Test.YthggfbpdhkpkjaaLawPuts11Q24
namespace Go.Proofs.Ythggfbpdhkpkjaa
set_option maxRecDepth 100000
open Go Go.RowKit
/-- so many of the chain's calls have been made; S tells what holds then -/
def ChainSt (cs : List Nat) (S : Nat → World → Prop) (done : Nat → Bool) (w : World) : Prop := ∃ k, k ≤ cs.length ∧ (∀ j c, cs[j]? = some c → (done c = true ↔ j < k)) ∧ S k w
def JC (w wI : World) (q : Nat) (cs : List Nat) (S : Nat → World → Prop) (done : Nat → Bool) (w' : World) : Prop :=
  w.grownBy w' (some q) ∧ Ext wI w' ∧ ChainSt cs S done w'
def StaysQ (q : Nat) (m : MP Ext) : Prop := ∀ u w w', w.grownBy w' (some q) → m.p u w → m.p u w'
def StaysQL (q : Nat) : List (MP Ext) → Prop
  | [] => True
  | m :: l => StaysQ q m ∧ StaysQL q l
theorem StaysQL.at_ {q : Nat} {F : List (MP Ext)} : ∀ {j : Nat} {m : MP Ext}, StaysQL q F → F[j]? = some m → StaysQ q m := by
  induction F with
  | nil => intro j m _ h; simp at h
  | cons x l ih =>
    intro j m h hj
    cases j with
    | zero =>
      simp only [List.getElem?_cons_zero, Option.some.injEq] at hj
      subst hj
      exact h.1
    | succ j => exact ih (j := j) h.2 (by simpa only [List.getElem?_cons_succ] using hj)
theorem staysq_is (q : Nat) (v : Value) : StaysQ q (MP.is v) := fun _ _ _ _ h => h
section
variable {ops : Array Oper} {H : List Tmp} {F : List (MP Ext)} {a0 : Act} {w0 wI : World} {q : Nat} {cs : List Nat} {S : Nat → World → Prop} {i : Nat} {o : Oper}
theorem stepEC (ho : o.guard = none) (hic : cs.contains i = false) (hS : ∀ k w w', Ext w w' → S k w → S k w') (h : ∀ (done : Nat → Bool) (a : Act) (w : World), w0.grownBy w (some q) → Ext wI w → (∀ j, (depsOf o).contains j = true → done j = true) → Known ops H F a0 done a w →
    Runs Try.prog o a.eval w fun v w' => Ext w w' ∧ factAt F i v w') : StepOK Try.prog ops H F (JC w0 wI q cs S) a0 i o := by
  intro done a w hJ _ hd hk
  rw [if_pos (by simp [Region.wanted, ho])]
  obtain ⟨k, h1, h2, h3⟩ := hJ.2.2
  refine (h done a w hJ.1 hJ.2.1 (deps_done hd) hk).mono fun v w' hg => ⟨fun j _ u hu => factAt_keep hg.1 j u hu, ⟨hJ.1.trans (hg.1.grownBy _), hJ.2.1.trans hg.1, k, h1, fun j c hj => ?_, hS k w w' hg.1 h3⟩, hg.2⟩
  have hne : c ≠ i := by
    rintro rfl
    have := List.contains_iff_mem.2 (List.mem_of_getElem? hj)
    rw [this] at hic
    cases hic
  unfold setDone
  rw [if_neg hne]
  exact h2 j c hj
theorem stepCC {j : Nat} (ho : o.guard = none) (hj : cs[j]? = some i) (hnd : cs.Nodup) (hprev : j = 0 ∨ ∃ p, cs[j - 1]? = some p ∧ (depsOf o).contains p = true) (hst : StaysQL q F) (hq : wI.heap.size ≤ q)
    (h : ∀ (done : Nat → Bool) (a : Act) (w : World), w0.grownBy w (some q) → Ext wI w → S j w → (∀ j, (depsOf o).contains j = true → done j = true) → Known ops H F a0 done a w →
      Runs Try.prog o a.eval w fun v w' => w.grownBy w' (some q) ∧ S (j + 1) w' ∧ factAt F i v w') : StepOK Try.prog ops H F (JC w0 wI q cs S) a0 i o := by
  intro done a w hJ hnot hd hk
  rw [if_pos (by simp [Region.wanted, ho])]
  obtain ⟨k, h1, h2, h3⟩ := hJ.2.2
  have hd' := deps_done hd
  have hkj : k = j := by
    have ha : ¬ j < k := fun hlt => by
      have := (h2 j i hj).2 hlt
      rw [hnot] at this
      cases this
    have hjl : j < cs.length := by
      rcases Nat.lt_or_ge j cs.length with hl | hl
      · exact hl
      · rw [List.getElem?_eq_none hl] at hj; cases hj
    rcases hprev with h0 | ⟨p, hp, hdep⟩
    · omega
    · have := (h2 (j - 1) p hp).1 (hd' p hdep)
      omega
  subst hkj
  refine (h done a w hJ.1 hJ.2.1 h3 hd' hk).mono fun v w' hg => ⟨fun x _ u hu => ?_, ⟨hJ.1.trans hg.1, hJ.2.1.then_grown hg.1 (by intro k hk; cases hk; exact hq), k + 1, ?_, fun x c hx => ?_, hg.2.1⟩, hg.2.2⟩
  · unfold factAt at hu ⊢
    cases hm : F[x]? with
    | none => trivial
    | some mm => rw [hm] at hu; exact hst.at_ hm u w w' hg.1 hu
  · rcases Nat.lt_or_ge k cs.length with hl | hl
    · omega
    · rw [List.getElem?_eq_none hl] at hj; cases hj
  · unfold setDone
    by_cases hci : c = i
    · subst hci
      have hxk : x = k := by
        rcases Nat.lt_or_ge x cs.length with hl | hl
        · exact (List.getElem?_inj hl hnd).1 (hx.trans hj.symm)
        · rw [List.getElem?_eq_none hl] at hx; cases hx
      rw [if_pos rfl, hxk]
      simp
    · rw [if_neg hci, h2 x c hx]
      have hne : x ≠ k := fun e => by
        subst e
        rw [hj] at hx
        cases hx
        exact hci rfl
      omega
end
theorem par_chain {ops : Array Oper} {id n : Nat} {a : Act} {w wI : World} {Q : Exit → Act → World → Prop} {q : Nat} (cs : List Nat) (S : Nat → World → Prop) (hE : Ext wI w) (h0 : S 0 w.drew)
    (hB : parB ops n = true) (F : List (MP Ext))
    (hsz : (dsts ops).all (fun t => decide (t < a.tmps.size)) = true) (hcs : cs.all (fun c => decide (c < n)) = true)
    (steps : StepsOK Try.prog ops ((ops.toList.take n).filterMap (·.dst)) F (JC w wI q cs S) a 0 (ops.toList.take n))
    (fin : ∀ (vals : Nat → Value) (w' : World), w.grownBy w' (some q) → Ext wI w' → S cs.length w' → (∀ j, j < n → ∀ d, dstAt ops j = some d → factAt F j (vals j) w') → wpList Try.prog ops Q (ops.toList.drop n) (putAll a 0 (ops.toList.take n) vals) w') :
    (Code.region id ops true).wp Try.prog Q a w := by
  refine par_region (R := Ext) (by kernel_rfl) hB F (JC w wI q cs S) ⟨(Ext.refl w).drew.grownBy _, hE.drew, 0, Nat.zero_le _, fun j c _ => by simp, h0⟩ (fun t ht => by simpa using List.all_eq_true.1 hsz t ht) steps (fun vals w' h1 h2 => ?_)
    (fun d d' w h hj => ⟨hj.1, hj.2.1, by
      obtain ⟨k, h1, h2, h3⟩ := hj.2.2
      exact ⟨k, h1, fun j c hc => by rw [← h c]; exact h2 j c hc, h3⟩⟩)
  obtain ⟨k, k1, k2, k3⟩ := h1.2.2
  have hkl : k = cs.length := by
    rcases Nat.lt_or_ge k cs.length with hl | hl
    · have h5 : cs[k]? = some cs[k] := List.getElem?_eq_getElem hl
      have h6 : cs[k] < n := by simpa using List.all_eq_true.1 hcs cs[k] (List.getElem_mem hl)
      have h7 := (k2 k _ h5).1 (by simpa using h6)
      omega
    · omega
  rw [hkl] at k3
  exact fin vals w' h1.1 h1.2.1 k3 h2
end Go.Proofs.Ythggfbpdhkpkjaa
namespace Go.Proofs.Ythggfbpdhkpkjaa
set_option maxRecDepth 100000
open Go Go.RowKit
def MP.man (q : Nat) (m : Man) : MP Ext := ⟨fun u w => ∃ F nf cf N nn cn, u = manV m F nf cf N nn cn ∧ RB w F nf cf m.fw ∧ RB w N nn cn m.notes ∧ (0 < nf → blk F ≠ some q) ∧ (0 < nn → blk N ≠ some q),
  fun _ _ _ e ⟨F, nf, cf, N, nn, cn, h1, h2, h3, h4, h5⟩ => ⟨F, nf, cf, N, nn, cn, h1, h2.ext e, h3.ext e, h4, h5⟩⟩
theorem RB.apart {w : World} {A : Option Addr} {n c : Nat} {L : List UInt8} (h : RB w A n c L) {g : Nat} {t : TypeId} {cs : Array Value} (hb : Blk w g t cs) (hno : ∀ (i : Nat) (x : Int), cs[i]? ≠ some (.int .u8 x)) : 0 < n → blk A ≠ some g := by
  intro hn e
  obtain ⟨ad, rfl, hc⟩ := h.cells hn
  have h1 := hc 0 hn
  have h2 : ad.block = g := by simpa [blk] using e
  unfold World.cell? at h1
  have h3 : (ad.add 0).block = ad.block := rfl
  rw [h3, h2, show w.heap[g]? = _ from hb] at h1
  by_cases hs : (ad.add 0).spot.isSome = true
  · simp [hs] at h1
  · simp only [hs] at h1
    exact hno _ _ h1
theorem set4 {w : World} {g : Nat} {t : TypeId} {a0 a1 a2 a3 : Value} (h : Blk w g t #[a0, a1, a2, a3]) (b0 b1 b2 b3 : Value) :
    Blk ((((w.setCell ⟨g, 0, none⟩ b0).setCell ⟨g, 1, none⟩ b1).setCell ⟨g, 2, none⟩ b2).setCell ⟨g, 3, none⟩ b3) g t #[b0, b1, b2, b3] ∧ w.grownBy ((((w.setCell ⟨g, 0, none⟩ b0).setCell ⟨g, 1, none⟩ b1).setCell ⟨g, 2, none⟩ b2).setCell ⟨g, 3, none⟩ b3) (some g) :=
  ⟨(((h.set 0 b0).set 1 b1).set 2 b2).set 3 b3, (((grownBy_setCell w ⟨g, 0, none⟩ _).trans (grownBy_setCell _ ⟨g, 1, none⟩ _)).trans (grownBy_setCell _ ⟨g, 2, none⟩ _)).trans (grownBy_setCell _ ⟨g, 3, none⟩ _)⟩
end Go.Proofs.Ythggfbpdhkpkjaa

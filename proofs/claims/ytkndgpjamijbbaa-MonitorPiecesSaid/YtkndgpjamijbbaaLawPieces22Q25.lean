/-
  A region whose calls turn one object of the call's own, one behind the other, with other operations between in any order. Plain theorems. manifest.Decode, walked.
-/
import Derived.Test.YtkndgpjamijbbaaLawPieces22Q11
import Derived.Test.YtkndgpjamijbbaaLawPieces22Q24
namespace Go.Proofs.Ytkndgpjamijbbaa
set_option maxRecDepth 100000
open Go Go.RowKit
/-- so many of the chain's calls have been made; S tells what holds then -/
def ChainSt (cs : List Nat) (S : Nat → World → Prop) (done : Nat → Bool) (w : World) : Prop := ∃ k, k ≤ cs.length ∧ (∀ j c, cs[j]? = some c → (done c = true ↔ j < k)) ∧ S k w
def JC (w wI : World) (q : Nat) (cs : List Nat) (S : Nat → World → Prop) (done : Nat → Bool) (w' : World) : Prop :=
  w.grownBy w' (some q) ∧ Ext wI w' ∧ ChainSt cs S done w'
def StaysQ (q : Nat) (m : MP Ext) : Prop := ∀ u w w', w.grownBy w' (some q) → m.p u w → m.p u w'
def StaysQL (q : Nat) : List (MP Ext) → Prop
  | [] => True
  | m :: l => StaysQ q m ∧ StaysQL q l
theorem StaysQL.at_ {q : Nat} {F : List (MP Ext)} : ∀ {j : Nat} {m : MP Ext}, StaysQL q F → F[j]? = some m → StaysQ q m := by
  induction F with
  | nil => intro j m _ h; simp at h
  | cons x l ih =>
    intro j m h hj
    cases j with
    | zero =>
      simp only [List.getElem?_cons_zero, Option.some.injEq] at hj
      subst hj
      exact h.1
    | succ j => exact ih (j := j) h.2 (by simpa only [List.getElem?_cons_succ] using hj)
theorem staysq_is (q : Nat) (v : Value) : StaysQ q (MP.is v) := fun _ _ _ _ h => h
/-- a byte slice that reads as L, apart from block q -/
def MP.rbn (q : Nat) (L : List UInt8) : MP Ext := ⟨fun u w => ∃ B n c, u = .slice B n c ∧ RB w B n c L ∧ (0 < n → blk B ≠ some q), fun _ _ _ e ⟨B, n, c, h1, h2, h3⟩ => ⟨B, n, c, h1, h2.ext e, h3⟩⟩
theorem staysq_rbn (q : Nat) (L : List UInt8) : StaysQ q (MP.rbn q L) := by
  rintro u w w' g ⟨B, n, c, h1, h2, h3⟩
  exact ⟨B, n, c, h1, h2.grown g h3, h3⟩
/-- a new block that holds these cells, apart from block q -/
def MP.blkn (q : Nat) (t : TypeId) (cs : Array Value) (b : Nat) : MP Ext := ⟨fun u w => ∃ g, u = .pointer (some ⟨g, 0, none⟩) ∧ Blk w g t cs ∧ g ≠ q ∧ b ≤ g, fun _ _ _ e ⟨g, h1, h2, h3, h4⟩ => ⟨g, h1, h2.ext e, h3, h4⟩⟩
theorem staysq_blkn (q : Nat) (t : TypeId) (cs : Array Value) (b : Nat) : StaysQ q (MP.blkn q t cs b) := by
  rintro u w w' g ⟨k, h1, h2, h3, h4⟩
  exact ⟨k, h1, h2.grown g (by intro e; cases e; exact h3 rfl), h3, h4⟩
section
variable {ops : Array Oper} {H : List Tmp} {F : List (MP Ext)} {a0 : Act} {w0 wI : World} {q : Nat} {cs : List Nat} {S : Nat → World → Prop} {i : Nat} {o : Oper}
theorem stepEC (ho : o.guard = none) (hic : cs.contains i = false) (hS : ∀ k w w', Ext w w' → S k w → S k w') (h : ∀ (done : Nat → Bool) (a : Act) (w : World), w0.grownBy w (some q) → Ext wI w → (∀ j, (depsOf o).contains j = true → done j = true) → Known ops H F a0 done a w →
    Runs Try.prog o a.eval w fun v w' => Ext w w' ∧ factAt F i v w') : StepOK Try.prog ops H F (JC w0 wI q cs S) a0 i o := by
  intro done a w hJ _ hd hk
  rw [if_pos (by simp [Region.wanted, ho])]
  obtain ⟨k, h1, h2, h3⟩ := hJ.2.2
  refine (h done a w hJ.1 hJ.2.1 (deps_done hd) hk).mono fun v w' hg => ⟨fun j _ u hu => factAt_keep hg.1 j u hu, ⟨hJ.1.trans (hg.1.grownBy _), hJ.2.1.trans hg.1, k, h1, fun j c hj => ?_, hS k w w' hg.1 h3⟩, hg.2⟩
  have hne : c ≠ i := by
    rintro rfl
    have := List.contains_iff_mem.2 (List.mem_of_getElem? hj)
    rw [this] at hic
    cases hic
  unfold setDone
  rw [if_neg hne]
  exact h2 j c hj
theorem stepCC {j : Nat} (ho : o.guard = none) (hj : cs[j]? = some i) (hnd : cs.Nodup) (hprev : j = 0 ∨ ∃ p, cs[j - 1]? = some p ∧ (depsOf o).contains p = true) (hst : StaysQL q F) (hq : wI.heap.size ≤ q)
    (h : ∀ (done : Nat → Bool) (a : Act) (w : World), w0.grownBy w (some q) → Ext wI w → S j w → (∀ j, (depsOf o).contains j = true → done j = true) → Known ops H F a0 done a w →
      Runs Try.prog o a.eval w fun v w' => w.grownBy w' (some q) ∧ S (j + 1) w' ∧ factAt F i v w') : StepOK Try.prog ops H F (JC w0 wI q cs S) a0 i o := by
  intro done a w hJ hnot hd hk
  rw [if_pos (by simp [Region.wanted, ho])]
  obtain ⟨k, h1, h2, h3⟩ := hJ.2.2
  have hd' := deps_done hd
  have hkj : k = j := by
    have ha : ¬ j < k := fun hlt => by
      have := (h2 j i hj).2 hlt
      rw [hnot] at this
      cases this
    have hjl : j < cs.length := by
      rcases Nat.lt_or_ge j cs.length with hl | hl
      · exact hl
      · rw [List.getElem?_eq_none hl] at hj; cases hj
    rcases hprev with h0 | ⟨p, hp, hdep⟩
    · omega
    · have := (h2 (j - 1) p hp).1 (hd' p hdep)
      omega
  subst hkj
  refine (h done a w hJ.1 hJ.2.1 h3 hd' hk).mono fun v w' hg => ⟨fun x _ u hu => ?_, ⟨hJ.1.trans hg.1, hJ.2.1.then_grown hg.1 (by intro k hk; cases hk; exact hq), k + 1, ?_, fun x c hx => ?_, hg.2.1⟩, hg.2.2⟩
  · unfold factAt at hu ⊢
    cases hm : F[x]? with
    | none => trivial
    | some mm => rw [hm] at hu; exact hst.at_ hm u w w' hg.1 hu
  · rcases Nat.lt_or_ge k cs.length with hl | hl
    · omega
    · rw [List.getElem?_eq_none hl] at hj; cases hj
  · unfold setDone
    by_cases hci : c = i
    · subst hci
      have hxk : x = k := by
        rcases Nat.lt_or_ge x cs.length with hl | hl
        · exact (List.getElem?_inj hl hnd).1 (hx.trans hj.symm)
        · rw [List.getElem?_eq_none hl] at hx; cases hx
      rw [if_pos rfl, hxk]
      simp
    · rw [if_neg hci, h2 x c hx]
      have hne : x ≠ k := fun e => by
        subst e
        rw [hj] at hx
        cases hx
        exact hci rfl
      omega
end
theorem par_chain {ops : Array Oper} {id n : Nat} {a : Act} {w wI : World} {Q : Exit → Act → World → Prop} {q : Nat} (cs : List Nat) (S : Nat → World → Prop) (hE : Ext wI w) (h0 : S 0 w.drew)
    (hB : parB ops n = true) (F : List (MP Ext))
    (hsz : (dsts ops).all (fun t => decide (t < a.tmps.size)) = true) (hcs : cs.all (fun c => decide (c < n)) = true)
    (steps : StepsOK Try.prog ops ((ops.toList.take n).filterMap (·.dst)) F (JC w wI q cs S) a 0 (ops.toList.take n))
    (fin : ∀ (vals : Nat → Value) (w' : World), w.grownBy w' (some q) → Ext wI w' → S cs.length w' → (∀ j, j < n → ∀ d, dstAt ops j = some d → factAt F j (vals j) w') → wpList Try.prog ops Q (ops.toList.drop n) (putAll a 0 (ops.toList.take n) vals) w') :
    (Code.region id ops true).wp Try.prog Q a w := by
  refine par_region (R := Ext) (by kernel_rfl) hB F (JC w wI q cs S) ⟨(Ext.refl w).drew.grownBy _, hE.drew, 0, Nat.zero_le _, fun j c _ => by simp, h0⟩ (fun t ht => by simpa using List.all_eq_true.1 hsz t ht) steps (fun vals w' h1 h2 => ?_)
    (fun d d' w h hj => ⟨hj.1, hj.2.1, by
      obtain ⟨k, h1, h2, h3⟩ := hj.2.2
      exact ⟨k, h1, fun j c hc => by rw [← h c]; exact h2 j c hc, h3⟩⟩)
  obtain ⟨k, k1, k2, k3⟩ := h1.2.2
  have hkl : k = cs.length := by
    rcases Nat.lt_or_ge k cs.length with hl | hl
    · have h5 : cs[k]? = some cs[k] := List.getElem?_eq_getElem hl
      have h6 : cs[k] < n := by simpa using List.all_eq_true.1 hcs cs[k] (List.getElem_mem hl)
      have h7 := (k2 k _ h5).1 (by simpa using h6)
      omega
    · omega
  rw [hkl] at k3
  exact fin vals w' h1.1 h1.2.1 k3 h2
end Go.Proofs.Ytkndgpjamijbbaa
namespace Go.Proofs.Ytkndgpjamijbbaa
set_option maxRecDepth 100000
open Go Go.RowKit
def MP.man (q : Nat) (m : Man) : MP Ext := ⟨fun u w => ∃ F nf cf N nn cn, u = manV m F nf cf N nn cn ∧ RB w F nf cf m.fw ∧ RB w N nn cn m.notes ∧ (0 < nf → blk F ≠ some q) ∧ (0 < nn → blk N ≠ some q),
  fun _ _ _ e ⟨F, nf, cf, N, nn, cn, h1, h2, h3, h4, h5⟩ => ⟨F, nf, cf, N, nn, cn, h1, h2.ext e, h3.ext e, h4, h5⟩⟩
theorem staysq_man (q : Nat) (m : Man) : StaysQ q (MP.man q m) := by
  rintro u w w' g ⟨F, nf, cf, N, nn, cn, h1, h2, h3, h4, h5⟩
  exact ⟨F, nf, cf, N, nn, cn, h1, h2.grown g h4, h3.grown g h5, h4, h5⟩
theorem RB.apart {w : World} {A : Option Addr} {n c : Nat} {L : List UInt8} (h : RB w A n c L) {g : Nat} {t : TypeId} {cs : Array Value} (hb : Blk w g t cs) (hno : ∀ (i : Nat) (x : Int), cs[i]? ≠ some (.int .u8 x)) : 0 < n → blk A ≠ some g := by
  intro hn e
  obtain ⟨ad, rfl, hc⟩ := h.cells hn
  have h1 := hc 0 hn
  have h2 : ad.block = g := by simpa [blk] using e
  unfold World.cell? at h1
  have h3 : (ad.add 0).block = ad.block := rfl
  rw [h3, h2, show w.heap[g]? = _ from hb] at h1
  by_cases hs : (ad.add 0).spot.isSome = true
  · simp [hs] at h1
  · simp only [hs] at h1
    exact hno _ _ h1
theorem man_no (s : ByteArray) (x : Int) (F : Option Addr) (nf cf : Nat) (N : Option Addr) (nn cn : Nat) (i : Nat) (y : Int) : (#[.string s, .int .u32 x, .slice F nf cf, .slice N nn cn] : Array Value)[i]? ≠ some (.int .u8 y) := by
  rcases i with _ | _ | _ | _ | i <;> simp
theorem set4 {w : World} {g : Nat} {t : TypeId} {a0 a1 a2 a3 : Value} (h : Blk w g t #[a0, a1, a2, a3]) (b0 b1 b2 b3 : Value) :
    Blk ((((w.setCell ⟨g, 0, none⟩ b0).setCell ⟨g, 1, none⟩ b1).setCell ⟨g, 2, none⟩ b2).setCell ⟨g, 3, none⟩ b3) g t #[b0, b1, b2, b3] ∧ w.grownBy ((((w.setCell ⟨g, 0, none⟩ b0).setCell ⟨g, 1, none⟩ b1).setCell ⟨g, 2, none⟩ b2).setCell ⟨g, 3, none⟩ b3) (some g) :=
  ⟨(((h.set 0 b0).set 1 b1).set 2 b2).set 3 b3, (((grownBy_setCell w ⟨g, 0, none⟩ _).trans (grownBy_setCell _ ⟨g, 1, none⟩ _)).trans (grownBy_setCell _ ⟨g, 2, none⟩ _)).trans (grownBy_setCell _ ⟨g, 3, none⟩ _)⟩
theorem results_ct {P : Program} {fn : Func} {p u : Tmp} {ty : TypeId} (h : fn.results = #[.cell p ty, .tmp u]) (tmps : Array Value) (w : World) (g : Nat) (t : TypeId) (cs : Array Value) (d : TypeDesc)
    (hp : tmps.getD p undef = .pointer (some ⟨g, 0, none⟩)) (hg : Blk w g t cs) (hu : P.underlying ty = some d) (hd : (match d with | .struct _ | .array _ _ => true | _ => false) = true) (hi : (P.info? ty).map (·.size) = some cs.size) :
    (results fn tmps).run P w = .ok (.tuple #[.agg cs, tmps.getD u undef]) w := by
  have hp' : tmps[p]?.getD undef = .pointer (some ⟨g, 0, none⟩) := by simpa using hp
  simp [results, h, hp', asAddr, run_loadVar_row w g t ty cs (0, 0) d hg hu hd hi]
def decT (t1 t2 t3 t4 t5 : List UInt8 × Bool) : Nat → List UInt8 × Bool
  | 0 => t1
  | 1 => t2
  | 2 => t3
  | 3 => t4
  | _ => t5
def decS (b q : Nat) (T : Nat → List UInt8 × Bool) (k : Nat) (w : World) : Prop := RdrS w b q (T k).1 (T k).2
set_option maxHeartbeats 4000000 in
theorem mdec_any (A : Option Addr) (n c : Nat) (b : List UInt8) (w : World) (hr : RB w A n c b) (hn : n ≤ 140737488355328) :
    Calls Try.prog 77 #[.slice A n c] w fun e w' =>
      (decOK b = true → ∃ F nf cf N nn cn, e = .returned (.tuple #[manV (readM b).man F nf cf N nn cn, .int .i64 0]) ∧ RB w' F nf cf (readM b).man.fw ∧ RB w' N nn cn (readM b).man.notes) ∧
      (decOK b = false → e = .returned (.tuple #[.agg #[.string ⟨#[]⟩, .int .u32 0, .slice none 0 0, .slice none 0 0], .int .i64 12])) ∧ Ext w w' := by
  go_enter Try.func77, Try.ntmps77
  go_wp2_with fail
  obtain ⟨wI, hwI⟩ : ∃ wI, wI = w.alloc (.cells #[.string ⟨#[]⟩, .int .u32 0, .slice none 0 0, .slice none 0 0] 117) := ⟨_, rfl⟩
  have hB0 : Blk wI w.heap.size 117 #[.string ⟨#[]⟩, .int .u32 0, .slice none 0 0, .slice none 0 0] := by rw [hwI]; exact Blk.new w _ _
  have hEw : Ext w wI := by rw [hwI]; exact Ext.new w _
  rw [← hwI]
  clear hwI
  refine (rread_any A n c b wI (hr.ext hEw) hn).mono ?_
  rintro e w1 ⟨q, rfl, hR1, hE1⟩
  have hqI : wI.heap.size ≤ q := by obtain ⟨_, _, _, _, h⟩ := hR1; exact h.base
  go_wp2_with fail
  obtain ⟨t1, ht1⟩ : ∃ t1, t1 = rtake b false 1 := ⟨_, rfl⟩
  obtain ⟨t2, ht2⟩ : ∃ t2, t2 = rbytes t1.2.1 t1.2.2 20 := ⟨_, rfl⟩
  obtain ⟨t3, ht3⟩ : ∃ t3, t3 = rtake t2.2.1 t2.2.2 4 := ⟨_, rfl⟩
  obtain ⟨t4, ht4⟩ : ∃ t4, t4 = rtake t3.2.1 t3.2.2 32 := ⟨_, rfl⟩
  obtain ⟨t5, ht5⟩ : ∃ t5, t5 = rbytes t4.2.1 t4.2.2 64 := ⟨_, rfl⟩
  have hread : readM b = { first := (beNum t1.1).toUInt8, man := ⟨t2.1, beNum t3.1, t4.1, t5.1⟩, left := t5.2.1, bad := t5.2.2 } := by rw [ht5, ht4, ht3, ht2, ht1]; rfl
  have Hread := Lib.hid hread
  clear hread
  refine (rbyte_any w1 wI.heap.size q b false hR1).mono ?_
  rintro e w0 ⟨rfl, hR0, hG0⟩
  rw [← ht1] at hR0 ⊢
  have hEI : Ext wI w0 := hE1.then_grown hG0 (by intro k hk; cases hk; exact hqI)
  have hq0 : q < w0.heap.size := by obtain ⟨_, _, _, _, h⟩ := hR0; exact h.blk.lt
  have Ht2 := Lib.hid ht2
  have Ht3 := Lib.hid ht3
  have Ht4 := Lib.hid ht4
  have Ht5 := Lib.hid ht5
  clear ht1 ht2 ht3 ht4 ht5 hR1 hG0
  go_upto_region 3 with (fail)
  have hS0 : decS wI.heap.size q (decT t1.2 t2.2 t3.2 t4.2 t5.2) 0 w0.drew := RdrS.later hR0 (Ext.refl w0).drew
  have hSx : ∀ k w w', Ext w w' → decS wI.heap.size q (decT t1.2 t2.2 t3.2 t4.2 t5.2) k w → decS wI.heap.size q (decT t1.2 t2.2 t3.2 t4.2 t5.2) k w' := fun k w w' e h => RdrS.later h e
  have hStay : StaysQL q [.is (.pointer (some ⟨q, 0, none⟩)), .rbn (q) (t2.1), .is (.string (str (t2.1))), .is (.pointer (some ⟨q, 0, none⟩)), .is (.int .u32 (u32i (beNum t3.1))), .is (.pointer (some ⟨q, 0, none⟩)), .rbn (q) (t4.1), .is (.pointer (some ⟨q, 0, none⟩)), .rbn (q) (t5.1), .man q ⟨t2.1, beNum t3.1, t4.1, t5.1⟩, .blkn q 117 #[.string ⟨#[]⟩, .int .u32 0, .slice none 0 0, .slice none 0 0] w0.heap.size] := ⟨staysq_is _ _, staysq_rbn _ _, staysq_is _ _, staysq_is _ _, staysq_is _ _, staysq_is _ _, staysq_rbn _ _, staysq_is _ _, staysq_rbn _ _, staysq_man _ _, staysq_blkn _ _ _ _, trivial⟩
  refine par_chain (n := 11) (q := q) [1, 4, 6, 8] (decS wI.heap.size q (decT t1.2 t2.2 t3.2 t4.2 t5.2)) hEI hS0 (by kernel_rfl) [.is (.pointer (some ⟨q, 0, none⟩)), .rbn (q) (t2.1), .is (.string (str (t2.1))), .is (.pointer (some ⟨q, 0, none⟩)), .is (.int .u32 (u32i (beNum t3.1))), .is (.pointer (some ⟨q, 0, none⟩)), .rbn (q) (t4.1), .is (.pointer (some ⟨q, 0, none⟩)), .rbn (q) (t5.1), .man q ⟨t2.1, beNum t3.1, t4.1, t5.1⟩, .blkn q 117 #[.string ⟨#[]⟩, .int .u32 0, .slice none 0 0, .slice none 0 0] w0.heap.size] rfl rfl ⟨?_, ?_, ?_, ?_, ?_, ?_, ?_, ?_, ?_, ?_, ?_, trivial⟩ ?_
  · refine stepEC rfl rfl hSx fun sdn sa sw sG sE sd sk => ?_
    have h4 : sa.eval (.tmp 4) = .pointer (some ⟨q, 0, none⟩) := sk.old 4 rfl
    exact Runs.move rfl h4 ⟨Ext.refl _, rfl⟩
  · refine stepCC (j := 0) rfl rfl (by decide) (.inl rfl) hStay hqI fun sdn sa sw sG sE sS sd sk => ?_
    have h11 : sa.eval (.tmp 11) = .pointer (some ⟨q, 0, none⟩) := sk.fact 0 11 rfl (sd 0 rfl)
    have hcon := rbytes_any sw wI.heap.size q t1.2.1 t1.2.2 20 sS (by omega) (by omega)
    rw [← Ht2.out] at hcon
    refine Runs.call (f := 104) (vs := [.pointer (some ⟨q, 0, none⟩), .int .i64 (20 : Int)]) rfl rfl rfl (by simp only [List.map_toArray, List.map_cons, List.map_nil, h11] <;> rfl) (ent104 _ _) (hcon.mono ?_); rintro e w' ⟨⟨B, m, d, rfl, own⟩, h3, h4⟩; exact ⟨_, rfl, h4, h3, B, m, d, rfl, own.rb, fun hm e => by have := (own.lt e).1; have := sG.size; omega⟩
  · refine stepEC rfl rfl hSx fun sdn sa sw sG sE sd sk => ?_
    obtain ⟨A12, n12, c12, h12, r12, q12⟩ := sk.fact 1 12 rfl (sd 1 rfl)
    exact Runs.conv rfl h12 (run_str r12) ⟨Ext.refl _, rfl⟩
  · refine stepEC rfl rfl hSx fun sdn sa sw sG sE sd sk => ?_
    have h4 : sa.eval (.tmp 4) = .pointer (some ⟨q, 0, none⟩) := sk.old 4 rfl
    exact Runs.move rfl h4 ⟨Ext.refl _, rfl⟩
  · refine stepCC (j := 1) rfl rfl (by decide) (.inr ⟨1, rfl, rfl⟩) hStay hqI fun sdn sa sw sG sE sS sd sk => ?_
    have h14 : sa.eval (.tmp 14) = .pointer (some ⟨q, 0, none⟩) := sk.fact 3 14 rfl (sd 3 rfl)
    have hcon := rnum_any sw wI.heap.size q t2.2.1 t2.2.2 sS
    rw [← Ht3.out] at hcon
    refine Runs.call (f := 105) (vs := [.pointer (some ⟨q, 0, none⟩)]) rfl rfl rfl (by simp only [List.map_toArray, List.map_cons, List.map_nil, h14] <;> rfl) (ent105 _ _) (hcon.mono ?_); rintro e w' ⟨rfl, h3, h4⟩; exact ⟨_, rfl, h4, h3, rfl⟩
  · refine stepEC rfl rfl hSx fun sdn sa sw sG sE sd sk => ?_
    have h4 : sa.eval (.tmp 4) = .pointer (some ⟨q, 0, none⟩) := sk.old 4 rfl
    exact Runs.move rfl h4 ⟨Ext.refl _, rfl⟩
  · refine stepCC (j := 2) rfl rfl (by decide) (.inr ⟨4, rfl, rfl⟩) hStay hqI fun sdn sa sw sG sE sS sd sk => ?_
    have h16 : sa.eval (.tmp 16) = .pointer (some ⟨q, 0, none⟩) := sk.fact 5 16 rfl (sd 5 rfl)
    have hcon := rraw_any sw wI.heap.size q t3.2.1 t3.2.2 32 sS (by omega) (by omega)
    rw [← Ht4.out] at hcon
    refine Runs.call (f := 106) (vs := [.pointer (some ⟨q, 0, none⟩), .int .i64 (32 : Int)]) rfl rfl rfl (by simp only [List.map_toArray, List.map_cons, List.map_nil, h16] <;> rfl) (ent106 _ _) (hcon.mono ?_); rintro e w' ⟨⟨B, m, d, rfl, own⟩, h3, h4⟩; exact ⟨_, rfl, h4, h3, B, m, d, rfl, own.rb, fun hm e => by have := (own.lt e).1; have := sG.size; omega⟩
  · refine stepEC rfl rfl hSx fun sdn sa sw sG sE sd sk => ?_
    have h4 : sa.eval (.tmp 4) = .pointer (some ⟨q, 0, none⟩) := sk.old 4 rfl
    exact Runs.move rfl h4 ⟨Ext.refl _, rfl⟩
  · refine stepCC (j := 3) rfl rfl (by decide) (.inr ⟨6, rfl, rfl⟩) hStay hqI fun sdn sa sw sG sE sS sd sk => ?_
    have h18 : sa.eval (.tmp 18) = .pointer (some ⟨q, 0, none⟩) := sk.fact 7 18 rfl (sd 7 rfl)
    have hcon := rbytes_any sw wI.heap.size q t4.2.1 t4.2.2 64 sS (by omega) (by omega)
    rw [← Ht5.out] at hcon
    refine Runs.call (f := 104) (vs := [.pointer (some ⟨q, 0, none⟩), .int .i64 (64 : Int)]) rfl rfl rfl (by simp only [List.map_toArray, List.map_cons, List.map_nil, h18] <;> rfl) (ent104 _ _) (hcon.mono ?_); rintro e w' ⟨⟨B, m, d, rfl, own⟩, h3, h4⟩; exact ⟨_, rfl, h4, h3, B, m, d, rfl, own.rb, fun hm e => by have := (own.lt e).1; have := sG.size; omega⟩
  · refine stepEC rfl rfl hSx fun sdn sa sw sG sE sd sk => ?_
    have h13 : sa.eval (.tmp 13) = .string (str (t2.1)) := sk.fact 2 13 rfl (sd 2 rfl)
    have h15 : sa.eval (.tmp 15) = .int .u32 (u32i (beNum t3.1)) := sk.fact 4 15 rfl (sd 4 rfl)
    obtain ⟨A17, n17, c17, h17, r17, q17⟩ := sk.fact 6 17 rfl (sd 6 rfl)
    obtain ⟨A19, n19, c19, h19, r19, q19⟩ := sk.fact 8 19 rfl (sd 8 rfl)
    refine Runs.of_run (r := manV ⟨t2.1, beNum t3.1, t4.1, t5.1⟩ A17 n17 c17 A19 n19 c19) (w' := sw) ?_ ⟨Ext.refl _, _, _, _, _, _, _, rfl, r17, r19, q17, q19⟩
    unfold execOp manV
    simp only [List.map_toArray, List.map_cons, List.map_nil, h13, h15, h17, h19]
    go_simp
  · refine stepEC rfl rfl hSx fun sdn sa sw sG sE sd sk => ?_
    refine Runs.of_run (r := .pointer (some ⟨sw.heap.size, 0, none⟩)) (w' := sw.alloc (.cells #[.string ⟨#[]⟩, .int .u32 0, .slice none 0 0, .slice none 0 0] 117)) ?_ ⟨Ext.new _ _, _, rfl, Blk.new _ _ _, (by have := sG.size; omega), (by have := sG.size; omega)⟩
    unfold execOp
    go_simp
  intro vals W1 hG hE hS hv
  have e0 : vals 0 = .pointer (some ⟨q, 0, none⟩) := hv 0 (by omega) 11 rfl
  obtain ⟨A12, n12, c12, e1, r12, q12⟩ := hv 1 (by omega) 12 rfl
  have e2 : vals 2 = .string (str (t2.1)) := hv 2 (by omega) 13 rfl
  have e3 : vals 3 = .pointer (some ⟨q, 0, none⟩) := hv 3 (by omega) 14 rfl
  have e4 : vals 4 = .int .u32 (u32i (beNum t3.1)) := hv 4 (by omega) 15 rfl
  have e5 : vals 5 = .pointer (some ⟨q, 0, none⟩) := hv 5 (by omega) 16 rfl
  obtain ⟨A17, n17, c17, e6, r17, q17⟩ := hv 6 (by omega) 17 rfl
  have e7 : vals 7 = .pointer (some ⟨q, 0, none⟩) := hv 7 (by omega) 18 rfl
  obtain ⟨A19, n19, c19, e8, r19, q19⟩ := hv 8 (by omega) 19 rfl
  obtain ⟨F20, f20, g20, N20, n20, k20, e9, r20, u20, x20, y20⟩ := hv 9 (by omega) 20 rfl
  obtain ⟨b6, e10, r6, q6, x6⟩ := hv 10 (by omega) 6 rfl
  simp only [putAll, Act.put, List.take_succ_cons, List.take_zero, List.drop_succ_cons, List.drop_zero, List.drop_nil, List.take_nil, Nat.reduceAdd, List.setIfInBounds_toArray, List.set_cons_succ, List.set_cons_zero, e0, e1, e2, e3, e4, e5, e6, e7, e8, e9, e10]
  clear hv e0 e1 e2 e3 e4 e5 e6 e7 e8 e9 e10
  have hS' : RdrS W1 wI.heap.size q t5.2.1 t5.2.2 := hS
  have hEw1 : Ext w W1 := hEw.trans hE
  have hb2 := hB0.ext hE
  have z0 := r6.frozen 0
  have z1 := r6.frozen 1
  have z2 := r6.frozen 2
  have z3 := r6.frozen 3
  have y0 := r6.cell (i := 0) rfl
  have y1 := r6.cell (i := 1) rfl
  have y2 := r6.cell (i := 2) rfl
  have y3 := r6.cell (i := 3) rfl
  have y4 := hb2.cell (i := 0) rfl
  have y5 := hb2.cell (i := 1) rfl
  have y6 := hb2.cell (i := 2) rfl
  have y7 := hb2.cell (i := 3) rfl
  have z4 := hb2.frozen 0
  have z5 := hb2.frozen 1
  have z6 := hb2.frozen 2
  have z7 := hb2.frozen 3
  have hwI : w.heap.size < wI.heap.size := hB0.lt
  have hne : b6 ≠ w.heap.size := by have := hEI.size; omega
  clear hS hStay hS0 hSx hR0
  by_cases hf : (beNum t1.1).toUInt8 = 77
  · have d1 : (u8i ((beNum t1.1).toUInt8) != 77) = false := by rw [hf]; rfl
    have Hf := Lib.hid hf
    clear hf
    unfold manV
    go_wp2_with fail
    obtain ⟨s1, s2⟩ := set4 r6 (.string (str t2.1)) (.int .u32 (u32i (beNum t3.1))) (.slice F20 f20 g20) (.slice N20 n20 k20)
    generalize World.setCell _ _ _ = W2 at s1 s2 ⊢
    obtain ⟨A9, n9, c9, hn9, hR9⟩ := hS'
    have hbq := hR9.blk.grown s2 (by intro e; cases e; exact q6 rfl)
    have hl9 := hR9.rb.len
    have hF2 := r20.grown s2 (r20.apart r6 (man_no _ _ _ _ _ _ _ _))
    have hN2 := u20.grown s2 (u20.apart r6 (man_no _ _ _ _ _ _ _ _))
    have hnm : t2.1.length ≤ 9223372036854775807 := by have h1 := r12.len; have h2 := r12.room; have h3 := r12.cap; unfold maxLen at h3; omega
    have hEw2 : Ext w W2 := hEw1.then_grown s2 (by intro k hk; cases hk; omega)
    have hb3 := hb2.grown s2 (by intro e; cases e; exact hne rfl)
    clear hR9 hb2 r12 r17 r19 q17 q19 q12 x20 y20 y0 y1 y2 y3 y4 y5 y6 y7 z0 z1 z2 z3 z4 z5 z6 z7 s2 r6 x6 hG hE hEI hq0 hE1 hEw hB0 hEw1
    have y0 := s1.cell (i := 0) rfl
    have y1 := s1.cell (i := 1) rfl
    have y2 := s1.cell (i := 2) rfl
    have y3 := s1.cell (i := 3) rfl
    refine (rend_blk W2 q A9 n9 c9 _ _ hbq hl9 hn9).mono ?_
    rintro e w' ⟨rfl, rfl⟩
    cases hx : (!t5.2.2 && t5.2.1.isEmpty) with
    | false =>
      have y4 := hb3.cell (i := 0) rfl
      have y5 := hb3.cell (i := 1) rfl
      have y6 := hb3.cell (i := 2) rfl
      have y7 := hb3.cell (i := 3) rfl
      have z4 := hb3.frozen 0
      have z5 := hb3.frozen 1
      have z6 := hb3.frozen 2
      have z7 := hb3.frozen 3
      go_wp2_with fail
      have hno : decOK b = false := by unfold decOK; rw [Hread.out]; simp only [hx]; simp
      obtain ⟨s3, s4⟩ := set4 hb3 (.string ⟨#[]⟩) (.int .u32 0) (.slice none 0 0) (.slice none 0 0)
      refine bodyPost_ret (results_ct rfl _ _ w.heap.size _ _ _ rfl s3 Try.underlying117 rfl rfl) rfl ?_
      exact ⟨fun h => by rw [hno] at h; exact absurd h (by simp), fun _ => rfl, hEw2.then_grown s4 (by intro k hk; cases hk; exact Nat.le_refl _)⟩
    | true =>
      go_wp2_with fail
      refine (right_any ⟨t2.1, beNum t3.1, t4.1, t5.1⟩ F20 N20 f20 g20 n20 k20 W2 hnm hF2.len hN2.len).mono ?_
      rintro e w3 ⟨rfl, hE3⟩
      have hb4 := hb3.ext hE3
      have s5 := s1.ext hE3
      have y0 := s5.cell (i := 0) rfl
      have y1 := s5.cell (i := 1) rfl
      have y2 := s5.cell (i := 2) rfl
      have y3 := s5.cell (i := 3) rfl
      have y4 := hb4.cell (i := 0) rfl
      have y5 := hb4.cell (i := 1) rfl
      have y6 := hb4.cell (i := 2) rfl
      have y7 := hb4.cell (i := 3) rfl
      have z4 := hb4.frozen 0
      have z5 := hb4.frozen 1
      have z6 := hb4.frozen 2
      have z7 := hb4.frozen 3
      cases hr : rightM ⟨t2.1, beNum t3.1, t4.1, t5.1⟩ with
      | false =>
        go_wp2_with fail
        have hno : decOK b = false := by unfold decOK; rw [Hread.out]; simp only [hr]; simp
        obtain ⟨s3, s4⟩ := set4 hb4 (.string ⟨#[]⟩) (.int .u32 0) (.slice none 0 0) (.slice none 0 0)
        refine bodyPost_ret (results_ct rfl _ _ w.heap.size _ _ _ rfl s3 Try.underlying117 rfl rfl) rfl ?_
        exact ⟨fun h => by rw [hno] at h; exact absurd h (by simp), fun _ => rfl, (hEw2.trans hE3).then_grown s4 (by intro k hk; cases hk; exact Nat.le_refl _)⟩
      | true =>
        go_wp2_with fail
        have hok : decOK b = true := by unfold decOK; rw [Hread.out]; simp only [hr, hx, Hf.out]; rfl
        obtain ⟨s3, s4⟩ := set4 hb4 (.string (str t2.1)) (.int .u32 (u32i (beNum t3.1))) (.slice F20 f20 g20) (.slice N20 n20 k20)
        have hF4 := (hF2.ext hE3).grown s4 ((hF2.ext hE3).apart hb4 (man_no _ _ _ _ _ _ _ _))
        have hN4 := (hN2.ext hE3).grown s4 ((hN2.ext hE3).apart hb4 (man_no _ _ _ _ _ _ _ _))
        refine bodyPost_ret (results_ct rfl _ _ w.heap.size _ _ _ rfl s3 Try.underlying117 rfl rfl) rfl ?_
        refine ⟨fun _ => ⟨F20, f20, g20, N20, n20, k20, ?_, ?_, ?_⟩, fun h => by rw [hok] at h; exact absurd h (by simp), (hEw2.trans hE3).then_grown s4 (by intro k hk; cases hk; exact Nat.le_refl _)⟩
        · rw [Hread.out]; rfl
        · rw [Hread.out]; exact hF4
        · rw [Hread.out]; exact hN4
  · have d1 : (u8i ((beNum t1.1).toUInt8) != 77) = true := by rw [bne_iff_ne]; intro h; exact hf (u8i_inj h)
    have Hf := Lib.hid hf
    clear hf
    unfold manV
    go_wp2_with fail
    have hno : decOK b = false := by unfold decOK; rw [Hread.out]; simp [Hf.out]
    obtain ⟨s1, s2⟩ := set4 r6 (.string (str t2.1)) (.int .u32 (u32i (beNum t3.1))) (.slice F20 f20 g20) (.slice N20 n20 k20)
    obtain ⟨s3, s4⟩ := set4 (hb2.grown s2 (by intro e; cases e; exact hne rfl)) (.string ⟨#[]⟩) (.int .u32 0) (.slice none 0 0) (.slice none 0 0)
    refine bodyPost_ret (results_ct rfl _ _ w.heap.size _ _ _ rfl s3 Try.underlying117 rfl rfl) rfl ?_
    exact ⟨fun h => by rw [hno] at h; exact absurd h (by simp), fun _ => rfl, (hEw1.then_grown s2 (by intro k hk; cases hk; omega)).then_grown s4 (by intro k hk; cases hk; exact Nat.le_refl _)⟩
end Go.Proofs.Ytkndgpjamijbbaa

/-
  A region that draws its order and ends by storing the first part of a tuple and handing on the second: the second part may be taken out before or behind the store. Plain theorems.
-/
import Derived.Test.YthggfbpdhkpkjaaLawNumbers11Q22
import Derived.Test.YthggfbpdhkpkjaaLawNumbers11Q21
import Derived.Deep.MidRow
namespace Go.Proofs.Ythggfbpdhkpkjaa
set_option maxRecDepth 100000
open Go Go.RowKit
theorem runs_extract {P : Program} {o : Oper} {t : Operand} {ix : Nat} {ρ : Operand → Value} {w : World} {G : Value → World → Prop} (ho : o.op = .extract t ix) (h : Runs P o ρ w G) : ∃ v, (∀ w', (execOp ρ o).run P w' = .ok (.value v) w') ∧ G v w := by
  unfold Runs execOp at h
  unfold execOp
  simp only [ho] at h ⊢
  cases hv : ρ t with
  | tuple vs =>
    cases hx : vs[ix]? with
    | some v =>
      simp [Instr.extract, hv, hx] at h ⊢
      exact h
    | none => simp [Instr.extract, hv, hx, stuck] at h
  | _ => simp [Instr.extract, hv, stuck] at h
theorem undone_all (listed : Array Bool) : ∀ k, (∀ i, i < k → listed.getD i false = true) → undone listed k = 0 := by
  intro k
  induction k with
  | zero => intro _; rfl
  | succ k ih => intro h; rw [undone, ih (fun i hi => h i (by omega)), h k (by omega)]; rfl
def sinkF (ops : Array Oper) (n f : Nat) : Bool := (List.range n).all fun i => i == f || (List.range (n + 1)).any fun j => decide (i < j) && j != f && Region.waitsFor .any ops j i
theorem tail_waits2 {ops : Array Oper} {n f : Nat} {listed : Array Bool} (hs : sinkF ops n f = true) (hn : n < ops.size) (inv : HeadInv .any ops n listed) :
    ∀ (d i : Nat), n - i = d → i < n → i ≠ f → listed.getD i true = false → n ∉ Region.ready .any ops listed := by
  intro d
  induction d using Nat.strongRecOn with
  | _ d ih =>
    intro i hd hi hif hun hr
    obtain ⟨_, ot, hot, hall⟩ := mem_ready.1 hr
    have h1 := List.all_eq_true.1 hs i (List.mem_range.2 hi)
    simp only [Bool.or_eq_true, beq_iff_eq] at h1
    rcases h1 with h1 | h1
    · exact hif h1
    · obtain ⟨j, hj, hj2⟩ := List.any_eq_true.1 h1
      simp only [Bool.and_eq_true, decide_eq_true_eq, bne_iff_ne, ne_eq] at hj2
      obtain ⟨oj, hoj, e, he, hb, hon⟩ := Region.waitsFor_spec hj2.2
      have hjle : j ≤ n := by have := List.mem_range.1 hj; omega
      by_cases hjt : j = n
      · subst hjt
        have : oj = ot := Option.some.inj (hoj.symm.trans hot)
        subst this
        have h2 := hall e he hb
        rw [hon, getD_both hun] at h2
        cases h2
      · cases hl : listed.getD j false with
        | true =>
          have h2 := inv.closed j oj hoj hl e he hb
          rw [hon, getD_both hun] at h2
          cases h2
        | false =>
          have hjs : j < listed.size := by rw [inv.size]; omega
          exact ih (n - j) (by omega) j rfl (by omega) hj2.1.2 (getD_in hjs hl) hr
theorem once_two (l : List Oper) (h1 : once l = true) : ∀ (x y : Nat) (ox oy : Oper) (t : Tmp), x ≠ y → l[x]? = some ox → l[y]? = some oy → ox.dst = some t → oy.dst = some t → False := by
  have two : ∀ (l : List Oper) (x y : Nat) (ox oy : Oper) (t : Tmp), once l = true → x < y → l[x]? = some ox → l[y]? = some oy → ox.dst = some t → oy.dst = some t → False := by
    intro l
    induction l with
    | nil => intro x y ox oy t _ _ hx; simp at hx
    | cons o' l ih' =>
      intro x y ox oy t h1 hxy hx hy hdx hdy
      simp only [once, Bool.and_eq_true] at h1
      cases y with
      | zero => omega
      | succ y =>
        cases x with
        | zero =>
          simp at hx
          subst hx
          rw [hdx] at h1
          simp only [List.all_eq_true] at h1
          have hmem : oy ∈ l := List.mem_of_getElem? (by simpa using hy)
          have := h1.1 oy hmem
          simp [hdy] at this
        | succ x => exact ih' x y ox oy t h1.2 (by omega) (by simpa using hx) (by simpa using hy) hdx hdy
  intro x y ox oy t hxy hx hy hdx hdy
  rcases Nat.lt_or_gt_of_ne hxy with h | h
  · exact two l x y ox oy t h1 h hx hy hdx hdy
  · exact two l y x oy ox t h1 h hy hx hdy hdx
def parTB (ops : Array Oper) (n f : Nat) : Bool :=
  decide (n < ops.size) && decide (f < n) &&
  ((ops.toList.take n).zipIdx.all fun (o, i) => o.after.all fun e => !Region.binds .any e || decide (e.on < i)) &&
  once ops.toList && sinkF ops n f && Region.chainB .any ops n && Region.seqB .any ops (ops.size - n) n (headListed ops.size n) &&
  decide (Region.ready .any ops (((headListed ops.size n).setIfInBounds f false).setIfInBounds n true) = [f])
set_option maxHeartbeats 2000000 in
theorem par_tup {ops : Array Oper} {id n : Nat} {a : Act} {w : World} {Q : Exit → Act → World → Prop} (f N : Nat) {of on : Oper} {x ix ty p q d jp jq : Nat}
    (hB : parTB ops n f = true) (F : List (MP Ext)) (hsz0 : (dsts ops).all (fun t => decide (t < a.tmps.size)) = true)
    (hof : ops[f]? = some of) (hofo : of.op = .extract (.tmp x) ix) (hofg : of.guard = none) (hofd : of.dst = some d)
    (hon : ops[n]? = some on) (hono : on.op = .store ty (.tmp p) (.tmp q)) (hong : on.guard = none) (hond : on.dst = none)
    (hjp : dstAt ops jp = some p) (hjq : dstAt ops jq = some q) (hjpn : jp < n) (hjqn : jq < n) (hdp : d ≠ p) (hdq : d ≠ q)
    (hp : ∀ u w, factAt F jp u w → ∃ g, u = .pointer (some ⟨g, 0, none⟩) ∧ w.there g 0 N) (hq : ∀ u w, factAt F jq u w → ∃ vs : Array Value, u = .agg vs ∧ vs.size = N ∧ vs.all (·.oneCell') = true)
    (hinf : (Try.prog.info? ty).map (·.size) = some N)
    (steps : StepsOK Try.prog ops ((ops.toList.take n).filterMap (·.dst)) F (fun _ w' => Ext w w') a 0 (ops.toList.take n))
    (fin : ∀ (vals : Nat → Value) (w' : World), Ext w w' → (∀ j, j < n → ∀ d, dstAt ops j = some d → factAt F j (vals j) w') → ∀ g vs, vals jp = .pointer (some ⟨g, 0, none⟩) → vals jq = .agg vs →
      wpList Try.prog ops Q (ops.toList.drop (n + 1)) (putAll a 0 (ops.toList.take n) vals) (w'.setCells g 0 vs.toList)) :
    (Code.region id ops true).wp Try.prog Q a w := by
  simp only [parTB, Bool.and_eq_true, decide_eq_true_eq] at hB
  obtain ⟨⟨⟨⟨⟨⟨⟨hnlt, hfn⟩, hback⟩, honce⟩, hsink⟩, hchain⟩, hseq⟩, hfl⟩ := hB
  have hn : n ≤ ops.size := Nat.le_of_lt hnlt
  have hsz : ∀ t ∈ dsts ops, t < a.tmps.size := fun t ht => by simpa using List.all_eq_true.1 hsz0 t ht
  have hdrop : ops.toList.drop n = on :: ops.toList.drop (n + 1) := by
    rw [List.drop_eq_getElem_cons (by simpa using hnlt)]
    congr 1
    rw [Array.getElem?_eq_getElem hnlt] at hon
    injection hon
  refine wp_region_any (by kernel_rfl) ?_
  have back : ∀ i o, i < n → ops[i]? = some o → ∀ e ∈ o.after, Region.binds .any e = true → e.on < i := by
    intro i o hi ho e he hb
    have h1 : (o, i) ∈ (ops.toList.take n).zipIdx := by
      rw [List.mem_zipIdx_iff_getElem?]
      rw [List.getElem?_take_of_lt hi]
      simpa using ho
    have h2 := (List.all_eq_true.1 hback) _ h1
    simp only [Array.all_eq_true'] at h2
    have h3 := h2 e he
    simpa [hb] using h3
  have fin1 : ∀ (listed : Array Bool) (a' : Act) (w' : World), (∀ i, i < n → listed.getD i false = true) → HeadInv .any ops n listed → a'.defers = a.defers → a'.tmps.size = a.tmps.size →
      (∀ t, (∀ j o, ops[j]? = some o → o.dst = some t → listed.getD j false = false) → a'.tmps.getD t undef = a.tmps.getD t undef) →
      (∀ j d, dstAt ops j = some d → listed.getD j false = true → factAt F j (a'.eval (.tmp d)) w') → Ext w w' →
      listed = headListed ops.size n ∧ ∃ g vs, a'.eval (.tmp p) = .pointer (some ⟨g, 0, none⟩) ∧ a'.eval (.tmp q) = .agg vs ∧ w'.there g 0 vs.size ∧ vs.size = N ∧ vs.all (·.oneCell') = true ∧ wpList Try.prog ops Q (ops.toList.drop (n + 1)) a' (w'.setCells g 0 vs.toList) := by
    intro listed a' w' hall inv h1 h2 h3 h4 h5
    have hl : listed = headListed ops.size n := by
      apply Array.ext
      · simp [headListed, inv.size]
      · intro i hi1 hi2
        have hi : i < ops.size := by rw [← inv.size]; exact hi1
        simp only [headListed, List.getElem_toArray, List.getElem_map, List.getElem_range]
        rcases Nat.lt_or_ge i n with h | h
        · have := hall i h
          rw [Array.getD_eq_getD_getElem?, Array.getElem?_eq_getElem hi1] at this
          simpa [h] using this
        · have := inv.tail i h hi
          rw [Array.getD_eq_getD_getElem?, Array.getElem?_eq_getElem hi1] at this
          simp at this
          rw [this]
          simp; omega
    have e : a' = putAll a 0 (ops.toList.take n) (fun j => match dstAt ops j with | some d => a'.eval (.tmp d) | none => undef) := by
      have once_take : once (ops.toList.take n) = true := by
        have : ∀ (l : List Oper) (k : Nat), once l = true → once (l.take k) = true := by
          intro l
          induction l with
          | nil => intro k _; simp [once]
          | cons o l ih =>
            intro k h
            cases k with
            | zero => rfl
            | succ k =>
              simp only [once, Bool.and_eq_true] at h
              simp only [List.take_succ_cons, once, Bool.and_eq_true]
              refine ⟨?_, ih k h.2⟩
              cases hod : o.dst with
              | none => rfl
              | some d =>
                rw [hod] at h
                simp only [List.all_eq_true] at h ⊢
                exact fun o' ho' => h.1 o' (List.mem_of_mem_take ho')
        exact this _ _ honce
      have ht : a'.tmps = (putAll a 0 (ops.toList.take n) (fun j => match dstAt ops j with | some d => a'.eval (.tmp d) | none => undef)).tmps := by
        apply Array.ext
        · rw [putAll_size, h2]
        · intro t ht1 ht2
          have g1 : a'.tmps[t] = a'.tmps.getD t undef := by simp [ht1]
          have g2 : ∀ (b : Act) (hb : t < b.tmps.size), b.tmps[t] = b.tmps.getD t undef := fun b hb => by simp [hb]
          rw [g1, g2 _ ht2]
          by_cases hex : ∃ (k : Nat) (o : Oper), (ops.toList.take n)[k]? = some o ∧ o.dst = some t
          · obtain ⟨k, o, hk, ho⟩ := hex
            rw [putAll_at _ a 0 k _ o t once_take hk ho (by rw [← h2]; exact ht1)]
            have hkn : k < n := by
              rcases Nat.lt_or_ge k n with h | h
              · exact h
              · rw [List.getElem?_eq_none (by rw [List.length_take]; omega)] at hk; cases hk
            have hk' : ops[k]? = some o := by rw [List.getElem?_take_of_lt hkn] at hk; simpa using hk
            simp only [Nat.zero_add, dstAt, hk', Option.bind_some, ho]
            rfl
          · rw [putAll_other _ a 0 _ t (fun (o : Oper) ho hd => by
              obtain ⟨k, hk, hk2⟩ := List.mem_iff_getElem.1 ho
              exact hex ⟨k, o, by rw [List.getElem?_eq_getElem hk, hk2], hd⟩)]
            refine h3 t fun j o hj hd => ?_
            cases hb : listed.getD j false with
            | false => rfl
            | true =>
              exfalso
              rcases Nat.lt_or_ge j n with h | h
              · exact hex ⟨j, o, by rw [List.getElem?_take_of_lt h]; simpa using hj, hd⟩
              · have hj' : j < ops.size := (Array.getElem?_eq_some_iff.1 hj).1
                have := inv.tail j h hj'
                rw [getD_both this] at hb
                cases hb
      cases a' with
      | mk tm df =>
        have hdf := putAll_defers (ops.toList.take n) a 0 (fun j => match dstAt ops j with | some d => Act.eval { tmps := tm, defers := df } (.tmp d) | none => undef)
        generalize putAll a 0 (ops.toList.take n) (fun j => match dstAt ops j with | some d => Act.eval { tmps := tm, defers := df } (.tmp d) | none => undef) = b at *
        cases b with
        | mk tb db =>
          simp only at ht h1 hdf
          subst ht
          rw [h1, ← hdf]
    obtain ⟨g, hg, hth⟩ := hp _ _ (h4 jp p hjp (hall jp hjpn))
    obtain ⟨vs, hvs, hvn, hv1⟩ := hq _ _ (h4 jq q hjq (hall jq hjqn))
    refine ⟨hl, g, vs, hg, hvs, by rw [hvn]; exact hth, hvn, hv1, ?_⟩
    have hfin := fin (fun j => match dstAt ops j with | some d => a'.eval (.tmp d) | none => undef) w' h5 (fun j hj d hd => by simp only [hd]; exact h4 j d hd (hall j hj)) g vs (by simp only [hjp]; exact hg) (by simp only [hjq]; exact hvs)
    rw [← e] at hfin
    exact hfin
  have main : ∀ (d : Nat) (listed : Array Bool) (a' : Act) (w' : World), undone listed n = d → HeadInv .any ops n listed → a'.defers = a.defers → a'.tmps.size = a.tmps.size →
      (∀ t, (∀ j o, ops[j]? = some o → o.dst = some t → listed.getD j false = false) → a'.tmps.getD t undef = a.tmps.getD t undef) →
      (∀ j d, dstAt ops j = some d → listed.getD j false = true → factAt F j (a'.eval (.tmp d)) w') → Ext w w' →
      wpAny Try.prog .any ops Q (d + (ops.size - n)) listed a' w' := by
    intro d
    induction d with
    | zero =>
      intro listed a' w' hd inv h1 h2 h3 h4 h5
      obtain ⟨hl, g, vs, hg, hvs, hth, hvn, hv1, hfin⟩ := fin1 listed a' w' (undone_zero listed n hd) inv h1 h2 h3 h4 h5
      rw [Nat.zero_add]
      have hlen : (ops.toList.drop n).length = ops.size - n := by simp
      rw [← hlen]
      refine wpAny_of_seq (ops.toList.drop n) n listed a' w' (fun j => by simp) (by rw [hlen, hl]; exact hseq) ?_
      rw [hdrop]
      refine wpList_store_mid hong ty _ _ hono g 0 vs hg hvs hth (by rw [hinf, hvn]) hv1 ?_
      rw [hond]
      exact hfin
    | succ d ih =>
      intro listed a' w' hd inv h1 h2 h3 h4 h5
      rw [show d + 1 + (ops.size - n) = (d + (ops.size - n)) + 1 by omega]
      obtain ⟨i0, hi0, hu0, hbefore⟩ := undone_pos listed n (by omega)
      have hi0s : i0 < ops.size := by omega
      obtain ⟨o0, ho0⟩ : ∃ o, ops[i0]? = some o := ⟨_, Array.getElem?_eq_getElem hi0s⟩
      have hu0' : listed.getD i0 true = false := getD_in (by rw [inv.size]; exact hi0s) hu0
      have hr0 : i0 ∈ Region.ready .any ops listed := mem_ready.2 ⟨hu0', o0, ho0, fun e he hb => hbefore _ (back i0 o0 hi0 ho0 e he hb)⟩
      refine ⟨fun h => (by rw [h] at hr0; cases hr0), fun i hi => ?_⟩
      rcases Nat.lt_or_ge i n with hin | hin
      rotate_left
      · obtain ⟨hun, oi, hoi, halli⟩ := mem_ready.1 hi
        have his' : i < ops.size := (Array.getElem?_eq_some_iff.1 hoi).1
        obtain rfl : i = n := by
          rcases Nat.lt_or_ge n i with h | h
          · have h1 := List.all_eq_true.1 hchain i (List.mem_range.2 his')
            simp only [Bool.or_eq_true, decide_eq_true_eq] at h1
            rcases h1 with h1 | h1
            · omega
            · obtain ⟨o', ho', e, he, hb, hon'⟩ := Region.waitsFor_spec h1
              have : o' = oi := Option.some.inj (ho'.symm.trans hoi)
              subst this
              have h2 := halli e he hb
              rw [hon', getD_both (inv.tail (i - 1) (by omega) (by omega))] at h2
              cases h2
          · omega
        have hhd : ∀ j, j < i → j ≠ f → listed.getD j false = true := by
          intro j hj hjf
          cases hc : listed.getD j false with
          | true => rfl
          | false => exact absurd hi (tail_waits2 hsink (by omega) inv _ j rfl hj hjf (getD_in (by rw [inv.size]; omega) hc))
        have hf0 : listed.getD f false = false := by
          cases hc : listed.getD f false with
          | false => rfl
          | true =>
            exfalso
            by_cases h : i0 = f
            · subst h; rw [hc] at hu0; cases hu0
            · rw [hhd i0 hi0 h] at hu0; cases hu0
        have hfs : f < listed.size := by rw [inv.size]; omega
        have hfr : f ∈ Region.ready .any ops listed := mem_ready.2 ⟨getD_in hfs hf0, of, hof, fun e he hb => hhd _ (by have := back f of hfn hof e he hb; omega) (by have := back f of hfn hof e he hb; omega)⟩
        have hst : StepOK Try.prog ops ((ops.toList.take i).filterMap (·.dst)) F (fun _ w' => Ext w w') a (0 + f) of := StepsOK.at_ steps (by rw [List.getElem?_take_of_lt hfn]; simpa using hof)
        rw [Nat.zero_add] at hst
        have hk : Known ops ((ops.toList.take i).filterMap (·.dst)) F a (fun j => listed.getD j false) a' w' := ⟨h4, fun t ht => h3 t fun j o' hj hd => by
          rcases Nat.lt_or_ge j i with hjn | hjn
          · exfalso
            have : t ∈ (ops.toList.take i).filterMap (·.dst) := List.mem_filterMap.2 ⟨o', List.mem_of_getElem? (i := j) (by rw [List.getElem?_take_of_lt hjn]; simpa using hj), hd⟩
            have h' := List.contains_iff_mem.2 this
            rw [ht] at h'; cases h'
          · exact getD_both (inv.tail j hjn (Array.getElem?_eq_some_iff.1 hj).1)⟩
        have hs1 := hst _ a' w' h5 hf0 (fun e he hb => hhd _ (by have := back f of hfn hof e he hb; omega) (by have := back f of hfn hof e he hb; omega)) hk
        rw [if_pos (by simp [Region.wanted, hofg])] at hs1
        obtain ⟨v, hrun, hg1, hg2⟩ := runs_extract hofo hs1
        have hl1 : ∀ j, j < i → (listed.setIfInBounds f true).getD j false = true := by
          intro j hj
          by_cases h : f = j
          · subst h; simp [hfs]
          · rw [getD_set_ne false h]; exact hhd j hj (Ne.symm h)
        have hd0 : d = 0 := by
          have h7 := undone_set listed f hfs hf0 i hfn
          have h8 := undone_all (listed.setIfInBounds f true) i hl1
          omega
        subst hd0
        obtain ⟨hl, g, vs, hg, hvs, hth, hvn, hv1, hfin⟩ := fin1 (listed.setIfInBounds f true) (a'.put of.dst v) w' hl1 (inv.set hfr hfn) (by rw [put_defers', h1]) (by rw [put_size, h2])
          (by
            intro t ht
            by_cases hod : of.dst = some t
            · have := ht f of hof hod
              simp [hfs] at this
            · rw [put_get_ne _ _ _ _ hod]
              refine h3 t fun j o' hj hd => ?_
              have h' := ht j o' hj hd
              by_cases hji : f = j
              · subst hji; simp [hfs] at h'
              · rwa [getD_set_ne false hji] at h')
          (by
            intro j dj hdj hdone
            by_cases hji : f = j
            · subst hji
              have hod : of.dst = some dj := by simpa [dstAt, hof] using hdj
              have hlt : dj < a'.tmps.size := by
                rw [h2]
                exact hsz dj (List.mem_filterMap.2 ⟨of, Array.mem_toList_iff.2 (Array.mem_of_getElem? hof), hod⟩)
              have : (a'.put of.dst v).eval (.tmp dj) = v := by rw [hod]; exact put_get _ _ _ hlt
              rw [this]; exact hg2.2
            · rw [getD_set_ne false hji] at hdone
              have hne : of.dst ≠ some dj := by
                intro hod
                obtain ⟨oj, hoj⟩ : ∃ oj, ops[j]? = some oj := by
                  cases h' : ops[j]? with
                  | none => simp [dstAt, h'] at hdj
                  | some oj => exact ⟨oj, rfl⟩
                have hojd : oj.dst = some dj := by simpa [dstAt, hoj] using hdj
                exact once_two ops.toList honce f j of oj dj hji (by simpa using hof) (by simpa using hoj) hod hojd
              have : (a'.put of.dst v).eval (.tmp dj) = a'.eval (.tmp dj) := put_get_ne _ _ _ _ hne
              rw [this]
              exact h4 j dj hdj hdone)
          h5
        have hg' : a'.eval (.tmp p) = .pointer (some ⟨g, 0, none⟩) := (put_get_ne a' of.dst v p (by rw [hofd]; intro e; injection e with e; exact hdp e)).symm.trans hg
        have hvs' : a'.eval (.tmp q) = .agg vs := (put_get_ne a' of.dst v q (by rw [hofd]; intro e; injection e with e; exact hdq e)).symm.trans hvs
        have hlm : listed = (headListed ops.size i).setIfInBounds f false := by
          rw [← hl]
          apply Array.ext_getElem?
          intro k
          by_cases hkf : f = k
          · subst hkf
            have : listed[f] = false := by simpa [hfs] using hf0
            simp [hfs, this]
          · simp [Array.getElem?_setIfInBounds, hkf]
        have hsz1 : ops.size - i = (ops.size - (i + 1)) + 1 := by omega
        rw [hsz1] at hseq
        simp only [Region.seqB, Bool.and_eq_true, decide_eq_true_eq] at hseq
        unfold wpOp
        rw [hon]
        simp only [show Region.wanted on (yielded ops a'.tmps) = true by simp [Region.wanted, hong], if_true]
        refine .inl (wp_store_mid ty _ _ hono g 0 vs hg' hvs' hth (by rw [hinf, hvn]) hv1 ?_)
        rw [hond, Nat.zero_add, hsz1]
        have hready : Region.ready .any ops (listed.setIfInBounds i true) = [f] := by rw [hlm]; exact hfl
        refine ⟨fun h => (by rw [hready] at h; cases h), fun k hk' => ?_⟩
        rw [hready] at hk'
        obtain rfl : k = f := by simpa using hk'
        unfold wpOp
        rw [hof]
        simp only [show ∀ t, Region.wanted of (yielded ops t) = true from fun t => by simp [Region.wanted, hofg], if_true]
        refine .inl ?_
        unfold Oper.wp
        rw [show (a'.put none undef) = a' from rfl, hrun]
        have harr : (listed.setIfInBounds i true).setIfInBounds k true = (headListed ops.size i).setIfInBounds i true := by
          rw [← hl]
          exact Array.setIfInBounds_comm _ _ (by omega)
        rw [harr]
        have hlen : (ops.toList.drop (i + 1)).length = ops.size - (i + 1) := by simp
        show wpAny Try.prog .any ops Q (ops.size - (i + 1)) _ _ _
        rw [← hlen]
        exact wpAny_of_seq (ops.toList.drop (i + 1)) (i + 1) _ _ _ (fun j => by simp) (by rw [hlen]; exact hseq.2) hfin
      obtain ⟨hun, o, ho, hall⟩ := mem_ready.1 hi
      have his : i < listed.size := by rw [inv.size]; omega
      have hunf := getD_both hun
      have hst : StepOK Try.prog ops ((ops.toList.take n).filterMap (·.dst)) F (fun _ w' => Ext w w') a (0 + i) o := StepsOK.at_ steps (by rw [List.getElem?_take_of_lt hin]; simpa using ho)
      rw [Nat.zero_add] at hst
      have hk : Known ops ((ops.toList.take n).filterMap (·.dst)) F a (fun j => listed.getD j false) a' w' := ⟨h4, fun t ht => h3 t fun j o' hj hd => by
        rcases Nat.lt_or_ge j n with hjn | hjn
        · exfalso
          have : t ∈ (ops.toList.take n).filterMap (·.dst) := List.mem_filterMap.2 ⟨o', List.mem_of_getElem? (i := j) (by rw [List.getElem?_take_of_lt hjn]; simpa using hj), hd⟩
          have h' := List.contains_iff_mem.2 this
          rw [ht] at h'; cases h'
        · exact getD_both (inv.tail j hjn (Array.getElem?_eq_some_iff.1 hj).1)⟩
      have hs1 := hst _ a' w' h5 hunf hall hk
      have next : ∀ v w'', Ext w w'' → factAt F i v w'' → (∀ j, listed.getD j false = true → ∀ u, factAt F j u w' → factAt F j u w'') →
          wpAny Try.prog .any ops Q (d + (ops.size - n)) (listed.setIfInBounds i true) (a'.put o.dst v) w'' := by
        intro v w'' hJ hF hkeep
        have hset : (listed.setIfInBounds i true).getD i false = true := by simp [his]
        refine ih _ _ _ (by have := undone_set listed i his hunf n hin; omega) (inv.set hi hin) (by rw [put_defers', h1]) (by rw [put_size, h2]) ?_ ?_ ?_
        · intro t ht
          by_cases hod : o.dst = some t
          · have := ht i o ho hod
            rw [hset] at this; cases this
          · rw [put_get_ne _ _ _ _ hod]
            refine h3 t fun j o' hj hd => ?_
            have h' := ht j o' hj hd
            by_cases hji : i = j
            · subst hji; rw [hset] at h'; cases h'
            · rwa [getD_set_ne false hji] at h'
        · intro j dj hdj hdone
          by_cases hji : i = j
          · subst hji
            have hod : o.dst = some dj := by simpa [dstAt, ho] using hdj
            have hlt : dj < a'.tmps.size := by
              rw [h2]
              exact hsz dj (List.mem_filterMap.2 ⟨o, Array.mem_toList_iff.2 (Array.mem_of_getElem? ho), hod⟩)
            have : (a'.put o.dst v).eval (.tmp dj) = v := by rw [hod]; exact put_get _ _ _ hlt
            rw [this]; exact hF
          · rw [getD_set_ne false hji] at hdone
            have hne : o.dst ≠ some dj := by
              intro hod
              obtain ⟨oj, hoj⟩ : ∃ oj, ops[j]? = some oj := by
                cases h' : ops[j]? with
                | none => simp [dstAt, h'] at hdj
                | some oj => exact ⟨oj, rfl⟩
              have hojd : oj.dst = some dj := by simpa [dstAt, hoj] using hdj
              have two : ∀ (l : List Oper) (x y : Nat) (ox oy : Oper) (t : Tmp), once l = true → x < y → l[x]? = some ox → l[y]? = some oy → ox.dst = some t → oy.dst = some t → False := by
                intro l
                induction l with
                | nil => intro x y ox oy t _ _ hx; simp at hx
                | cons o' l ih' =>
                  intro x y ox oy t h1 hxy hx hy hdx hdy
                  simp only [once, Bool.and_eq_true] at h1
                  cases y with
                  | zero => omega
                  | succ y =>
                    cases x with
                    | zero =>
                      simp at hx
                      subst hx
                      rw [hdx] at h1
                      simp only [List.all_eq_true] at h1
                      have hmem : oy ∈ l := List.mem_of_getElem? (by simpa using hy)
                      have := h1.1 oy hmem
                      simp [hdy] at this
                    | succ x => exact ih' x y ox oy t h1.2 (by omega) (by simpa using hx) (by simpa using hy) hdx hdy
              rcases Nat.lt_or_gt_of_ne hji with hlt | hlt
              · exact two _ i j o oj dj honce hlt (by simpa using ho) (by simpa using hoj) hod hojd
              · exact two _ j i oj o dj honce hlt (by simpa using hoj) (by simpa using ho) hojd hod
            have : (a'.put o.dst v).eval (.tmp dj) = a'.eval (.tmp dj) := put_get_ne _ _ _ _ hne
            rw [this]
            exact hkeep j hdone _ (h4 j dj hdj hdone)
        · exact hJ
      unfold wpOp
      rw [ho]
      by_cases hw : Region.wanted o (yielded ops a'.tmps) = true
      · simp only [hw, if_true]
        rw [if_pos hw] at hs1
        refine .inl (hs1.wp ?_)
        intro v w'' hg
        exact next v w'' hg.2.1 hg.2.2 hg.1
      · simp only [hw]
        rw [if_neg hw] at hs1
        exact next undef w' hs1.1 hs1.2 fun j _ u hu => hu
  have hszr : (Array.replicate ops.size false).size = ops.size := by simp
  have hrep := getD_replicate_false ops.size
  have hund : ∀ k, k ≤ ops.size → undone (Array.replicate ops.size false) k = k := by
    intro k
    induction k with
    | zero => intro _; rfl
    | succ k ih => intro hk; rw [undone, ih (by omega), hrep]; simp
  have hfin := main n (Array.replicate ops.size false) a w.drew (hund n hn)
    ⟨hszr, (fun j oj _ hl => by rw [hrep] at hl; cases hl), (fun t _ ht => by simp [ht])⟩ rfl rfl (fun t _ => rfl)
    (fun j d _ hl => by rw [hrep] at hl; cases hl) (Ext.refl w).drew
  rw [show n + (ops.size - n) = ops.size by omega] at hfin
  exact hfin
/-- a tuple: a struct whose slices are known by what they read, and a value -/
def MP.tp (l : List Sh) (r : Value) : MP Ext := ⟨fun u w => Sh.all l (fun vs => u = .tuple #[.agg vs.toArray, r]) w, fun _ _ _ e h => Sh.all_ext e _ _ h⟩
def Sh.oneB : List Sh → Bool
  | [] => true
  | .val v :: r => v.oneCell' && Sh.oneB r
  | _ :: r => Sh.oneB r
theorem Sh.all_cells {w : World} : ∀ (l : List Sh) (k : List Value → Prop), Sh.oneB l = true → Sh.all l k w → ∃ vs, k vs ∧ vs.length = l.length ∧ ∀ v ∈ vs, v.oneCell' = true
  | [], k, _, h => ⟨[], h, rfl, fun v hv => by cases hv⟩
  | .val u :: r, k, ho, h => by
    simp only [Sh.oneB, Bool.and_eq_true] at ho
    obtain ⟨vs, h1, h2, h3⟩ := Sh.all_cells r _ ho.2 h
    exact ⟨u :: vs, h1, by simp [h2], fun v hv => by
      rcases List.mem_cons.1 hv with rfl | hv
      · exact ho.1
      · exact h3 v hv⟩
  | .b8 n L :: r, k, ho, h => by
    obtain ⟨A, c, _, h⟩ := h
    obtain ⟨vs, h1, h2, h3⟩ := Sh.all_cells r _ ho h
    exact ⟨_ :: vs, h1, by simp [h2], fun v hv => by
      rcases List.mem_cons.1 hv with rfl | hv
      · rfl
      · exact h3 v hv⟩
  | .bb n L :: r, k, ho, h => by
    obtain ⟨A, c, _, h⟩ := h
    obtain ⟨vs, h1, h2, h3⟩ := Sh.all_cells r _ ho h
    exact ⟨_ :: vs, h1, by simp [h2], fun v hv => by
      rcases List.mem_cons.1 hv with rfl | hv
      · rfl
      · exact h3 v hv⟩
theorem tup_ag {N : Nat} (l : List Sh) (ho : Sh.oneB l = true) (hN : l.length = N) (u : Value) (w : World) (h : (MP.ag l).p u w) : ∃ vs : Array Value, u = .agg vs ∧ vs.size = N ∧ vs.all (·.oneCell') = true := by
  obtain ⟨vs, h1, h2, h3⟩ := Sh.all_cells l _ ho h
  exact ⟨vs.toArray, h1, by simp [h2, hN], all_oneCell_toArray h3⟩
theorem tup_is {N : Nat} (cs : Array Value) (ho : cs.toList.all (·.oneCell') = true) (hN : cs.size = N) (u : Value) (w : World) (h : (MP.is (R := Ext) (.agg cs)).p u w) : ∃ vs : Array Value, u = .agg vs ∧ vs.size = N ∧ vs.all (·.oneCell') = true := ⟨cs, h, hN, Array.all_eq_true_iff_forall_mem.2 fun v hv => List.all_eq_true.1 ho v (Array.mem_toList_iff.2 hv)⟩
theorem there_blk {w : World} {g N : Nat} {t : TypeId} {cs : Array Value} (h : Blk w g t cs) (hN : cs.size = N) : w.there g 0 N := fun j hj => by
  rw [Nat.zero_add]
  refine ⟨?_, h.frozen j⟩
  rw [h.cell (i := j) (v := cs[j]'(by omega)) (by simp)]
  rfl
theorem tup_bk {N b : Nat} {t : TypeId} (cs : Array Value) (hN : cs.size = N) (u : Value) (w : World) (h : (MP.bk b t cs).p u w) : ∃ g, u = .pointer (some ⟨g, 0, none⟩) ∧ w.there g 0 N := by
  obtain ⟨g, h1, h2, _⟩ := h
  exact ⟨g, h1, there_blk h2 hN⟩
theorem pointer_eq {u : Value} {g g' : Nat} (h : u = .pointer (some ⟨g, 0, none⟩)) (h' : u = .pointer (some ⟨g', 0, none⟩)) : g = g' := by
  rw [h] at h'
  injection h' with h'
  injection h' with h'
  injection h'
theorem Blk.setAll {w : World} {g : Nat} {t : TypeId} {cs vs : Array Value} (h : Blk w g t cs) (hn : vs.size = cs.size) : Blk (w.setCells g 0 vs.toList) g t vs := by
  have key : ∀ (l : List Value) (o : Nat) (w : World) (cs : Array Value), Blk w g t cs → Blk (w.setCells g o l) g t ((List.range l.length).foldl (fun c i => c.setIfInBounds (o + i) (l.getD i undef)) cs) := by
    intro l
    induction l with
    | nil => intro o w cs h; exact h
    | cons v r ih =>
      intro o w cs h
      have h1 := ih (o + 1) _ _ (h.set o v)
      have e : (List.range (v :: r).length).foldl (fun c i => c.setIfInBounds (o + i) ((v :: r).getD i undef)) cs = (List.range r.length).foldl (fun c i => c.setIfInBounds (o + 1 + i) (r.getD i undef)) (cs.setIfInBounds o v) := by
        rw [List.length_cons, List.range_succ_eq_map, List.foldl_cons, List.foldl_map]
        simp only [Nat.add_zero, List.getD_cons_zero, List.getD_cons_succ]
        congr 1
        funext c i
        rw [show o + 1 + i = o + (i + 1) by omega]
      rw [e]
      exact h1
  have h1 := key vs.toList 0 w cs h
  have e : ∀ (l : List Value) (cs : Array Value), l.length = cs.size → (List.range l.length).foldl (fun c i => c.setIfInBounds (0 + i) (l.getD i undef)) cs = l.toArray := by
    intro l cs hl
    have inv : ∀ m, m ≤ l.length → (((List.range m).foldl (fun c i => c.setIfInBounds (0 + i) (l.getD i undef)) cs).size = cs.size ∧ ∀ i, i < l.length → ((List.range m).foldl (fun c i => c.setIfInBounds (0 + i) (l.getD i undef)) cs)[i]? = if i < m then l[i]? else cs[i]?) := by
      intro m
      induction m with
      | zero => intro _; exact ⟨rfl, fun i hi => by simp⟩
      | succ m ih =>
        intro hm
        obtain ⟨i1, i2⟩ := ih (by omega)
        rw [List.range_succ, List.foldl_append]
        simp only [List.foldl_cons, List.foldl_nil, Nat.zero_add] at i1 i2 ⊢
        refine ⟨by rw [Array.size_setIfInBounds]; exact i1, fun i hi => ?_⟩
        rw [Array.getElem?_setIfInBounds]
        by_cases him : m = i
        · subst him
          rw [if_pos rfl, if_pos (by rw [i1]; omega), if_pos (Nat.lt_succ_self _)]
          simp [List.getElem?_eq_getElem hi]
        · rw [if_neg him, i2 i hi]
          by_cases h3 : i < m
          · rw [if_pos h3, if_pos (by omega)]
          · rw [if_neg h3, if_neg (by omega)]
    obtain ⟨i1, i2⟩ := inv l.length (Nat.le_refl _)
    apply Array.ext_getElem?
    intro i
    rcases Nat.lt_or_ge i l.length with hi | hi
    · rw [i2 i hi, if_pos hi]; simp
    · rw [Array.getElem?_eq_none (by rw [i1]; omega), Array.getElem?_eq_none (by simpa using hi)]
  rw [e vs.toList cs (by simpa using hn)] at h1
  exact h1
def noU8 (cs : Array Value) : Bool := cs.toList.all fun v => match v with | .int .u8 _ => false | _ => true
theorem nou8 {cs : Array Value} (h : noU8 cs = true) (i : Nat) (x : Int) : cs[i]? ≠ some (.int .u8 x) := by
  intro e
  have h1 := List.all_eq_true.1 h _ (Array.mem_toList_iff.2 (Array.mem_of_getElem? e))
  simp at h1
def isSl : Option Value → Bool
  | some (.slice _ _ _) => true
  | _ => false
def no3B (cs : Array Value) : Bool := (List.range cs.size).all fun i => !(isSl cs[i]? && isSl cs[i + 1]? && isSl cs[i + 2]?)
theorem no3 {cs : Array Value} (h : no3B cs = true) (i : Nat) (a b c : Value) (ha : cs[i]? = some a) (hb : cs[i + 1]? = some b) (hc : cs[i + 2]? = some c) : ¬ (isSl (some a) = true ∧ isSl (some b) = true ∧ isSl (some c) = true) := by
  have hi : i < cs.size := (Array.getElem?_eq_some_iff.1 ha).1
  have h1 := List.all_eq_true.1 h i (List.mem_range.2 hi)
  rw [ha, hb, hc] at h1
  rintro ⟨k1, k2, k3⟩
  rw [k1, k2, k3] at h1
  cases h1
end Go.Proofs.Ythggfbpdhkpkjaa

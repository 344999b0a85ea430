/-
  A region that draws its order and makes two new blocks: they are unlike, whatever order is drawn. Plain theorems.
-/
import Derived.Test.YtkndgpjamijbbaaGreatLawNumbers22Q4
namespace Go.Proofs.YtkndgpjamijbbaaGreat
set_option maxRecDepth 100000
open Go Go.RowKit
/-- The one thing to show of operation i. -/
def StepOKA (P : Program) {R : World → World → Prop} (ops : Array Oper) (H : List Tmp) (F : List (MP R)) (J : (Nat → Bool) → Act → World → Prop) (a0 : Act) (i : Nat) (o : Oper) : Prop :=
  ∀ (done : Nat → Bool) (a : Act) (w : World), J done a w → done i = false → (∀ e ∈ o.after, Region.binds .any e = true → done e.on = true) → Known ops H F a0 done a w →
    if Region.wanted o (yielded ops a.tmps) = true then Runs P o a.eval w fun v w' => (∀ j, done j = true → ∀ u, factAt F j u w → factAt F j u w') ∧ J (setDone done i) (a.put o.dst v) w' ∧ factAt F i v w'
    else J (setDone done i) (a.put o.dst undef) w ∧ factAt F i undef w

def StepsOKA (P : Program) {R : World → World → Prop} (ops : Array Oper) (H : List Tmp) (F : List (MP R)) (J : (Nat → Bool) → Act → World → Prop) (a0 : Act) : Nat → List Oper → Prop
  | _, [] => True
  | i, o :: l => StepOKA P ops H F J a0 i o ∧ StepsOKA P ops H F J a0 (i + 1) l

theorem StepsOKA.at_ {P : Program} {R : World → World → Prop} {ops : Array Oper} {H : List Tmp} {F : List (MP R)} {J : (Nat → Bool) → Act → World → Prop} {a0 : Act} {l : List Oper} :
    ∀ {k i : Nat} {o : Oper}, StepsOKA P ops H F J a0 k l → l[i]? = some o → StepOKA P ops H F J a0 (k + i) o := by
  induction l with
  | nil => intro k i o _ hi; simp at hi
  | cons o' l ih =>
    intro k i o h hi
    cases i with
    | zero =>
      simp only [List.getElem?_cons_zero, Option.some.injEq] at hi
      rw [← hi]
      exact h.1
    | succ i =>
      have := ih (i := i) h.2 (by simpa only [List.getElem?_cons_succ] using hi)
      rwa [Nat.add_assoc, Nat.add_comm 1 i] at this


theorem par_regionA {P : Program} {R : World → World → Prop} {ops : Array Oper} {id n : Nat} {a : Act} {w : World} {Q : Exit → Act → World → Prop} (hm : P.follows .mixedOrders = true)
    (hB : parB ops n = true) (F : List (MP R)) (J : (Nat → Bool) → Act → World → Prop) (hJ0 : J (fun _ => false) a w.drew)
    (hsz : ∀ t ∈ dsts ops, t < a.tmps.size)
    (steps : StepsOKA P ops ((ops.toList.take n).filterMap (·.dst)) F J a 0 (ops.toList.take n))
    (fin : ∀ (vals : Nat → Value) (w' : World), (∃ a', J (fun j => decide (j < n)) a' w' ∧ ∀ j d, dstAt ops j = some d → vals j = a'.eval (.tmp d)) → (∀ j, j < n → ∀ d, dstAt ops j = some d → factAt F j (vals j) w') → wpList P ops Q (ops.toList.drop n) (putAll a 0 (ops.toList.take n) vals) w')
    (Jext : ∀ d d' a w, (∀ j, d j = d' j) → J d a w → J d' a w := by intro d d' a w h hj; have e : d = d' := funext h; rw [← e]; exact hj) :
    (Code.region id ops true).wp P Q a w := by
  simp only [parB, Bool.and_eq_true, Bool.or_eq_true, decide_eq_true_eq] at hB
  obtain ⟨⟨⟨⟨hn, hback⟩, honce⟩, htail⟩, hseq⟩ := hB
  refine wp_region_any hm ?_
  have back : ∀ i o, i < n → ops[i]? = some o → ∀ e ∈ o.after, Region.binds .any e = true → e.on < i := by
    intro i o hi ho e he hb
    have h1 : (o, i) ∈ (ops.toList.take n).zipIdx := by
      rw [List.mem_zipIdx_iff_getElem?]
      rw [List.getElem?_take_of_lt hi]
      simpa using ho
    have h2 := (List.all_eq_true.1 hback) _ h1
    simp only [Array.all_eq_true'] at h2
    have h3 := h2 e he
    simpa [hb] using h3
  have main : ∀ (d : Nat) (listed : Array Bool) (a' : Act) (w' : World), undone listed n = d → HeadInv .any ops n listed → a'.defers = a.defers → a'.tmps.size = a.tmps.size →
      (∀ t, (∀ j o, ops[j]? = some o → o.dst = some t → listed.getD j false = false) → a'.tmps.getD t undef = a.tmps.getD t undef) →
      (∀ j d, dstAt ops j = some d → listed.getD j false = true → factAt F j (a'.eval (.tmp d)) w') → J (fun j => listed.getD j false) a' w' →
      wpAny P .any ops Q (d + (ops.size - n)) listed a' w' := by
    intro d
    induction d with
    | zero =>
      intro listed a' w' hd inv h1 h2 h3 h4 h5
      have hall := undone_zero listed n hd
      have hl : listed = headListed ops.size n := by
        apply Array.ext
        · simp [headListed, inv.size]
        · intro i hi1 hi2
          have hi : i < ops.size := by rw [← inv.size]; exact hi1
          simp only [headListed, List.getElem_toArray, List.getElem_map, List.getElem_range]
          rcases Nat.lt_or_ge i n with h | h
          · have := hall i h
            rw [Array.getD_eq_getD_getElem?, Array.getElem?_eq_getElem hi1] at this
            simpa [h] using this
          · have := inv.tail i h hi
            rw [Array.getD_eq_getD_getElem?, Array.getElem?_eq_getElem hi1] at this
            simp at this
            rw [this]
            simp; omega
      have e : a' = putAll a 0 (ops.toList.take n) (fun j => match dstAt ops j with | some d => a'.eval (.tmp d) | none => undef) := by
        have once_take : once (ops.toList.take n) = true := by
          have : ∀ (l : List Oper) (k : Nat), once l = true → once (l.take k) = true := by
            intro l
            induction l with
            | nil => intro k _; simp [once]
            | cons o l ih =>
              intro k h
              cases k with
              | zero => rfl
              | succ k =>
                simp only [once, Bool.and_eq_true] at h
                simp only [List.take_succ_cons, once, Bool.and_eq_true]
                refine ⟨?_, ih k h.2⟩
                cases hod : o.dst with
                | none => rfl
                | some d =>
                  rw [hod] at h
                  simp only [List.all_eq_true] at h ⊢
                  exact fun o' ho' => h.1 o' (List.mem_of_mem_take ho')
          exact this _ _ honce
        have ht : a'.tmps = (putAll a 0 (ops.toList.take n) (fun j => match dstAt ops j with | some d => a'.eval (.tmp d) | none => undef)).tmps := by
          apply Array.ext
          · rw [putAll_size, h2]
          · intro t ht1 ht2
            have g1 : a'.tmps[t] = a'.tmps.getD t undef := by simp [ht1]
            have g2 : ∀ (b : Act) (hb : t < b.tmps.size), b.tmps[t] = b.tmps.getD t undef := fun b hb => by simp [hb]
            rw [g1, g2 _ ht2]
            by_cases hex : ∃ (k : Nat) (o : Oper), (ops.toList.take n)[k]? = some o ∧ o.dst = some t
            · obtain ⟨k, o, hk, ho⟩ := hex
              rw [putAll_at _ a 0 k _ o t once_take hk ho (by rw [← h2]; exact ht1)]
              have hkn : k < n := by
                rcases Nat.lt_or_ge k n with h | h
                · exact h
                · rw [List.getElem?_eq_none (by rw [List.length_take]; omega)] at hk; cases hk
              have hk' : ops[k]? = some o := by rw [List.getElem?_take_of_lt hkn] at hk; simpa using hk
              simp only [Nat.zero_add, dstAt, hk', Option.bind_some, ho]
              rfl
            · rw [putAll_other _ a 0 _ t (fun (o : Oper) ho hd => by
                obtain ⟨k, hk, hk2⟩ := List.mem_iff_getElem.1 ho
                exact hex ⟨k, o, by rw [List.getElem?_eq_getElem hk, hk2], hd⟩)]
              refine h3 t fun j o hj hd => ?_
              cases hb : listed.getD j false with
              | false => rfl
              | true =>
                exfalso
                rcases Nat.lt_or_ge j n with h | h
                · exact hex ⟨j, o, by rw [List.getElem?_take_of_lt h]; simpa using hj, hd⟩
                · have hj' : j < ops.size := (Array.getElem?_eq_some_iff.1 hj).1
                  have := inv.tail j h hj'
                  rw [getD_both this] at hb
                  cases hb
        cases a' with
        | mk tm df =>
          have hdf := putAll_defers (ops.toList.take n) a 0 (fun j => match dstAt ops j with | some d => Act.eval { tmps := tm, defers := df } (.tmp d) | none => undef)
          generalize putAll a 0 (ops.toList.take n) (fun j => match dstAt ops j with | some d => Act.eval { tmps := tm, defers := df } (.tmp d) | none => undef) = b at *
          cases b with
          | mk tb db =>
            simp only at ht h1 hdf
            subst ht
            rw [h1, ← hdf]
      rw [Nat.zero_add]
      have hlen : (ops.toList.drop n).length = ops.size - n := by simp
      rw [← hlen]
      have hfin := fin (fun j => match dstAt ops j with | some d => a'.eval (.tmp d) | none => undef) w' ⟨a', Jext _ _ _ _ (fun j => by
          rcases Nat.lt_or_ge j n with h | h
          · rw [hall j h]; simp [h]
          · rcases Nat.lt_or_ge j ops.size with h' | h'
            · rw [getD_both (inv.tail j h h')]; simp; omega
            · have : listed.getD j false = false := by
                rw [Array.getD_eq_getD_getElem?, Array.getElem?_eq_none (by rw [inv.size]; exact h')]; rfl
              rw [this]; simp; omega) h5, fun j d hd => by simp only [hd]⟩ (fun j hj d hd => by simp only [hd]; exact h4 j d hd (hall j hj))
      rw [← e] at hfin
      refine wpAny_of_seq (ops.toList.drop n) n listed a' w' (fun j => by simp) (by rw [hlen, hl]; exact hseq) hfin
    | succ d ih =>
      intro listed a' w' hd inv h1 h2 h3 h4 h5
      rw [show d + 1 + (ops.size - n) = (d + (ops.size - n)) + 1 by omega]
      obtain ⟨i0, hi0, hu0, hbefore⟩ := undone_pos listed n (by omega)
      have hi0s : i0 < ops.size := by omega
      obtain ⟨o0, ho0⟩ : ∃ o, ops[i0]? = some o := ⟨_, Array.getElem?_eq_getElem hi0s⟩
      have hu0' : listed.getD i0 true = false := getD_in (by rw [inv.size]; exact hi0s) hu0
      have hr0 : i0 ∈ Region.ready .any ops listed := mem_ready.2 ⟨hu0', o0, ho0, fun e he hb => hbefore _ (back i0 o0 hi0 ho0 e he hb)⟩
      refine ⟨fun h => (by rw [h] at hr0; cases hr0), fun i hi => ?_⟩
      have hin : i < n := by
        rcases Nat.lt_or_ge i n with h | h
        · exact h
        · rcases htail with h' | ⟨hs, hc⟩
          · obtain ⟨_, o, ho, _⟩ := mem_ready.1 hi
            have := (Array.getElem?_eq_some_iff.1 ho).1
            omega
          · by_cases hnn : n = ops.size
            · obtain ⟨_, o, ho, _⟩ := mem_ready.1 hi
              have := (Array.getElem?_eq_some_iff.1 ho).1
              omega
            · exact absurd hi (tail_waits hs hc (by omega) inv _ i0 rfl hi0 hu0' i h)
      obtain ⟨hun, o, ho, hall⟩ := mem_ready.1 hi
      have his : i < listed.size := by rw [inv.size]; omega
      have hunf := getD_both hun
      have hst : StepOKA P ops ((ops.toList.take n).filterMap (·.dst)) F J a (0 + i) o := StepsOKA.at_ steps (by rw [List.getElem?_take_of_lt hin]; simpa using ho)
      rw [Nat.zero_add] at hst
      have hk : Known ops ((ops.toList.take n).filterMap (·.dst)) F a (fun j => listed.getD j false) a' w' := ⟨h4, fun t ht => h3 t fun j o' hj hd => by
        rcases Nat.lt_or_ge j n with hjn | hjn
        · exfalso
          have : t ∈ (ops.toList.take n).filterMap (·.dst) := List.mem_filterMap.2 ⟨o', List.mem_of_getElem? (i := j) (by rw [List.getElem?_take_of_lt hjn]; simpa using hj), hd⟩
          have h' := List.contains_iff_mem.2 this
          rw [ht] at h'; cases h'
        · exact getD_both (inv.tail j hjn (Array.getElem?_eq_some_iff.1 hj).1)⟩
      have hs1 := hst _ a' w' h5 hunf hall hk
      have next : ∀ v w'', J (setDone (fun j => listed.getD j false) i) (a'.put o.dst v) w'' → factAt F i v w'' → (∀ j, listed.getD j false = true → ∀ u, factAt F j u w' → factAt F j u w'') →
          wpAny P .any ops Q (d + (ops.size - n)) (listed.setIfInBounds i true) (a'.put o.dst v) w'' := by
        intro v w'' hJ hF hkeep
        have hset : (listed.setIfInBounds i true).getD i false = true := by simp [his]
        refine ih _ _ _ (by have := undone_set listed i his hunf n hin; omega) (inv.set hi hin) (by rw [put_defers', h1]) (by rw [put_size, h2]) ?_ ?_ ?_
        · intro t ht
          by_cases hod : o.dst = some t
          · have := ht i o ho hod
            rw [hset] at this; cases this
          · rw [put_get_ne _ _ _ _ hod]
            refine h3 t fun j o' hj hd => ?_
            have h' := ht j o' hj hd
            by_cases hji : i = j
            · subst hji; rw [hset] at h'; cases h'
            · rwa [getD_set_ne false hji] at h'
        · intro j dj hdj hdone
          by_cases hji : i = j
          · subst hji
            have hod : o.dst = some dj := by simpa [dstAt, ho] using hdj
            have hlt : dj < a'.tmps.size := by
              rw [h2]
              exact hsz dj (List.mem_filterMap.2 ⟨o, Array.mem_toList_iff.2 (Array.mem_of_getElem? ho), hod⟩)
            have : (a'.put o.dst v).eval (.tmp dj) = v := by rw [hod]; exact put_get _ _ _ hlt
            rw [this]; exact hF
          · rw [getD_set_ne false hji] at hdone
            have hne : o.dst ≠ some dj := by
              intro hod
              obtain ⟨oj, hoj⟩ : ∃ oj, ops[j]? = some oj := by
                cases h' : ops[j]? with
                | none => simp [dstAt, h'] at hdj
                | some oj => exact ⟨oj, rfl⟩
              have hojd : oj.dst = some dj := by simpa [dstAt, hoj] using hdj
              have two : ∀ (l : List Oper) (x y : Nat) (ox oy : Oper) (t : Tmp), once l = true → x < y → l[x]? = some ox → l[y]? = some oy → ox.dst = some t → oy.dst = some t → False := by
                intro l
                induction l with
                | nil => intro x y ox oy t _ _ hx; simp at hx
                | cons o' l ih' =>
                  intro x y ox oy t h1 hxy hx hy hdx hdy
                  simp only [once, Bool.and_eq_true] at h1
                  cases y with
                  | zero => omega
                  | succ y =>
                    cases x with
                    | zero =>
                      simp at hx
                      subst hx
                      rw [hdx] at h1
                      simp only [List.all_eq_true] at h1
                      have hmem : oy ∈ l := List.mem_of_getElem? (by simpa using hy)
                      have := h1.1 oy hmem
                      simp [hdy] at this
                    | succ x => exact ih' x y ox oy t h1.2 (by omega) (by simpa using hx) (by simpa using hy) hdx hdy
              rcases Nat.lt_or_gt_of_ne hji with hlt | hlt
              · exact two _ i j o oj dj honce hlt (by simpa using ho) (by simpa using hoj) hod hojd
              · exact two _ j i oj o dj honce hlt (by simpa using hoj) (by simpa using ho) hojd hod
            have : (a'.put o.dst v).eval (.tmp dj) = a'.eval (.tmp dj) := put_get_ne _ _ _ _ hne
            rw [this]
            exact hkeep j hdone _ (h4 j dj hdj hdone)
        · refine Jext _ _ _ _ (fun j => ?_) hJ
          unfold setDone
          by_cases hji : j = i
          · subst hji; rw [hset]; simp
          · rw [getD_set_ne false (Ne.symm hji)]; simp [hji]
      unfold wpOp
      rw [ho]
      by_cases hw : Region.wanted o (yielded ops a'.tmps) = true
      · simp only [hw, if_true]
        rw [if_pos hw] at hs1
        refine .inl (hs1.wp ?_)
        intro v w'' hg
        exact next v w'' hg.2.1 hg.2.2 hg.1
      · simp only [hw]
        rw [if_neg hw] at hs1
        exact next undef w' hs1.1 hs1.2 fun j _ u hu => hu
  have hsz0 : (Array.replicate ops.size false).size = ops.size := by simp
  have hrep := getD_replicate_false ops.size
  have hund : ∀ k, k ≤ ops.size → undone (Array.replicate ops.size false) k = k := by
    intro k
    induction k with
    | zero => intro _; rfl
    | succ k ih => intro hk; rw [undone, ih (by omega), hrep]; simp
  have hfin := main n (Array.replicate ops.size false) a w.drew (hund n hn)
    ⟨hsz0, (fun j oj _ hl => by rw [hrep] at hl; cases hl), (fun t _ ht => by simp [ht])⟩ rfl rfl (fun t _ => rfl)
    (fun j d _ hl => by rw [hrep] at hl; cases hl) (Jext _ _ _ _ (fun j => (hrep j).symm) hJ0)
  rw [show n + (ops.size - n) = ops.size by omega] at hfin
  exact hfin


def JT (w0 : World) (N i1 i2 t1 t2 : Nat) (done : Nat → Bool) (a : Act) (w : World) : Prop :=
  Ext w0 w ∧ a.tmps.size = N ∧ (done i1 = true → done i2 = true → a.eval (.tmp t1) ≠ a.eval (.tmp t2))
section
variable {P : Program} {ops : Array Oper} {H : List Tmp} {F : List (MP Ext)} {a0 : Act} {w0 : World} {i N i1 i2 t1 t2 : Nat} {o : Oper}
theorem JT.put {done : Nat → Bool} {a : Act} {w w' : World} (h : JT w0 N i1 i2 t1 t2 done a w) (e : Ext w w') (v : Value) (hi : (i != i1 && i != i2 && o.dst != some t1 && o.dst != some t2) = true) : JT w0 N i1 i2 t1 t2 (setDone done i) (a.put o.dst v) w' := by
  simp only [Bool.and_eq_true, bne_iff_ne, ne_eq] at hi
  obtain ⟨⟨⟨h1, h2⟩, h3⟩, h4⟩ := hi
  refine ⟨h.1.trans e, by rw [put_size]; exact h.2.1, fun d1 d2 => ?_⟩
  unfold setDone at d1 d2
  rw [if_neg (Ne.symm h1)] at d1
  rw [if_neg (Ne.symm h2)] at d2
  have k1 : (a.put o.dst v).eval (.tmp t1) = a.eval (.tmp t1) := put_get_ne _ _ _ _ h3
  have k2 : (a.put o.dst v).eval (.tmp t2) = a.eval (.tmp t2) := put_get_ne _ _ _ _ h4
  rw [k1, k2]
  exact h.2.2 d1 d2
end
end Go.Proofs.YtkndgpjamijbbaaGreat

/-
  A region that draws its order, taken in segments: it is cut at operations that all earlier ones flow to and all later ones wait for. Plain theorems. Appends to own rows of any kind inside a region that draws its order. Plain theorems.
-/
import Derived.Test.YtkndgpjamijbbaaLawPieces22Q5
import Derived.Test.YtkndgpjamijbbaaLawPieces22Q32
import Derived.Test.YtkndgpjamijbbaaLawPieces22Q22
namespace Go.Proofs.Ytkndgpjamijbbaa
set_option maxRecDepth 100000
open Go Go.RowKit
def segB (ops : Array Oper) (m n : Nat) : Bool :=
  decide (m ≤ n) && decide (n ≤ ops.size) &&
  ((ops.toList.take n).zipIdx.all fun (o, i) => o.after.all fun e => !Region.binds .any e || decide (e.on < i)) &&
  once ops.toList &&
  (decide (n = ops.size) ||
    (((List.range n).all fun i => decide (i < m) || (List.range (n + 1)).any fun j => decide (i < j) && Region.waitsFor .any ops j i) &&
     ((List.range ops.size).all fun t => decide (t ≤ n) || (List.range t).any fun j => decide (n ≤ j) && Region.waitsFor .any ops t j)))
theorem seg_tail {ops : Array Oper} {m n : Nat} {listed : Array Bool} (hs : ((List.range n).all fun i => decide (i < m) || (List.range (n + 1)).any fun j => decide (i < j) && Region.waitsFor .any ops j i) = true)
    (hc : ((List.range ops.size).all fun t => decide (t ≤ n) || (List.range t).any fun j => decide (n ≤ j) && Region.waitsFor .any ops t j) = true) (hn : n < ops.size) (inv : HeadInv .any ops n listed) :
    ∀ (d i : Nat), n - i = d → m ≤ i → i < n → listed.getD i true = false → ∀ t, n ≤ t → t ∉ Region.ready .any ops listed := by
  intro d
  induction d using Nat.strongRecOn with
  | _ d ih =>
    intro i hd him hi hun t ht hr
    obtain ⟨_, ot, hot, hall⟩ := mem_ready.1 hr
    have htlt : t < ops.size := (Array.getElem?_eq_some_iff.1 hot).1
    by_cases htn : t = n
    · subst htn
      have h1 := List.all_eq_true.1 hs i (List.mem_range.2 hi)
      simp only [Bool.or_eq_true, decide_eq_true_eq] at h1
      obtain ⟨j, hj, hj2⟩ := List.any_eq_true.1 (h1.resolve_left (by omega))
      simp only [Bool.and_eq_true, decide_eq_true_eq] at hj2
      obtain ⟨oj, hoj, e, he, hb, hon⟩ := Region.waitsFor_spec hj2.2
      have hjle : j ≤ t := by have := List.mem_range.1 hj; omega
      by_cases hjt : j = t
      · subst hjt
        have : oj = ot := Option.some.inj (hoj.symm.trans hot)
        subst this
        have h2 := hall e he hb
        rw [hon, getD_both hun] at h2
        cases h2
      · cases hl : listed.getD j false with
        | true =>
          have h2 := inv.closed j oj hoj hl e he hb
          rw [hon, getD_both hun] at h2
          cases h2
        | false =>
          have hjs : j < listed.size := by rw [inv.size]; omega
          exact ih (t - j) (by omega) j rfl (by omega) (by omega) (getD_in hjs hl) t (Nat.le_refl _) hr
    · have h1 := List.all_eq_true.1 hc t (List.mem_range.2 htlt)
      simp only [Bool.or_eq_true, decide_eq_true_eq] at h1
      obtain ⟨j, hj, hj2⟩ := List.any_eq_true.1 (h1.resolve_left (by omega))
      simp only [Bool.and_eq_true, decide_eq_true_eq] at hj2
      have hjt := List.mem_range.1 hj
      obtain ⟨o', ho', e, he, hb, hon⟩ := Region.waitsFor_spec hj2.2
      have : o' = ot := Option.some.inj (ho'.symm.trans hot)
      subst this
      have h2 := hall e he hb
      rw [hon, getD_both (inv.tail j hj2.1 (by omega))] at h2
      cases h2
theorem headListed_getD (s m j : Nat) (d : Bool) : (headListed s m).getD j d = if j < s then decide (j < m) else d := by
  unfold headListed
  by_cases h : j < s
  · rw [if_pos h, Array.getD_eq_getD_getElem?]
    simp [h]
  · rw [if_neg h, Array.getD_eq_getD_getElem?]
    simp [h]
theorem headListed_size (s m : Nat) : (headListed s m).size = s := by simp [headListed]
theorem undone_head (s m : Nat) : ∀ n, n ≤ s → undone (headListed s m) n = n - m
  | 0, _ => by rw [undone]; omega
  | n + 1, h => by
    have e : (headListed s m).getD n false = decide (n < m) := by rw [headListed_getD, if_pos (by omega)]
    rw [undone, undone_head s m n (by omega), e]
    by_cases hm : n < m
    · rw [decide_eq_true hm, if_pos rfl]; omega
    · rw [decide_eq_false hm, if_neg (by decide)]; omega
theorem once_drop_s : ∀ (l : List Oper) (k : Nat), once l = true → once (l.drop k) = true
  | l, 0, h => h
  | [], _ + 1, h => h
  | o :: l, k + 1, h => by
    simp only [once, Bool.and_eq_true] at h
    exact once_drop_s l k h.2
theorem once_take' : ∀ (l : List Oper) (k : Nat), once l = true → once (l.take k) = true
  | _, 0, _ => by simp [once]
  | [], _ + 1, h => h
  | o :: l, k + 1, h => by
    simp only [once, Bool.and_eq_true] at h
    simp only [List.take_succ_cons, once, Bool.and_eq_true]
    refine ⟨?_, once_take' l k h.2⟩
    cases hod : o.dst with
    | none => rfl
    | some d =>
      rw [hod] at h
      simp only [List.all_eq_true] at h ⊢
      exact fun o' ho' => h.1 o' (List.mem_of_mem_take ho')
theorem once_two_s : ∀ (l : List Oper) (x y : Nat) (ox oy : Oper) (t : Tmp), once l = true → x < y → l[x]? = some ox → l[y]? = some oy → ox.dst = some t → oy.dst = some t → False := by
  intro l
  induction l with
  | nil => intro x y ox oy t _ _ hx; simp at hx
  | cons o' l ih' =>
    intro x y ox oy t h1 hxy hx hy hdx hdy
    simp only [once, Bool.and_eq_true] at h1
    cases y with
    | zero => omega
    | succ y =>
      cases x with
      | zero =>
        simp at hx
        subst hx
        rw [hdx] at h1
        simp only [List.all_eq_true] at h1
        have hmem : oy ∈ l := List.mem_of_getElem? (by simpa using hy)
        have := h1.1 oy hmem
        simp [hdy] at this
      | succ x => exact ih' x y ox oy t h1.2 (by omega) (by simpa using hx) (by simpa using hy) hdx hdy
theorem seg_at {ops : Array Oper} {m n k : Nat} (h : m + k < n) : ((ops.toList.take n).drop m)[k]? = ops[m + k]? := by
  rw [List.getElem?_drop, List.getElem?_take_of_lt h]
  simp
theorem wpAny_seg {P : Program} {R : World → World → Prop} {ops : Array Oper} {m n : Nat} {a : Act} {w : World} {Q : Exit → Act → World → Prop}
    (hB : segB ops m n = true) (F : List (MP R)) (J : (Nat → Bool) → World → Prop) (hJ0 : J (fun j => decide (j < m)) w)
    (hsz : ∀ t ∈ dsts ops, t < a.tmps.size)
    (steps : StepsOK P ops (((ops.toList.take n).drop m).filterMap (·.dst)) F J a m ((ops.toList.take n).drop m))
    (hF0 : ∀ j d, dstAt ops j = some d → j < m → factAt F j (a.eval (.tmp d)) w)
    (fin : ∀ (vals : Nat → Value) (w' : World), J (fun j => decide (j < n)) w' → (∀ j, j < n → ∀ d, dstAt ops j = some d → factAt F j (vals j) w') → wpAny P .any ops Q (ops.size - n) (headListed ops.size n) (putAll a m ((ops.toList.take n).drop m) vals) w')
    (Jext : ∀ d d' w, (∀ j, d j = d' j) → J d w → J d' w := by intro d d' w h hj; have e : d = d' := funext h; rw [← e]; exact hj) :
    wpAny P .any ops Q (ops.size - m) (headListed ops.size m) a w := by
  simp only [segB, Bool.and_eq_true, Bool.or_eq_true, decide_eq_true_eq] at hB
  obtain ⟨⟨⟨⟨hmn, hn⟩, hback⟩, honce⟩, htail⟩ := hB
  have back : ∀ i o, i < n → ops[i]? = some o → ∀ e ∈ o.after, Region.binds .any e = true → e.on < i := by
    intro i o hi ho e he hb
    have h1 : (o, i) ∈ (ops.toList.take n).zipIdx := by
      rw [List.mem_zipIdx_iff_getElem?]
      rw [List.getElem?_take_of_lt hi]
      simpa using ho
    have h2 := (List.all_eq_true.1 hback) _ h1
    simp only [Array.all_eq_true'] at h2
    have h3 := h2 e he
    simpa [hb] using h3
  have main : ∀ (d : Nat) (listed : Array Bool) (a' : Act) (w' : World), undone listed n = d → HeadInv .any ops n listed → (∀ j, j < m → listed.getD j false = true) → a'.defers = a.defers → a'.tmps.size = a.tmps.size →
      (∀ t, (∀ j o, m ≤ j → ops[j]? = some o → o.dst = some t → listed.getD j false = false) → a'.tmps.getD t undef = a.tmps.getD t undef) →
      (∀ j d, dstAt ops j = some d → listed.getD j false = true → factAt F j (a'.eval (.tmp d)) w') → J (fun j => listed.getD j false) w' →
      wpAny P .any ops Q (d + (ops.size - n)) listed a' w' := by
    intro d
    induction d with
    | zero =>
      intro listed a' w' hd inv h0 h1 h2 h3 h4 h5
      have hall := undone_zero listed n hd
      have hl : listed = headListed ops.size n := by
        apply Array.ext
        · simp [headListed, inv.size]
        · intro i hi1 hi2
          have hi : i < ops.size := by rw [← inv.size]; exact hi1
          simp only [headListed, List.getElem_toArray, List.getElem_map, List.getElem_range]
          rcases Nat.lt_or_ge i n with h | h
          · have := hall i h
            rw [Array.getD_eq_getD_getElem?, Array.getElem?_eq_getElem hi1] at this
            simpa [h] using this
          · have := inv.tail i h hi
            rw [Array.getD_eq_getD_getElem?, Array.getElem?_eq_getElem hi1] at this
            simp at this
            rw [this]
            simp; omega
      have e : a' = putAll a m ((ops.toList.take n).drop m) (fun j => match dstAt ops j with | some d => a'.eval (.tmp d) | none => undef) := by
        have once_l : once ((ops.toList.take n).drop m) = true := once_drop_s _ _ (once_take' _ _ honce)
        have ht : a'.tmps = (putAll a m ((ops.toList.take n).drop m) (fun j => match dstAt ops j with | some d => a'.eval (.tmp d) | none => undef)).tmps := by
          apply Array.ext
          · rw [putAll_size, h2]
          · intro t ht1 ht2
            have g1 : a'.tmps[t] = a'.tmps.getD t undef := by simp [ht1]
            have g2 : ∀ (b : Act) (hb : t < b.tmps.size), b.tmps[t] = b.tmps.getD t undef := fun b hb => by simp [hb]
            rw [g1, g2 _ ht2]
            by_cases hex : ∃ (k : Nat) (o : Oper), ((ops.toList.take n).drop m)[k]? = some o ∧ o.dst = some t
            · obtain ⟨k, o, hk, ho⟩ := hex
              rw [putAll_at _ a m k _ o t once_l hk ho (by rw [← h2]; exact ht1)]
              have hkn : m + k < n := by
                rcases Nat.lt_or_ge (m + k) n with h | h
                · exact h
                · rw [List.getElem?_eq_none (by rw [List.length_drop, List.length_take]; omega)] at hk; cases hk
              have hk' : ops[m + k]? = some o := by rw [seg_at hkn] at hk; exact hk
              simp only [dstAt, hk', Option.bind_some, ho]
              rfl
            · rw [putAll_other _ a m _ t (fun (o : Oper) ho hd => by
                obtain ⟨k, hk, hk2⟩ := List.mem_iff_getElem.1 ho
                exact hex ⟨k, o, by rw [List.getElem?_eq_getElem hk, hk2], hd⟩)]
              refine h3 t fun j o hjm hj hd => ?_
              cases hb : listed.getD j false with
              | false => rfl
              | true =>
                exfalso
                rcases Nat.lt_or_ge j n with h | h
                · exact hex ⟨j - m, o, by rw [seg_at (by omega), show m + (j - m) = j by omega]; exact hj, hd⟩
                · have hj' : j < ops.size := (Array.getElem?_eq_some_iff.1 hj).1
                  have := inv.tail j h hj'
                  rw [getD_both this] at hb
                  cases hb
        cases a' with
        | mk tm df =>
          have hdf := putAll_defers ((ops.toList.take n).drop m) a m (fun j => match dstAt ops j with | some d => Act.eval { tmps := tm, defers := df } (.tmp d) | none => undef)
          generalize putAll a m ((ops.toList.take n).drop m) (fun j => match dstAt ops j with | some d => Act.eval { tmps := tm, defers := df } (.tmp d) | none => undef) = b at *
          cases b with
          | mk tb db =>
            simp only at ht h1 hdf
            subst ht
            rw [h1, ← hdf]
      rw [Nat.zero_add]
      have hfin := fin (fun j => match dstAt ops j with | some d => a'.eval (.tmp d) | none => undef) w' (Jext _ _ _ (fun j => by
          rcases Nat.lt_or_ge j n with h | h
          · rw [hall j h]; simp [h]
          · rcases Nat.lt_or_ge j ops.size with h' | h'
            · rw [getD_both (inv.tail j h h')]; simp; omega
            · have : listed.getD j false = false := by
                rw [Array.getD_eq_getD_getElem?, Array.getElem?_eq_none (by rw [inv.size]; exact h')]; rfl
              rw [this]; simp; omega) h5) (fun j hj d hd => by simp only [hd]; exact h4 j d hd (hall j hj))
      rw [← e] at hfin
      rw [hl]
      exact hfin
    | succ d ih =>
      intro listed a' w' hd inv h0 h1 h2 h3 h4 h5
      rw [show d + 1 + (ops.size - n) = (d + (ops.size - n)) + 1 by omega]
      obtain ⟨i0, hi0, hu0, hbefore⟩ := undone_pos listed n (by omega)
      have him0 : m ≤ i0 := by
        rcases Nat.lt_or_ge i0 m with h | h
        · rw [h0 i0 h] at hu0; cases hu0
        · exact h
      have hi0s : i0 < ops.size := by omega
      obtain ⟨o0, ho0⟩ : ∃ o, ops[i0]? = some o := ⟨_, Array.getElem?_eq_getElem hi0s⟩
      have hu0' : listed.getD i0 true = false := getD_in (by rw [inv.size]; exact hi0s) hu0
      have hr0 : i0 ∈ Region.ready .any ops listed := mem_ready.2 ⟨hu0', o0, ho0, fun e he hb => hbefore _ (back i0 o0 hi0 ho0 e he hb)⟩
      refine ⟨fun h => (by rw [h] at hr0; cases hr0), fun i hi => ?_⟩
      have hin : i < n := by
        rcases Nat.lt_or_ge i n with h | h
        · exact h
        · obtain ⟨_, o, ho, _⟩ := mem_ready.1 hi
          have := (Array.getElem?_eq_some_iff.1 ho).1
          rcases htail with h' | ⟨hs, hc⟩
          · omega
          · exact absurd hi (seg_tail hs hc (by omega) inv _ i0 rfl him0 hi0 hu0' i h)
      obtain ⟨hun, o, ho, hall⟩ := mem_ready.1 hi
      have his : i < listed.size := by rw [inv.size]; omega
      have hunf := getD_both hun
      have him : m ≤ i := by
        rcases Nat.lt_or_ge i m with h | h
        · rw [h0 i h] at hunf; cases hunf
        · exact h
      have hst : StepOK P ops (((ops.toList.take n).drop m).filterMap (·.dst)) F J a (m + (i - m)) o := StepsOK.at_ steps (by rw [seg_at (by omega), show m + (i - m) = i by omega]; exact ho)
      rw [show m + (i - m) = i by omega] at hst
      have hk : Known ops (((ops.toList.take n).drop m).filterMap (·.dst)) F a (fun j => listed.getD j false) a' w' := ⟨h4, fun t ht => h3 t fun j o' hjm hj hd => by
        rcases Nat.lt_or_ge j n with hjn | hjn
        · exfalso
          have : t ∈ ((ops.toList.take n).drop m).filterMap (·.dst) := List.mem_filterMap.2 ⟨o', List.mem_of_getElem? (i := j - m) (by rw [seg_at (by omega), show m + (j - m) = j by omega]; exact hj), hd⟩
          have h' := List.contains_iff_mem.2 this
          rw [ht] at h'; cases h'
        · exact getD_both (inv.tail j hjn (Array.getElem?_eq_some_iff.1 hj).1)⟩
      have hs1 := hst _ a' w' h5 hunf hall hk
      have next : ∀ v w'', J (setDone (fun j => listed.getD j false) i) w'' → factAt F i v w'' → (∀ j, listed.getD j false = true → ∀ u, factAt F j u w' → factAt F j u w'') →
          wpAny P .any ops Q (d + (ops.size - n)) (listed.setIfInBounds i true) (a'.put o.dst v) w'' := by
        intro v w'' hJ hF hkeep
        have hset : (listed.setIfInBounds i true).getD i false = true := by simp [his]
        refine ih _ _ _ (by have := undone_set listed i his hunf n hin; omega) (inv.set hi hin) (fun j hj => getD_set_true (h0 j hj)) (by rw [put_defers', h1]) (by rw [put_size, h2]) ?_ ?_ ?_
        · intro t ht
          by_cases hod : o.dst = some t
          · have := ht i o him ho hod
            rw [hset] at this; cases this
          · rw [put_get_ne _ _ _ _ hod]
            refine h3 t fun j o' hjm hj hd => ?_
            have h' := ht j o' hjm hj hd
            by_cases hji : i = j
            · subst hji; rw [hset] at h'; cases h'
            · rwa [getD_set_ne false hji] at h'
        · intro j dj hdj hdone
          by_cases hji : i = j
          · subst hji
            have hod : o.dst = some dj := by simpa [dstAt, ho] using hdj
            have hlt : dj < a'.tmps.size := by
              rw [h2]
              exact hsz dj (List.mem_filterMap.2 ⟨o, Array.mem_toList_iff.2 (Array.mem_of_getElem? ho), hod⟩)
            have : (a'.put o.dst v).eval (.tmp dj) = v := by rw [hod]; exact put_get _ _ _ hlt
            rw [this]; exact hF
          · rw [getD_set_ne false hji] at hdone
            have hne : o.dst ≠ some dj := by
              intro hod
              obtain ⟨oj, hoj⟩ : ∃ oj, ops[j]? = some oj := by
                cases h' : ops[j]? with
                | none => simp [dstAt, h'] at hdj
                | some oj => exact ⟨oj, rfl⟩
              have hojd : oj.dst = some dj := by simpa [dstAt, hoj] using hdj
              rcases Nat.lt_or_gt_of_ne hji with hlt | hlt
              · exact once_two_s _ i j o oj dj honce hlt (by simpa using ho) (by simpa using hoj) hod hojd
              · exact once_two_s _ j i oj o dj honce hlt (by simpa using hoj) (by simpa using ho) hojd hod
            have : (a'.put o.dst v).eval (.tmp dj) = a'.eval (.tmp dj) := put_get_ne _ _ _ _ hne
            rw [this]
            exact hkeep j hdone _ (h4 j dj hdj hdone)
        · refine Jext _ _ _ (fun j => ?_) hJ
          unfold setDone
          by_cases hji : j = i
          · subst hji; rw [hset]; simp
          · rw [getD_set_ne false (Ne.symm hji)]; simp [hji]
      unfold wpOp
      rw [ho]
      by_cases hw : Region.wanted o (yielded ops a'.tmps) = true
      · simp only [hw, if_true]
        rw [if_pos hw] at hs1
        refine .inl (hs1.wp ?_)
        intro v w'' hg
        exact next v w'' hg.2.1 hg.2.2 hg.1
      · simp only [hw]
        rw [if_neg hw] at hs1
        exact next undef w' hs1.1 hs1.2 fun j _ u hu => hu
  have hlt : ∀ {j}, (headListed ops.size m).getD j false = true → j < m := by
    intro j hj
    rw [headListed_getD] at hj
    by_cases h : j < ops.size
    · rw [if_pos h] at hj
      simpa using hj
    · rw [if_neg h] at hj
      cases hj
  have hfin := main (n - m) (headListed ops.size m) a w (undone_head _ _ n hn)
    ⟨headListed_size _ _, (fun j oj hj hl e he hb => by
      have h1 := hlt hl
      have h2 := back j oj (by omega) hj e he hb
      rw [headListed_getD, if_pos (by omega)]
      simpa using Nat.lt_trans h2 h1), (fun t ht1 ht2 => by rw [headListed_getD, if_pos ht2]; simp; omega)⟩ (fun j hj => by rw [headListed_getD, if_pos (by omega)]; simpa using hj) rfl rfl (fun t _ => rfl)
    (fun j d hd hl => hF0 j d hd (hlt hl)) (Jext _ _ _ (fun j => by
      rw [headListed_getD]
      by_cases h : j < ops.size
      · rw [if_pos h]
      · rw [if_neg h]; simp; omega) hJ0)
  rw [show n - m + (ops.size - n) = ops.size - m by omega] at hfin
  exact hfin
theorem seg_start {P : Program} {ops : Array Oper} {id : Nat} {a : Act} {w : World} {Q : Exit → Act → World → Prop} (hm : P.follows .mixedOrders = true)
    (h : wpAny P .any ops Q (ops.size - 0) (headListed ops.size 0) a w.drew) : (Code.region id ops true).wp P Q a w := by
  refine wp_region_any hm ?_
  have e : Array.replicate ops.size false = headListed ops.size 0 := by
    apply Array.ext
    · simp [headListed]
    · intro i h1 h2
      simp [headListed]
  rw [e]
  exact h
theorem seg_end {P : Program} {ops : Array Oper} {a : Act} {w : World} {Q : Exit → Act → World → Prop} {n : Nat} (hn : n = ops.size) (h : Q .normal a w) : wpAny P .any ops Q (ops.size - n) (headListed ops.size n) a w := by
  subst hn
  refine wpAny_done ?_ h _
  rw [List.eq_nil_iff_forall_not_mem]
  intro j hj
  obtain ⟨h1, o, ho, _⟩ := mem_ready.1 hj
  have hlt := (Array.getElem?_eq_some_iff.1 ho).1
  rw [headListed_getD, if_pos hlt] at h1
  simp at h1
  omega
theorem head_set {s n : Nat} (h : n < s) : (headListed s n).setIfInBounds n true = headListed s (n + 1) := by
  apply Array.ext
  · simp [headListed]
  · intro i h1 h2
    have hi : i < s := by simpa [headListed] using h2
    have g : ∀ (b : Array Bool) (hb : i < b.size), b[i] = b.getD i false := fun b hb => by simp [hb]
    rw [g _ h1, g _ h2, headListed_getD, if_pos hi]
    by_cases hin : n = i
    · subst hin
      simp [headListed_size, h]
    · rw [getD_set_ne false hin, headListed_getD, if_pos hi]
      congr 1
      apply propext
      omega
/-- the operation at which the region is cut -/
theorem seg_one {P : Program} {ops : Array Oper} {n : Nat} {a : Act} {w : World} {Q : Exit → Act → World → Prop} {o : Oper} {G : Value → World → Prop} (hB : segB ops n (n + 1) = true) (ho : ops[n]? = some o) (hg : Region.wanted o (yielded ops a.tmps) = true) (hr : Runs P o a.eval w G)
    (fin : ∀ v w', G v w' → wpAny P .any ops Q (ops.size - (n + 1)) (headListed ops.size (n + 1)) (a.put o.dst v) w') : wpAny P .any ops Q (ops.size - n) (headListed ops.size n) a w := by
  have hns : n < ops.size := (Array.getElem?_eq_some_iff.1 ho).1
  simp only [segB, Bool.and_eq_true, Bool.or_eq_true, decide_eq_true_eq] at hB
  obtain ⟨⟨⟨⟨_, _⟩, hback⟩, _⟩, htail⟩ := hB
  have back : ∀ e ∈ o.after, Region.binds .any e = true → e.on < n := by
    intro e he hb
    have h1 : (o, n) ∈ (ops.toList.take (n + 1)).zipIdx := by
      rw [List.mem_zipIdx_iff_getElem?]
      rw [List.getElem?_take_of_lt (Nat.lt_succ_self n)]
      simpa using ho
    have h2 := (List.all_eq_true.1 hback) _ h1
    simp only [Array.all_eq_true'] at h2
    have h3 := h2 e he
    simpa [hb] using h3
  have hn0 : (headListed ops.size n).getD n true = false := by rw [headListed_getD, if_pos hns]; simp
  have hrd : n ∈ Region.ready .any ops (headListed ops.size n) := mem_ready.2 ⟨hn0, o, ho, fun e he hb => by
    have := back e he hb
    rw [headListed_getD, if_pos (by omega)]
    simpa using this⟩
  rw [show ops.size - n = (ops.size - (n + 1)) + 1 by omega]
  refine ⟨fun h => (by rw [h] at hrd; cases hrd), fun i hi => ?_⟩
  obtain ⟨hun, oi, hoi, hall⟩ := mem_ready.1 hi
  have his : i < ops.size := (Array.getElem?_eq_some_iff.1 hoi).1
  rw [headListed_getD, if_pos his] at hun
  have hni : n ≤ i := by simpa using hun
  have hin : i = n := by
    rcases htail with h' | ⟨hs, hc⟩
    · omega
    · by_cases h : i = n
      · exact h
      · exfalso
        by_cases hs2 : n + 1 = ops.size
        · omega
        · refine absurd hi (seg_tail hs hc (by omega) ⟨headListed_size _ _, fun j oj hj hl e he hb => ?_, fun t h1 h2 => by rw [headListed_getD, if_pos h2]; simp; omega⟩ 1 n (by omega) (Nat.le_refl _) (by omega) hn0 i (by omega))
          have hjs := (Array.getElem?_eq_some_iff.1 hj).1
          rw [headListed_getD, if_pos hjs] at hl
          have hjn : j < n := by simpa using hl
          have h1 : (oj, j) ∈ (ops.toList.take (n + 1)).zipIdx := by
            rw [List.mem_zipIdx_iff_getElem?]
            rw [List.getElem?_take_of_lt (by omega)]
            simpa using hj
          have h2 := (List.all_eq_true.1 hback) _ h1
          simp only [Array.all_eq_true'] at h2
          have h3 := h2 e he
          have h4 : e.on < j := by simpa [hb] using h3
          rw [headListed_getD, if_pos (by omega)]
          simp
          omega
  subst hin
  unfold wpOp
  rw [ho]
  simp only [hg, if_true]
  refine .inl (hr.wp ?_)
  intro v w' h
  rw [head_set hns]
  exact fin v w' h
theorem seg_ext {ops : Array Oper} {m n : Nat} {a : Act} {w : World} {Q : Exit → Act → World → Prop}
    (hB : segB ops m n = true) (F : List (MP Ext))
    (hsz : (dsts ops).all (fun t => decide (t < a.tmps.size)) = true)
    (hF0 : ∀ j d, dstAt ops j = some d → j < m → factAt F j (a.eval (.tmp d)) w)
    (steps : StepsOK Try.prog ops (((ops.toList.take n).drop m).filterMap (·.dst)) F (fun _ w' => Ext w w') a m ((ops.toList.take n).drop m))
    (fin : ∀ (vals : Nat → Value) (w' : World), Ext w w' → (∀ j, j < n → ∀ d, dstAt ops j = some d → factAt F j (vals j) w') → wpAny Try.prog .any ops Q (ops.size - n) (headListed ops.size n) (putAll a m ((ops.toList.take n).drop m) vals) w') :
    wpAny Try.prog .any ops Q (ops.size - m) (headListed ops.size m) a w :=
  wpAny_seg (R := Ext) hB F (fun _ w' => Ext w w') (Ext.refl w) (fun t ht => by simpa using List.all_eq_true.1 hsz t ht) steps hF0 (fun vals w' h1 h2 => fin vals w' h1 h2) (fun _ _ _ _ h => h)
end Go.Proofs.Ytkndgpjamijbbaa
namespace Go.Proofs.Ytkndgpjamijbbaa
set_option maxRecDepth 100000
open Go Go.RowKit
/-- nothing was turned but, perhaps, what lies behind place n of an own row of a kind -/
def ApP (P : Value → Prop) (tE : TypeId) (sz b n : Nat) (w w' : World) : Prop := Ext w w' ∨ ∃ g cs cs', b ≤ g ∧ Blk w g tE cs ∧ (∀ u ∈ cs.toList, P u) ∧ Blk w' g tE cs' ∧ (∀ u ∈ cs'.toList, P u) ∧ cs'.size = cs.size ∧ cs'.toList.take (n * sz) = cs.toList.take (n * sz) ∧ w.grownBy w' (some g)
theorem ApP.ext_ {P : Value → Prop} {tE : TypeId} {sz b n : Nat} {a w w' : World} (h : ApP P tE sz b n w w') (e : Ext a w) (hb : a.heap.size ≤ b) : Ext a w' := by
  rcases h with h | ⟨g, cs, cs', h1, _, _, _, _, _, _, h2⟩
  · exact e.trans h
  · exact e.then_grown h2 (by intro k hk; cases hk; omega)
/-- an own row of byte slices -/
def OBP (w : World) (b : Nat) (A : Option Addr) (n c : Nat) (Ls : List (List UInt8)) : Prop := ∃ vs, OwP isSl1 22 1 w b A n c vs ∧ Ls.length = n ∧ ∀ j, j < n → ∃ B m d, vs[j]? = some (.slice B m d) ∧ RB w B m d (lb Ls j)
theorem OBP.ext {w w' : World} {b n c : Nat} {A : Option Addr} {Ls : List (List UInt8)} (h : OBP w b A n c Ls) (e : Ext w w') : OBP w' b A n c Ls := by
  obtain ⟨vs, h1, h2, h3⟩ := h
  refine ⟨vs, h1.ext e, h2, fun j hj => ?_⟩
  obtain ⟨B, m, d, h4, h5⟩ := h3 j hj
  exact ⟨B, m, d, h4, h5.ext e⟩
theorem OBP.base_ {w : World} {b b' n c : Nat} {A : Option Addr} {Ls : List (List UInt8)} (h : OBP w b A n c Ls) (hb : b' ≤ b) : OBP w b' A n c Ls := by
  obtain ⟨vs, ⟨h1, h2⟩, h3⟩ := h
  refine ⟨vs, ⟨h1, ?_⟩, h3⟩
  rcases h2 with h2 | ⟨g, cs, k1, k2, k3⟩
  · exact .inl h2
  · exact .inr ⟨g, cs, k1, Nat.le_trans hb k2, k3⟩
theorem OBP.lt {w : World} {b n c : Nat} {A : Option Addr} {Ls : List (List UInt8)} (h : OBP w b A n c Ls) {k : Nat} (hk : blk A = some k) : b ≤ k ∧ k < w.heap.size := by
  obtain ⟨vs, h1, _⟩ := h
  exact h1.lt hk
theorem OBP.rbb {w : World} {b n c : Nat} {A : Option Addr} {Ls : List (List UInt8)} (h : OBP w b A n c Ls) : RBB w A n c Ls := by
  obtain ⟨vs, h1, h2, h3⟩ := h
  refine ⟨h2, h1.room.1, h1.room.2, fun hn => ?_⟩
  obtain ⟨g, rfl, hc⟩ := h1.at_ hn (by decide)
  refine ⟨⟨g, 0, none⟩, rfl, fun j hj => ?_⟩
  obtain ⟨B, m, d, h4, h5⟩ := h3 j hj
  exact ⟨B, m, d, by rw [add_plain]; exact hc j _ h4, h5⟩
theorem OBP.nil_ (w : World) (b : Nat) : OBP w b none 0 0 [] := ⟨[], OwP.none_ _ _, rfl, fun j hj => absurd hj (Nat.not_lt_zero _)⟩
theorem OBP.lit0 (w : World) : OBP (w.alloc (.cells #[] 22)) w.heap.size (some ⟨w.heap.size, 0, none⟩) 0 0 [] :=
  ⟨[], ⟨by simp, .inr ⟨w.heap.size, #[], rfl, Nat.le_refl _, Blk.new _ _ _, Nat.le_refl _, Nat.zero_le _, by simp, fun u hu => by simp at hu, by simp⟩⟩, rfl, fun j hj => absurd hj (Nat.not_lt_zero _)⟩
section
variable {ops : Array Oper} {H : List Tmp} {F : List (MP Ext)} {a0 : Act} {w0 : World} {i : Nat} {K : List (Nat × Nat)} {o : Oper}
end
theorem OBP.lit1 {w : World} {B : Option Addr} {m d : Nat} {Y : List UInt8} (h : RB w B m d Y) : OBP (w.alloc (.cells #[.slice B m d] 22)) w.heap.size (some ⟨w.heap.size, 0, none⟩) 1 1 [Y] :=
  ⟨[.slice B m d], ⟨by simp, .inr ⟨w.heap.size, #[.slice B m d], rfl, Nat.le_refl _, Blk.new _ _ _, Nat.le_refl _, small_maxLen (by decide), by simp, fun u hu => by
    simp at hu
    exact ⟨B, m, d, hu⟩, by simp⟩⟩, rfl, fun j hj => by
    obtain rfl : j = 0 := by omega
    exact ⟨B, m, d, rfl, h.ext (Ext.new _ _)⟩⟩
end Go.Proofs.Ytkndgpjamijbbaa

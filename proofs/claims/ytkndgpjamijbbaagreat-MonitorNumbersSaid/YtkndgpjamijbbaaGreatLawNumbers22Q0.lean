/-
  A region that draws its order: each operation ahead of a forced tail is shown once, from the facts of the operations that it waits for; then whatever order is drawn, all facts hold together, and the tail follows. Plain theorems over any program.
-/
import Derived.StillTail
import Derived.WalkKit
namespace Go.Proofs.YtkndgpjamijbbaaGreat
set_option maxRecDepth 100000
open Go

/-- What one operation yields, run in slots ρ and world w: a value and a world that G takes. -/
def Runs (P : Program) (o : Oper) (ρ : Operand → Value) (w : World) (G : Value → World → Prop) : Prop :=
  match (execOp ρ o).run P w with
  | .ok (.value v) w' => G v w'
  | .ok .skip w' => G undef w'
  | .ok (.enter f args) w' => Calls P f args w' fun e w'' => ∃ v, e = .returned v ∧ G v w''
  | _ => False

theorem Runs.wp {P : Program} {o : Oper} {a : Act} {w : World} {G : Value → World → Prop} {K : Act → World → Prop} {Q : Exit → Act → World → Prop}
    (h : Runs P o a.eval w G) (hK : ∀ v w', G v w' → K (a.put o.dst v) w') : o.wp P a w K Q := by
  unfold Runs at h
  unfold Oper.wp
  generalize (execOp a.eval o).run P w = r at *
  cases r with
  | ok n w' =>
    cases n <;> simp only [Oper.upon] at h ⊢
    case value v => exact hK _ _ h
    case skip => exact hK _ _ h
    case enter f args =>
      refine h.mono ?_
      rintro e w'' ⟨v, rfl, hg⟩
      exact hK _ _ hg
  | halt x w' => cases h

theorem Runs.mono {P : Program} {o : Oper} {ρ : Operand → Value} {w : World} {G G' : Value → World → Prop} (h : Runs P o ρ w G) (hG : ∀ v w', G v w' → G' v w') : Runs P o ρ w G' := by
  unfold Runs at *
  generalize (execOp ρ o).run P w = r at *
  cases r with
  | ok n w' =>
    cases n <;> simp only at h ⊢
    case value v => exact hG _ _ h
    case skip => exact hG _ _ h
    case enter f args =>
      refine h.mono ?_
      rintro e w'' ⟨v, rfl, hg⟩
      exact ⟨v, rfl, hG _ _ hg⟩
    all_goals exact h
  | halt x w' => cases h

/-- A fact on a value that a step R of the world leaves standing. -/
structure MP (R : World → World → Prop) where
  p : Value → World → Prop
  keep : ∀ u w w', R w w' → p u w → p u w'

def dstAt (ops : Array Oper) (j : Nat) : Option Tmp := (ops[j]?).bind (·.dst)
def dsts (ops : Array Oper) : List Tmp := ops.toList.filterMap (·.dst)
def factAt {R : World → World → Prop} (F : List (MP R)) (j : Nat) (v : Value) (w : World) : Prop := match F[j]? with | some m => m.p v w | none => True

/-- What an operation may lean on: what it waits for has been done, with its facts; slots that the region doesn't write. -/
structure Known {R : World → World → Prop} (ops : Array Oper) (H : List Tmp) (F : List (MP R)) (a0 : Act) (done : Nat → Bool) (a : Act) (w : World) : Prop where
  fact : ∀ j d, dstAt ops j = some d → done j = true → factAt F j (a.eval (.tmp d)) w
  old : ∀ t, H.contains t = false → a.eval (.tmp t) = a0.eval (.tmp t)

theorem factAt_keep {R : World → World → Prop} {F : List (MP R)} {w w' : World} (h : R w w') (j : Nat) (u : Value) (hu : factAt F j u w) : factAt F j u w' := by
  unfold factAt at hu ⊢
  cases hj : F[j]? with
  | none => trivial
  | some m => rw [hj] at hu; exact m.keep u w w' h hu
def setDone (done : Nat → Bool) (i : Nat) : Nat → Bool := fun j => if j = i then true else done j

/-- The one thing to show of operation i. -/
def StepOK (P : Program) {R : World → World → Prop} (ops : Array Oper) (H : List Tmp) (F : List (MP R)) (J : (Nat → Bool) → World → Prop) (a0 : Act) (i : Nat) (o : Oper) : Prop :=
  ∀ (done : Nat → Bool) (a : Act) (w : World), J done w → done i = false → (∀ e ∈ o.after, Region.binds .any e = true → done e.on = true) → Known ops H F a0 done a w →
    if Region.wanted o (yielded ops a.tmps) = true then Runs P o a.eval w fun v w' => (∀ j, done j = true → ∀ u, factAt F j u w → factAt F j u w') ∧ J (setDone done i) w' ∧ factAt F i v w'
    else J (setDone done i) w ∧ factAt F i undef w

def StepsOK (P : Program) {R : World → World → Prop} (ops : Array Oper) (H : List Tmp) (F : List (MP R)) (J : (Nat → Bool) → World → Prop) (a0 : Act) : Nat → List Oper → Prop
  | _, [] => True
  | i, o :: l => StepOK P ops H F J a0 i o ∧ StepsOK P ops H F J a0 (i + 1) l

theorem StepsOK.at_ {P : Program} {R : World → World → Prop} {ops : Array Oper} {H : List Tmp} {F : List (MP R)} {J : (Nat → Bool) → World → Prop} {a0 : Act} {l : List Oper} :
    ∀ {k i : Nat} {o : Oper}, StepsOK P ops H F J a0 k l → l[i]? = some o → StepOK P ops H F J a0 (k + i) o := by
  induction l with
  | nil => intro k i o _ hi; simp at hi
  | cons o' l ih =>
    intro k i o h hi
    cases i with
    | zero =>
      simp only [List.getElem?_cons_zero, Option.some.injEq] at hi
      rw [← hi]
      exact h.1
    | succ i =>
      have := ih (i := i) h.2 (by simpa only [List.getElem?_cons_succ] using hi)
      rwa [Nat.add_assoc, Nat.add_comm 1 i] at this

def putAll (a : Act) : Nat → List Oper → (Nat → Value) → Act
  | _, [], _ => a
  | j, o :: l, vals => putAll (a.put o.dst (vals j)) (j + 1) l vals

theorem put_size (a : Act) (d : Option Tmp) (v : Value) : (a.put d v).tmps.size = a.tmps.size := by cases d <;> simp [Act.put]
theorem put_defers' (a : Act) (d : Option Tmp) (v : Value) : (a.put d v).defers = a.defers := by cases d <;> simp [Act.put]
theorem put_get_ne (a : Act) (d : Option Tmp) (v : Value) (t : Nat) (h : d ≠ some t) : (a.put d v).tmps.getD t undef = a.tmps.getD t undef := by
  cases d with
  | none => rfl
  | some d => simp [Act.put, Array.getElem?_setIfInBounds_ne (show d ≠ t from fun e => h (by rw [e]))]
theorem put_get (a : Act) (t : Nat) (v : Value) (h : t < a.tmps.size) : (a.put (some t) v).tmps.getD t undef = v := by simp [Act.put, h]

theorem putAll_size : ∀ (l : List Oper) (a : Act) (j : Nat) (vals : Nat → Value), (putAll a j l vals).tmps.size = a.tmps.size
  | [], _, _, _ => rfl
  | o :: l, a, j, vals => by rw [putAll, putAll_size l, put_size]
theorem putAll_defers : ∀ (l : List Oper) (a : Act) (j : Nat) (vals : Nat → Value), (putAll a j l vals).defers = a.defers
  | [], _, _, _ => rfl
  | o :: l, a, j, vals => by rw [putAll, putAll_defers l, put_defers']
theorem putAll_other : ∀ (l : List Oper) (a : Act) (j : Nat) (vals : Nat → Value) (t : Nat), (∀ o ∈ l, o.dst ≠ some t) → (putAll a j l vals).tmps.getD t undef = a.tmps.getD t undef
  | [], _, _, _, _, _ => rfl
  | o :: l, a, j, vals, t, h => by
    rw [putAll, putAll_other l _ _ _ t (fun o' ho' => h o' (List.mem_cons_of_mem _ ho')), put_get_ne _ _ _ _ (h o (List.mem_cons_self ..))]
/-- no slot is written twice -/
def once : List Oper → Bool
  | [] => true
  | o :: l => (match o.dst with | none => true | some d => l.all fun o' => o'.dst != some d) && once l
theorem putAll_at (l : List Oper) : ∀ (a : Act) (j k : Nat) (vals : Nat → Value) (o : Oper) (t : Nat), once l = true → l[k]? = some o → o.dst = some t → t < a.tmps.size → (putAll a j l vals).tmps.getD t undef = vals (j + k) := by
  induction l with
  | nil => intro a j k vals o t _ hk; simp at hk
  | cons o' l ih =>
    intro a j k vals o t h1 hk hd ht
    simp only [once, Bool.and_eq_true] at h1
    cases k with
    | zero =>
      simp only [List.getElem?_cons_zero, Option.some.injEq] at hk
      subst hk
      rw [hd] at h1
      simp only [List.all_eq_true] at h1
      rw [putAll, putAll_other l _ _ _ t (fun o'' ho'' => by simpa using h1.1 o'' ho''), hd, put_get _ _ _ ht]
      rfl
    | succ k =>
      rw [putAll, ih _ (j + 1) k vals o t h1.2 (by simpa only [List.getElem?_cons_succ] using hk) hd (by rw [put_size]; exact ht)]
      congr 1
      omega

def undone (listed : Array Bool) : Nat → Nat
  | 0 => 0
  | k + 1 => undone listed k + (if listed.getD k false then 0 else 1)
theorem undone_other (listed : Array Bool) (i : Nat) : ∀ k, k ≤ i → undone (listed.setIfInBounds i true) k = undone listed k
  | 0, _ => rfl
  | k + 1, h => by rw [undone, undone, undone_other listed i k (by omega), getD_set_ne false (by omega)]
theorem undone_set (listed : Array Bool) (i : Nat) (hi : i < listed.size) (hu : listed.getD i false = false) : ∀ k, i < k → undone (listed.setIfInBounds i true) k + 1 = undone listed k
  | 0, h => by omega
  | k + 1, h => by
    rw [undone, undone]
    by_cases hk : i = k
    · subst hk
      rw [undone_other listed i i (Nat.le_refl _), hu]
      have : (listed.setIfInBounds i true).getD i false = true := by simp [hi]
      rw [this]
      simp
    · have := undone_set listed i hi hu k (by omega)
      rw [getD_set_ne false hk]
      omega
theorem undone_zero (listed : Array Bool) : ∀ k, undone listed k = 0 → ∀ i, i < k → listed.getD i false = true
  | 0, _, i, h => by omega
  | k + 1, h, i, hi => by
    rw [undone] at h
    rcases Nat.lt_succ_iff_lt_or_eq.1 hi with h1 | h1
    · exact undone_zero listed k (by omega) i h1
    · subst h1
      cases hb : listed.getD i false with
      | true => rfl
      | false => rw [hb] at h; simp at h
theorem undone_pos (listed : Array Bool) : ∀ k, 0 < undone listed k → ∃ i, i < k ∧ listed.getD i false = false ∧ ∀ j, j < i → listed.getD j false = true
  | 0, h => by simp [undone] at h
  | k + 1, h => by
    by_cases h0 : 0 < undone listed k
    · obtain ⟨i, h1, h2⟩ := undone_pos listed k h0
      exact ⟨i, by omega, h2⟩
    · refine ⟨k, by omega, ?_, undone_zero listed k (by omega)⟩
      rw [undone] at h
      cases hb : listed.getD k false with
      | true => rw [hb] at h; simp at h; omega
      | false => rfl

/-- edges go back; the tail waits; no slot is written twice; the head's slots aren't the tail's -/
def headListed (m n : Nat) : Array Bool := ((List.range m).map fun i => decide (i < n)).toArray
def parB (ops : Array Oper) (n : Nat) : Bool :=
  decide (n ≤ ops.size) &&
  ((ops.toList.take n).zipIdx.all fun (o, i) => o.after.all fun e => !Region.binds .any e || decide (e.on < i)) &&
  once ops.toList &&
  (decide (n = ops.size) || (Region.sinkB .any ops n && Region.chainB .any ops n)) &&
  Region.seqB .any ops (ops.size - n) n (headListed ops.size n)

theorem par_region {P : Program} {R : World → World → Prop} {ops : Array Oper} {id n : Nat} {a : Act} {w : World} {Q : Exit → Act → World → Prop} (hm : P.follows .mixedOrders = true)
    (hB : parB ops n = true) (F : List (MP R)) (J : (Nat → Bool) → World → Prop) (hJ0 : J (fun _ => false) w.drew)
    (hsz : ∀ t ∈ dsts ops, t < a.tmps.size)
    (steps : StepsOK P ops ((ops.toList.take n).filterMap (·.dst)) F J a 0 (ops.toList.take n))
    (fin : ∀ (vals : Nat → Value) (w' : World), J (fun j => decide (j < n)) w' → (∀ j, j < n → ∀ d, dstAt ops j = some d → factAt F j (vals j) w') → wpList P ops Q (ops.toList.drop n) (putAll a 0 (ops.toList.take n) vals) w')
    (Jext : ∀ d d' w, (∀ j, d j = d' j) → J d w → J d' w := by intro d d' w h hj; have e : d = d' := funext h; rw [← e]; exact hj) :
    (Code.region id ops true).wp P Q a w := by
  simp only [parB, Bool.and_eq_true, Bool.or_eq_true, decide_eq_true_eq] at hB
  obtain ⟨⟨⟨⟨hn, hback⟩, honce⟩, htail⟩, hseq⟩ := hB
  refine wp_region_any hm ?_
  have back : ∀ i o, i < n → ops[i]? = some o → ∀ e ∈ o.after, Region.binds .any e = true → e.on < i := by
    intro i o hi ho e he hb
    have h1 : (o, i) ∈ (ops.toList.take n).zipIdx := by
      rw [List.mem_zipIdx_iff_getElem?]
      rw [List.getElem?_take_of_lt hi]
      simpa using ho
    have h2 := (List.all_eq_true.1 hback) _ h1
    simp only [Array.all_eq_true'] at h2
    have h3 := h2 e he
    simpa [hb] using h3
  have main : ∀ (d : Nat) (listed : Array Bool) (a' : Act) (w' : World), undone listed n = d → HeadInv .any ops n listed → a'.defers = a.defers → a'.tmps.size = a.tmps.size →
      (∀ t, (∀ j o, ops[j]? = some o → o.dst = some t → listed.getD j false = false) → a'.tmps.getD t undef = a.tmps.getD t undef) →
      (∀ j d, dstAt ops j = some d → listed.getD j false = true → factAt F j (a'.eval (.tmp d)) w') → J (fun j => listed.getD j false) w' →
      wpAny P .any ops Q (d + (ops.size - n)) listed a' w' := by
    intro d
    induction d with
    | zero =>
      intro listed a' w' hd inv h1 h2 h3 h4 h5
      have hall := undone_zero listed n hd
      have hl : listed = headListed ops.size n := by
        apply Array.ext
        · simp [headListed, inv.size]
        · intro i hi1 hi2
          have hi : i < ops.size := by rw [← inv.size]; exact hi1
          simp only [headListed, List.getElem_toArray, List.getElem_map, List.getElem_range]
          rcases Nat.lt_or_ge i n with h | h
          · have := hall i h
            rw [Array.getD_eq_getD_getElem?, Array.getElem?_eq_getElem hi1] at this
            simpa [h] using this
          · have := inv.tail i h hi
            rw [Array.getD_eq_getD_getElem?, Array.getElem?_eq_getElem hi1] at this
            simp at this
            rw [this]
            simp; omega
      have e : a' = putAll a 0 (ops.toList.take n) (fun j => match dstAt ops j with | some d => a'.eval (.tmp d) | none => undef) := by
        have once_take : once (ops.toList.take n) = true := by
          have : ∀ (l : List Oper) (k : Nat), once l = true → once (l.take k) = true := by
            intro l
            induction l with
            | nil => intro k _; simp [once]
            | cons o l ih =>
              intro k h
              cases k with
              | zero => rfl
              | succ k =>
                simp only [once, Bool.and_eq_true] at h
                simp only [List.take_succ_cons, once, Bool.and_eq_true]
                refine ⟨?_, ih k h.2⟩
                cases hod : o.dst with
                | none => rfl
                | some d =>
                  rw [hod] at h
                  simp only [List.all_eq_true] at h ⊢
                  exact fun o' ho' => h.1 o' (List.mem_of_mem_take ho')
          exact this _ _ honce
        have ht : a'.tmps = (putAll a 0 (ops.toList.take n) (fun j => match dstAt ops j with | some d => a'.eval (.tmp d) | none => undef)).tmps := by
          apply Array.ext
          · rw [putAll_size, h2]
          · intro t ht1 ht2
            have g1 : a'.tmps[t] = a'.tmps.getD t undef := by simp [ht1]
            have g2 : ∀ (b : Act) (hb : t < b.tmps.size), b.tmps[t] = b.tmps.getD t undef := fun b hb => by simp [hb]
            rw [g1, g2 _ ht2]
            by_cases hex : ∃ (k : Nat) (o : Oper), (ops.toList.take n)[k]? = some o ∧ o.dst = some t
            · obtain ⟨k, o, hk, ho⟩ := hex
              rw [putAll_at _ a 0 k _ o t once_take hk ho (by rw [← h2]; exact ht1)]
              have hkn : k < n := by
                rcases Nat.lt_or_ge k n with h | h
                · exact h
                · rw [List.getElem?_eq_none (by rw [List.length_take]; omega)] at hk; cases hk
              have hk' : ops[k]? = some o := by rw [List.getElem?_take_of_lt hkn] at hk; simpa using hk
              simp only [Nat.zero_add, dstAt, hk', Option.bind_some, ho]
              rfl
            · rw [putAll_other _ a 0 _ t (fun (o : Oper) ho hd => by
                obtain ⟨k, hk, hk2⟩ := List.mem_iff_getElem.1 ho
                exact hex ⟨k, o, by rw [List.getElem?_eq_getElem hk, hk2], hd⟩)]
              refine h3 t fun j o hj hd => ?_
              cases hb : listed.getD j false with
              | false => rfl
              | true =>
                exfalso
                rcases Nat.lt_or_ge j n with h | h
                · exact hex ⟨j, o, by rw [List.getElem?_take_of_lt h]; simpa using hj, hd⟩
                · have hj' : j < ops.size := (Array.getElem?_eq_some_iff.1 hj).1
                  have := inv.tail j h hj'
                  rw [getD_both this] at hb
                  cases hb
        cases a' with
        | mk tm df =>
          have hdf := putAll_defers (ops.toList.take n) a 0 (fun j => match dstAt ops j with | some d => Act.eval { tmps := tm, defers := df } (.tmp d) | none => undef)
          generalize putAll a 0 (ops.toList.take n) (fun j => match dstAt ops j with | some d => Act.eval { tmps := tm, defers := df } (.tmp d) | none => undef) = b at *
          cases b with
          | mk tb db =>
            simp only at ht h1 hdf
            subst ht
            rw [h1, ← hdf]
      rw [Nat.zero_add]
      have hlen : (ops.toList.drop n).length = ops.size - n := by simp
      rw [← hlen]
      have hfin := fin (fun j => match dstAt ops j with | some d => a'.eval (.tmp d) | none => undef) w' (Jext _ _ _ (fun j => by
          rcases Nat.lt_or_ge j n with h | h
          · rw [hall j h]; simp [h]
          · rcases Nat.lt_or_ge j ops.size with h' | h'
            · rw [getD_both (inv.tail j h h')]; simp; omega
            · have : listed.getD j false = false := by
                rw [Array.getD_eq_getD_getElem?, Array.getElem?_eq_none (by rw [inv.size]; exact h')]; rfl
              rw [this]; simp; omega) h5) (fun j hj d hd => by simp only [hd]; exact h4 j d hd (hall j hj))
      rw [← e] at hfin
      refine wpAny_of_seq (ops.toList.drop n) n listed a' w' (fun j => by simp) (by rw [hlen, hl]; exact hseq) hfin
    | succ d ih =>
      intro listed a' w' hd inv h1 h2 h3 h4 h5
      rw [show d + 1 + (ops.size - n) = (d + (ops.size - n)) + 1 by omega]
      obtain ⟨i0, hi0, hu0, hbefore⟩ := undone_pos listed n (by omega)
      have hi0s : i0 < ops.size := by omega
      obtain ⟨o0, ho0⟩ : ∃ o, ops[i0]? = some o := ⟨_, Array.getElem?_eq_getElem hi0s⟩
      have hu0' : listed.getD i0 true = false := getD_in (by rw [inv.size]; exact hi0s) hu0
      have hr0 : i0 ∈ Region.ready .any ops listed := mem_ready.2 ⟨hu0', o0, ho0, fun e he hb => hbefore _ (back i0 o0 hi0 ho0 e he hb)⟩
      refine ⟨fun h => (by rw [h] at hr0; cases hr0), fun i hi => ?_⟩
      have hin : i < n := by
        rcases Nat.lt_or_ge i n with h | h
        · exact h
        · rcases htail with h' | ⟨hs, hc⟩
          · obtain ⟨_, o, ho, _⟩ := mem_ready.1 hi
            have := (Array.getElem?_eq_some_iff.1 ho).1
            omega
          · by_cases hnn : n = ops.size
            · obtain ⟨_, o, ho, _⟩ := mem_ready.1 hi
              have := (Array.getElem?_eq_some_iff.1 ho).1
              omega
            · exact absurd hi (tail_waits hs hc (by omega) inv _ i0 rfl hi0 hu0' i h)
      obtain ⟨hun, o, ho, hall⟩ := mem_ready.1 hi
      have his : i < listed.size := by rw [inv.size]; omega
      have hunf := getD_both hun
      have hst : StepOK P ops ((ops.toList.take n).filterMap (·.dst)) F J a (0 + i) o := StepsOK.at_ steps (by rw [List.getElem?_take_of_lt hin]; simpa using ho)
      rw [Nat.zero_add] at hst
      have hk : Known ops ((ops.toList.take n).filterMap (·.dst)) F a (fun j => listed.getD j false) a' w' := ⟨h4, fun t ht => h3 t fun j o' hj hd => by
        rcases Nat.lt_or_ge j n with hjn | hjn
        · exfalso
          have : t ∈ (ops.toList.take n).filterMap (·.dst) := List.mem_filterMap.2 ⟨o', List.mem_of_getElem? (i := j) (by rw [List.getElem?_take_of_lt hjn]; simpa using hj), hd⟩
          have h' := List.contains_iff_mem.2 this
          rw [ht] at h'; cases h'
        · exact getD_both (inv.tail j hjn (Array.getElem?_eq_some_iff.1 hj).1)⟩
      have hs1 := hst _ a' w' h5 hunf hall hk
      have next : ∀ v w'', J (setDone (fun j => listed.getD j false) i) w'' → factAt F i v w'' → (∀ j, listed.getD j false = true → ∀ u, factAt F j u w' → factAt F j u w'') →
          wpAny P .any ops Q (d + (ops.size - n)) (listed.setIfInBounds i true) (a'.put o.dst v) w'' := by
        intro v w'' hJ hF hkeep
        have hset : (listed.setIfInBounds i true).getD i false = true := by simp [his]
        refine ih _ _ _ (by have := undone_set listed i his hunf n hin; omega) (inv.set hi hin) (by rw [put_defers', h1]) (by rw [put_size, h2]) ?_ ?_ ?_
        · intro t ht
          by_cases hod : o.dst = some t
          · have := ht i o ho hod
            rw [hset] at this; cases this
          · rw [put_get_ne _ _ _ _ hod]
            refine h3 t fun j o' hj hd => ?_
            have h' := ht j o' hj hd
            by_cases hji : i = j
            · subst hji; rw [hset] at h'; cases h'
            · rwa [getD_set_ne false hji] at h'
        · intro j dj hdj hdone
          by_cases hji : i = j
          · subst hji
            have hod : o.dst = some dj := by simpa [dstAt, ho] using hdj
            have hlt : dj < a'.tmps.size := by
              rw [h2]
              exact hsz dj (List.mem_filterMap.2 ⟨o, Array.mem_toList_iff.2 (Array.mem_of_getElem? ho), hod⟩)
            have : (a'.put o.dst v).eval (.tmp dj) = v := by rw [hod]; exact put_get _ _ _ hlt
            rw [this]; exact hF
          · rw [getD_set_ne false hji] at hdone
            have hne : o.dst ≠ some dj := by
              intro hod
              obtain ⟨oj, hoj⟩ : ∃ oj, ops[j]? = some oj := by
                cases h' : ops[j]? with
                | none => simp [dstAt, h'] at hdj
                | some oj => exact ⟨oj, rfl⟩
              have hojd : oj.dst = some dj := by simpa [dstAt, hoj] using hdj
              have two : ∀ (l : List Oper) (x y : Nat) (ox oy : Oper) (t : Tmp), once l = true → x < y → l[x]? = some ox → l[y]? = some oy → ox.dst = some t → oy.dst = some t → False := by
                intro l
                induction l with
                | nil => intro x y ox oy t _ _ hx; simp at hx
                | cons o' l ih' =>
                  intro x y ox oy t h1 hxy hx hy hdx hdy
                  simp only [once, Bool.and_eq_true] at h1
                  cases y with
                  | zero => omega
                  | succ y =>
                    cases x with
                    | zero =>
                      simp at hx
                      subst hx
                      rw [hdx] at h1
                      simp only [List.all_eq_true] at h1
                      have hmem : oy ∈ l := List.mem_of_getElem? (by simpa using hy)
                      have := h1.1 oy hmem
                      simp [hdy] at this
                    | succ x => exact ih' x y ox oy t h1.2 (by omega) (by simpa using hx) (by simpa using hy) hdx hdy
              rcases Nat.lt_or_gt_of_ne hji with hlt | hlt
              · exact two _ i j o oj dj honce hlt (by simpa using ho) (by simpa using hoj) hod hojd
              · exact two _ j i oj o dj honce hlt (by simpa using hoj) (by simpa using ho) hojd hod
            have : (a'.put o.dst v).eval (.tmp dj) = a'.eval (.tmp dj) := put_get_ne _ _ _ _ hne
            rw [this]
            exact hkeep j hdone _ (h4 j dj hdj hdone)
        · refine Jext _ _ _ (fun j => ?_) hJ
          unfold setDone
          by_cases hji : j = i
          · subst hji; rw [hset]; simp
          · rw [getD_set_ne false (Ne.symm hji)]; simp [hji]
      unfold wpOp
      rw [ho]
      by_cases hw : Region.wanted o (yielded ops a'.tmps) = true
      · simp only [hw, if_true]
        rw [if_pos hw] at hs1
        refine .inl (hs1.wp ?_)
        intro v w'' hg
        exact next v w'' hg.2.1 hg.2.2 hg.1
      · simp only [hw]
        rw [if_neg hw] at hs1
        exact next undef w' hs1.1 hs1.2 fun j _ u hu => hu
  have hsz0 : (Array.replicate ops.size false).size = ops.size := by simp
  have hrep := getD_replicate_false ops.size
  have hund : ∀ k, k ≤ ops.size → undone (Array.replicate ops.size false) k = k := by
    intro k
    induction k with
    | zero => intro _; rfl
    | succ k ih => intro hk; rw [undone, ih (by omega), hrep]; simp
  have hfin := main n (Array.replicate ops.size false) a w.drew (hund n hn)
    ⟨hsz0, (fun j oj _ hl => by rw [hrep] at hl; cases hl), (fun t _ ht => by simp [ht])⟩ rfl rfl (fun t _ => rfl)
    (fun j d _ hl => by rw [hrep] at hl; cases hl) (Jext _ _ _ (fun j => (hrep j).symm) hJ0)
  rw [show n + (ops.size - n) = ops.size by omega] at hfin
  exact hfin

/-- The same for a region in the order of its text. -/
theorem seq_region {P : Program} {R : World → World → Prop} {ops : Array Oper} {id n : Nat} {a : Act} {w : World} {Q : Exit → Act → World → Prop}
    (hB : (decide (n ≤ ops.size) && ((ops.toList.take n).zipIdx.all fun (o, i) => o.after.all fun e => !Region.binds .any e || decide (e.on < i)) && once ops.toList) = true)
    (F : List (MP R)) (J : (Nat → Bool) → World → Prop) (hJ0 : J (fun _ => false) w)
    (hsz : ∀ t ∈ dsts ops, t < a.tmps.size)
    (steps : StepsOK P ops ((ops.toList.take n).filterMap (·.dst)) F J a 0 (ops.toList.take n))
    (fin : ∀ (vals : Nat → Value) (w' : World), J (fun j => decide (j < n)) w' → (∀ j, j < n → ∀ d, dstAt ops j = some d → factAt F j (vals j) w') → wpList P ops Q (ops.toList.drop n) (putAll a 0 (ops.toList.take n) vals) w')
    (Jext : ∀ d d' w, (∀ j, d j = d' j) → J d w → J d' w := by intro d d' w h hj; have e : d = d' := funext h; rw [← e]; exact hj) :
    (Code.region id ops false).wp P Q a w := by
  simp only [Bool.and_eq_true, decide_eq_true_eq] at hB
  obtain ⟨⟨hn, hback⟩, honce⟩ := hB
  refine wp_region_list ?_
  have back : ∀ i o, i < n → ops[i]? = some o → ∀ e ∈ o.after, Region.binds .any e = true → e.on < i := by
    intro i o hi ho e he hb
    have h1 : (o, i) ∈ (ops.toList.take n).zipIdx := by
      rw [List.mem_zipIdx_iff_getElem?, List.getElem?_take_of_lt hi]
      simpa using ho
    have h2 := (List.all_eq_true.1 hback) _ h1
    simp only [Array.all_eq_true'] at h2
    simpa [hb] using h2 e he
  have two : ∀ (l : List Oper) (x y : Nat) (ox oy : Oper) (t : Tmp), once l = true → x < y → l[x]? = some ox → l[y]? = some oy → ox.dst = some t → oy.dst = some t → False := by
    intro l
    induction l with
    | nil => intro x y ox oy t _ _ hx; simp at hx
    | cons o' l ih' =>
      intro x y ox oy t h1 hxy hx hy hdx hdy
      simp only [once, Bool.and_eq_true] at h1
      cases y with
      | zero => omega
      | succ y =>
        cases x with
        | zero =>
          simp at hx
          subst hx
          rw [hdx] at h1
          simp only [List.all_eq_true] at h1
          have hmem : oy ∈ l := List.mem_of_getElem? (by simpa using hy)
          have := h1.1 oy hmem
          simp [hdy] at this
        | succ x => exact ih' x y ox oy t h1.2 (by omega) (by simpa using hx) (by simpa using hy) hdx hdy
  have main : ∀ (m k : Nat) (vals : Nat → Value) (w' : World), k + m = n → J (fun j => decide (j < k)) w' →
      (∀ j d, dstAt ops j = some d → j < k → factAt F j (vals j) w') →
      wpList P ops Q (ops.toList.drop k) (putAll a 0 (ops.toList.take k) vals) w' := by
    intro m
    induction m with
    | zero =>
      intro k vals w' hk hJ hF
      obtain rfl : k = n := by omega
      exact fin vals w' hJ (fun j hj d hd => hF j d hd hj)
    | succ m ih =>
      intro k vals w' hk hJ hF
      have hks : k < ops.size := by omega
      obtain ⟨o, ho⟩ : ∃ o, ops[k]? = some o := ⟨_, Array.getElem?_eq_getElem hks⟩
      have hdrop : ops.toList.drop k = o :: ops.toList.drop (k + 1) := by
        rw [List.drop_eq_getElem_cons (by simpa using hks)]
        congr 1
        rw [Array.getElem?_eq_getElem hks] at ho
        injection ho
      have once_take : ∀ i, once (ops.toList.take i) = true := by
        have : ∀ (l : List Oper) (k : Nat), once l = true → once (l.take k) = true := by
          intro l
          induction l with
          | nil => intro k _; simp [once]
          | cons o l ih =>
            intro k h
            cases k with
            | zero => rfl
            | succ k =>
              simp only [once, Bool.and_eq_true] at h
              simp only [List.take_succ_cons, once, Bool.and_eq_true]
              refine ⟨?_, ih k h.2⟩
              cases hod : o.dst with
              | none => rfl
              | some d =>
                rw [hod] at h
                simp only [List.all_eq_true] at h ⊢
                exact fun o' ho' => h.1 o' (List.mem_of_mem_take ho')
        exact fun i => this _ _ honce
      have hst : StepOK P ops ((ops.toList.take n).filterMap (·.dst)) F J a (0 + k) o := StepsOK.at_ steps (by rw [List.getElem?_take_of_lt (by omega)]; simpa using ho)
      rw [Nat.zero_add] at hst
      have known : Known ops ((ops.toList.take n).filterMap (·.dst)) F a (fun j => decide (j < k)) (putAll a 0 (ops.toList.take k) vals) w' := by
        refine ⟨fun j d hd hj => ?_, fun t ht => ?_⟩
        · have hjk : j < k := by simpa using hj
          obtain ⟨oj, hoj⟩ : ∃ oj, ops[j]? = some oj := by
            cases h' : ops[j]? with
            | none => simp [dstAt, h'] at hd
            | some oj => exact ⟨oj, rfl⟩
          have hojd : oj.dst = some d := by simpa [dstAt, hoj] using hd
          have hlt : d < a.tmps.size := hsz d (List.mem_filterMap.2 ⟨oj, Array.mem_toList_iff.2 (Array.mem_of_getElem? hoj), hojd⟩)
          have := putAll_at (ops.toList.take k) a 0 j vals oj d (once_take k) (by rw [List.getElem?_take_of_lt hjk]; simpa using hoj) hojd hlt
          rw [Nat.zero_add] at this
          have e : (putAll a 0 (ops.toList.take k) vals).eval (.tmp d) = vals j := this
          rw [e]
          exact hF j d hd hjk
        · refine putAll_other _ a 0 vals t (fun (o' : Oper) ho' hd => ?_)
          have : t ∈ (ops.toList.take n).filterMap (·.dst) := List.mem_filterMap.2 ⟨o', (List.take_sublist_take_left (by omega)).mem ho', hd⟩
          have h' := List.contains_iff_mem.2 this
          rw [ht] at h'; cases h'
      have hs1 := hst _ _ w' hJ (by simp) (fun e he hb => by simpa using back k o (by omega) ho e he hb) known
      have next : ∀ v w'', J (setDone (fun j => decide (j < k)) k) w'' → factAt F k v w'' → (∀ j, j < k → ∀ u, factAt F j u w' → factAt F j u w'') →
          wpList P ops Q (ops.toList.drop (k + 1)) ((putAll a 0 (ops.toList.take k) vals).put o.dst v) w'' := by
        intro v w'' hJ' hF' hkeep
        have e : (putAll a 0 (ops.toList.take k) vals).put o.dst v = putAll a 0 (ops.toList.take (k + 1)) (fun j => if j = k then v else vals j) := by
          have h1 : ∀ (l : List Oper) (b : Act) (j0 : Nat), putAll b j0 (l ++ [o]) (fun j => if j = j0 + l.length then v else vals j) = (putAll b j0 l vals).put o.dst v := by
            intro l
            induction l with
            | nil => intro b j0; simp [putAll]
            | cons o' l ih2 =>
              intro b j0
              simp only [List.cons_append, putAll, List.length_cons]
              rw [if_neg (by omega), ← ih2 _ (j0 + 1)]
              congr 1
              funext j
              rw [show j0 + 1 + l.length = j0 + (l.length + 1) by omega]
          have h2 : ops.toList.take (k + 1) = ops.toList.take k ++ [o] := by
            rw [List.take_succ_eq_append_getElem (by simpa using hks)]
            congr 2
            rw [Array.getElem?_eq_getElem hks] at ho
            injection ho
          rw [h2, ← h1 (ops.toList.take k) a 0]
          congr 1
          funext j
          rw [List.length_take, Array.length_toList, Nat.min_eq_left (by omega), Nat.zero_add]
        rw [e]
        refine ih (k + 1) _ w'' (by omega) (Jext _ _ _ (fun j => ?_) hJ') (fun j d hd hj => ?_)
        · unfold setDone
          by_cases hjk : j = k
          · subst hjk; simp
          · rw [if_neg hjk]; simp; omega
        · by_cases hjk : j = k
          · subst hjk; simpa using hF'
          · simp only [if_neg hjk]
            exact hkeep j (by omega) _ (hF j d hd (by omega))
      rw [hdrop]
      unfold wpList
      by_cases hw : Region.wanted o (yielded ops (putAll a 0 (ops.toList.take k) vals).tmps) = true
      · rw [if_pos hw]
        rw [if_pos hw] at hs1
        refine .inl (hs1.wp ?_)
        intro v w'' hg
        exact next v w'' hg.2.1 hg.2.2 (fun j hj => hg.1 j (by simpa using hj))
      · rw [if_neg hw]
        rw [if_neg hw] at hs1
        exact next undef w' hs1.1 hs1.2 fun j _ u hu => hu
  exact main n 0 (fun _ => undef) w (by omega) (Jext _ _ _ (fun j => by simp) hJ0) (fun j d _ hj => by omega)
end Go.Proofs.YtkndgpjamijbbaaGreat

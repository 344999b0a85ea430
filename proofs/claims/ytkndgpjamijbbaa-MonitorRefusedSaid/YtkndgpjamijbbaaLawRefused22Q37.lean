/-
  Appends to own rows of any kind inside a region that draws its order. Plain theorems. MonitorRefused, walked (under way).
-/
import Derived.Test.YtkndgpjamijbbaaLawRefused22Q31
import Derived.Test.YtkndgpjamijbbaaLawRefused22Q20
import Derived.Test.YtkndgpjamijbbaaLawRefused22Q35
import Derived.Test.YtkndgpjamijbbaaLawRefused22Q36
namespace Go.Proofs.Ytkndgpjamijbbaa
set_option maxRecDepth 100000
open Go Go.RowKit
/-- nothing was turned but, perhaps, what lies behind place n of an own row of a kind -/
def ApP (P : Value → Prop) (tE : TypeId) (sz b n : Nat) (w w' : World) : Prop := Ext w w' ∨ ∃ g cs cs', b ≤ g ∧ Blk w g tE cs ∧ (∀ u ∈ cs.toList, P u) ∧ Blk w' g tE cs' ∧ (∀ u ∈ cs'.toList, P u) ∧ cs'.size = cs.size ∧ cs'.toList.take (n * sz) = cs.toList.take (n * sz) ∧ w.grownBy w' (some g)
theorem ApP.ext_ {P : Value → Prop} {tE : TypeId} {sz b n : Nat} {a w w' : World} (h : ApP P tE sz b n w w') (e : Ext a w) (hb : a.heap.size ≤ b) : Ext a w' := by
  rcases h with h | ⟨g, cs, cs', h1, _, _, _, _, _, _, h2⟩
  · exact e.trans h
  · exact e.then_grown h2 (by intro k hk; cases hk; omega)
theorem OwP.apP {P : Value → Prop} {tE : TypeId} {sz b n' base n c : Nat} {w w' : World} {A : Option Addr} {xs : List Value} (h : OwP P tE sz w base A n c xs) (e : ApP P tE sz b n' w w') (hn : n ≤ n') : OwP P tE sz w' base A n c xs := by
  rcases e with e | ⟨g, cs, cs', k1, k2, k3, k4, k5, k6, k7, k8⟩
  · exact h.ext e
  · refine ⟨h.1, ?_⟩
    rcases h.2 with z | ⟨g0, cs0, rfl, b1, b2, b3, b4, b5, b6, b7⟩
    · exact .inl z
    · by_cases hg : g0 = g
      · subst hg
        unfold Blk at b2 k2
        rw [k2] at b2
        injection b2 with b2
        injection b2 with b2
        subst b2
        refine .inr ⟨g0, cs', rfl, b1, k4, b3, b4, k6.trans b5, k5, ?_⟩
        rw [← b7]
        have e1 := congrArg (List.take (n * sz)) k7
        have hm : n * sz ≤ n' * sz := Nat.mul_le_mul_right _ hn
        rw [List.take_take, List.take_take, Nat.min_eq_left hm] at e1
        exact e1
      · exact .inr ⟨g0, cs0, rfl, b1, b2.grown k8 (fun e => by injection e with e; exact hg e), b3, b4, b5, b6, b7⟩
theorem RB.apP {P : Value → Prop} {tE : TypeId} {sz b n' n c : Nat} {w w' : World} {A : Option Addr} {L : List UInt8} (h : RB w A n c L) (e : ApP P tE sz b n' w w') (hP : ∀ x, ¬ P (.int .u8 x)) : RB w' A n c L := by
  rcases e with e | ⟨g, cs, cs', k1, k2, k3, k4, k5, k6, k7, k8⟩
  · exact h.ext e
  · exact h.grown k8 (h.apart5 k2 (fun i x he => hP x (k3 _ (List.mem_of_getElem? (by rw [Array.getElem?_toList]; exact he)))))
/-- an append to an own row, and that nothing else was turned -/
theorem run_app_p2 {P : Value → Prop} {tS tE : TypeId} {sz by_ : Nat} {z : Value} (K : OwK P tS tE sz by_ z) (ty : TypeId) {w : World} {base n c : Nat} {A : Option Addr} {xs : List Value} (hown : OwP P tE sz w base A n c xs) {ad : Addr} {m d : Nat} {news : List Value} (hl : news.length = m * sz) (hnews : ∀ j u, news[j]? = some u → w.cell? (ad.add j) = some u) (h1 : ∀ u ∈ news, u.oneCell' = true) (hsh : ∀ u ∈ news, P u) (hnm : n + m ≤ 1000000) (hbase : base ≤ w.heap.size) (hm : 0 < m) :
    ∃ A' c' w', (Builtin.append_ #[tS, tS] ty #[.slice A n c, .slice (some ad) m d]).run Try.prog w = .ok (.slice A' (n + m) c') w' ∧ OwP P tE sz w' base A' (n + m) c' (xs ++ news) ∧ ApP P tE sz base n w w' ∧ (c < n + m → Ext w w') := by
  obtain ⟨i0, hi0, hz0, hz1, hz2⟩ := info_parts K.info
  have hzn : z.cells.size = sz := K.size
  have hl1 := hown.1
  have hlen : (xs ++ news).length = (n + m) * sz := by rw [List.length_append, hl1, hl, Nat.add_mul]
  have hby : (n + m) * by_ ≤ 64000000 := Nat.mul_le_mul hnm K.fit
  have grown : ∀ (old : Nat), old < n + m →
      OwP P tE sz (w.drew.alloc (.cells (xs.toArray ++ news.toArray ++ Builtin.zeroCells z.cells (grownCap w (n + m) old tE - (n + m))) tE)) base (some ⟨w.heap.size, 0, none⟩) (n + m) (grownCap w (n + m) old tE) (xs ++ news) ∧
      Ext w (w.drew.alloc (.cells (xs.toArray ++ news.toArray ++ Builtin.zeroCells z.cells (grownCap w (n + m) old tE - (n + m))) tE)) := by
    intro old ho
    have hge := grownCap_ge w (n + m) old tE
    have hcm : grownCap w (n + m) old tE ≤ maxLen := grownCap_le_maxLen w (n + m) old tE (small_maxLen hnm)
    generalize grownCap w (n + m) old tE = gc at *
    refine ⟨⟨hlen, .inr ⟨w.heap.size, _, rfl, hbase, heap_alloc_new w.drew _, hge, hcm, ?_, ?_, ?_⟩⟩, ((Ext.refl w).drew).alloc _⟩
    · simp only [Array.size_append, List.size_toArray, size_zeroCells, hzn, hl1, hl]
      rw [← Nat.add_mul, ← Nat.add_mul]
      congr 1
      omega
    · simp only [Array.toList_append]
      intro u hu
      rw [List.mem_append, List.mem_append] at hu
      rcases hu with (hu | hu) | hu
      · rcases hown.2 with ⟨_, h0, _⟩ | ⟨g, cs, _, _, _, _, _, _, k7, k8⟩
        · rw [List.eq_nil_of_length_eq_zero (show xs.length = 0 by rw [hl1, h0, Nat.zero_mul])] at hu
          cases hu
        · have hu2 : u ∈ xs := hu
          rw [← k8] at hu2
          exact k7 u (List.mem_of_mem_take hu2)
      · exact hsh u hu
      · exact zeros_P K.zero (by rw [hzn]; exact K.pos) _ u hu
    · simp only [Array.toList_append]
      rw [← hlen]
      exact List.take_left
  rcases hown.2 with ⟨rfl, rfl, rfl⟩ | ⟨g, cs, rfl, hbg, hg, hnc, hcm, hcs, hsc, htake⟩
  · have hx : xs = [] := List.eq_nil_of_length_eq_zero (by rw [hl1, Nat.zero_mul])
    subst hx
    have hr := run_append_nil (P := Try.prog) w tS ty tE i0 z K.under hi0 hz0 ad m d news (by rw [hl, hz1]) hnews hm (by omega) (by rw [hz2]; simp only [Nat.zero_add] at hby; omega)
    have hgr := grown 0 (by omega)
    simp only [Nat.zero_add, List.nil_append, Array.empty_append] at hgr ⊢
    exact ⟨_, _, _, hr, hgr.1, .inl hgr.2, fun _ => hgr.2⟩
  · by_cases hroom : n + m ≤ c
    · have hmul : n * sz + m * sz ≤ c * sz := by rw [← Nat.add_mul]; exact Nat.mul_le_mul_right _ hroom
      have hfit : n * i0.size + news.length ≤ cs.size := by rw [hl, hcs, hz1]; exact hmul
      have hr := run_append_room (P := Try.prog) w tS ty tE i0 K.under hi0 g n c cs hg ad m d news (by rw [hl, hz1]) hnews h1 hroom hfit
      rw [hz1] at hr hfit
      have hsz : (cs.toList.take (n * sz) ++ news ++ cs.toList.drop (n * sz + news.length)).toArray.size = cs.size := by
        simp only [List.size_toArray, List.length_append, List.length_take, List.length_drop, Array.length_toList]
        omega
      have hPs : ∀ u ∈ (cs.toList.take (n * sz) ++ news ++ cs.toList.drop (n * sz + news.length)).toArray.toList, P u := by
        intro u hu
        simp only [List.mem_append] at hu
        rcases hu with (hu | hu) | hu
        · exact hsc u (List.mem_of_mem_take hu)
        · exact hsh u hu
        · exact hsc u (List.mem_of_mem_drop hu)
      refine ⟨_, _, _, hr, ⟨hlen, .inr ⟨g, _, rfl, hbg, setRow_heap w g cs _ _ _ hg, hroom, hcm, hsz.trans hcs, hPs, ?_⟩⟩, .inr ⟨g, cs, _, hbg, hg, hsc, setRow_heap w g cs _ _ _ hg, hPs, hsz, ?_, ⟨rfl, rfl, rfl, by simp, fun k _ hk => setRow_other w g k _ (fun e => hk (by rw [e]))⟩⟩, fun h => absurd h (by omega)⟩
      · rw [htake, ← hlen]
        exact List.take_left
      · rw [List.append_assoc, List.take_append_of_le_length (by rw [List.length_take, Array.length_toList]; omega), List.take_take, Nat.min_self]
    · have holds : ∀ j u, xs[j]? = some u → w.cell? ((⟨g, 0, none⟩ : Addr).add j) = some u := by
        intro j u hu
        have hj : j < n * sz := by
          rcases Nat.lt_or_ge j (n * sz) with h1 | h1
          · exact h1
          · rw [List.getElem?_eq_none (by omega)] at hu; cases hu
        rw [← htake, List.getElem?_take_of_lt hj, Array.getElem?_toList] at hu
        rw [add_plain]
        exact hg.cell hu
      have hr := run_append_grow (P := Try.prog) w tS ty tE i0 z K.under hi0 hz0 ⟨g, 0, none⟩ n c xs (by rw [hl1, hz1]) holds ad m d news (by rw [hl, hz1]) hnews (by omega) (by omega) (growslice_fits (by omega) (by rw [hz2]; omega))
      have hgr := grown c (by omega)
      exact ⟨_, _, _, hr, hgr.1, .inl hgr.2, fun _ => hgr.2⟩
/-- an own row of byte slices -/
def OBP (w : World) (b : Nat) (A : Option Addr) (n c : Nat) (Ls : List (List UInt8)) : Prop := ∃ vs, OwP isSl1 22 1 w b A n c vs ∧ Ls.length = n ∧ ∀ j, j < n → ∃ B m d, vs[j]? = some (.slice B m d) ∧ RB w B m d (lb Ls j)
theorem isSl_nob : ∀ x, ¬ isSl1 (.int .u8 x) := by
  rintro x ⟨A, n, c, h⟩
  cases h
theorem OBP.ext {w w' : World} {b n c : Nat} {A : Option Addr} {Ls : List (List UInt8)} (h : OBP w b A n c Ls) (e : Ext w w') : OBP w' b A n c Ls := by
  obtain ⟨vs, h1, h2, h3⟩ := h
  refine ⟨vs, h1.ext e, h2, fun j hj => ?_⟩
  obtain ⟨B, m, d, h4, h5⟩ := h3 j hj
  exact ⟨B, m, d, h4, h5.ext e⟩
theorem OBP.base_ {w : World} {b b' n c : Nat} {A : Option Addr} {Ls : List (List UInt8)} (h : OBP w b A n c Ls) (hb : b' ≤ b) : OBP w b' A n c Ls := by
  obtain ⟨vs, ⟨h1, h2⟩, h3⟩ := h
  refine ⟨vs, ⟨h1, ?_⟩, h3⟩
  rcases h2 with h2 | ⟨g, cs, k1, k2, k3⟩
  · exact .inl h2
  · exact .inr ⟨g, cs, k1, Nat.le_trans hb k2, k3⟩
theorem OBP.lt {w : World} {b n c : Nat} {A : Option Addr} {Ls : List (List UInt8)} (h : OBP w b A n c Ls) {k : Nat} (hk : blk A = some k) : b ≤ k ∧ k < w.heap.size := by
  obtain ⟨vs, h1, _⟩ := h
  exact h1.lt hk
theorem OBP.rbb {w : World} {b n c : Nat} {A : Option Addr} {Ls : List (List UInt8)} (h : OBP w b A n c Ls) : RBB w A n c Ls := by
  obtain ⟨vs, h1, h2, h3⟩ := h
  refine ⟨h2, h1.room.1, h1.room.2, fun hn => ?_⟩
  obtain ⟨g, rfl, hc⟩ := h1.at_ hn (by decide)
  refine ⟨⟨g, 0, none⟩, rfl, fun j hj => ?_⟩
  obtain ⟨B, m, d, h4, h5⟩ := h3 j hj
  exact ⟨B, m, d, by rw [add_plain]; exact hc j _ h4, h5⟩
theorem OBP.nil_ (w : World) (b : Nat) : OBP w b none 0 0 [] := ⟨[], OwP.none_ _ _, rfl, fun j hj => absurd hj (Nat.not_lt_zero _)⟩
theorem OBP.lit0 (w : World) : OBP (w.alloc (.cells #[] 22)) w.heap.size (some ⟨w.heap.size, 0, none⟩) 0 0 [] :=
  ⟨[], ⟨by simp, .inr ⟨w.heap.size, #[], rfl, Nat.le_refl _, Blk.new _ _ _, Nat.le_refl _, Nat.zero_le _, by simp, fun u hu => by simp at hu, by simp⟩⟩, rfl, fun j hj => absurd hj (Nat.not_lt_zero _)⟩
theorem OBP.apP {w w' : World} {b b' n n' c : Nat} {A : Option Addr} {Ls : List (List UInt8)} (h : OBP w b A n c Ls) (e : ApP isSl1 22 1 b' n' w w') (hn : n ≤ n') : OBP w' b A n c Ls := by
  obtain ⟨vs, h1, h2, h3⟩ := h
  refine ⟨vs, h1.apP e hn, h2, fun j hj => ?_⟩
  obtain ⟨B, m, d, h4, h5⟩ := h3 j hj
  exact ⟨B, m, d, h4, h5.apP e isSl_nob⟩
/-- rows of byte slices, one behind the other -/
theorem run_app_bp (ty : TypeId) {w : World} {b n c k d : Nat} {A B : Option Addr} {Ls Ms : List (List UInt8)} (hown : OBP w b A n c Ls) (hx : RBB w B k d Ms) (hbase : b ≤ w.heap.size) (hnk : n + k ≤ 1000000) :
    ∃ A' c' w', (Builtin.append_ #[23, 23] ty #[.slice A n c, .slice B k d]).run Try.prog w = .ok (.slice A' (n + k) c') w' ∧ OBP w' b A' (n + k) c' (Ls ++ Ms) ∧ ApP isSl1 22 1 b n w w' ∧ (k = 0 ∨ c < n + k → Ext w w') := by
  have hm := hx.len
  rcases Nat.eq_zero_or_pos k with rfl | hk
  · obtain rfl : Ms = [] := List.eq_nil_of_length_eq_zero hm
    refine ⟨A, c, w, ?_, by simpa using hown, .inl (Ext.refl w), fun _ => Ext.refl w⟩
    obtain ⟨vs, own, _⟩ := hown
    obtain ⟨i0, hi0, hz0, hz1, hz2⟩ := info_parts info_bb'
    have hnc := own.room.1
    rcases A with _ | A <;> rcases B with _ | B <;> simp [Builtin.append_, run_underlying Try.underlying23, sizeOf, typeInfo, hi0, Builtin.lenOf, Builtin.firstCells, hnc, storeCells, loadCells, loadCellsFrom]
  · obtain ⟨ad, rfl, _⟩ := hx.cells hk
    obtain ⟨us, hul, hcells, hone, hus⟩ := hx.vals
    obtain ⟨vs, own, hl, h3⟩ := hown
    have hvl : vs.length = n := by have := own.1; omega
    obtain ⟨A', c', w', hrun, r1, r2, r3⟩ := run_app_p2 (d := d) kItems ty own (news := us) (by rw [hul, Nat.mul_one]) (fun j u hu => hcells ad rfl j u hu) hone (fun u hu => by
      obtain ⟨j, hj, e⟩ := List.getElem_of_mem hu
      obtain ⟨E, m, d', h4, _⟩ := hus j (by omega)
      rw [List.getElem?_eq_getElem hj, e] at h4
      injection h4 with h4
      exact ⟨E, m, d', h4⟩) hnk hbase hk
    refine ⟨A', c', w', hrun, ⟨vs ++ us, r1, by rw [List.length_append]; omega, fun j hj => ?_⟩, r2, fun h => r3 (by omega)⟩
    by_cases hjn : j < n
    · obtain ⟨E, m, d', h4, h5⟩ := h3 j hjn
      rw [lb_app_l (by omega)]
      exact ⟨E, m, d', by rw [List.getElem?_append_left (by omega)]; exact h4, h5.apP r2 isSl_nob⟩
    · obtain ⟨E, m, d', h4, h5⟩ := hus (j - n) (by omega)
      rw [lb_app_r (by omega), hl]
      exact ⟨E, m, d', by rw [List.getElem?_append_right (by omega), hvl]; exact h4, h5.apP r2 isSl_nob⟩
def MP.obp (b n : Nat) (Ls : List (List UInt8)) : MP Ext := ⟨fun u w => ∃ A c, u = .slice A n c ∧ OBP w b A n c Ls, fun _ _ _ e ⟨A, c, h1, h2⟩ => ⟨A, c, h1, h2.ext e⟩⟩
def ApROK (b n : Nat) (m : MP Ext) : Prop := ∀ (u : Value) (w w' : World), ApP isSl1 22 1 b n w w' → m.p u w → m.p u w'
theorem aprok_is (b n : Nat) (v : Value) : ApROK b n (MP.is v) := fun _ _ _ _ h => h
theorem aprok_obp {b b' n n' : Nat} (h : n' ≤ n) (Ls : List (List UInt8)) : ApROK b n (MP.obp b' n' Ls) := by
  rintro u w w' e ⟨A, c, h1, h2⟩
  exact ⟨A, c, h1, h2.apP e h⟩
def MP.obp0 (b : Nat) : MP Ext := ⟨fun u w => ∃ A, u = .slice A 0 0 ∧ OBP w b A 0 0 [], fun _ _ _ e ⟨A, h1, h2⟩ => ⟨A, h1, h2.ext e⟩⟩
theorem aprok_obp0 (b b' n : Nat) : ApROK b n (MP.obp0 b') := by
  rintro u w w' e ⟨A, h1, h2⟩
  exact ⟨A, h1, h2.apP e (Nat.zero_le _)⟩
section
variable {ops : Array Oper} {H : List Tmp} {F : List (MP Ext)} {a0 : Act} {w0 : World} {i : Nat} {K : List (Nat × Nat)} {o : Oper}
theorem stepRY {n j d : Nat} {b : Bool} (ho : o.guard = some (j, b)) (hj : dstAt ops j = some d) (hdep : (depsOf o).contains j = true) (hyes : ∀ v w, factAt F j v w → v = .bool b) (hi : apPairs K i o = true) (hst : ∀ j m, F[j]? = some m → j ≠ i → K.contains (j, i) = false → ApROK w0.heap.size n m)
    (h : ∀ (done : Nat → Bool) (a : Act) (w : World), Ext w0 w → (∀ j, (depsOf o).contains j = true → done j = true) → Known ops H F a0 done a w →
    Runs Try.prog o a.eval w fun v w' => ApP isSl1 22 1 w0.heap.size n w w' ∧ factAt F i v w') : StepOK Try.prog ops H F (JQ w0 K) a0 i o := by
  intro done a w hJ hnd hd hk
  have hd' := deps_done hd
  have hb := hyes _ _ (hk.fact j d hj (hd' j hdep))
  rw [if_pos (by simp [Region.wanted, ho, yielded_of hj hb])]
  refine (h done a w hJ.1 hd' hk).mono fun v w' hg => ⟨fun j hj u hu => ?_, hJ.set (hg.1.ext_ hJ.1 (Nat.le_refl _)) hi hd', hg.2⟩
  have hji : j ≠ i := fun e => by subst e; rw [hj] at hnd; cases hnd
  have hK : K.contains (j, i) = false := by
    cases hc : K.contains (j, i) with
    | false => rfl
    | true => have := hJ.2 j i hc hj; rw [hnd] at this; cases this
  unfold factAt at hu ⊢
  cases hm : F[j]? with
  | none => trivial
  | some mm => rw [hm] at hu; exact hst j mm hm hji hK u w w' hg.1 hu
end
theorem Runs.lit0r {o : Oper} {ρ : Operand → Value} {w : World} {G : Value → World → Prop} {ps : Array (Nat × Operand)} (ho : o.op = .buildSlice 23 0 ps) (hp : ps = #[])
    (h : ∀ w', Ext w w' → OBP w' w.heap.size (some ⟨w.heap.size, 0, none⟩) 0 0 [] → G (.slice (some ⟨w.heap.size, 0, none⟩) 0 0) w') : Runs Try.prog o ρ w G := by
  subst hp
  refine Runs.of_run (r := .slice (some ⟨w.heap.size, 0, none⟩) 0 0) ?_ (h _ (Ext.new w (.cells #[] 22)) (OBP.lit0 w))
  unfold execOp
  simp only [ho, List.map_toArray, List.map_nil]
  go_simp
theorem OBP.lit1 {w : World} {B : Option Addr} {m d : Nat} {Y : List UInt8} (h : RB w B m d Y) : OBP (w.alloc (.cells #[.slice B m d] 22)) w.heap.size (some ⟨w.heap.size, 0, none⟩) 1 1 [Y] :=
  ⟨[.slice B m d], ⟨by simp, .inr ⟨w.heap.size, #[.slice B m d], rfl, Nat.le_refl _, Blk.new _ _ _, Nat.le_refl _, small_maxLen (by decide), by simp, fun u hu => by
    simp at hu
    exact ⟨B, m, d, hu⟩, by simp⟩⟩, rfl, fun j hj => by
    obtain rfl : j = 0 := by omega
    exact ⟨B, m, d, rfl, h.ext (Ext.new _ _)⟩⟩
theorem run_sl1 (w : World) (B : Option Addr) (m d : Nat) : (Instr.buildSlice 23 1 #[(0, Value.slice B m d)]).run Try.prog w = .ok (.slice (some ⟨w.heap.size, 0, none⟩) 1 1) (w.alloc (.cells #[.slice B m d] 22)) := by
  go_simp
theorem Runs.lit1r {o : Oper} {ρ : Operand → Value} {w : World} {G : Value → World → Prop} {y : Operand} {B : Option Addr} {m d : Nat} {Y : List UInt8} (ho : o.op = .buildSlice 23 1 #[(0, y)]) (e : ρ y = .slice B m d) (hB : RB w B m d Y)
    (h : ∀ w', Ext w w' → OBP w' w.heap.size (some ⟨w.heap.size, 0, none⟩) 1 1 [Y] → G (.slice (some ⟨w.heap.size, 0, none⟩) 1 1) w') : Runs Try.prog o ρ w G := by
  refine Runs.of_run (r := .slice (some ⟨w.heap.size, 0, none⟩) 1 1) ?_ (h _ (Ext.new w (.cells #[.slice B m d] 22)) (OBP.lit1 hB))
  unfold execOp
  simp only [ho, e, List.map_toArray, List.map_cons, List.map_nil, Sem.run_bind, run_sl1, Result.andThen_ok, Sem.run_pure]
theorem Runs.appbp {o : Oper} {ρ : Operand → Value} {w : World} {G : Value → World → Prop} {s x : Operand} {b n c : Nat} {A B : Option Addr} {k d : Nat} {Ls Ms : List (List UInt8)} (ho : o.op = .call { callee := .builtin .append, args := #[s, x], argTypes := #[23, 23] })
    (hs : ρ s = .slice A n c) (hx : ρ x = .slice B k d) (hA : OBP w b A n c Ls) (hr : RBB w B k d Ms) (hbase : b ≤ w.heap.size) (hnm : n + k ≤ 1000000)
    (h : ∀ A' c' w', OBP w' b A' (n + k) c' (Ls ++ Ms) → ApP isSl1 22 1 b n w w' → (k = 0 ∨ c < n + k → Ext w w') → G (.slice A' (n + k) c') w') : Runs Try.prog o ρ w G := by
  obtain ⟨A', c', w', hrun, h1, h2, h3⟩ := run_app_bp o.type hA hr hbase hnm
  refine Runs.of_run (r := .slice A' (n + k) c') (w' := w') ?_ (h A' c' w' h1 h2 h3)
  unfold execOp
  simp only [ho, resolve, invoke, builtin, Sem.run_bind, Sem.run_pure, Result.andThen_ok, List.map_toArray, List.map_cons, List.map_nil, hs, hx, hrun]
/-- an append to an own row, in text order -/
theorem appbp_law {ops : Array Oper} {rest : List Oper} {o : Oper} {a : Act} {Q : Exit → Act → World → Prop} {w : World} (hgd : o.guard = none) {s x : Operand} (ho : o.op = .call { callee := .builtin .append, args := #[s, x], argTypes := #[23, 23] })
    {A B : Option Addr} {n c k d : Nat} (hs : a.eval s = .slice A n c) (hx : a.eval x = .slice B k d) {b : Nat} {Ls Ms : List (List UInt8)} (hown : OBP w b A n c Ls) (hr : RBB w B k d Ms) (hbase : b ≤ w.heap.size) (hnk : n + k ≤ 1000000)
    (h : ∀ A' c' w', OBP w' b A' (n + k) c' (Ls ++ Ms) → ApP isSl1 22 1 b n w w' → (k = 0 ∨ c < n + k → Ext w w') → wpList Try.prog ops Q rest (a.put o.dst (.slice A' (n + k) c')) w') : wpList Try.prog ops Q (o :: rest) a w := by
  obtain ⟨A', c', w', hrun, h1, h2, h3⟩ := run_app_bp o.type hown hr hbase hnk
  refine run_law hgd (v := .slice A' (n + k) c') (w' := w') ?_ (h A' c' w' h1 h2 h3)
  unfold execOp
  simp only [ho, resolve, invoke, builtin, Sem.run_bind, Sem.run_pure, Result.andThen_ok, List.map_toArray, List.map_cons, List.map_nil, hs, hx, hrun]
/-- an append to a new row without room -/
theorem appbp0_law {ops : Array Oper} {rest : List Oper} {o : Oper} {a : Act} {Q : Exit → Act → World → Prop} {w : World} (hgd : o.guard = none) {s x : Operand} (ho : o.op = .call { callee := .builtin .append, args := #[s, x], argTypes := #[23, 23] })
    {A B : Option Addr} {k d : Nat} (hs : a.eval s = .slice A 0 0) (hx : a.eval x = .slice B k d) {b : Nat} {Ms : List (List UInt8)} (hown : OBP w b A 0 0 []) (hr : RBB w B k d Ms) (hbase : b ≤ w.heap.size) (hnk : k ≤ 1000000)
    (h : ∀ A' c' w', OBP w' b A' k c' Ms → Ext w w' → wpList Try.prog ops Q rest (a.put o.dst (.slice A' k c')) w') : wpList Try.prog ops Q (o :: rest) a w := by
  refine appbp_law hgd ho hs hx hown hr hbase (by omega) fun A' c' w' o1 _ e1 => ?_
  rw [Nat.zero_add, List.nil_append] at o1
  rw [Nat.zero_add]
  refine h A' c' w' o1 ?_
  rcases Nat.eq_zero_or_pos k with hk | hk
  · subst hk
    exact e1 (by omega)
  · exact e1 (by omega)
/-- one element of an own row is stored -/
theorem OBP.set_ {w : World} {b n c g : Nat} {Ls : List (List UInt8)} (h : OBP w b (some ⟨g, 0, none⟩) n c Ls) {B : Option Addr} {m d : Nat} {Y : List UInt8} (hY : RB w B m d Y) (i : Nat) (hi : i < n) :
    OBP (w.setCell ⟨g, i, none⟩ (.slice B m d)) b (some ⟨g, 0, none⟩) n c (Ls.set i Y) ∧ ∃ cs, Blk w g 22 cs ∧ cs.size = c ∧ ∀ u ∈ cs.toList, isSl1 u := by
  obtain ⟨vs, ⟨h1, h2⟩, h3, h4⟩ := h
  rcases h2 with ⟨e, _⟩ | ⟨g', cs, e, k2, k3, k4, k5, k6, k7, k8⟩
  · cases e
  injection e with e
  injection e with e
  subst e
  have hvl : vs.length = n := by omega
  have hnb : ∀ (i : Nat) (x : Int), cs[i]? ≠ some (.int .u8 x) := fun i x he => isSl_nob x (k7 _ (List.mem_of_getElem? (by rw [Array.getElem?_toList]; exact he)))
  refine ⟨⟨vs.set i (.slice B m d), ⟨by rw [List.length_set]; exact h1, .inr ⟨g, _, rfl, k2, k3.set i _, k4, k5, by rw [Array.size_setIfInBounds]; exact k6, ?_, ?_⟩⟩, by rw [List.length_set]; exact h3, fun j hj => ?_⟩, cs, k3, by omega, k7⟩
  · intro u hu
    rw [Array.toList_setIfInBounds] at hu
    rcases List.mem_or_eq_of_mem_set hu with hu | rfl
    · exact k7 u hu
    · exact ⟨_, _, _, rfl⟩
  · rw [Array.toList_setIfInBounds, List.take_set, k8]
  · by_cases hji : j = i
    · subst hji
      refine ⟨B, m, d, by rw [List.getElem?_set_self (by omega)], ?_⟩
      have : lb (Ls.set j Y) j = Y := by unfold lb; rw [List.getD_eq_getElem?_getD, List.getElem?_set_self (by omega)]; rfl
      rw [this]
      exact hY.grown (grown_set _ _ _) (hY.apart5 k3 hnb)
    · obtain ⟨B', m', d', h5, h6⟩ := h4 j hj
      refine ⟨B', m', d', by rw [List.getElem?_set_ne (Ne.symm hji)]; exact h5, ?_⟩
      have : lb (Ls.set i Y) j = lb Ls j := by unfold lb; rw [List.getD_eq_getElem?_getD, List.getD_eq_getElem?_getD, List.getElem?_set_ne (Ne.symm hji)]
      rw [this]
      exact h6.grown (grown_set _ _ _) (h6.apart5 k3 hnb)
end Go.Proofs.Ytkndgpjamijbbaa
namespace Go.Proofs.Ytkndgpjamijbbaa
set_option maxRecDepth 100000
open Go Go.RowKit
theorem Sgd.ext {w w' : World} {b : Nat} {S R : List UInt8} {n k : Nat} {B P Q : Option Addr} {d d1 d2 : Nat} (h : Sgd w b S R n k B d P d1 Q d2) (e : Ext w w') : Sgd w' b S R n k B d P d1 Q d2 := ⟨h.1.ext e, h.2.1.ext e, h.2.2.ext e⟩
theorem Sgd.base_ {w : World} {b b' : Nat} {S R : List UInt8} {n k : Nat} {B P Q : Option Addr} {d d1 d2 : Nat} (h : Sgd w b S R n k B d P d1 Q d2) (hb : b' ≤ b) : Sgd w b' S R n k B d P d1 Q d2 := ⟨h.1, h.2.1.base_ hb, h.2.2.base_ hb⟩
/-- a signed checkpoint of a log's own, made in a region -/
def MP.sgd (b : Nat) (S R : List UInt8) (n k : Nat) : MP Ext := ⟨fun u w => ∃ B d P d1 Q d2, u = .agg #[.int .i64 (n : Int), .slice B 32 d, .int .i64 (k : Int), .slice P 64 d1, .slice Q 4 d2] ∧ Sgd w b S R n k B d P d1 Q d2,
  fun _ _ _ e ⟨B, d, P, d1, Q, d2, h1, h2⟩ => ⟨B, d, P, d1, Q, d2, h1, h2.ext e⟩⟩
theorem within_nat2 (x lo hi : Int) (h0 : 0 ≤ lo) (h1 : lo ≤ hi) : ∃ n : Nat, within x lo hi = (n : Int) ∧ lo ≤ (n : Int) ∧ (n : Int) ≤ hi := by
  have h := within_in x lo hi h1
  exact ⟨(within x lo hi).toNat, (Int.toNat_of_nonneg (by omega)).symm, by rw [Int.toNat_of_nonneg (by omega)]; exact h.1, by rw [Int.toNat_of_nonneg (by omega)]; exact h.2⟩
/-- what is fed is refused: another number of items, or another root -/
theorem feed_refused {s : MSt} {S : List UInt8} {a n which : Nat} {its : List (List UInt8)} (h : s.log = ownP S) (hi : s.its = its22 a which) (han : a < n) (hn : n ≤ 256) (hne : its.length ≠ n - a ∨ rootL ((its22 a which ++ its).map leafH) ≠ rootL ((its22 n which).map leafH)) :
    feedE s ((n : Nat) : Int) (rootL ((its22 n which).map leafH)) ((n % 16 : Nat) : Int) (sigP S (bodyC checkL ((n : Nat) : Int) (rootL ((its22 n which).map leafH))) (n % 16)) (pathL S (n % 16)) its = 31 ∧
    feedS s ((n : Nat) : Int) (rootL ((its22 n which).map leafH)) ((n % 16 : Nat) : Int) (sigP S (bodyC checkL ((n : Nat) : Int) (rootL ((its22 n which).map leafH))) (n % 16)) (pathL S (n % 16)) its = s := by
  have hc : cverB s.log ((n : Nat) : Int) (rootL ((its22 n which).map leafH)) ((n % 16 : Nat) : Int) (sigP S (bodyC checkL ((n : Nat) : Int) (rootL ((its22 n which).map leafH))) (n % 16)) (pathL S (n % 16)) = true := by
    rw [h]
    exact cverB_own S _ _ _ (Nat.mod_lt _ (by omega)) (rightC_nat hn (rootL_len (leaf_len _)))
  have hl : s.its.length = a := by rw [hi, its22_len]
  exact feed_31 hc (by omega) (by
    rcases hne with h | h
    · left
      omega
    · right
      rw [hi]
      exact h)
theorem RBB.snd2 {w : World} {A : Option Addr} {n c : Nat} {Ls : List (List UInt8)} (h : RBB w A n c Ls) {k : Nat} (hk : k < n) : RBB w (A.map (fun x => x.add k)) (n - k) (c - k) (Ls.drop k) := by
  have h1 := h.snd (k := k) (by omega)
  have hc := h.room
  rw [if_neg (by omega), Nat.mul_one] at h1
  exact h1
theorem Keep.imp {φ : Nat → Prop} {X Y : World → Prop} {w : World} (h : Keep φ X w) (hi : ∀ w', X w' → Y w') : Keep φ Y w := fun w' u => hi w' (h w' u)
/-- feeding what a log's own checkpoint goes with; the items' sizes matter only where their number fits -/
theorem feed_sgdw (w : World) (base g : Nat) (φ ρ : Nat → Prop) (s : MSt) (hM : MonD w base φ ρ g s) (b n k : Nat) (B P Q A : Option Addr) (d d1 d2 m c : Nat) (S R : List UInt8) (ITS : List (List UInt8)) (hS : Sgd w b S R n k B d P d1 Q d2) (hb : ∀ q, φ q → q < b) (kI : Keep φ (fun w => RBB w A m c ITS) w) (hits : ((ITS.length : Nat) : Int) = (n : Int) - (s.its.length : Nat) → ∀ a ∈ ITS, a.length ≤ 1000000) (hal : s.al.length ≤ 100000) :
    Calls Try.prog 37 #[.pointer (some ⟨g, 0, none⟩), .agg #[.int .i64 (n : Int), .slice B 32 d, .int .i64 (k : Int), .slice P 64 d1, .slice Q 4 d2], .slice A m c] w fun e w' => FeedD w base φ ρ g (feedS s n R k (sigP S (bodyC checkL (n : Int) R) k) (pathL S k) ITS) (feedE s n R k (sigP S (bodyC checkL (n : Int) R) k) (pathL S k) ITS) e w' := by
  obtain ⟨h1, h2, h3⟩ := hS
  have hs := hM.toR.nob
  exact feed_anyd w base g φ ρ s hM n k B P Q A 32 d 64 d1 4 d2 m c R _ _ ITS (h1.keepS hs)
    (h2.rbb.keepS hs (fun _ q hq hp => by have := (h2.lt hq).1; have := hb q hp; omega))
    (h3.rbb.keepS hs (fun _ q hq hp => by have := (h3.lt hq).1; have := hb q hp; omega)) kI hits hal
theorem feed_sgd_no (w : World) (base g : Nat) (φ : Nat → Prop) (s : MSt) (hM : MonR w base φ g s) (b n a q : Nat) (hq : q = n % 16) (B P Q A : Option Addr) (d d1 d2 m c : Nat) (S : List UInt8) (ITS : List (List UInt8)) (hS : Sgd w b S (rootL ((its22 n 0).map leafH)) n q B d P d1 Q d2) (hb : ∀ q, φ q → q < b) (kI : Keep φ (fun w => RBB w A m c ITS) w) (hlog : s.log = ownP S) (hi : s.its = its22 a 0) (han : a < n) (hn : n ≤ 256) (hits : m = n - a → ∀ x ∈ ITS, x.length ≤ 1000000) (hne : m ≠ n - a ∨ rootL ((its22 a 0 ++ ITS).map leafH) ≠ rootL ((its22 n 0).map leafH)) (hal : s.al.length ≤ 100000) :
    Calls Try.prog 37 #[.pointer (some ⟨g, 0, none⟩), .agg #[.int .i64 (n : Int), .slice B 32 d, .int .i64 (q : Int), .slice P 64 d1, .slice Q 4 d2], .slice A m c] w fun e w' => e = .returned (.int .i64 31) ∧ Ext w w' := by
  subst hq
  obtain ⟨ρ, hD⟩ := hM.toD
  have hl : ITS.length = m := kI.self.len
  have hsl : s.its.length = a := by rw [hi, its22_len]
  obtain ⟨h1, h2⟩ := feed_refused (S := S) (a := a) (n := n) (which := 0) (its := ITS) hlog hi han hn (by rw [hl]; exact hne)
  have h := feed_sgdw w base g φ ρ s hD b n (n % 16) B P Q A d d1 d2 m c S _ ITS hS hb kI (fun h => hits (by omega)) hal
  rw [h1, h2] at h
  exact h.mono fun e w' hp => ⟨hp.1, hp.2.1 (by decide) (by decide)⟩
theorem feed_sgd_fit (w : World) (base g : Nat) (φ : Nat → Prop) (s : MSt) (hM : MonR w base φ g s) (b n a q : Nat) (hq : q = n % 16) (B P Q A : Option Addr) (d d1 d2 m c : Nat) (S : List UInt8) (ITS : List (List UInt8)) (hS : Sgd w b S (rootL ((its22 n 0).map leafH)) n q B d P d1 Q d2) (hb : ∀ q, φ q → q < b) (kI : Keep φ (fun w => RBB w A m c ITS) w) (hlog : s.log = ownP S) (hi : s.its = its22 a 0) (han : a < n) (hn : n ≤ 256) (hits : ∀ x ∈ ITS, x.length ≤ 1000000) (hne : m = n - a ∧ rootL ((its22 a 0 ++ ITS).map leafH) = rootL ((its22 n 0).map leafH)) (hal : s.al.length ≤ 100000) :
    ∃ s', s'.log = ownP S ∧ s'.its = its22 a 0 ++ ITS ∧ s'.al = s.al ∧
    Calls Try.prog 37 #[.pointer (some ⟨g, 0, none⟩), .agg #[.int .i64 (n : Int), .slice B 32 d, .int .i64 (q : Int), .slice P 64 d1, .slice Q 4 d2], .slice A m c] w fun e w' => FeedP w base φ g s' 0 e w' := by
  subst hq
  obtain ⟨ρ, hD⟩ := hM.toD
  have hl : ITS.length = m := kI.self.len
  have hsl : s.its.length = a := by rw [hi, its22_len]
  have hc : cverB s.log ((n : Nat) : Int) (rootL ((its22 n 0).map leafH)) ((n % 16 : Nat) : Int) (sigP S (bodyC checkL ((n : Nat) : Int) (rootL ((its22 n 0).map leafH))) (n % 16)) (pathL S (n % 16)) = true := by
    rw [hlog]
    exact cverB_own S _ _ _ (Nat.mod_lt _ (by omega)) (rightC_nat hn (rootL_len (leaf_len _)))
  obtain ⟨h1, h2⟩ := feed_ok (s := s) (its := ITS) hc (by omega) (by omega) (by rw [hi]; exact hne.2)
  have h := feed_sgdw w base g φ ρ s hD b n (n % 16) B P Q A d d1 d2 m c S _ ITS hS hb kI (fun _ => hits) hal
  rw [h1, h2] at h
  exact ⟨{ s with its := s.its ++ ITS, lx := (n : Int), lr := rootL ((its22 n 0).map leafH), li := ((n % 16 : Nat) : Int), lp := sigP S (bodyC checkL (n : Int) (rootL ((its22 n 0).map leafH))) (n % 16), lq := pathL S (n % 16), has := true }, hlog, by show s.its ++ ITS = _; rw [hi], rfl, h.mono fun e w' hp => hp.toP⟩
theorem msize_k (w : World) (base g k : Nat) (φ : Nat → Prop) (s : MSt) (h : MonR w base φ g s) (hk : s.its.length = k) :
    Calls Try.prog 43 #[.pointer (some ⟨g, 0, none⟩)] w fun e w' => e = .returned (.int .i64 (k : Int)) ∧ w' = w := by
  subst hk
  exact msize_any w base g φ s h
theorem malarms_0 (w : World) (base g : Nat) (φ : Nat → Prop) (s : MSt) (h : MonR w base φ g s) (hk : s.al = []) :
    Calls Try.prog 41 #[.pointer (some ⟨g, 0, none⟩)] w fun e w' => ∃ B d, e = .returned (.slice B 0 d) ∧ RB w' B 0 d [] ∧ Ext w w' := by
  have h1 := malarms_any w base g φ s h (by rw [hk]; exact Nat.zero_le _)
  rw [hk] at h1
  exact h1.mono fun e w' ⟨B, d, h2, h3, h4⟩ => ⟨B, d, h2, ⟨rfl, h3.room.1, h3.room.2, fun h => absurd h (Nat.lt_irrefl 0)⟩, h4⟩
end Go.Proofs.Ytkndgpjamijbbaa

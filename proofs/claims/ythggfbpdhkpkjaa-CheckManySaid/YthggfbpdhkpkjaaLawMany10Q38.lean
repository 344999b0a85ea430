/-
  An own row of signed checkpoints; append to it. hash.Hex and the statements' own hex, walked: two signs a byte.
-/
import Derived.Test.YthggfbpdhkpkjaaLawMany10Q37
import Derived.Test.YthggfbpdhkpkjaaLawMany10Q33
import Derived.Test.YthggfbpdhkpkjaaLawMany10Q13
import Derived.Test.YthggfbpdhkpkjaaLawMany10Q1
namespace Go.Proofs.Ythggfbpdhkpkjaa
set_option maxRecDepth 100000
open Go Go.RowKit
/-- word, slice, word, slice, slice, word .. -/
def ShapeM (l : List Value) : Prop := ∀ i v, l[i]? = some v → ((i % 5 = 0 ∨ i % 5 = 2) → ∃ x, v = .int .i64 x) ∧ ((i % 5 = 1 ∨ i % 5 = 3 ∨ i % 5 = 4) → ∃ P n c, v = .slice P n c)
theorem ShapeM.nil : ShapeM [] := by
  intro i v h
  cases h
theorem ShapeM.app {xs ys : List Value} (hx : ShapeM xs) (hy : ShapeM ys) (h4 : xs.length % 5 = 0) : ShapeM (xs ++ ys) := by
  intro i v h
  by_cases hi : i < xs.length
  · rw [List.getElem?_append_left hi] at h
    exact hx i v h
  · rw [List.getElem?_append_right (by omega)] at h
    have h2 := hy _ v h
    have e : (i - xs.length) % 5 = i % 5 := by omega
    rw [e] at h2
    exact h2
theorem ShapeM.take {xs : List Value} (hx : ShapeM xs) (k : Nat) : ShapeM (xs.take k) := by
  intro i v h
  by_cases hi : i < k
  · rw [List.getElem?_take_of_lt hi] at h
    exact hx i v h
  · rw [List.getElem?_eq_none (by simp; omega)] at h
    cases h
theorem ShapeM.drop {xs : List Value} (hx : ShapeM xs) (k : Nat) (h4 : k % 5 = 0) : ShapeM (xs.drop k) := by
  intro i v h
  rw [List.getElem?_drop] at h
  have h2 := hx _ v h
  have e : (k + i) % 5 = i % 5 := by omega
  rw [e] at h2
  exact h2
def zsg : Array Value := #[.int .i64 0, .slice none 0 0, .int .i64 0, .slice none 0 0, .slice none 0 0]
theorem info_sg : (Try.prog.info? 41).map (fun i => (i.zero, i.size, i.bytes)) = some (some (.agg zsg), 5, 88) := by kernel_rfl
theorem zero_shape5 (n : Nat) : ShapeM (Builtin.zeroCells zsg n).toList := by
  intro i v h
  have hs : zsg.size = 5 := rfl
  have hi : i < n * 5 := by
    rcases Nat.lt_or_ge i (n * 5) with h1 | h1
    · exact h1
    · rw [List.getElem?_eq_none (by rw [Array.length_toList, size_zeroCells, hs]; exact h1)] at h
      cases h
  have e : (Builtin.zeroCells zsg n).toList[i]? = some (zsg[i % 5]!) := by
    rw [Array.getElem?_toList]
    unfold Builtin.zeroCells
    rw [Array.getElem?_map, Array.getElem?_range, hs]
    simp [hi]
  rw [e] at h
  injection h with h
  subst h
  have hc : i % 5 = 0 ∨ i % 5 = 1 ∨ i % 5 = 2 ∨ i % 5 = 3 ∨ i % 5 = 4 := by omega
  rcases hc with h1 | h1 | h1 | h1 | h1 <;> rw [h1]
  · exact ⟨fun _ => ⟨0, rfl⟩, fun h => by omega⟩
  · exact ⟨fun h => by omega, fun _ => ⟨none, 0, 0, rfl⟩⟩
  · exact ⟨fun _ => ⟨0, rfl⟩, fun h => by omega⟩
  · exact ⟨fun h => by omega, fun _ => ⟨none, 0, 0, rfl⟩⟩
  · exact ⟨fun h => by omega, fun _ => ⟨none, 0, 0, rfl⟩⟩
theorem ShapeM.no3 {cs : Array Value} (h : ShapeM cs.toList) (i : Nat) (a b c : Value) (ha : cs[i]? = some a) (hb : cs[i + 1]? = some b) (hc : cs[i + 2]? = some c) : ¬ (isSl (some a) = true ∧ isSl (some b) = true ∧ isSl (some c) = true) := by
  rintro ⟨k1, k2, k3⟩
  have h1 : (i % 5 = 0 ∨ i % 5 = 2) ∨ ((i + 1) % 5 = 0 ∨ (i + 1) % 5 = 2) ∨ ((i + 2) % 5 = 0 ∨ (i + 2) % 5 = 2) := by omega
  rcases h1 with h1 | h1 | h1
  · obtain ⟨x, rfl⟩ := (h i a (by rw [Array.getElem?_toList]; exact ha)).1 h1
    cases k1
  · obtain ⟨x, rfl⟩ := (h (i + 1) b (by rw [Array.getElem?_toList]; exact hb)).1 h1
    cases k2
  · obtain ⟨x, rfl⟩ := (h (i + 2) c (by rw [Array.getElem?_toList]; exact hc)).1 h1
    cases k3
theorem ShapeM.nou8 {cs : Array Value} (h : ShapeM cs.toList) (i : Nat) (x : Int) : cs[i]? ≠ some (.int .u8 x) := by
  intro e
  have h1 := h i _ (by rw [Array.getElem?_toList]; exact e)
  have hc : (i % 5 = 0 ∨ i % 5 = 2) ∨ (i % 5 = 1 ∨ i % 5 = 3 ∨ i % 5 = 4) := by omega
  rcases hc with h2 | h2
  · obtain ⟨y, hy⟩ := h1.1 h2
    injection hy with hy _
    cases hy
  · obtain ⟨_, _, _, hy⟩ := h1.2 h2
    cases hy
/-- an own row of signed checkpoints: its cells -/
def OwY (w : World) (base : Nat) (A : Option Addr) (n c : Nat) (xs : List Value) : Prop :=
  xs.length = n * 5 ∧ ((A = none ∧ n = 0 ∧ c = 0) ∨ ∃ g cs, A = some ⟨g, 0, none⟩ ∧ base ≤ g ∧ Blk w g 41 cs ∧ n ≤ c ∧ c ≤ maxLen ∧ cs.size = c * 5 ∧ ShapeM cs.toList ∧ cs.toList.take (n * 5) = xs)
theorem OwY.none_ (w : World) (base : Nat) : OwY w base none 0 0 [] := ⟨rfl, .inl ⟨rfl, rfl, rfl⟩⟩
theorem OwY.ext {w w' : World} {base n c : Nat} {A : Option Addr} {xs : List Value} (h : OwY w base A n c xs) (e : Ext w w') : OwY w' base A n c xs := by
  obtain ⟨h1, h2⟩ := h
  refine ⟨h1, ?_⟩
  rcases h2 with h2 | ⟨g, cs, k1, k2, k3, k4⟩
  · exact .inl h2
  · exact .inr ⟨g, cs, k1, k2, k3.ext e, k4⟩
theorem OwY.grown {w w' : World} {base n c : Nat} {A : Option Addr} {xs : List Value} (h : OwY w base A n c xs) {row : Option Nat} (e : w.grownBy w' row) (hne : ∀ g, blk A = some g → some g ≠ row) : OwY w' base A n c xs := by
  obtain ⟨h1, h2⟩ := h
  refine ⟨h1, ?_⟩
  rcases h2 with h2 | ⟨g, cs, rfl, k2, k3, k4⟩
  · exact .inl h2
  · exact .inr ⟨g, cs, rfl, k2, k3.grown e (hne g rfl), k4⟩
theorem OwY.lt {w : World} {base n c : Nat} {A : Option Addr} {xs : List Value} (h : OwY w base A n c xs) {k : Nat} (hk : blk A = some k) : base ≤ k ∧ k < w.heap.size := by
  rcases h.2 with ⟨rfl, _⟩ | ⟨g, cs, rfl, k2, k3, _⟩
  · cases hk
  · have e : some g = some k := hk
    injection e with e
    subst e
    exact ⟨k2, k3.lt⟩
theorem run_app_sg (ty : TypeId) {w : World} {base n c : Nat} {A : Option Addr} {xs : List Value} (hown : OwY w base A n c xs) {ad : Addr} {m d : Nat} {news : List Value} (hl : news.length = m * 5) (hnews : ∀ j u, news[j]? = some u → w.cell? (ad.add j) = some u) (h1 : ∀ u ∈ news, u.oneCell' = true) (hsh : ShapeM news) (hnm : n + m ≤ 1000000) (hbase : base ≤ w.heap.size) (hm : 0 < m) :
    ∃ A' c' w', (Builtin.append_ #[36, 36] ty #[.slice A n c, .slice (some ad) m d]).run Try.prog w = .ok (.slice A' (n + m) c') w' ∧ OwY w' base A' (n + m) c' (xs ++ news) ∧ w.grownBy w' (blk A) ∧ (blk A' = blk A ∨ blk A' = some w.heap.size) := by
  obtain ⟨i0, hi0, hz0, hz1, hz2⟩ := info_parts info_sg
  have hzs : (Value.cells (.agg zsg)) = zsg := rfl
  have hzn : zsg.size = 5 := rfl
  have hl1 := hown.1
  have hlen : (xs ++ news).length = (n + m) * 5 := by rw [List.length_append, hl1, hl]; omega
  have grown : ∀ (old : Nat), old < n + m → ∀ (row : Option Nat),
      OwY (w.drew.alloc (.cells (xs.toArray ++ news.toArray ++ Builtin.zeroCells zsg (grownCap w (n + m) old 41 - (n + m))) 41)) base (some ⟨w.heap.size, 0, none⟩) (n + m) (grownCap w (n + m) old 41) (xs ++ news) ∧
      w.grownBy (w.drew.alloc (.cells (xs.toArray ++ news.toArray ++ Builtin.zeroCells zsg (grownCap w (n + m) old 41 - (n + m))) 41)) row := by
    intro old ho row
    have hge := grownCap_ge w (n + m) old 41
    have hcm : grownCap w (n + m) old 41 ≤ maxLen := grownCap_le_maxLen w (n + m) old 41 (small_maxLen hnm)
    generalize grownCap w (n + m) old 41 = gc at *
    refine ⟨⟨hlen, .inr ⟨w.heap.size, _, rfl, hbase, heap_alloc_new w.drew _, hge, hcm, ?_, ?_, ?_⟩⟩, ⟨rfl, rfl, rfl, by simp, fun k hk _ => (by first | exact heap_alloc_old w.drew _ k hk | exact heap_alloc_old w.drew _ hk)⟩⟩
    · simp only [Array.size_append, List.size_toArray, size_zeroCells, hzn, hl1, hl]
      omega
    · simp only [Array.toList_append]
      refine ShapeM.app (ShapeM.app ?_ hsh (by rw [hl1]; omega)) (zero_shape5 _) (by rw [List.length_append, hl1, hl]; omega)
      rcases hown.2 with ⟨_, h0, _⟩ | ⟨g, cs, _, _, _, _, _, _, k7, k8⟩
      · rw [List.eq_nil_of_length_eq_zero (show xs.length = 0 by rw [hl1, h0])]
        exact ShapeM.nil
      · rw [← k8]
        exact k7.take _
    · simp only [Array.toList_append]
      rw [← hlen]
      exact List.take_left
  rcases hown.2 with ⟨rfl, rfl, rfl⟩ | ⟨g, cs, rfl, hbg, hg, hnc, hcm, hcs, hsc, htake⟩
  · have hx : xs = [] := List.eq_nil_of_length_eq_zero (by rw [hl1])
    subst hx
    have hr := run_append_nil (P := Try.prog) w 36 ty 41 i0 (.agg zsg) Try.underlying36 hi0 hz0 ad m d news (by rw [hl, hz1]) hnews hm (by omega) (by rw [hz2]; omega)
    have hgr := grown 0 (by omega) (blk none)
    simp only [Nat.zero_add, List.nil_append, Array.empty_append] at hgr ⊢
    exact ⟨_, _, _, hr, hgr.1, hgr.2, .inr rfl⟩
  · by_cases hroom : n + m ≤ c
    · have hfit : n * i0.size + news.length ≤ cs.size := by rw [hl, hcs, hz1]; omega
      have hr := run_append_room (P := Try.prog) w 36 ty 41 i0 Try.underlying36 hi0 g n c cs hg ad m d news (by rw [hl, hz1]) hnews h1 hroom hfit
      rw [hz1] at hr hfit
      refine ⟨_, _, _, hr, ⟨hlen, .inr ⟨g, _, rfl, hbg, setRow_heap w g cs _ _ _ hg, hroom, hcm, ?_, ?_, ?_⟩⟩, ⟨rfl, rfl, rfl, by simp, fun k _ hk => setRow_other w g k _ (fun e => hk (by simp [blk, e]))⟩, .inl rfl⟩
      · simp only [List.size_toArray, List.length_append, List.length_take, List.length_drop, Array.length_toList]
        omega
      · have h4 : (cs.toList.take (n * 5)).length % 5 = 0 := by simp only [List.length_take, Array.length_toList]; omega
        refine ShapeM.app (ShapeM.app (hsc.take _) hsh h4) (hsc.drop _ (by omega)) ?_
        simp only [List.length_append, List.length_take, Array.length_toList]
        omega
      · rw [htake, ← hlen]
        exact List.take_left
    · have holds : ∀ j u, xs[j]? = some u → w.cell? ((⟨g, 0, none⟩ : Addr).add j) = some u := by
        intro j u hu
        have hj : j < n * 5 := by
          rcases Nat.lt_or_ge j (n * 5) with h1 | h1
          · exact h1
          · rw [List.getElem?_eq_none (by omega)] at hu; cases hu
        rw [← htake, List.getElem?_take_of_lt hj, Array.getElem?_toList] at hu
        rw [add_plain]
        exact hg.cell hu
      have hr := run_append_grow (P := Try.prog) w 36 ty 41 i0 (.agg zsg) Try.underlying36 hi0 hz0 ⟨g, 0, none⟩ n c xs (by rw [hl1, hz1]) holds ad m d news (by rw [hl, hz1]) hnews (by omega) (by omega) (growslice_fits (by omega) (by rw [hz2]; omega))
      have hgr := grown c (by omega) (blk (some ⟨g, 0, none⟩))
      exact ⟨_, _, _, hr, hgr.1, hgr.2, .inr rfl⟩

structure SV where
  x : Int
  B : Option Addr
  d : Nat
  k : Int
  P : Option Addr
  cp : Nat
  Q : Option Addr
  cq : Nat
structure SG where
  x : Int
  R : List UInt8
  k : Int
  ps : List (List UInt8)
  qs : List (List UInt8)
def SV.cells (v : SV) : List Value := [.int .i64 v.x, .slice v.B 32 v.d, .int .i64 v.k, .slice v.P 64 v.cp, .slice v.Q 4 v.cq]
def svz : SV := ⟨0, none, 0, 0, none, 0, none, 0⟩
def sv_ (vs : List SV) (j : Nat) : SV := vs.getD j svz
def sgz : SG := ⟨0, [], 0, [], []⟩
def sg_ (gs : List SG) (j : Nat) : SG := gs.getD j sgz
structure SVR (w : World) (φ : Nat → Prop) (v : SV) (g : SG) : Prop where
  x : g.x = v.x
  k : g.k = v.k
  r : RB w v.B 32 v.d g.R
  rf : ∀ j, blk v.B = some j → φ j
  ps : RBBP w φ v.P 64 v.cp g.ps
  qs : RBBP w φ v.Q 4 v.cq g.qs
theorem SVR.ext {w w' : World} {φ : Nat → Prop} {v : SV} {g : SG} (h : SVR w φ v g) (e : Ext w w') : SVR w' φ v g := ⟨h.x, h.k, h.r.ext e, h.rf, h.ps.ext e, h.qs.ext e⟩
theorem SVR.imp {w : World} {φ ψ : Nat → Prop} {v : SV} {g : SG} (h : SVR w φ v g) (hi : ∀ k, k < w.heap.size → φ k → ψ k) : SVR w ψ v g :=
  ⟨h.x, h.k, h.r, fun j hj => hi j (rb_blk_lt h.r (by omega) j hj) (h.rf j hj), h.ps.imp hi, h.qs.imp hi⟩
theorem SVR.keep {w w' : World} {φ : Nat → Prop} {v : SV} {g : SG} (h : SVR w φ v g) (hk : ∀ k, k < w.heap.size → φ k → w'.heap[k]? = w.heap[k]?) : SVR w' φ v g :=
  ⟨h.x, h.k, h.r.keep (fun _ => h.rf) hk, h.rf, h.ps.keep hk, h.qs.keep hk⟩
theorem SVR.away {w w' : World} {φ : Nat → Prop} {v : SV} {g : SG} (h : SVR w φ v g) {k : Nat} {t : TypeId} {cs : Array Value} (hb : Blk w k t cs) (h8 : ∀ (i : Nat) (x : Int), cs[i]? ≠ some (.int .u8 x))
    (h3 : ∀ (i : Nat) (a b c : Value), cs[i]? = some a → cs[i + 1]? = some b → cs[i + 2]? = some c → ¬ (isSl (some a) = true ∧ isSl (some b) = true ∧ isSl (some c) = true)) (e : w.grownBy w' (some k)) : SVR w' φ v g :=
  ⟨h.x, h.k, h.r.grown e (h.r.apart5 hb h8), h.rf, h.ps.away hb h8 e (fun _ => h.ps.rbb.apart3 hb h3 (by omega)), h.qs.away hb h8 e (fun _ => h.qs.rbb.apart3 hb h3 (by omega))⟩
theorem sm_get (vs : List SV) : ∀ (j i : Nat), i < 5 → j < vs.length → (vs.flatMap SV.cells)[j * 5 + i]? = (sv_ vs j).cells[i]? := by
  induction vs with
  | nil => intro j i _ h; exact absurd h (Nat.not_lt_zero _)
  | cons v vs ih =>
    intro j i hi hj
    have h4 : v.cells.length = 5 := rfl
    rw [List.flatMap_cons]
    cases j with
    | zero =>
      rw [List.getElem?_append_left (by omega)]
      rw [Nat.zero_mul, Nat.zero_add]
      rfl
    | succ j =>
      rw [List.getElem?_append_right (by omega)]
      rw [show (j + 1) * 5 + i - v.cells.length = j * 5 + i by rw [h4]; omega]
      exact ih j i hi (by rw [List.length_cons] at hj; omega)
/-- an own row of signed checkpoints; what they hold lies in blocks that φ holds of -/
def OSG (w : World) (base : Nat) (φ : Nat → Prop) (A : Option Addr) (n c : Nat) (vs : List SV) (gs : List SG) : Prop :=
  vs.length = n ∧ gs.length = n ∧ OwY w base A n c (vs.flatMap SV.cells) ∧ ∀ j, j < n → SVR w φ (sv_ vs j) (sg_ gs j)
theorem OSG.none_ (w : World) (base : Nat) (φ : Nat → Prop) : OSG w base φ none 0 0 [] [] := ⟨rfl, rfl, OwY.none_ _ _, fun j hj => absurd hj (Nat.not_lt_zero _)⟩
theorem OSG.ext {w w' : World} {base n c : Nat} {φ : Nat → Prop} {A : Option Addr} {vs : List SV} {gs : List SG} (h : OSG w base φ A n c vs gs) (e : Ext w w') : OSG w' base φ A n c vs gs :=
  ⟨h.1, h.2.1, h.2.2.1.ext e, fun j hj => (h.2.2.2 j hj).ext e⟩
theorem OSG.imp {w : World} {base n c : Nat} {φ ψ : Nat → Prop} {A : Option Addr} {vs : List SV} {gs : List SG} (h : OSG w base φ A n c vs gs) (hi : ∀ k, k < w.heap.size → φ k → ψ k) : OSG w base ψ A n c vs gs :=
  ⟨h.1, h.2.1, h.2.2.1, fun j hj => (h.2.2.2 j hj).imp hi⟩
theorem OSG.lt {w : World} {base n c : Nat} {φ : Nat → Prop} {A : Option Addr} {vs : List SV} {gs : List SG} (h : OSG w base φ A n c vs gs) {k : Nat} (hk : blk A = some k) : base ≤ k ∧ k < w.heap.size := h.2.2.1.lt hk
theorem OSG.blk_ {w : World} {base n c : Nat} {φ : Nat → Prop} {A : Option Addr} {vs : List SV} {gs : List SG} (h : OSG w base φ A n c vs gs) {k : Nat} (hk : blk A = some k) : ∃ cs, Blk w k 41 cs ∧ ShapeM cs.toList := by
  rcases h.2.2.1.2 with ⟨rfl, _⟩ | ⟨g, cs, rfl, _, k3, _, _, _, k7, _⟩
  · cases hk
  · have e : some g = some k := hk
    injection e with e
    subst e
    exact ⟨cs, k3, k7⟩
theorem OSG.ne_blk {w : World} {base n c : Nat} {φ : Nat → Prop} {A : Option Addr} {vs : List SV} {gs : List SG} (h : OSG w base φ A n c vs gs) {k : Nat} {t : TypeId} {cs : Array Value} {fr : Nat × Nat} (hb : w.heap[k]? = some (.cells cs t fr)) (ht : t ≠ 41) : blk A ≠ some k := by
  intro hk
  obtain ⟨cs', h1, _⟩ := h.blk_ hk
  unfold Blk at h1
  rw [h1] at hb
  injection hb with hb
  injection hb with _ hb
  exact ht hb.symm
/-- blocks that φ holds of stay, and the row's own -/
theorem OSG.keep {w w' : World} {base n c : Nat} {φ : Nat → Prop} {A : Option Addr} {vs : List SV} {gs : List SG} (h : OSG w base φ A n c vs gs) (hk : ∀ k, k < w.heap.size → φ k → w'.heap[k]? = w.heap[k]?) (hA : ∀ k, blk A = some k → w'.heap[k]? = w.heap[k]?) : OSG w' base φ A n c vs gs := by
  obtain ⟨h1, h2, h3, h4⟩ := h
  refine ⟨h1, h2, ⟨h3.1, ?_⟩, fun j hj => (h4 j hj).keep hk⟩
  rcases h3.2 with z | ⟨g, cs, rfl, k2, k3, k4⟩
  · exact .inl z
  · exact .inr ⟨g, cs, rfl, k2, (hA g rfl).trans k3, k4⟩
theorem OSG.at_ {w : World} {base n c : Nat} {φ : Nat → Prop} {A : Option Addr} {vs : List SV} {gs : List SG} (h : OSG w base φ A n c vs gs) {j : Nat} (hj : j < n) :
    ∃ g, A = some ⟨g, 0, none⟩ ∧ n ≤ c ∧ c ≤ maxLen ∧ ∀ i u, (sv_ vs j).cells[i]? = some u → w.cell? ⟨g, j * 5 + i, none⟩ = some u := by
  obtain ⟨h1, h2, h3, h4⟩ := h
  rcases h3.2 with ⟨_, h0, _⟩ | ⟨g, cs, rfl, k2, k3, k4, k5, k6, k7, k8⟩
  · omega
  · refine ⟨g, rfl, k4, k5, fun i u hu => ?_⟩
    have hi : i < 5 := by
      rcases Nat.lt_or_ge i 5 with h5 | h5
      · exact h5
      · rw [List.getElem?_eq_none (by show (5 : Nat) ≤ i; exact h5)] at hu
        cases hu
    have e := sm_get vs j i hi (by omega)
    rw [← e] at hu
    rw [← k8, List.getElem?_take_of_lt (by omega), Array.getElem?_toList] at hu
    exact k3.cell hu
theorem appsg_law {ops : Array Oper} {rest : List Oper} {o : Oper} {a : Act} {Q : Exit → Act → World → Prop} {w : World} (hgd : o.guard = none) {s x : Operand} (ho : o.op = .call { callee := .builtin .append, args := #[s, x], argTypes := #[36, 36] })
    {A : Option Addr} {n c : Nat} (hs : a.eval s = .slice A n c) {gx : Nat} (hx : a.eval x = .slice (some ⟨gx, 0, none⟩) 1 1) {base : Nat} {φ : Nat → Prop} {vs : List SV} {gs : List SG} {v : SV} {g : SG} (hb : Blk w gx 41 v.cells.toArray)
    (hown : OSG w base φ A n c vs gs) (hv : SVR w φ v g) (hbase : base ≤ w.heap.size) (hnk : n + 1 ≤ 1000000)
    (h : ∀ A' c' w', OSG w' base φ A' (n + 1) c' (vs ++ [v]) (gs ++ [g]) → w.grownBy w' (blk A) → wpList Try.prog ops Q rest (a.put o.dst (.slice A' (n + 1) c')) w') : wpList Try.prog ops Q (o :: rest) a w := by
  have hown' := hown
  obtain ⟨h1, h2, h3, h4⟩ := hown
  have hsh : ShapeM v.cells := by
    intro i u hu
    unfold SV.cells at hu
    rcases i with _ | _ | _ | _ | _ | i
    · injection hu with hu; subst hu; exact ⟨fun _ => ⟨_, rfl⟩, fun h => by omega⟩
    · injection hu with hu; subst hu; exact ⟨fun h => by omega, fun _ => ⟨_, _, _, rfl⟩⟩
    · injection hu with hu; subst hu; exact ⟨fun _ => ⟨_, rfl⟩, fun h => by omega⟩
    · injection hu with hu; subst hu; exact ⟨fun h => by omega, fun _ => ⟨_, _, _, rfl⟩⟩
    · injection hu with hu; subst hu; exact ⟨fun h => by omega, fun _ => ⟨_, _, _, rfl⟩⟩
    · cases hu
  obtain ⟨A', c', w', hrun, r1, r2, _⟩ := run_app_sg o.type h3 (m := 1) (d := 1) (ad := ⟨gx, 0, none⟩) (news := v.cells) rfl
    (fun j u hu => by rw [add_plain]; exact hb.cell (by rw [List.getElem?_toArray]; exact hu)) (by intro u hu; unfold SV.cells at hu; simp only [List.mem_cons, List.not_mem_nil, or_false] at hu; rcases hu with rfl | rfl | rfl | rfl | rfl <;> rfl) hsh hnk hbase (by omega)
  have stay : ∀ v g, SVR w φ v g → SVR w' φ v g := by
    intro v g hv
    cases hA : blk A with
    | none =>
      rw [hA] at r2
      exact hv.ext ((Ext.refl w).then_grown r2 (fun b hb => by cases hb))
    | some k =>
      rw [hA] at r2
      obtain ⟨cs, b1, b2⟩ := hown'.blk_ hA
      exact hv.away b1 b2.nou8 b2.no3 r2
  refine run_law hgd (v := .slice A' (n + 1) c') (w' := w') ?_ (h A' c' w' ⟨by rw [List.length_append, h1]; rfl, by rw [List.length_append, h2]; rfl, by rw [List.flatMap_append]; simpa using r1, fun j hj => ?_⟩ r2)
  · unfold execOp
    simp only [ho, resolve, invoke, builtin, Sem.run_bind, Sem.run_pure, Result.andThen_ok, List.map_toArray, List.map_cons, List.map_nil, hs, hx, hrun]
  · by_cases hjn : j < n
    · have e1 : sv_ (vs ++ [v]) j = sv_ vs j := by unfold sv_; simp [List.getElem?_append_left (show j < vs.length by omega)]
      have e2 : sg_ (gs ++ [g]) j = sg_ gs j := by unfold sg_; simp [List.getElem?_append_left (show j < gs.length by omega)]
      rw [e1, e2]
      exact stay _ _ (h4 j hjn)
    · obtain rfl : j = n := by omega
      have e1 : sv_ (vs ++ [v]) j = v := by unfold sv_; simp [← h1]
      have e2 : sg_ (gs ++ [g]) j = g := by unfold sg_; simp [← h2]
      rw [e1, e2]
      exact stay _ _ hv
end Go.Proofs.Ythggfbpdhkpkjaa
namespace Go.Proofs.Ythggfbpdhkpkjaa
set_option maxRecDepth 100000
open Go Go.RowKit
theorem Runs.index {P : Program} {o : Oper} {ρ : Operand → Value} {w : World} {G : Value → World → Prop} {t : TypeId} {x i : Operand} {u v r : Value} (ho : o.op = .index t x i) (hx : ρ x = u) (hi : ρ i = v) (hr : (Instr.index t u v).run P w = .ok r w) (h : G r w) : Runs P o ρ w G := by
  refine Runs.of_run (r := r) (w' := w) ?_ h
  unfold execOp
  simp only [ho, hx, hi, Sem.run_bind, hr, Result.andThen_ok, Sem.run_pure]
end Go.Proofs.Ythggfbpdhkpkjaa

/-
  An own row of cosignatures; append to it. Rows of cosignatures: what they hold; append. SHA-256 over Nat, for the kernel to reckon with (5 ms a block), and that it is sha. The plain law of law11's known: the two keys differ, the cosignature verifies, it counts once. CosignApart, walked (under way). law11's made, walked (under way).
-/
import Derived.Test.YtkndgpjamijbbaaLawCom26Q24
import Derived.Test.YtkndgpjamijbbaaLawCom26Q20
import Derived.Test.YtkndgpjamijbbaaLawCom26Q1
import Derived.Test.YtkndgpjamijbbaaLawCom26Q14
namespace Go.Proofs.Ytkndgpjamijbbaa
set_option maxRecDepth 100000
open Go Go.RowKit
/-- two words, two slices, two words .. -/
def ShapeL (l : List Value) : Prop := ∀ i v, l[i]? = some v → (i % 4 < 2 → ∃ x, v = .int .i64 x) ∧ (2 ≤ i % 4 → ∃ P n c, v = .slice P n c)
theorem ShapeL.nil : ShapeL [] := by
  intro i v h
  cases h
theorem ShapeL.app {xs ys : List Value} (hx : ShapeL xs) (hy : ShapeL ys) (h4 : xs.length % 4 = 0) : ShapeL (xs ++ ys) := by
  intro i v h
  by_cases hi : i < xs.length
  · rw [List.getElem?_append_left hi] at h
    exact hx i v h
  · rw [List.getElem?_append_right (by omega)] at h
    have h2 := hy _ v h
    have e : (i - xs.length) % 4 = i % 4 := by omega
    rw [e] at h2
    exact h2
theorem ShapeL.take {xs : List Value} (hx : ShapeL xs) (k : Nat) : ShapeL (xs.take k) := by
  intro i v h
  by_cases hi : i < k
  · rw [List.getElem?_take_of_lt hi] at h
    exact hx i v h
  · rw [List.getElem?_eq_none (by simp; omega)] at h
    cases h
theorem ShapeL.drop {xs : List Value} (hx : ShapeL xs) (k : Nat) (h4 : k % 4 = 0) : ShapeL (xs.drop k) := by
  intro i v h
  rw [List.getElem?_drop] at h
  have h2 := hx _ v h
  have e : (k + i) % 4 = i % 4 := by omega
  rw [e] at h2
  exact h2
def zcs : Array Value := #[.int .i64 0, .int .i64 0, .slice none 0 0, .slice none 0 0]
theorem info_cs : (Try.prog.info? 104).map (fun i => (i.zero, i.size, i.bytes)) = some (some (.agg zcs), 4, 64) := by kernel_rfl
theorem zero_shape (n : Nat) : ShapeL (Builtin.zeroCells zcs n).toList := by
  intro i v h
  have hs : zcs.size = 4 := rfl
  have hi : i < n * 4 := by
    rcases Nat.lt_or_ge i (n * 4) with h1 | h1
    · exact h1
    · rw [List.getElem?_eq_none (by rw [Array.length_toList, size_zeroCells, hs]; exact h1)] at h
      cases h
  have e : (Builtin.zeroCells zcs n).toList[i]? = some (zcs[i % 4]!) := by
    rw [Array.getElem?_toList]
    unfold Builtin.zeroCells
    rw [Array.getElem?_map, Array.getElem?_range, hs]
    simp [hi]
  rw [e] at h
  injection h with h
  subst h
  have hc : i % 4 = 0 ∨ i % 4 = 1 ∨ i % 4 = 2 ∨ i % 4 = 3 := by omega
  rcases hc with h1 | h1 | h1 | h1 <;> rw [h1]
  · exact ⟨fun _ => ⟨0, rfl⟩, fun h => by omega⟩
  · exact ⟨fun _ => ⟨0, rfl⟩, fun h => by omega⟩
  · exact ⟨fun h => by omega, fun _ => ⟨none, 0, 0, rfl⟩⟩
  · exact ⟨fun h => by omega, fun _ => ⟨none, 0, 0, rfl⟩⟩
theorem ShapeL.no3 {cs : Array Value} (h : ShapeL cs.toList) (i : Nat) (a b c : Value) (ha : cs[i]? = some a) (hb : cs[i + 1]? = some b) (hc : cs[i + 2]? = some c) : ¬ (isSl (some a) = true ∧ isSl (some b) = true ∧ isSl (some c) = true) := by
  rintro ⟨k1, k2, k3⟩
  have h1 : i % 4 < 2 ∨ (i + 1) % 4 < 2 ∨ (i + 2) % 4 < 2 := by omega
  rcases h1 with h1 | h1 | h1
  · obtain ⟨x, rfl⟩ := (h i a (by rw [Array.getElem?_toList]; exact ha)).1 h1
    cases k1
  · obtain ⟨x, rfl⟩ := (h (i + 1) b (by rw [Array.getElem?_toList]; exact hb)).1 h1
    cases k2
  · obtain ⟨x, rfl⟩ := (h (i + 2) c (by rw [Array.getElem?_toList]; exact hc)).1 h1
    cases k3
theorem ShapeL.nou8 {cs : Array Value} (h : ShapeL cs.toList) (i : Nat) (x : Int) : cs[i]? ≠ some (.int .u8 x) := by
  intro e
  have h1 := h i _ (by rw [Array.getElem?_toList]; exact e)
  rcases Nat.lt_or_ge (i % 4) 2 with h2 | h2
  · obtain ⟨y, hy⟩ := h1.1 h2
    injection hy with hy _
    cases hy
  · obtain ⟨_, _, _, hy⟩ := h1.2 h2
    cases hy
/-- an own row of cosignatures: its cells -/
def OwZ (w : World) (base : Nat) (A : Option Addr) (n c : Nat) (xs : List Value) : Prop :=
  xs.length = n * 4 ∧ ((A = none ∧ n = 0 ∧ c = 0) ∨ ∃ g cs, A = some ⟨g, 0, none⟩ ∧ base ≤ g ∧ Blk w g 104 cs ∧ n ≤ c ∧ c ≤ maxLen ∧ cs.size = c * 4 ∧ ShapeL cs.toList ∧ cs.toList.take (n * 4) = xs)
theorem OwZ.none_ (w : World) (base : Nat) : OwZ w base none 0 0 [] := ⟨rfl, .inl ⟨rfl, rfl, rfl⟩⟩
theorem OwZ.ext {w w' : World} {base n c : Nat} {A : Option Addr} {xs : List Value} (h : OwZ w base A n c xs) (e : Ext w w') : OwZ w' base A n c xs := by
  obtain ⟨h1, h2⟩ := h
  refine ⟨h1, ?_⟩
  rcases h2 with h2 | ⟨g, cs, k1, k2, k3, k4⟩
  · exact .inl h2
  · exact .inr ⟨g, cs, k1, k2, k3.ext e, k4⟩
theorem OwZ.grown {w w' : World} {base n c : Nat} {A : Option Addr} {xs : List Value} (h : OwZ w base A n c xs) {row : Option Nat} (e : w.grownBy w' row) (hne : ∀ g, blk A = some g → some g ≠ row) : OwZ w' base A n c xs := by
  obtain ⟨h1, h2⟩ := h
  refine ⟨h1, ?_⟩
  rcases h2 with h2 | ⟨g, cs, rfl, k2, k3, k4⟩
  · exact .inl h2
  · exact .inr ⟨g, cs, rfl, k2, k3.grown e (hne g rfl), k4⟩
theorem OwZ.lt {w : World} {base n c : Nat} {A : Option Addr} {xs : List Value} (h : OwZ w base A n c xs) {k : Nat} (hk : blk A = some k) : base ≤ k ∧ k < w.heap.size := by
  rcases h.2 with ⟨rfl, _⟩ | ⟨g, cs, rfl, k2, k3, _⟩
  · cases hk
  · have e : some g = some k := hk
    injection e with e
    subst e
    exact ⟨k2, k3.lt⟩
theorem run_app_cz (ty : TypeId) {w : World} {base n c : Nat} {A : Option Addr} {xs : List Value} (hown : OwZ w base A n c xs) {ad : Addr} {m d : Nat} {news : List Value} (hl : news.length = m * 4) (hnews : ∀ j u, news[j]? = some u → w.cell? (ad.add j) = some u) (h1 : ∀ u ∈ news, u.oneCell' = true) (hsh : ShapeL news) (hnm : n + m ≤ 1000000) (hbase : base ≤ w.heap.size) (hm : 0 < m) :
    ∃ A' c' w', (Builtin.append_ #[55, 55] ty #[.slice A n c, .slice (some ad) m d]).run Try.prog w = .ok (.slice A' (n + m) c') w' ∧ OwZ w' base A' (n + m) c' (xs ++ news) ∧ w.grownBy w' (blk A) ∧ (blk A' = blk A ∨ blk A' = some w.heap.size) := by
  obtain ⟨i0, hi0, hz0, hz1, hz2⟩ := info_parts info_cs
  have hzs : (Value.cells (.agg zcs)) = zcs := rfl
  have hzn : zcs.size = 4 := rfl
  have hl1 := hown.1
  have hlen : (xs ++ news).length = (n + m) * 4 := by rw [List.length_append, hl1, hl]; omega
  have grown : ∀ (old : Nat), old < n + m → ∀ (row : Option Nat),
      OwZ (w.drew.alloc (.cells (xs.toArray ++ news.toArray ++ Builtin.zeroCells zcs (grownCap w (n + m) old 104 - (n + m))) 104)) base (some ⟨w.heap.size, 0, none⟩) (n + m) (grownCap w (n + m) old 104) (xs ++ news) ∧
      w.grownBy (w.drew.alloc (.cells (xs.toArray ++ news.toArray ++ Builtin.zeroCells zcs (grownCap w (n + m) old 104 - (n + m))) 104)) row := by
    intro old ho row
    have hge := grownCap_ge w (n + m) old 104
    have hcm : grownCap w (n + m) old 104 ≤ maxLen := grownCap_le_maxLen w (n + m) old 104 (small_maxLen hnm)
    generalize grownCap w (n + m) old 104 = gc at *
    refine ⟨⟨hlen, .inr ⟨w.heap.size, _, rfl, hbase, heap_alloc_new w.drew _, hge, hcm, ?_, ?_, ?_⟩⟩, ⟨rfl, rfl, rfl, by simp, fun k hk _ => heap_alloc_old w.drew _ k hk⟩⟩
    · simp only [Array.size_append, List.size_toArray, size_zeroCells, hzn, hl1, hl]
      omega
    · simp only [Array.toList_append]
      refine ShapeL.app (ShapeL.app ?_ hsh (by rw [hl1]; omega)) (zero_shape _) (by rw [List.length_append, hl1, hl]; omega)
      rcases hown.2 with ⟨_, h0, _⟩ | ⟨g, cs, _, _, _, _, _, _, k7, k8⟩
      · rw [List.eq_nil_of_length_eq_zero (show xs.length = 0 by rw [hl1, h0])]
        exact ShapeL.nil
      · rw [← k8]
        exact k7.take _
    · simp only [Array.toList_append]
      rw [← hlen]
      exact List.take_left
  rcases hown.2 with ⟨rfl, rfl, rfl⟩ | ⟨g, cs, rfl, hbg, hg, hnc, hcm, hcs, hsc, htake⟩
  · have hx : xs = [] := List.eq_nil_of_length_eq_zero (by rw [hl1])
    subst hx
    have hr := run_append_nil (P := Try.prog) w 55 ty 104 i0 (.agg zcs) Try.underlying55 hi0 hz0 ad m d news (by rw [hl, hz1]) hnews hm (by omega) (by rw [hz2]; omega)
    have hgr := grown 0 (by omega) (blk none)
    simp only [Nat.zero_add, List.nil_append, Array.empty_append] at hgr ⊢
    exact ⟨_, _, _, hr, hgr.1, hgr.2, .inr rfl⟩
  · by_cases hroom : n + m ≤ c
    · have hfit : n * i0.size + news.length ≤ cs.size := by rw [hl, hcs, hz1]; omega
      have hr := run_append_room (P := Try.prog) w 55 ty 104 i0 Try.underlying55 hi0 g n c cs hg ad m d news (by rw [hl, hz1]) hnews h1 hroom hfit
      rw [hz1] at hr hfit
      refine ⟨_, _, _, hr, ⟨hlen, .inr ⟨g, _, rfl, hbg, setRow_heap w g cs _ _ _ hg, hroom, hcm, ?_, ?_, ?_⟩⟩, ⟨rfl, rfl, rfl, by simp, fun k _ hk => setRow_other w g k _ (fun e => hk (by simp [blk, e]))⟩, .inl rfl⟩
      · simp only [List.size_toArray, List.length_append, List.length_take, List.length_drop, Array.length_toList]
        omega
      · have h4 : (cs.toList.take (n * 4)).length % 4 = 0 := by simp only [List.length_take, Array.length_toList]; omega
        refine ShapeL.app (ShapeL.app (hsc.take _) hsh h4) (hsc.drop _ (by omega)) ?_
        simp only [List.length_append, List.length_take, Array.length_toList]
        omega
      · rw [htake, ← hlen]
        exact List.take_left
    · have holds : ∀ j u, xs[j]? = some u → w.cell? ((⟨g, 0, none⟩ : Addr).add j) = some u := by
        intro j u hu
        have hj : j < n * 4 := by
          rcases Nat.lt_or_ge j (n * 4) with h1 | h1
          · exact h1
          · rw [List.getElem?_eq_none (by omega)] at hu; cases hu
        rw [← htake, List.getElem?_take_of_lt hj, Array.getElem?_toList] at hu
        rw [add_plain]
        exact hg.cell hu
      have hr := run_append_grow (P := Try.prog) w 55 ty 104 i0 (.agg zcs) Try.underlying55 hi0 hz0 ⟨g, 0, none⟩ n c xs (by rw [hl1, hz1]) holds ad m d news (by rw [hl, hz1]) hnews (by omega) (by omega) (growslice_fits (by omega) (by rw [hz2]; omega))
      have hgr := grown c (by omega) (blk (some ⟨g, 0, none⟩))
      exact ⟨_, _, _, hr, hgr.1, hgr.2, .inr rfl⟩
end Go.Proofs.Ytkndgpjamijbbaa
namespace Go.Proofs.Ytkndgpjamijbbaa
set_option maxRecDepth 100000
open Go Go.RowKit
structure CV where
  wn : Int
  k : Int
  P : Option Addr
  cp : Nat
  Q : Option Addr
  cq : Nat
def CV.cells (v : CV) : List Value := [.int .i64 v.wn, .int .i64 v.k, .slice v.P 64 v.cp, .slice v.Q 4 v.cq]
def vz : CV := ⟨0, 0, none, 0, none, 0⟩
def cv_ (vs : List CV) (j : Nat) : CV := vs.getD j vz
structure CVR (w : World) (v : CV) (g : CSig) : Prop where
  wn : g.wn = v.wn
  k : g.k = v.k
  ps : RBB w v.P 64 v.cp g.ps
  qs : RBB w v.Q 4 v.cq g.qs
theorem CVR.ext {w w' : World} {v : CV} {g : CSig} (h : CVR w v g) (e : Ext w w') : CVR w' v g := ⟨h.wn, h.k, h.ps.ext e, h.qs.ext e⟩
theorem CVR.away {w w' : World} {v : CV} {g : CSig} (h : CVR w v g) {k : Nat} {t : TypeId} {cs : Array Value} (hb : Blk w k t cs) (h8 : ∀ (i : Nat) (x : Int), cs[i]? ≠ some (.int .u8 x))
    (h3 : ∀ (i : Nat) (a b c : Value), cs[i]? = some a → cs[i + 1]? = some b → cs[i + 2]? = some c → ¬ (isSl (some a) = true ∧ isSl (some b) = true ∧ isSl (some c) = true)) (e : w.grownBy w' (some k)) : CVR w' v g :=
  ⟨h.wn, h.k, h.ps.away hb h8 e (fun _ => h.ps.apart3 hb h3 (by omega)), h.qs.away hb h8 e (fun _ => h.qs.apart3 hb h3 (by omega))⟩
theorem fm_len (vs : List CV) : (vs.flatMap CV.cells).length = vs.length * 4 := by
  induction vs with
  | nil => rfl
  | cons v vs ih =>
    rw [List.flatMap_cons, List.length_append, ih, List.length_cons]
    have : v.cells.length = 4 := rfl
    omega
theorem fm_get (vs : List CV) : ∀ (j i : Nat), i < 4 → j < vs.length → (vs.flatMap CV.cells)[j * 4 + i]? = (cv_ vs j).cells[i]? := by
  induction vs with
  | nil => intro j i _ h; exact absurd h (Nat.not_lt_zero _)
  | cons v vs ih =>
    intro j i hi hj
    have h4 : v.cells.length = 4 := rfl
    rw [List.flatMap_cons]
    cases j with
    | zero =>
      rw [List.getElem?_append_left (by omega)]
      rw [Nat.zero_mul, Nat.zero_add]
      rfl
    | succ j =>
      rw [List.getElem?_append_right (by omega)]
      rw [show (j + 1) * 4 + i - v.cells.length = j * 4 + i by rw [h4]; omega]
      exact ih j i hi (by rw [List.length_cons] at hj; omega)
theorem fm_shape (vs : List CV) : ShapeL (vs.flatMap CV.cells) := by
  intro i v h
  have hi : i < vs.length * 4 := by
    rcases Nat.lt_or_ge i (vs.length * 4) with h1 | h1
    · exact h1
    · rw [List.getElem?_eq_none (by rw [fm_len]; exact h1)] at h
      cases h
  have e : i = i / 4 * 4 + i % 4 := by omega
  rw [e, fm_get vs _ _ (by omega) (by omega)] at h
  have hc : i % 4 = 0 ∨ i % 4 = 1 ∨ i % 4 = 2 ∨ i % 4 = 3 := by omega
  rcases hc with h1 | h1 | h1 | h1 <;> rw [h1] at h ⊢ <;> injection h with h <;> subst h
  · exact ⟨fun _ => ⟨_, rfl⟩, fun h => by omega⟩
  · exact ⟨fun _ => ⟨_, rfl⟩, fun h => by omega⟩
  · exact ⟨fun h => by omega, fun _ => ⟨_, _, _, rfl⟩⟩
  · exact ⟨fun h => by omega, fun _ => ⟨_, _, _, rfl⟩⟩
theorem fm_one (vs : List CV) : ∀ u ∈ vs.flatMap CV.cells, u.oneCell' = true := by
  intro u hu
  rw [List.mem_flatMap] at hu
  obtain ⟨v, _, hv⟩ := hu
  unfold CV.cells at hv
  simp only [List.mem_cons, List.not_mem_nil, or_false] at hv
  rcases hv with rfl | rfl | rfl | rfl <;> rfl
/-- a slice of cosignatures that is read, its cells -/
structure RCV (w : World) (A : Option Addr) (n c : Nat) (vs : List CV) (gs : List CSig) : Prop where
  lv : vs.length = n
  lg : gs.length = n
  room : n ≤ c
  cap : c ≤ maxLen
  cells : 0 < n → ∃ ad, A = some ad ∧ ∀ j u, (vs.flatMap CV.cells)[j]? = some u → w.cell? (ad.add j) = some u
  each : ∀ j, j < n → CVR w (cv_ vs j) (cg_ gs j)
theorem RCV.ext {w w' : World} {A : Option Addr} {n c : Nat} {vs : List CV} {gs : List CSig} (h : RCV w A n c vs gs) (e : Ext w w') : RCV w' A n c vs gs :=
  ⟨h.lv, h.lg, h.room, h.cap, fun hn => by
    obtain ⟨ad, ha, hc⟩ := h.cells hn
    exact ⟨ad, ha, fun j u hu => e.cell (hc j u hu)⟩, fun j hj => (h.each j hj).ext e⟩
theorem add_lit_ (ad : Addr) (j i : Nat) : (ad.add j).add i = ad.add (j + i) := by
  unfold Addr.add
  by_cases hj : j = 0 <;> by_cases hi : i = 0 <;> simp [hj, hi]
  omega
theorem RCV.at_ {w : World} {ad : Addr} {n c : Nat} {vs : List CV} {gs : List CSig} (h : RCV w (some ad) n c vs gs) {j : Nat} (hj : j < n) :
    w.cell? (ad.add (j * 4)) = some (.int .i64 (cv_ vs j).wn) ∧ w.cell? ((ad.add (j * 4)).add 1) = some (.int .i64 (cv_ vs j).k) ∧ w.cell? ((ad.add (j * 4)).add 2) = some (.slice (cv_ vs j).P 64 (cv_ vs j).cp) ∧ w.cell? ((ad.add (j * 4)).add 3) = some (.slice (cv_ vs j).Q 4 (cv_ vs j).cq) := by
  obtain ⟨ad', ha, hc⟩ := h.cells (by omega)
  injection ha with ha
  subst ha
  have hl := h.lv
  have k := fun i (hi : i < 4) => fm_get vs j i hi (by omega)
  refine ⟨?_, ?_, ?_, ?_⟩
  · exact hc _ _ (k 0 (by omega))
  · rw [add_lit_]; exact hc _ _ (k 1 (by omega))
  · rw [add_lit_]; exact hc _ _ (k 2 (by omega))
  · rw [add_lit_]; exact hc _ _ (k 3 (by omega))
theorem RCV.rcs {w : World} {A : Option Addr} {n c : Nat} {vs : List CV} {gs : List CSig} (h : RCV w A n c vs gs) : RCS w A n c gs := by
  refine ⟨h.lg, h.room, h.cap, fun hn => ?_⟩
  obtain ⟨ad, rfl, _⟩ := h.cells hn
  refine ⟨ad, rfl, fun j hj => ?_⟩
  obtain ⟨k0, k1, k2, k3⟩ := h.at_ hj
  obtain ⟨e1, e2, e3, e4⟩ := h.each j hj
  exact ⟨_, 64, _, _, 4, _, by rw [e1]; exact k0, by rw [e2]; exact k1, k2, k3, e3, e4⟩
/-- an own row of cosignatures -/
def OCS (w : World) (base : Nat) (A : Option Addr) (n c : Nat) (vs : List CV) (gs : List CSig) : Prop :=
  vs.length = n ∧ gs.length = n ∧ OwZ w base A n c (vs.flatMap CV.cells) ∧ ∀ j, j < n → CVR w (cv_ vs j) (cg_ gs j)
theorem OCS.none_ (w : World) (base : Nat) : OCS w base none 0 0 [] [] := ⟨rfl, rfl, OwZ.none_ _ _, fun j hj => absurd hj (Nat.not_lt_zero _)⟩
theorem OCS.ext {w w' : World} {base n c : Nat} {A : Option Addr} {vs : List CV} {gs : List CSig} (h : OCS w base A n c vs gs) (e : Ext w w') : OCS w' base A n c vs gs :=
  ⟨h.1, h.2.1, h.2.2.1.ext e, fun j hj => (h.2.2.2 j hj).ext e⟩
theorem OCS.lt {w : World} {base n c : Nat} {A : Option Addr} {vs : List CV} {gs : List CSig} (h : OCS w base A n c vs gs) {k : Nat} (hk : blk A = some k) : base ≤ k ∧ k < w.heap.size := h.2.2.1.lt hk
theorem OCS.blk_ {w : World} {base n c : Nat} {A : Option Addr} {vs : List CV} {gs : List CSig} (h : OCS w base A n c vs gs) {k : Nat} (hk : blk A = some k) : ∃ cs, Blk w k 104 cs ∧ ShapeL cs.toList := by
  rcases h.2.2.1.2 with ⟨rfl, _⟩ | ⟨g, cs, rfl, _, k3, _, _, _, k7, _⟩
  · cases hk
  · have e : some g = some k := hk
    injection e with e
    subst e
    exact ⟨cs, k3, k7⟩
/-- another block is turned -/
theorem OCS.away {w w' : World} {base n c : Nat} {A : Option Addr} {vs : List CV} {gs : List CSig} (h : OCS w base A n c vs gs) {k : Nat} {t : TypeId} {cs : Array Value} (hb : Blk w k t cs) (h8 : noU8 cs = true) (h3 : no3B cs = true) (hne : blk A ≠ some k) (e : w.grownBy w' (some k)) : OCS w' base A n c vs gs :=
  ⟨h.1, h.2.1, h.2.2.1.grown e (fun g hg e' => hne (hg.trans e')), fun j hj => (h.2.2.2 j hj).away hb (nou8 h8) (no3 h3) e⟩
theorem OCS.ne_blk {w : World} {base n c : Nat} {A : Option Addr} {vs : List CV} {gs : List CSig} (h : OCS w base A n c vs gs) {k : Nat} {t : TypeId} {cs : Array Value} (hb : Blk w k t cs) (ht : t ≠ 104) : blk A ≠ some k := by
  intro hk
  obtain ⟨cs', h1, _⟩ := h.blk_ hk
  exact h1.ne_ hb (fun e => ht e.symm) rfl
theorem OCS.rcv {w : World} {base n c : Nat} {A : Option Addr} {vs : List CV} {gs : List CSig} (h : OCS w base A n c vs gs) : RCV w A n c vs gs := by
  obtain ⟨h1, h2, h3, h4⟩ := h
  rcases h3.2 with ⟨rfl, rfl, rfl⟩ | ⟨g, cs, rfl, hbg, hg, hnc, hcm, hcs, hsc, htake⟩
  · exact ⟨h1, h2, Nat.le_refl _, Nat.zero_le _, fun h => absurd h (Nat.lt_irrefl _), h4⟩
  · refine ⟨h1, h2, hnc, hcm, fun _ => ⟨_, rfl, fun j u hu => ?_⟩, h4⟩
    have hj : j < n * 4 := by
      rcases Nat.lt_or_ge j (n * 4) with k1 | k1
      · exact k1
      · rw [List.getElem?_eq_none (by rw [fm_len, h1]; exact k1)] at hu; cases hu
    rw [← htake, List.getElem?_take_of_lt hj, Array.getElem?_toList] at hu
    rw [add_plain]
    exact hg.cell hu
theorem cv_left (vs us : List CV) {j : Nat} (h : j < vs.length) : cv_ (vs ++ us) j = cv_ vs j := by unfold cv_; simp [List.getElem?_append_left h]
theorem cv_right (vs us : List CV) (j : Nat) : cv_ (vs ++ us) (vs.length + j) = cv_ us j := by unfold cv_; rw [List.getD_eq_getElem?_getD, List.getD_eq_getElem?_getD, List.getElem?_append_right (by omega), Nat.add_sub_cancel_left]
theorem cg_left (vs us : List CSig) {j : Nat} (h : j < vs.length) : cg_ (vs ++ us) j = cg_ vs j := by unfold cg_; simp [List.getElem?_append_left h]
theorem cg_right (vs us : List CSig) (j : Nat) : cg_ (vs ++ us) (vs.length + j) = cg_ us j := by unfold cg_; rw [List.getD_eq_getElem?_getD, List.getD_eq_getElem?_getD, List.getElem?_append_right (by omega), Nat.add_sub_cancel_left]
theorem run_app_cs (ty : TypeId) {w : World} {base n c : Nat} {A : Option Addr} {vs us : List CV} {gs hs : List CSig} (hown : OCS w base A n c vs gs) {B : Option Addr} {m d : Nat} (hx : RCV w B m d us hs) (hnm : n + m ≤ 1000000) (hbase : base ≤ w.heap.size) (hm : 0 < m) :
    ∃ A' c' w', (Builtin.append_ #[55, 55] ty #[.slice A n c, .slice B m d]).run Try.prog w = .ok (.slice A' (n + m) c') w' ∧ OCS w' base A' (n + m) c' (vs ++ us) (gs ++ hs) ∧ w.grownBy w' (blk A) ∧ (blk A' = blk A ∨ blk A' = some w.heap.size) := by
  obtain ⟨ad, rfl, hc⟩ := hx.cells hm
  obtain ⟨h1, h2, h3, h4⟩ := hown
  obtain ⟨A', c', w', k1, k2, k3, k4⟩ := run_app_cz ty h3 (m := m) (d := d) (by rw [fm_len, hx.lv]) hc (fm_one us) (fm_shape us) hnm hbase hm
  have stay : ∀ v g, CVR w v g → CVR w' v g := by
    intro v g hv
    cases hA : blk A with
    | none =>
      rw [hA] at k3
      exact hv.ext ((Ext.refl w).then_grown k3 (fun b hb => by cases hb))
    | some k =>
      rw [hA] at k3
      obtain ⟨cs, b1, b2⟩ := OCS.blk_ ⟨h1, h2, h3, h4⟩ hA
      exact hv.away b1 b2.nou8 b2.no3 k3
  refine ⟨A', c', w', k1, ⟨by rw [List.length_append, h1, hx.lv], by rw [List.length_append, h2, hx.lg], by rw [List.flatMap_append]; exact k2, fun j hj => ?_⟩, k3, k4⟩
  by_cases hjn : j < n
  · rw [cv_left _ _ (by omega), cg_left _ _ (by omega)]
    exact stay _ _ (h4 j hjn)
  · have e1 := cv_right vs us (j - n)
    have e2 := cg_right gs hs (j - n)
    rw [h1, show n + (j - n) = j by omega] at e1
    rw [h2, show n + (j - n) = j by omega] at e2
    rw [e1, e2]
    exact stay _ _ (hx.each _ (by omega))
theorem appcs_law {ops : Array Oper} {rest : List Oper} {o : Oper} {a : Act} {Q : Exit → Act → World → Prop} {w : World} (hgd : o.guard = none) {s x : Operand} (ho : o.op = .call { callee := .builtin .append, args := #[s, x], argTypes := #[55, 55] })
    {A B : Option Addr} {n c m d : Nat} (hs : a.eval s = .slice A n c) (hx : a.eval x = .slice B m d) {base : Nat} {vs us : List CV} {gs hs_ : List CSig}
    (hown : OCS w base A n c vs gs) (hB : RCV w B m d us hs_) (hbase : base ≤ w.heap.size) (hnk : n + m ≤ 1000000) (hm : 0 < m)
    (h : ∀ A' c' w', OCS w' base A' (n + m) c' (vs ++ us) (gs ++ hs_) → w.grownBy w' (blk A) → wpList Try.prog ops Q rest (a.put o.dst (.slice A' (n + m) c')) w') : wpList Try.prog ops Q (o :: rest) a w := by
  obtain ⟨A', c', w', hrun, r1, r2, _⟩ := run_app_cs o.type hown hB hnk hbase hm
  refine run_law hgd (v := .slice A' (n + m) c') (w' := w') ?_ (h A' c' w' r1 r2)
  unfold execOp
  simp only [ho, resolve, invoke, builtin, Sem.run_bind, Sem.run_pure, Result.andThen_ok, List.map_toArray, List.map_cons, List.map_nil, hs, hx, hrun]
/-- one cosignature in a block of its own, as 'append' lays it -/
theorem RCV.one {w : World} {g : Nat} {wn k : Int} {P Q : Option Addr} {cp cq : Nat} {ps qs : List (List UInt8)} (hb : Blk w g 104 #[.int .i64 wn, .int .i64 k, .slice P 64 cp, .slice Q 4 cq]) (rP : RBB w P 64 cp ps) (rQ : RBB w Q 4 cq qs) :
    RCV w (some ⟨g, 0, none⟩) 1 1 [⟨wn, k, P, cp, Q, cq⟩] [⟨wn, k, ps, qs⟩] := by
  refine ⟨rfl, rfl, Nat.le_refl _, by unfold maxLen; omega, fun _ => ⟨_, rfl, fun j u hu => ?_⟩, fun j hj => ?_⟩
  · rw [add_plain]
    refine hb.cell ?_
    rw [← hu]
    show _ = (CV.cells ⟨wn, k, P, cp, Q, cq⟩ ++ [])[j]?
    rw [List.append_nil]
    exact List.getElem?_toArray
  · obtain rfl : j = 0 := by omega
    exact ⟨rfl, rfl, rP, rQ⟩
end Go.Proofs.Ytkndgpjamijbbaa
namespace Go.Proofs.Ytkndgpjamijbbaa
set_option maxRecDepth 100000
def nm (x y : Nat) : Nat := Nat.mod (Nat.add x y) (nat_lit 4294967296)
/-! the parts -/
/-! the rounds -/
end Go.Proofs.Ytkndgpjamijbbaa
namespace Go.Proofs.Ytkndgpjamijbbaa
set_option maxRecDepth 100000
open Go Go.RowKit
def seeds (n : Nat) : List (List UInt8) := (List.range n).map fun i => seedL ((i : Nat) : Int)
def keys (n : Nat) : List (List UInt8) := (List.range n).map fun j => ownP (lb (seeds n) j)
/-- a slice of two like cosignatures in a block of its own -/
theorem RCS.two {w : World} {b : Nat} {P Q : Option Addr} {np cp nq cq : Nat} {x k : Int} {PS QS : List (List UInt8)} {t : TypeId}
    (hB : Blk w b t #[.int .i64 x, .int .i64 k, .slice P np cp, .slice Q nq cq, .int .i64 x, .int .i64 k, .slice P np cp, .slice Q nq cq]) (rP : RBB w P np cp PS) (rQ : RBB w Q nq cq QS) :
    RCS w (some ⟨b, 0, none⟩) 2 2 [⟨x, k, PS, QS⟩, ⟨x, k, PS, QS⟩] := by
  refine ⟨rfl, Nat.le_refl _, small_maxLen (by decide), fun _ => ⟨_, rfl, fun j hj => ?_⟩⟩
  have h : j = 0 ∨ j = 1 := by omega
  rcases h with rfl | rfl
  · exact ⟨P, np, cp, Q, nq, cq, hB.cell (i := 0) rfl, hB.cell (i := 1) rfl, hB.cell (i := 2) rfl, hB.cell (i := 3) rfl, rP, rQ⟩
  · exact ⟨P, np, cp, Q, nq, cq, hB.cell (i := 4) rfl, hB.cell (i := 5) rfl, hB.cell (i := 6) rfl, hB.cell (i := 7) rfl, rP, rQ⟩
theorem RCS.one {w : World} {b : Nat} {P Q : Option Addr} {np cp nq cq : Nat} {x k : Int} {PS QS : List (List UInt8)} {t : TypeId}
    (hB : Blk w b t #[.int .i64 x, .int .i64 k, .slice P np cp, .slice Q nq cq]) (rP : RBB w P np cp PS) (rQ : RBB w Q nq cq QS) :
    RCS w (some ⟨b, 0, none⟩) 1 1 [⟨x, k, PS, QS⟩] := by
  refine ⟨rfl, Nat.le_refl _, small_maxLen (by decide), fun _ => ⟨_, rfl, fun j hj => ?_⟩⟩
  obtain rfl : j = 0 := by omega
  exact ⟨P, np, cp, Q, nq, cq, hB.cell (i := 0) rfl, hB.cell (i := 1) rfl, hB.cell (i := 2) rfl, hB.cell (i := 3) rfl, rP, rQ⟩
end Go.Proofs.Ytkndgpjamijbbaa
namespace Go.Proofs.Ytkndgpjamijbbaa
set_option maxRecDepth 100000
open Go Go.RowKit
theorem RBB.apart_cos {w : World} {A : Option Addr} {n c : Nat} {Ls : List (List UInt8)} (h : RBB w A n c Ls) (hn : 3 ≤ n) {g : Nat} {t : TypeId} {x k : Int} {P Q : Option Addr} {np cp nq cq : Nat} (hB : Blk w g t (cosC x k P np cp Q nq cq)) : blk A ≠ some g := by
  refine h.apart3 hB (fun i a b c h1 h2 h3 => ?_) hn
  unfold cosC at h1 h2 h3
  rcases i with _ | _ | i
  · injection h1 with h1
    subst h1
    rintro ⟨h4, _⟩
    exact Bool.false_ne_true h4
  · injection h1 with h1
    subst h1
    rintro ⟨h4, _⟩
    exact Bool.false_ne_true h4
  · simp at h3
theorem RBB.set4 {w : World} {A : Option Addr} {n c : Nat} {L : List (List UInt8)} (h : RBB w A n c L) (hn : 3 ≤ n) {g : Nat} {t : TypeId} {x k : Int} {P Q : Option Addr} {np cp nq cq : Nat} (hB : Blk w g t (cosC x k P np cp Q nq cq))
    (x' k' : Int) (P1 Q1 : Option Addr) (np1 cp1 nq1 cq1 : Nat) : RBB ((((w.setCell ⟨g, 0, none⟩ (.int .i64 x')).setCell ⟨g, 1, none⟩ (.int .i64 k')).setCell ⟨g, 2, none⟩ (.slice P1 np1 cp1)).setCell ⟨g, 3, none⟩ (.slice Q1 nq1 cq1)) A n c L := by
  have b0 : Blk (w.setCell ⟨g, 0, none⟩ (.int .i64 x')) g t (cosC x' k P np cp Q nq cq) := hB.set 0 _
  have b1 : Blk _ g t (cosC x' k' P np cp Q nq cq) := b0.set 1 (.int .i64 k')
  have b2 : Blk _ g t (cosC x' k' P1 np1 cp1 Q nq cq) := b1.set 2 (.slice P1 np1 cp1)
  have h0 := h.away hB (cos_no _ _ _ _ _ _ _ _) (grown_set w ⟨g, 0, none⟩ (.int .i64 x')) (fun _ => h.apart_cos hn hB)
  have h1 := h0.away b0 (cos_no _ _ _ _ _ _ _ _) (grown_set _ ⟨g, 1, none⟩ (.int .i64 k')) (fun _ => h0.apart_cos hn b0)
  have h2 := h1.away b1 (cos_no _ _ _ _ _ _ _ _) (grown_set _ ⟨g, 2, none⟩ (.slice P1 np1 cp1)) (fun _ => h1.apart_cos hn b1)
  exact h2.away b2 (cos_no _ _ _ _ _ _ _ _) (grown_set _ ⟨g, 3, none⟩ (.slice Q1 nq1 cq1)) (fun _ => h2.apart_cos hn b2)
end Go.Proofs.Ytkndgpjamijbbaa
namespace Go.Proofs.Ytkndgpjamijbbaa
set_option maxRecDepth 100000
open Go Go.RowKit
theorem run_idx_sl4 {P : Program} {w : World} {t e : TypeId} {i0 : TypeInfo} (ht : P.underlying t = some (.slice e)) (hi : P.info? e = some i0) (hs : i0.size = 4) {ad : Addr} {n c : Nat} {k : IntKind} {i : Int} (j : Nat) (hj : i = (j : Int)) (h1 : j < n) :
    (Instr.indexAt t (.slice (some ad) n c) (.int k i)).run P w = .ok (.pointer (some (ad.add (j * 4)))) w := by
  subst hj
  have := run_idx_sl (P := P) (w := w) ht hi hs (ad := ad) (n := n) (c := c) (k := k) (i := (j : Int)) (by omega) (by omega)
  simpa using this
noncomputable def infC : TypeInfo := (Try.prog.info? 104).getD default
theorem infC_eq : Try.prog.info? 104 = some infC := by kernel_rfl
theorem infC_size : infC.size = 4 := by kernel_rfl
structure DRec where
  who : Int
  said : Int
  ix : Int
  ot : Bool
def dz : DRec := ⟨0, 0, 0, false⟩
def dr_ (ds : List DRec) (j : Nat) : DRec := ds.getD j dz
def inR (x : Int) : Prop := -9223372036854775808 ≤ x ∧ x ≤ 9223372036854775807
/-- a slice of draws that is read -/
structure RDS (w : World) (A : Option Addr) (n c : Nat) (ds : List DRec) : Prop where
  len : ds.length = n
  room : n ≤ c
  cap : c ≤ maxLen
  cells : 0 < n → ∃ ad, A = some ad ∧ ∀ j, j < n → w.cell? (ad.add (j * 4)) = some (.int .i64 (dr_ ds j).who) ∧ w.cell? ((ad.add (j * 4)).add 1) = some (.int .i64 (dr_ ds j).said) ∧
    w.cell? ((ad.add (j * 4)).add 2) = some (.int .i64 (dr_ ds j).ix) ∧ w.cell? ((ad.add (j * 4)).add 3) = some (.bool (dr_ ds j).ot) ∧ inR (dr_ ds j).who ∧ inR (dr_ ds j).said ∧ inR (dr_ ds j).ix
theorem RDS.ext {w w' : World} {A : Option Addr} {n c : Nat} {ds : List DRec} (h : RDS w A n c ds) (e : Ext w w') : RDS w' A n c ds :=
  ⟨h.len, h.room, h.cap, fun hn => by
    obtain ⟨ad, ha, hc⟩ := h.cells hn
    refine ⟨ad, ha, fun j hj => ?_⟩
    obtain ⟨h1, h2, h3, h4, h5⟩ := hc j hj
    exact ⟨e.cell h1, e.cell h2, e.cell h3, e.cell h4, h5⟩⟩
theorem lenK {x : Int} {R : List UInt8} : (bodyC cosignL x R).length ≤ 1000000 := Nat.le_trans (bodyC_len _ _ _) (by decide)
def MadeI (w : World) (m : Nat) (x : Int) (B : Option Addr) (nb d : Nat) (i o : Value) (wr : World) : Prop :=
  ∃ (k cO : Nat) (O : Option Addr) (vs : List CV) (gs : List CSig), k ≤ m ∧ i = .int .i64 k ∧ o = .slice O k cO ∧ OCS wr w.heap.size O k cO vs gs ∧ Blk wr w.heap.size 54 #[.int .i64 x, .slice B nb d] ∧ Ext w wr
end Go.Proofs.Ytkndgpjamijbbaa

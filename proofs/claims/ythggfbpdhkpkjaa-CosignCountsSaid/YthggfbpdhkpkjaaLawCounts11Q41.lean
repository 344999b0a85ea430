/-
  Draws and policies that came in, in the words of the walks. Plain theorems. ref10's Count, walked. Append to an own row of cosignatures inside a region that draws its order. Plain theorems. CosignCounts: plain laws of what counts.
-/
import Derived.Lib.SmallJoins
import Derived.ChangeSlices
import Derived.ChangeArms
import Derived.Test.YthggfbpdhkpkjaaLawCounts11Q5
import Derived.Test.YthggfbpdhkpkjaaLawCounts11Q40
import Derived.Test.YthggfbpdhkpkjaaLawCounts11Q33
import Derived.Test.YthggfbpdhkpkjaaLawCounts11Q22
namespace Go.Proofs.Ythggfbpdhkpkjaa
set_option maxRecDepth 100000
open Go Go.RowKit Go.ChangeShapes Go.WideShapes Go.Deep
variable {H : Type} {enc : TypeId × Value → H} {w : World} {base : Nat} {held : Bool}
theorem draw_arg {n : Nat} {a : Addr} {cs : List Value} {y : DataW H × List MemPlace} (hcs : w.cells? base a 4 = some cs) (h : DataW.trod enc Try.prog w base (fun _ => true) held n 131 cs = some y) :
    ∃ d : DRec, w.cell? a = some (.int .i64 d.who) ∧ w.cell? (a.add 1) = some (.int .i64 d.said) ∧ w.cell? (a.add 2) = some (.int .i64 d.ix) ∧ w.cell? (a.add 3) = some (.bool d.ot) ∧ inR d.who ∧ inR d.said ∧ inR d.ix := by
  obtain ⟨_, hl, hc⟩ := World.cells?_some hcs
  obtain ⟨y0, y1, y2, y3, m, _, hlen, h0, h1, h2, h3⟩ := Go.Joins.trod_struct4 Try.underlying131 h
  have ki : Try.prog.cellsOf 3 = 1 := by kernel_rfl
  have kb : Try.prog.cellsOf 4 = 1 := by kernel_rfl
  have hn4 : cs.length = 4 := hl
  match cs, hn4 with
  | [c0, c1, c2, c3], _ =>
    simp only [ki, kb] at h0 h1 h2 h3
    obtain ⟨i0, e0, _, w0⟩ := DataW.trod_int Try.underlying3 h0
    obtain ⟨i1, e1, _, w1⟩ := DataW.trod_int Try.underlying3 h1
    obtain ⟨i2, e2, _, w2⟩ := DataW.trod_int Try.underlying3 h2
    obtain ⟨b3, e3, _⟩ := DataW.trod_bool Try.underlying4 h3
    simp at e0 e1 e2 e3
    subst e0 e1 e2 e3
    refine ⟨⟨i0, i1, i2, b3⟩, ?_, hc 1 (by omega), hc 2 (by omega), hc 3 (by omega), wf_i64 w0, wf_i64 w1, wf_i64 w2⟩
    exact hc 0 (by omega)
theorem draws_arg {fuel : Nat} {cs : List Value} {x : DataW H × List MemPlace} (h : DataW.trod enc Try.prog w base (fun _ => true) held fuel 82 cs = some x) :
    ∃ (A : Option Addr) (n c : Nat) (ds : List DRec), cs = [.slice A n c] ∧ RDS w A n c ds := by
  have h1 : Try.prog.cellsOf 131 = 4 := by kernel_rfl
  rcases DataW.trod_slice Try.underlying82 h with ⟨hcs, _⟩ | ⟨a, len, cap, elems, rest, n, _, rfl, rfl, hb, hl, hm, hlen, hel, hsp, hns⟩
  · exact ⟨none, 0, 0, [], hcs, ⟨rfl, Nat.le_refl _, Nat.zero_le _, fun h => absurd h (Nat.lt_irrefl _)⟩⟩
  · have each : ∀ i, i < len → ∃ d : DRec, w.cell? (a.add (i * 4)) = some (.int .i64 d.who) ∧ w.cell? ((a.add (i * 4)).add 1) = some (.int .i64 d.said) ∧ w.cell? ((a.add (i * 4)).add 2) = some (.int .i64 d.ix) ∧ w.cell? ((a.add (i * 4)).add 3) = some (.bool d.ot) ∧ inR d.who ∧ inR d.said ∧ inR d.ix := by
      intro i hi
      have hy := hel i hi
      rw [h1, List.getElem?_eq_getElem (by omega), Option.bind_eq_some_iff] at hy
      obtain ⟨cs', hcs, hy'⟩ := hy
      exact draw_arg hcs hy'
    have pick : ∃ f : Nat → DRec, ∀ i, i < len → w.cell? (a.add (i * 4)) = some (.int .i64 (f i).who) ∧ w.cell? ((a.add (i * 4)).add 1) = some (.int .i64 (f i).said) ∧ w.cell? ((a.add (i * 4)).add 2) = some (.int .i64 (f i).ix) ∧ w.cell? ((a.add (i * 4)).add 3) = some (.bool (f i).ot) ∧ inR (f i).who ∧ inR (f i).said ∧ inR (f i).ix :=
      ⟨fun i => if h : i < len then (each i h).choose else dz, fun i hi => by
        have e : (if h : i < len then (each i h).choose else dz) = (each i hi).choose := dif_pos hi
        simp only [e]
        exact (each i hi).choose_spec⟩
    obtain ⟨f, hf⟩ := pick
    refine ⟨some a, len, cap, (List.range len).map f, rfl, ⟨by simp, hl, hm, fun _ => ⟨a, rfl, fun j hj => ?_⟩⟩⟩
    have e : dr_ ((List.range len).map f) j = f j := by simp [dr_, hj]
    rw [e]
    exact hf j hj
end Go.Proofs.Ythggfbpdhkpkjaa
namespace Go.Proofs.Ythggfbpdhkpkjaa
set_option maxRecDepth 100000
open Go Go.RowKit
theorem load_cs {w : World} {p : Addr} {v0 v1 v2 v3 : Value} (h0 : w.cell? p = some v0) (h1 : w.cell? (p.add 1) = some v1) (h2 : w.cell? (p.add 2) = some v2) (h3 : w.cell? (p.add 3) = some v3) :
    (Instr.loadAt 69 (.pointer (some p))).run Try.prog w = .ok (.agg #[v0, v1, v2, v3]) w := by
  have e1 : w.cell? ⟨p.block, p.off + 1, none⟩ = some v1 := h1
  have e2 : w.cell? ⟨p.block, p.off + 2, none⟩ = some v2 := h2
  have e3 : w.cell? ⟨p.block, p.off + 3, none⟩ = some v3 := h3
  go_simp
theorem cosB_in {LG : List UInt8} {Ws : List (List UInt8)} {q x : Int} {R : List UInt8} {wn k : Int} {Ps Qs : List (List UInt8)} (h : cosB LG Ws q x R wn k Ps Qs = true) : 0 ≤ wn ∧ wn < 4 ∧ wn < (Ws.length : Int) := by
  unfold cosB polB at h
  simp only [Bool.and_eq_true, decide_eq_true_eq] at h
  omega
end Go.Proofs.Ythggfbpdhkpkjaa
namespace Go.Proofs.Ythggfbpdhkpkjaa
set_option maxRecDepth 100000
open Go Go.RowKit
/-- nothing was turned but, perhaps, what lies behind place n of an own row of cosignatures -/
def ApZ (b n : Nat) (w w' : World) : Prop := Ext w w' ∨ ∃ g cs cs', b ≤ g ∧ Blk w g 69 cs ∧ ShapeL cs.toList ∧ Blk w' g 69 cs' ∧ ShapeL cs'.toList ∧ cs'.size = cs.size ∧ cs'.toList.take (n * 4) = cs.toList.take (n * 4) ∧ w.grownBy w' (some g)
theorem ApZ.ext_ {a w w' : World} {b n : Nat} (h : ApZ b n w w') (e : Ext a w) (hb : a.heap.size ≤ b) : Ext a w' := by
  rcases h with h | ⟨g, cs, cs', h1, _, _, _, _, _, _, h2⟩
  · exact e.trans h
  · exact e.then_grown h2 (by intro k hk; cases hk; omega)
theorem CVR.apz {w w' : World} {b n : Nat} {v : CV} {g : CSig} (h : CVR w v g) (e : ApZ b n w w') : CVR w' v g := by
  rcases e with e | ⟨g, cs, cs', _, h2, h3, _, _, _, _, h8⟩
  · exact h.ext e
  · exact h.away h2 h3.nou8 h3.no3 h8
theorem OCS.apz {w w' : World} {b n' base n c : Nat} {A : Option Addr} {vs : List CV} {gs : List CSig} (h : OCS w base A n c vs gs) (e : ApZ b n' w w') (hn : n ≤ n') : OCS w' base A n c vs gs := by
  obtain ⟨h1, h2, h3, h4⟩ := h
  refine ⟨h1, h2, ?_, fun j hj => (h4 j hj).apz e⟩
  rcases e with e | ⟨g, cs, cs', k1, k2, k3, k4, k5, k6, k7, k8⟩
  · exact h3.ext e
  · refine ⟨h3.1, ?_⟩
    rcases h3.2 with z | ⟨g0, cs0, rfl, b1, b2, b3, b4, b5, b6, b7⟩
    · exact .inl z
    · by_cases hg : g0 = g
      · subst hg
        unfold Blk at b2 k2
        rw [k2] at b2
        injection b2 with b2
        injection b2 with b2
        subst b2
        refine .inr ⟨g0, cs', rfl, b1, k4, b3, b4, k6.trans b5, k5, ?_⟩
        rw [← b7]
        have e1 := congrArg (List.take (n * 4)) k7
        rw [List.take_take, List.take_take, Nat.min_eq_left (by omega)] at e1
        exact e1
      · exact .inr ⟨g0, cs0, rfl, b1, b2.grown k8 (fun e => by injection e with e; exact hg e), b3, b4, b5, b6, b7⟩
theorem run_app_cz2 (ty : TypeId) {w : World} {base n c : Nat} {A : Option Addr} {xs : List Value} (hown : OwZ w base A n c xs) {ad : Addr} {m d : Nat} {news : List Value} (hl : news.length = m * 4) (hnews : ∀ j u, news[j]? = some u → w.cell? (ad.add j) = some u) (h1 : ∀ u ∈ news, u.oneCell' = true) (hsh : ShapeL news) (hnm : n + m ≤ 1000000) (hbase : base ≤ w.heap.size) (hm : 0 < m) :
    ∃ A' c' w', (Builtin.append_ #[67, 67] ty #[.slice A n c, .slice (some ad) m d]).run Try.prog w = .ok (.slice A' (n + m) c') w' ∧ OwZ w' base A' (n + m) c' (xs ++ news) ∧ ApZ base n w w' := by
  obtain ⟨i0, hi0, hz0, hz1, hz2⟩ := info_parts info_cs
  have hzs : (Value.cells (.agg zcs)) = zcs := rfl
  have hzn : zcs.size = 4 := rfl
  have hl1 := hown.1
  have hlen : (xs ++ news).length = (n + m) * 4 := by rw [List.length_append, hl1, hl]; omega
  have grown : ∀ (old : Nat), old < n + m →
      OwZ (w.drew.alloc (.cells (xs.toArray ++ news.toArray ++ Builtin.zeroCells zcs (grownCap w (n + m) old 69 - (n + m))) 69)) base (some ⟨w.heap.size, 0, none⟩) (n + m) (grownCap w (n + m) old 69) (xs ++ news) ∧
      Ext w (w.drew.alloc (.cells (xs.toArray ++ news.toArray ++ Builtin.zeroCells zcs (grownCap w (n + m) old 69 - (n + m))) 69)) := by
    intro old ho
    have hge := grownCap_ge w (n + m) old 69
    have hcm : grownCap w (n + m) old 69 ≤ maxLen := grownCap_le_maxLen w (n + m) old 69 (small_maxLen hnm)
    generalize grownCap w (n + m) old 69 = gc at *
    refine ⟨⟨hlen, .inr ⟨w.heap.size, _, rfl, hbase, heap_alloc_new w.drew _, hge, hcm, ?_, ?_, ?_⟩⟩, ((Ext.refl w).drew).alloc _⟩
    · simp only [Array.size_append, List.size_toArray, size_zeroCells, hzn, hl1, hl]
      omega
    · simp only [Array.toList_append]
      refine ShapeL.app (ShapeL.app ?_ hsh (by rw [hl1]; omega)) (zero_shape _) (by rw [List.length_append, hl1, hl]; omega)
      rcases hown.2 with ⟨_, h0, _⟩ | ⟨g, cs, _, _, _, _, _, _, k7, k8⟩
      · rw [List.eq_nil_of_length_eq_zero (show xs.length = 0 by rw [hl1, h0])]
        exact ShapeL.nil
      · rw [← k8]
        exact k7.take _
    · simp only [Array.toList_append]
      rw [← hlen]
      exact List.take_left
  rcases hown.2 with ⟨rfl, rfl, rfl⟩ | ⟨g, cs, rfl, hbg, hg, hnc, hcm, hcs, hsc, htake⟩
  · have hx : xs = [] := List.eq_nil_of_length_eq_zero (by rw [hl1])
    subst hx
    have hr := run_append_nil (P := Try.prog) w 67 ty 69 i0 (.agg zcs) Try.underlying67 hi0 hz0 ad m d news (by rw [hl, hz1]) hnews hm (by omega) (by rw [hz2]; omega)
    have hgr := grown 0 (by omega)
    simp only [Nat.zero_add, List.nil_append, Array.empty_append] at hgr ⊢
    exact ⟨_, _, _, hr, hgr.1, .inl hgr.2⟩
  · by_cases hroom : n + m ≤ c
    · have hfit : n * i0.size + news.length ≤ cs.size := by rw [hl, hcs, hz1]; omega
      have hr := run_append_room (P := Try.prog) w 67 ty 69 i0 Try.underlying67 hi0 g n c cs hg ad m d news (by rw [hl, hz1]) hnews h1 hroom hfit
      rw [hz1] at hr hfit
      have hsh' : ShapeL (cs.toList.take (n * 4) ++ news ++ cs.toList.drop (n * 4 + news.length)) := by
        have h4 : (cs.toList.take (n * 4)).length % 4 = 0 := by simp only [List.length_take, Array.length_toList]; omega
        refine ShapeL.app (ShapeL.app (hsc.take _) hsh h4) (hsc.drop _ (by omega)) ?_
        simp only [List.length_append, List.length_take, Array.length_toList]
        omega
      have hsz' : (cs.toList.take (n * 4) ++ news ++ cs.toList.drop (n * 4 + news.length)).length = cs.size := by
        simp only [List.length_append, List.length_take, List.length_drop, Array.length_toList]
        omega
      refine ⟨_, _, _, hr, ⟨hlen, .inr ⟨g, _, rfl, hbg, setRow_heap w g cs _ _ _ hg, hroom, hcm, ?_, hsh', ?_⟩⟩, .inr ⟨g, cs, _, hbg, hg, hsc, setRow_heap w g cs _ _ _ hg, hsh', ?_, ?_, ⟨rfl, rfl, rfl, by simp, fun k _ hk => setRow_other w g k _ (fun e => hk (by simp [e]))⟩⟩⟩
      · rw [List.size_toArray, hsz']; exact hcs
      · rw [htake, ← hlen]
        exact List.take_left
      · rw [List.size_toArray, hsz']
      · rw [List.append_assoc]
        exact List.take_left' (by simp only [List.length_take, Array.length_toList]; omega)
    · have holds : ∀ j u, xs[j]? = some u → w.cell? ((⟨g, 0, none⟩ : Addr).add j) = some u := by
        intro j u hu
        have hj : j < n * 4 := by
          rcases Nat.lt_or_ge j (n * 4) with h1 | h1
          · exact h1
          · rw [List.getElem?_eq_none (by omega)] at hu; cases hu
        rw [← htake, List.getElem?_take_of_lt hj, Array.getElem?_toList] at hu
        rw [add_plain]
        exact hg.cell hu
      have hr := run_append_grow (P := Try.prog) w 67 ty 69 i0 (.agg zcs) Try.underlying67 hi0 hz0 ⟨g, 0, none⟩ n c xs (by rw [hl1, hz1]) holds ad m d news (by rw [hl, hz1]) hnews (by omega) (by omega) (growslice_fits (by omega) (by rw [hz2]; omega))
      have hgr := grown c (by omega)
      exact ⟨_, _, _, hr, hgr.1, .inl hgr.2⟩
theorem run_app_cs2 (ty : TypeId) {w : World} {base n c : Nat} {A : Option Addr} {vs us : List CV} {gs hs : List CSig} (hown : OCS w base A n c vs gs) {B : Option Addr} {m d : Nat} (hx : RCV w B m d us hs) (hnm : n + m ≤ 1000000) (hbase : base ≤ w.heap.size) :
    ∃ A' c' w', (Builtin.append_ #[67, 67] ty #[.slice A n c, .slice B m d]).run Try.prog w = .ok (.slice A' (n + m) c') w' ∧ OCS w' base A' (n + m) c' (vs ++ us) (gs ++ hs) ∧ ApZ base n w w' := by
  by_cases hm : 0 < m
  · obtain ⟨ad, rfl, hc⟩ := hx.cells hm
    obtain ⟨h1, h2, h3, h4⟩ := hown
    obtain ⟨A', c', w', k1, k2, k3⟩ := run_app_cz2 ty h3 (m := m) (d := d) (by rw [fm_len, hx.lv]) hc (fm_one us) (fm_shape us) hnm hbase hm
    refine ⟨A', c', w', k1, ⟨by rw [List.length_append, h1, hx.lv], by rw [List.length_append, h2, hx.lg], by rw [List.flatMap_append]; exact k2, fun j hj => ?_⟩, k3⟩
    by_cases hjn : j < n
    · rw [cv_left _ _ (by omega), cg_left _ _ (by omega)]
      exact (h4 j hjn).apz k3
    · have e1 := cv_right vs us (j - n)
      have e2 := cg_right gs hs (j - n)
      rw [h1, show n + (j - n) = j by omega] at e1
      rw [h2, show n + (j - n) = j by omega] at e2
      rw [e1, e2]
      exact (hx.each _ (by omega)).apz k3
  · obtain rfl : m = 0 := by omega
    have e1 : us = [] := List.eq_nil_of_length_eq_zero hx.lv
    have e2 : hs = [] := List.eq_nil_of_length_eq_zero hx.lg
    subst e1 e2
    rw [List.append_nil, List.append_nil]
    obtain ⟨i0, hi0, hz0, hz1, hz2⟩ := info_parts info_cs
    have hnc : n ≤ c := hown.rcv.room
    refine ⟨A, c, w, ?_, hown, .inl (Ext.refl w)⟩
    have e : (List.range' 0 0) = [] := rfl
    cases A <;> cases B <;> simp [Builtin.append_, run_underlying Try.underlying67, sizeOf, typeInfo, hi0, Builtin.lenOf, Builtin.firstCells, hnc, storeCells, loadCells, loadCellsFrom]
def MP.ocs (b n : Nat) (vs : List CV) (gs : List CSig) : MP Ext := ⟨fun u w => ∃ A c, u = .slice A n c ∧ OCS w b A n c vs gs, fun _ _ _ e ⟨A, c, h1, h2⟩ => ⟨A, c, h1, h2.ext e⟩⟩
def ZOK (b n : Nat) (m : MP Ext) : Prop := ∀ (u : Value) (w w' : World), ApZ b n w w' → m.p u w → m.p u w'
theorem zok_is (b n : Nat) (v : Value) : ZOK b n (MP.is v) := fun _ _ _ _ h => h
theorem zok_ocs {b n n' : Nat} (h : n' ≤ n) (vs : List CV) (gs : List CSig) : ZOK b n (MP.ocs b n' vs gs) := by
  rintro u w w' e ⟨A, c, h1, h2⟩
  exact ⟨A, c, h1, h2.apz e h⟩
section
variable {ops : Array Oper} {H : List Tmp} {F : List (MP Ext)} {a0 : Act} {w0 : World} {i : Nat} {K : List (Nat × Nat)} {o : Oper}
theorem stepZY {n j d : Nat} {b : Bool} (ho : o.guard = some (j, b)) (hj : dstAt ops j = some d) (hdep : (depsOf o).contains j = true) (hyes : ∀ v w, factAt F j v w → v = .bool b) (hi : apPairs K i o = true) (hst : ∀ j m, F[j]? = some m → j ≠ i → K.contains (j, i) = false → ZOK w0.heap.size n m)
    (h : ∀ (done : Nat → Bool) (a : Act) (w : World), Ext w0 w → (∀ j, (depsOf o).contains j = true → done j = true) → Known ops H F a0 done a w →
    Runs Try.prog o a.eval w fun v w' => ApZ w0.heap.size n w w' ∧ factAt F i v w') : StepOK Try.prog ops H F (JQ w0 K) a0 i o := by
  intro done a w hJ hnd hd hk
  have hd' := deps_done hd
  have hb := hyes _ _ (hk.fact j d hj (hd' j hdep))
  rw [if_pos (by simp [Region.wanted, ho, yielded_of hj hb])]
  refine (h done a w hJ.1 hd' hk).mono fun v w' hg => ⟨fun j hj u hu => ?_, hJ.set (hg.1.ext_ hJ.1 (Nat.le_refl _)) hi hd', hg.2⟩
  have hji : j ≠ i := fun e => by subst e; rw [hj] at hnd; cases hnd
  have hK : K.contains (j, i) = false := by
    cases hc : K.contains (j, i) with
    | false => rfl
    | true => have := hJ.2 j i hc hj; rw [hnd] at this; cases this
  unfold factAt at hu ⊢
  cases hm : F[j]? with
  | none => trivial
  | some mm => rw [hm] at hu; exact hst j mm hm hji hK u w w' hg.1 hu
end
theorem Runs.appcs {o : Oper} {ρ : Operand → Value} {w : World} {G : Value → World → Prop} {s x : Operand} {base n c : Nat} {A B : Option Addr} {m d : Nat} {vs us : List CV} {gs hs_ : List CSig} (ho : o.op = .call { callee := .builtin .append, args := #[s, x], argTypes := #[67, 67] })
    (hs : ρ s = .slice A n c) (hx : ρ x = .slice B m d) (hA : OCS w base A n c vs gs) (hr : RCV w B m d us hs_) (hbase : base ≤ w.heap.size) (hnm : n + m ≤ 1000000)
    (h : ∀ A' c' w', OCS w' base A' (n + m) c' (vs ++ us) (gs ++ hs_) → ApZ base n w w' → G (.slice A' (n + m) c') w') : Runs Try.prog o ρ w G := by
  obtain ⟨A', c', w', hrun, h1, h2⟩ := run_app_cs2 o.type hA hr hnm hbase
  refine Runs.of_run (r := .slice A' (n + m) c') (w' := w') ?_ (h A' c' w' h1 h2)
  unfold execOp
  simp only [ho, resolve, invoke, builtin, Sem.run_bind, Sem.run_pure, Result.andThen_ok, List.map_toArray, List.map_cons, List.map_nil, hs, hx, hrun]
end Go.Proofs.Ythggfbpdhkpkjaa
namespace Go.Proofs.Ythggfbpdhkpkjaa
set_option maxRecDepth 100000
open Go Go.RowKit
theorem seenL_rev (v : CSig → Bool) (gs : List CSig) (i : Nat) : seenL v gs.reverse i = seenL v gs i := by
  unfold seenL
  rw [List.any_reverse]
theorem seenL_dup (v : CSig → Bool) (gs : List CSig) (i : Nat) : seenL v ([] ++ gs ++ gs) i = seenL v gs i := by
  unfold seenL
  rw [List.nil_append, List.any_append, Bool.or_self]
theorem cntL_rev (v : CSig → Bool) (gs : List CSig) : cntL v gs.reverse = cntL v gs := cntL_same fun i _ => seenL_rev v gs i
theorem cntL_dup (v : CSig → Bool) (gs : List CSig) : cntL v ([] ++ gs ++ gs) = cntL v gs := cntL_same fun i _ => seenL_dup v gs i
/-- how many of the first witnesses have one -/
def cntTo (v : CSig → Bool) (gs : List CSig) : Nat → Int
  | 0 => 0
  | j + 1 => cntTo v gs j + b2i (seenL v gs j)
theorem cntTo_le (v : CSig → Bool) (gs : List CSig) (q : Nat) : 0 ≤ cntTo v gs q ∧ cntTo v gs q ≤ (q : Int) := by
  induction q with
  | zero => exact ⟨Int.le_refl _, Int.le_refl _⟩
  | succ q ih =>
    unfold cntTo b2i
    split <;> omega
theorem seen_none {LG : List UInt8} {Ws : List (List UInt8)} {q x : Int} {R : List UInt8} {gs : List CSig} {i : Nat} (h : Ws.length ≤ i) : seenL (fun g => cosB LG Ws q x R g.wn g.k g.ps g.qs) gs i = false := by
  unfold seenL
  rw [List.any_eq_false]
  intro g _ h2
  simp only [Bool.and_eq_true, decide_eq_true_eq] at h2
  have := cosB_in h2.2
  omega
theorem cntL_to {LG : List UInt8} {Ws : List (List UInt8)} {q x : Int} {R : List UInt8} {gs : List CSig} {n : Nat} (hn : Ws.length = n) (h4 : n ≤ 4) :
    cntL (fun g => cosB LG Ws q x R g.wn g.k g.ps g.qs) gs = cntTo (fun g => cosB LG Ws q x R g.wn g.k g.ps g.qs) gs n := by
  have hz := fun i (h : n ≤ i) => seen_none (LG := LG) (q := q) (x := x) (R := R) (gs := gs) (Ws := Ws) (i := i) (by omega)
  generalize (fun g : CSig => cosB LG Ws q x R g.wn g.k g.ps g.qs) = v at *
  have e0 : b2i false = 0 := rfl
  have hc : n = 0 ∨ n = 1 ∨ n = 2 ∨ n = 3 ∨ n = 4 := by omega
  unfold cntL
  rcases hc with rfl | rfl | rfl | rfl | rfl
  · rw [hz 0 (by omega), hz 1 (by omega), hz 2 (by omega), hz 3 (by omega)]; rfl
  · rw [hz 1 (by omega), hz 2 (by omega), hz 3 (by omega), e0]; simp only [cntTo]; omega
  · rw [hz 2 (by omega), hz 3 (by omega), e0]; simp only [cntTo]; omega
  · rw [hz 3 (by omega), e0]; simp only [cntTo]; omega
  · simp only [cntTo]; omega
theorem rev_take {α : Type} (l : List α) (k m : Nat) (hl : l.length = m) (hk : k < m) (d : α) : l.reverse.take (k + 1) = l.reverse.take k ++ [l.getD (m - 1 - k) d] := by
  rw [List.take_succ_eq_append_getElem (by rw [List.length_reverse]; omega)]
  congr 2
  rw [List.getElem_reverse]
  simp only [hl]
  rw [List.getD_eq_getElem?_getD, List.getElem?_eq_getElem (by omega)]
  rfl
theorem Runs.nilcs {o : Oper} {ρ : Operand → Value} {w : World} {G : Value → World → Prop} (ho : o.op = .buildSlice 67 0 #[])
    (h : ∀ w', Ext w w' → OCS w' w.heap.size (some ⟨w.heap.size, 0, none⟩) 0 0 [] [] → G (.slice (some ⟨w.heap.size, 0, none⟩) 0 0) w') : Runs Try.prog o ρ w G := by
  refine Runs.of_run (r := .slice (some ⟨w.heap.size, 0, none⟩) 0 0) (w' := w.alloc (.cells #[] 69)) ?_ (h _ (Ext.new _ _) ⟨rfl, rfl, ⟨rfl, .inr ⟨w.heap.size, #[], rfl, Nat.le_refl _, Blk.new _ _ _, Nat.le_refl _, Nat.zero_le _, rfl, ShapeL.nil, rfl⟩⟩, fun j hj => absurd hj (Nat.not_lt_zero _)⟩)
  unfold execOp
  simp only [ho]
  go_simp
end Go.Proofs.Ythggfbpdhkpkjaa

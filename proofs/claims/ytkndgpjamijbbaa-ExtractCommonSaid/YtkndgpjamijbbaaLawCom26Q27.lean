/-
  An own row of ints; extract's who, law26's by, walked.
-/
import Derived.Test.YtkndgpjamijbbaaLawCom26Q26
import Derived.Test.YtkndgpjamijbbaaLawCom26Q4
namespace Go.Proofs.Ytkndgpjamijbbaa
set_option maxRecDepth 100000
open Go Go.RowKit
def iv (xs : List Int) : List Value := xs.map fun x => Value.int .i64 x
def OI (w : World) (base : Nat) (A : Option Addr) (n c : Nat) (xs : List Int) : Prop := w.ownsRow base 3 1 (.slice A n c) n (iv xs)
theorem OI.len {w : World} {base n c : Nat} {A : Option Addr} {xs : List Int} (h : OI w base A n c xs) : xs.length = n := by
  have h1 : (iv xs).length = n * 1 := h.1
  unfold iv at h1
  rw [List.length_map] at h1
  omega
theorem OI.none_ (w : World) (base : Nat) : OI w base none 0 0 [] := World.ownsRow_nil w base _ _
theorem OI.ext {w w' : World} {base n c : Nat} {A : Option Addr} {xs : List Int} (h : OI w base A n c xs) (e : Ext w w') : OI w' base A n c xs :=
  World.ownsRow.kept h (e.grownBy none) (by cases hb : Value.ownBlock (.slice A n c) <;> simp)
theorem OI.lt {w : World} {base n c : Nat} {A : Option Addr} {xs : List Int} (h : OI w base A n c xs) {k : Nat} (hk : blk A = some k) : base ≤ k ∧ k < w.heap.size :=
  World.ownsRow.lt h k (by rw [ownBlock_slice]; exact hk)
theorem OI.grown {w w' : World} {base n c : Nat} {A : Option Addr} {xs : List Int} (h : OI w base A n c xs) {row : Option Nat} (e : w.grownBy w' row) (hne : blk A = none ∨ blk A ≠ row) : OI w' base A n c xs :=
  World.ownsRow.kept h e (by rw [ownBlock_slice]; exact hne)
/-- a slice that reads as ints -/
structure RIS (w : World) (A : Option Addr) (n c : Nat) (xs : List Int) : Prop where
  len : xs.length = n
  room : n ≤ c
  cap : c ≤ maxLen
  cells : 0 < n → ∃ ad, A = some ad ∧ ∀ j, j < n → w.cell? (ad.add j) = some (.int .i64 (xs.getD j 0))
theorem RIS.ext {w w' : World} {A : Option Addr} {n c : Nat} {xs : List Int} (h : RIS w A n c xs) (e : Ext w w') : RIS w' A n c xs :=
  ⟨h.len, h.room, h.cap, fun hn => by
    obtain ⟨ad, h1, h2⟩ := h.cells hn
    exact ⟨ad, h1, fun j hj => e.cell (h2 j hj)⟩⟩
theorem iv_get {xs : List Int} {j : Nat} (h : j < xs.length) : (iv xs)[j]? = some (.int .i64 (xs.getD j 0)) := by
  unfold iv
  simp [List.getElem?_eq_getElem h]
theorem OI.ris {w : World} {base n c : Nat} {A : Option Addr} {xs : List Int} (h : OI w base A n c xs) : RIS w A n c xs := by
  have hl := h.len
  rcases h.2 with ⟨e, h0⟩ | ⟨g, cap, cur, e, _, _, h1, h2, _⟩
  · injection e with e1 e2 e3
    subst e1 e2 e3
    exact ⟨hl, Nat.le_refl _, Nat.zero_le _, fun hn => absurd hn (by omega)⟩
  · injection e with e1 e2 e3
    subst e1 e3
    exact ⟨hl, h1, h2, fun _ => ⟨_, rfl, fun j hj => World.ownsRow.cells (g := g) h rfl j _ (iv_get (by omega))⟩⟩
theorem info_i64 : (Try.prog.info? 3).map (fun i => (i.zero, i.size, i.bytes)) = some (some (.int .i64 0), 1, 8) := by kernel_rfl
theorem appi_law {ops : Array Oper} {rest : List Oper} {o : Oper} {a : Act} {Q : Exit → Act → World → Prop} {w : World} (hgd : o.guard = none) {s x : Operand} (ho : o.op = .call { callee := .builtin .append, args := #[s, x], argTypes := #[49, 49] })
    {A : Option Addr} {n c : Nat} (hs : a.eval s = .slice A n c) {ad : Addr} (hx : a.eval x = .slice (some ad) 1 1) {base : Nat} {xs : List Int} {y : Int} (hcell : w.cell? (ad.add 0) = some (.int .i64 y))
    (hown : OI w base A n c xs) (hbase : base ≤ w.heap.size) (hnk : n + 1 ≤ 1000000)
    (h : ∀ A' c' w', OI w' base A' (n + 1) c' (xs ++ [y]) → w.grownBy w' (blk A) → wpList Try.prog ops Q rest (a.put o.dst (.slice A' (n + 1) c')) w') : wpList Try.prog ops Q (o :: rest) a w := by
  obtain ⟨i0, hi0, hz0, hz1, hz2⟩ := info_parts info_i64
  obtain ⟨v', w', hrun, r1, r2, _, r4⟩ := run_append_own_at (P := Try.prog) w base 49 o.type 3 i0 (.int .i64 0) 1 8 Try.underlying49 hi0 hz0 hz1 hz2 rfl (by decide) (.slice A n c) n (iv xs) hown ad 1 1 [.int .i64 y] rfl
    (by
      intro j u hu
      rcases j with _ | j
      · injection hu with hu
        subst hu
        exact hcell
      · cases hu) (by simp [Value.oneCell']) (small_maxLen hnk) (by omega) hbase
  obtain ⟨A', c', rfl⟩ : ∃ A' c', v' = .slice A' (n + 1) c' := by
    rcases r1.2 with ⟨_, h0⟩ | ⟨g, cap, _, rfl, _⟩
    · omega
    · exact ⟨_, cap, rfl⟩
  rw [ownBlock_slice] at r2
  refine run_law hgd (v := .slice A' (n + 1) c') (w' := w') ?_ (h A' c' w' (by unfold OI iv; rw [List.map_append]; exact r1) r2)
  unfold execOp
  simp only [ho, resolve, invoke, builtin, Sem.run_bind, Sem.run_pure, Result.andThen_ok, List.map_toArray, List.map_cons, List.map_nil, hs, hx, hrun]
def WhoI (w : World) (g3 g4 g6 gS : Nat) (po ch : Array Value) (v : CSig → Bool) (gs : List CSig) (i : Value) (wr : World) : Prop :=
  ∃ m : Nat, m ≤ gs.length ∧ i = .int .i64 m ∧ Blk wr gS 106 (boolsA (seenL v (gs.take m))) ∧ Blk wr g3 52 po ∧ Blk wr g4 54 ch ∧ Blk wr g6 106 #[.bool false, .bool false, .bool false, .bool false] ∧ Ext w wr
theorem seen_set {v : CSig → Bool} {gs : List CSig} {g : CSig} {j : Nat} (hw : g.wn = (j : Int)) (hv : v g = true) : seenL v (gs ++ [g]) j = true ∧ ∀ i, i < 4 → i ≠ j → seenL v (gs ++ [g]) i = seenL v gs i := by
  refine ⟨by rw [seenL_snoc, hv]; simp [hw], fun i _ hi => ?_⟩
  rw [seenL_snoc, hw]
  have : ¬ (j : Int) = (i : Int) := by omega
  simp [this]
set_option maxHeartbeats 16000000 in
theorem who_any (G A B L : Option Addr) (ng cg n c nb d nl cl : Nat) (q x : Int) (LG R : List UInt8) (Ws : List (List UInt8)) (gs : List CSig) (w : World) (rG : RB w G ng cg LG) (rW : RBB w A n c Ws) (rR : RB w B nb d R) (rL : RCS w L nl cl gs) :
    Calls Try.prog 69 #[.agg #[.slice G ng cg, .slice A n c, .int .i64 q], .agg #[.int .i64 x, .slice B nb d], .slice L nl cl] w fun e w' => e = .returned (.agg (boolsA (seenL (fun g => cosB LG Ws q x R g.wn g.k g.ps g.qs) gs))) ∧ Ext w w' := by
  obtain ⟨v, hv⟩ : ∃ v : CSig → Bool, v = fun g => cosB LG Ws q x R g.wn g.k g.ps g.qs := ⟨_, rfl⟩
  rw [← hv]
  have Hv := Lib.hid hv
  have hll := rL.len
  have Hll := Lib.hid hll
  have hcap := rL.cap
  have hroom := rL.room
  unfold maxLen at hcap
  clear hv hll
  have hE1 := Ext.new w (.cells #[.slice G ng cg, .slice A n c, .int .i64 q] 52)
  have hB3 := Blk.new w 52 #[.slice G ng cg, .slice A n c, .int .i64 q]
  obtain ⟨w1, hw1⟩ : ∃ w1, w1 = w.alloc (.cells #[.slice G ng cg, .slice A n c, .int .i64 q] 52) := ⟨_, rfl⟩
  have s1 : w1.heap.size = w.heap.size + 1 := by rw [hw1]; exact World.size_alloc _ _
  rw [← hw1] at hE1 hB3
  have hE2 := Ext.new w1 (.cells #[.int .i64 x, .slice B nb d] 54)
  have hB4 := Blk.new w1 54 #[.int .i64 x, .slice B nb d]
  obtain ⟨w2, hw2⟩ : ∃ w2, w2 = w1.alloc (.cells #[.int .i64 x, .slice B nb d] 54) := ⟨_, rfl⟩
  have s2 : w2.heap.size = w.heap.size + 1 + 1 := by rw [hw2, World.size_alloc, s1]
  rw [← hw2] at hE2 hB4
  have hE3 := Ext.new w2 (.cells #[.bool false, .bool false, .bool false, .bool false] 106)
  have hB6 := Blk.new w2 106 #[.bool false, .bool false, .bool false, .bool false]
  obtain ⟨w3, hw3⟩ : ∃ w3, w3 = w2.alloc (.cells #[.bool false, .bool false, .bool false, .bool false] 106) := ⟨_, rfl⟩
  have s3 : w3.heap.size = w.heap.size + 1 + 1 + 1 := by rw [hw3, World.size_alloc, s2]
  rw [← hw3] at hE3 hB6
  have hE4 := Ext.new w3 (.cells #[.bool false, .bool false, .bool false, .bool false] 106)
  have hBS := Blk.new w3 106 #[.bool false, .bool false, .bool false, .bool false]
  go_enter Try.func69, Try.ntmps69
  go_wp2_with fail
  rw [← hw1, ← hw2, ← hw3]
  clear hw1 hw2 hw3
  replace hB6 := hB6.ext hE4
  replace hB4 := (hB4.ext hE3).ext hE4
  replace hB3 := ((hB3.ext hE2).ext hE3).ext hE4
  have hEa := ((hE1.trans hE2).trans hE3).trans hE4
  clear hE1 hE2 hE3 hE4
  generalize w3.alloc (.cells #[.bool false, .bool false, .bool false, .bool false] 106) = w4 at *
  rw [s3] at hBS
  rw [s2] at hB6
  rw [s1] at hB4
  clear s1 s2 s3
  have hd1 : w.heap.size ≠ w.heap.size + 1 + 1 + 1 := by omega
  have hd2 : w.heap.size + 1 ≠ w.heap.size + 1 + 1 + 1 := by omega
  have hd3 : w.heap.size + 1 + 1 ≠ w.heap.size + 1 + 1 + 1 := by omega
  have hg6 : w.heap.size ≤ w.heap.size + 1 + 1 := by omega
  have hgS : w.heap.size ≤ w.heap.size + 1 + 1 + 1 := by omega
  generalize w.heap.size + 1 + 1 + 1 = gS at *
  generalize w.heap.size + 1 + 1 = g6 at *
  generalize w.heap.size + 1 = g4 at *
  obtain ⟨g3, hg⟩ : ∃ g3, g3 = w.heap.size := ⟨_, rfl⟩
  rw [← hg] at hB3 hd1 ⊢
  have Hg6 := Lib.hid hg6
  have HgS := Lib.hid hgS
  clear hg hg6 hgS
  replace hBS : Blk w4 gS 106 (boolsA (seenL v (gs.take 0))) := hBS
  go_loopw [12] (fun i wr => WhoI w g3 g4 g6 gS #[.slice G ng cg, .slice A n c, .int .i64 q] #[.int .i64 x, .slice B nb d] v gs i wr) (fun i _ => nl - (intOf i).toNat)
  case atStart => exact ⟨0, by omega, rfl, hBS, hB3, hB4, hB6, hEa⟩
  case round =>
    clear hBS hB3 hB4 hB6 hEa
    obtain ⟨m, hm, rfl, hBS, hB3, hB4, hB6, hEr⟩ := hrel
    rw [Hll.out] at hm
    by_cases hlt : m < nl
    · have hmi : (m : Int) < (nl : Int) := by omega
      have hsn := take_snoc_cg gs m (by rw [Hll.out]; exact hlt)
      have Hsn := Lib.hid hsn
      obtain ⟨ad, rfl, hcl⟩ := (rL.ext hEr).cells (by omega)
      obtain ⟨P, np, cp, Q, nq, cq, k0, k1, k2, k3, rP, rQ⟩ := hcl m hlt
      have hvg : v (cg_ gs m) = cosB LG Ws q x R (cg_ gs m).wn (cg_ gs m).k (cg_ gs m).ps (cg_ gs m).qs := by rw [Hv.out]
      clear hcl hsn
      generalize cg_ gs m = g at *
      obtain ⟨wn, k, PS, QS⟩ := g
      have Hvg := Lib.hid hvg
      clear hvg
      have hEn := Ext.new wr (.cells #[.int .i64 wn, .int .i64 k, .slice P np cp, .slice Q nq cq] 104)
      have hB12 := Blk.new wr 104 #[.int .i64 wn, .int .i64 k, .slice P np cp, .slice Q nq cq]
      have r1 : wr.cell? ⟨(ad.add (m * 4)).block, (ad.add (m * 4)).off + 1, none⟩ = some (.int .i64 k) := k1
      have r2 : wr.cell? ⟨(ad.add (m * 4)).block, (ad.add (m * 4)).off + 2, none⟩ = some (.slice P np cp) := k2
      have r3 : wr.cell? ⟨(ad.add (m * 4)).block, (ad.add (m * 4)).off + 3, none⟩ = some (.slice Q nq cq) := k3
      clear k1 k2 k3
      have hdS : wr.heap.size ≠ gS := by
        intro h
        have := hBS.lt
        omega
      have hd6 : wr.heap.size ≠ g6 := by
        intro h
        have := hB6.lt
        omega
      replace hBS := hBS.ext hEn
      replace hB3 := hB3.ext hEn
      replace hB4 := hB4.ext hEn
      replace hB6 := hB6.ext hEn
      replace hEr := hEr.trans hEn
      have y30 := hB3.cell (i := 0) (v := .slice G ng cg) rfl
      have y31 := hB3.cell (i := 1) (v := .slice A n c) rfl
      have y32 := hB3.cell (i := 2) (v := .int .i64 q) rfl
      have y40 := hB4.cell (i := 0) (v := .int .i64 x) rfl
      have y41 := hB4.cell (i := 1) (v := .slice B nb d) rfl
      have y120 := hB12.cell (i := 0) (v := .int .i64 wn) rfl
      have y121 := hB12.cell (i := 1) (v := .int .i64 k) rfl
      have y122 := hB12.cell (i := 2) (v := .slice P np cp) rfl
      have y123 := hB12.cell (i := 3) (v := .slice Q nq cq) rfl
      go_wp2_with fail
      have rG2 := rG.ext hEr
      have rW2 := rW.ext hEr
      have rR2 := rR.ext hEr
      replace rP := rP.ext hEn
      replace rQ := rQ.ext hEn
      clear r1 r2 r3 k0
      generalize wr.alloc (.cells #[.int .i64 wn, .int .i64 k, .slice P np cp, .slice Q nq cq] 104) = w1' at *
      generalize wr.heap.size = g12 at *
      refine (cosverify_any G A B P Q ng cg n c nb d np cp nq cq q x wn k LG R Ws PS QS w1' rG2 rW2 rR2 rP rQ).mono ?_
      rintro e w3 ⟨rfl, hE⟩
      clear rG2 rW2 rR2 rP rQ y30 y31 y32 y40 y41 y120 y121 y122 y123
      replace hBS := hBS.ext hE
      replace hB3 := hB3.ext hE
      replace hB4 := hB4.ext hE
      replace hB6 := hB6.ext hE
      replace hB12 := hB12.ext hE
      replace hEr := hEr.trans hE
      cases hcb : cosB LG Ws q x R wn k PS QS with
      | false =>
        have hcs := cnt_same (v := v) (gs := gs.take m) (g := ⟨wn, k, PS, QS⟩) (fun i hi _ h2 => by rw [Hvg.out, hcb] at h2; cases h2)
        rw [← Hsn.out] at hcs
        have Hcs := Lib.hid hcs
        clear hcs hcb Hvg
        go_wp2_with fail
        go_roundw
        case rel => exact ⟨m + 1, by rw [Hll.out]; omega, rfl, by rw [boolsA_eq Hcs.out]; exact hBS, hB3, hB4, hB6, hEr⟩
        case measure => simp [intOf]; omega
      | true =>
        have hin := cosB_in hcb
        obtain ⟨j, rfl⟩ : ∃ j : Nat, wn = (j : Int) := ⟨wn.toNat, by omega⟩
        have hj4 : j < 4 := by omega
        obtain ⟨c1, c2⟩ := seen_set (v := v) (gs := gs.take m) (g := ⟨(j : Int), k, PS, QS⟩) (j := j) rfl (Hvg.out.trans hcb)
        rw [← Hsn.out] at c1 c2
        have y0 := hB12.cell (i := 0) (v := .int .i64 (j : Int)) rfl
        have y5 := hBS.cell (boolsA_get (seenL v (gs.take m)) hj4)
        have hfj := hBS.frozen j
        have hset := hBS.set j (.bool true)
        rw [boolsA_set _ _ hj4 c1 c2] at hset
        have hB3' := hB3.far (p := ⟨gS, j, none⟩) hd1 (.bool true)
        have hB4' := hB4.far (p := ⟨gS, j, none⟩) hd2 (.bool true)
        have hB6' := hB6.far (p := ⟨gS, j, none⟩) hd3 (.bool true)
        have hEr' := hEr.set (p := ⟨gS, j, none⟩) HgS.out (.bool true)
        clear c1 c2 hin hcb Hvg
        go_wp2_with fail
        go_roundw
        case rel => exact ⟨m + 1, by rw [Hll.out]; omega, rfl, hset, hB3', hB4', hB6', hEr'⟩
        case measure => simp [intOf]; omega
    · obtain rfl : m = nl := by omega
      have hall : gs.take m = gs := List.take_of_length_le (by rw [Hll.out]; exact Nat.le_refl _)
      rw [hall] at hBS
      clear hall
      have fhB60 := hB6.frozen 0
      have fhB61 := hB6.frozen 1
      have fhB62 := hB6.frozen 2
      have fhB63 := hB6.frozen 3
      have xhB60 := hB6.cell (i := 0) rfl
      have xhB61 := hB6.cell (i := 1) rfl
      have xhB62 := hB6.cell (i := 2) rfl
      have xhB63 := hB6.cell (i := 3) rfl
      have z0 := hBS.cell (i := 0) (v := .bool (seenL v gs 0)) rfl
      have z1 := hBS.cell (i := 1) (v := .bool (seenL v gs 1)) rfl
      have z2 := hBS.cell (i := 2) (v := .bool (seenL v gs 2)) rfl
      have z3 := hBS.cell (i := 3) (v := .bool (seenL v gs 3)) rfl
      go_wp2_with fail
      have b3 := setall4 hB6 (.bool (seenL v gs 0)) (.bool (seenL v gs 1)) (.bool (seenL v gs 2)) (.bool (seenL v gs 3))
      have hEf := ext4 hEr Hg6.out (.bool (seenL v gs 0)) (.bool (seenL v gs 1)) (.bool (seenL v gs 2)) (.bool (seenL v gs 3))
      refine bodyPost_ret (results_cell_row rfl _ _ g6 _ _ _ _ rfl b3 Try.underlying106 rfl rfl) rfl ?_
      exact ⟨rfl, hEf⟩
def ByI (w1 : World) (v : CSig → Bool) (gs : List CSig) (i : Nat) (b : Value) (wr : World) : Prop := ∃ m : Nat, m ≤ gs.length ∧ b = .int .i64 m ∧ seenL v (gs.take m) i = false ∧ Ext w1 wr
theorem seen_more {v : CSig → Bool} {gs : List CSig} {i m : Nat} (h : seenL v (gs.take m) i = true) : seenL v gs i = true := by
  unfold seenL at h ⊢
  rw [List.any_eq_true] at h ⊢
  obtain ⟨g, hg, h2⟩ := h
  exact ⟨g, List.mem_of_mem_take hg, h2⟩
set_option maxHeartbeats 16000000 in
theorem by_any (G A B L : Option Addr) (ng cg n c nb d nl cl i : Nat) (q x : Int) (LG R : List UInt8) (Ws : List (List UInt8)) (gs : List CSig) (w : World) (rG : RB w G ng cg LG) (rW : RBB w A n c Ws) (rR : RB w B nb d R) (rL : RCS w L nl cl gs) :
    Calls Try.prog 31 #[.agg #[.slice G ng cg, .slice A n c, .int .i64 q], .agg #[.int .i64 x, .slice B nb d], .slice L nl cl, .int .i64 (i : Int)] w fun e w' => e = .returned (.bool (seenL (fun g => cosB LG Ws q x R g.wn g.k g.ps g.qs) gs i)) ∧ Ext w w' := by
  obtain ⟨v, hv⟩ : ∃ v : CSig → Bool, v = fun g => cosB LG Ws q x R g.wn g.k g.ps g.qs := ⟨_, rfl⟩
  rw [← hv]
  have Hv := Lib.hid hv
  have hll := rL.len
  have Hll := Lib.hid hll
  have hcap := rL.cap
  have hroom := rL.room
  unfold maxLen at hcap
  clear hv hll
  have hE1 := Ext.new w (.cells #[.slice G ng cg, .slice A n c, .int .i64 q] 52)
  have hB4 := Blk.new w 52 #[.slice G ng cg, .slice A n c, .int .i64 q]
  have hE2 := Ext.new (w.alloc (.cells #[.slice G ng cg, .slice A n c, .int .i64 q] 52)) (.cells #[.int .i64 x, .slice B nb d] 54)
  have hB5 := Blk.new (w.alloc (.cells #[.slice G ng cg, .slice A n c, .int .i64 q] 52)) 54 #[.int .i64 x, .slice B nb d]
  rw [World.size_alloc] at hB5
  replace hB4 := hB4.ext hE2
  have hEa := hE1.trans hE2
  go_enter Try.func31, Try.ntmps31
  go_wp2_with fail
  clear hE1 hE2
  generalize (w.alloc (.cells #[.slice G ng cg, .slice A n c, .int .i64 q] 52)).alloc (.cells #[.int .i64 x, .slice B nb d] 54) = w1 at *
  generalize w.heap.size + 1 = g5 at *
  obtain ⟨g4, hg⟩ : ∃ g4, g4 = w.heap.size := ⟨_, rfl⟩
  rw [← hg] at hB4 ⊢
  clear hg
  go_loopw [9] (fun b wr => ByI w1 v gs i b wr) (fun b _ => nl - (intOf b).toNat)
  case atStart => exact ⟨0, by omega, rfl, rfl, Ext.refl _⟩
  case round =>
    have HB4 := Lib.hid hB4
    have HB5 := Lib.hid hB5
    clear hB4 hB5
    obtain ⟨m, hm, rfl, hno, hEr⟩ := hrel
    rw [Hll.out] at hm
    have Hno := Lib.hid hno
    clear hno
    by_cases hlt : m < nl
    · have hmi : (m : Int) < (nl : Int) := by omega
      have hsn := take_snoc_cg gs m (by rw [Hll.out]; exact hlt)
      have Hsn := Lib.hid hsn
      have hEw := hEa.trans hEr
      obtain ⟨ad, rfl, hcl⟩ := (rL.ext hEw).cells (by omega)
      obtain ⟨P, np, cp, Q, nq, cq, k0, k1, k2, k3, rP, rQ⟩ := hcl m hlt
      have hvg : v (cg_ gs m) = cosB LG Ws q x R (cg_ gs m).wn (cg_ gs m).k (cg_ gs m).ps (cg_ gs m).qs := by rw [Hv.out]
      clear hcl hsn
      generalize cg_ gs m = g at *
      obtain ⟨wn, k, PS, QS⟩ := g
      have Hvg := Lib.hid hvg
      clear hvg
      have rG1 := rG.ext hEw
      have rW1 := rW.ext hEw
      have rR1 := rR.ext hEw
      have hB4 := HB4.out.ext hEr
      have hB5 := HB5.out.ext hEr
      go_upto_region 4 with (fail)
      by_cases hw : wn = (i : Int)
      · have Hw := Lib.hid hw
        replace hw : decide (wn = (i : Int)) = true := decide_eq_true hw
        cases hcb : cosB LG Ws q x R wn k PS QS with
        | true =>
          have hyes : seenL v gs i = true := seen_more (m := m + 1) (by rw [Hsn.out, seenL_snoc, Hvg.out, hcb]; simp [Hw.out])
          have Hy := Lib.hid hyes
          have Hcb := Lib.hid hcb
          clear hyes hcb
          refine par_ext (n := 16) (by kernel_rfl) [.is (.slice ((some ad)) (nl) (cl)), .is (.int .i64 ((m : Int))), .is (.pointer (some (ad.add (m * 4)))), .is (.pointer (some (ad.add (m * 4)))), .is (.int .i64 (wn)), .is (.int .i64 ((i : Int))), .is (.bool (true)), .is (.bool (true)), .is (.agg #[.slice (G) (ng) (cg), .slice (A) (n) (c), .int .i64 (q)]), .is (.agg #[.int .i64 (x), .slice (B) (nb) (d)]), .is (.slice ((some ad)) (nl) (cl)), .is (.int .i64 ((m : Int))), .is (.pointer (some (ad.add (m * 4)))), .is (.agg #[.int .i64 (wn), .int .i64 (k), .slice (P) (np) (cp), .slice (Q) (nq) (cq)]), .is (.bool (true)), .is (.bool (true))] rfl ⟨?_, ?_, ?_, ?_, ?_, ?_, ?_, ?_, ?_, ?_, ?_, ?_, ?_, ?_, ?_, ?_, trivial⟩ ?_
          · refine stepE rfl fun sdn sa sw sE sd sk => ?_
            have h2 : sa.eval (.tmp 2) = .slice ((some ad)) (nl) (cl) := sk.old 2 rfl
            exact Runs.move rfl h2 ⟨Ext.refl _, rfl⟩
          · refine stepE rfl fun sdn sa sw sE sd sk => ?_
            have h9 : sa.eval (.tmp 9) = .int .i64 ((m : Int)) := sk.old 9 rfl
            exact Runs.move rfl h9 ⟨Ext.refl _, rfl⟩
          · refine stepE rfl fun sdn sa sw sE sd sk => ?_
            have h16 : sa.eval (.tmp 16) = .slice ((some ad)) (nl) (cl) := sk.fact 0 16 rfl (sd 0 rfl)
            have h17 : sa.eval (.tmp 17) = .int .i64 ((m : Int)) := sk.fact 1 17 rfl (sd 1 rfl)
            exact Runs.idx rfl h16 h17 (run_idx_sl4 Try.underlying55 infC_eq infC_size (m) (by omega) (by omega)) ⟨Ext.refl _, rfl⟩
          · refine stepE rfl fun sdn sa sw sE sd sk => ?_
            have h18 : sa.eval (.tmp 18) = .pointer (some (ad.add (m * 4))) := sk.fact 2 18 rfl (sd 2 rfl)
            refine Runs.of_run (r := .pointer (some (ad.add (m * 4)))) (w' := sw) ?_ ⟨Ext.refl _, rfl⟩
            unfold execOp
            simp only [h18]
            go_simp
          · refine stepE rfl fun sdn sa sw sE sd sk => ?_
            have h19 : sa.eval (.tmp 19) = .pointer (some (ad.add (m * 4))) := sk.fact 3 19 rfl (sd 3 rfl)
            exact Runs.load rfl h19 (run_load1 Try.underlying3 rfl (sE.cell k0)) ⟨Ext.refl _, rfl⟩
          · refine stepE rfl fun sdn sa sw sE sd sk => ?_
            have h3 : sa.eval (.tmp 3) = .int .i64 ((i : Int)) := sk.old 3 rfl
            exact Runs.move rfl h3 ⟨Ext.refl _, rfl⟩
          · refine stepE rfl fun sdn sa sw sE sd sk => ?_
            have h20 : sa.eval (.tmp 20) = .int .i64 (wn) := sk.fact 4 20 rfl (sd 4 rfl)
            have h21 : sa.eval (.tmp 21) = .int .i64 ((i : Int)) := sk.fact 5 21 rfl (sd 5 rfl)
            exact Runs.bin rfl h20 h21 (by rfl) (bin_eql _ _ _ _) ⟨Ext.refl _, congrArg Value.bool (hw)⟩
          · refine stepE rfl fun sdn sa sw sE sd sk => ?_
            have h22 : sa.eval (.tmp 22) = .bool (true) := sk.fact 6 22 rfl (sd 6 rfl)
            exact Runs.move rfl h22 ⟨Ext.refl _, rfl⟩
          · refine stepY (j := 7) (d := 23) (b := true) rfl rfl rfl (fun v w h => h) fun sdn sa sw sE sd sk => ?_
            have h4 : sa.eval (.tmp 4) = .pointer (some ⟨g4, 0, none⟩) := sk.old 4 rfl
            exact Runs.load rfl h4 (load_part (hB4.ext sE) 0 (vs := [.slice (G) (ng) (cg), .slice (A) (n) (c), .int .i64 (q)]) rfl Try.underlying52 rfl (by kernel_rfl)) ⟨Ext.refl _, rfl⟩
          · refine stepY (j := 7) (d := 23) (b := true) rfl rfl rfl (fun v w h => h) fun sdn sa sw sE sd sk => ?_
            have h5 : sa.eval (.tmp 5) = .pointer (some ⟨g5, 0, none⟩) := sk.old 5 rfl
            exact Runs.load rfl h5 (load_part (hB5.ext sE) 0 (vs := [.int .i64 (x), .slice (B) (nb) (d)]) rfl Try.underlying54 rfl (by kernel_rfl)) ⟨Ext.refl _, rfl⟩
          · refine stepY (j := 7) (d := 23) (b := true) rfl rfl rfl (fun v w h => h) fun sdn sa sw sE sd sk => ?_
            have h2 : sa.eval (.tmp 2) = .slice ((some ad)) (nl) (cl) := sk.old 2 rfl
            exact Runs.move rfl h2 ⟨Ext.refl _, rfl⟩
          · refine stepY (j := 7) (d := 23) (b := true) rfl rfl rfl (fun v w h => h) fun sdn sa sw sE sd sk => ?_
            have h9 : sa.eval (.tmp 9) = .int .i64 ((m : Int)) := sk.old 9 rfl
            exact Runs.move rfl h9 ⟨Ext.refl _, rfl⟩
          · refine stepY (j := 7) (d := 23) (b := true) rfl rfl rfl (fun v w h => h) fun sdn sa sw sE sd sk => ?_
            have h26 : sa.eval (.tmp 26) = .slice ((some ad)) (nl) (cl) := sk.fact 10 26 rfl (sd 10 rfl)
            have h27 : sa.eval (.tmp 27) = .int .i64 ((m : Int)) := sk.fact 11 27 rfl (sd 11 rfl)
            exact Runs.idx rfl h26 h27 (run_idx_sl4 Try.underlying55 infC_eq infC_size (m) (by omega) (by omega)) ⟨Ext.refl _, rfl⟩
          · refine stepY (j := 7) (d := 23) (b := true) rfl rfl rfl (fun v w h => h) fun sdn sa sw sE sd sk => ?_
            have h28 : sa.eval (.tmp 28) = .pointer (some (ad.add (m * 4))) := sk.fact 12 28 rfl (sd 12 rfl)
            exact Runs.load rfl h28 (load_cs (sE.cell k0) (sE.cell k1) (sE.cell k2) (sE.cell k3)) ⟨Ext.refl _, rfl⟩
          · refine stepY (j := 7) (d := 23) (b := true) rfl rfl rfl (fun v w h => h) fun sdn sa sw sE sd sk => ?_
            have h24 : sa.eval (.tmp 24) = .agg #[.slice (G) (ng) (cg), .slice (A) (n) (c), .int .i64 (q)] := sk.fact 8 24 rfl (sd 8 rfl)
            have h25 : sa.eval (.tmp 25) = .agg #[.int .i64 (x), .slice (B) (nb) (d)] := sk.fact 9 25 rfl (sd 9 rfl)
            have h29 : sa.eval (.tmp 29) = .agg #[.int .i64 (wn), .int .i64 (k), .slice (P) (np) (cp), .slice (Q) (nq) (cq)] := sk.fact 13 29 rfl (sd 13 rfl)
            refine Runs.call (f := 68) (vs := [.agg #[.slice (G) (ng) (cg), .slice (A) (n) (c), .int .i64 (q)], .agg #[.int .i64 (x), .slice (B) (nb) (d)], .agg #[.int .i64 (wn), .int .i64 (k), .slice (P) (np) (cp), .slice (Q) (nq) (cq)]]) rfl rfl rfl (by simp only [List.map_toArray, List.map_cons, List.map_nil, h24, h25, h29] <;> rfl) (ent68 _ _) ((rcosigned_any _ _ _ _ _ _ _ _ _ _ _ _ _ _ _ _ _ _ _ _ _ _ _ _ sw (rG1.ext sE) (rW1.ext sE) (rR1.ext sE) (rP.ext sE) (rQ.ext sE)).mono ?_); rintro e w' ⟨rfl, hx⟩; exact ⟨_, rfl, hx, congrArg Value.bool (Hcb.out)⟩
          · refine stepE rfl fun sdn sa sw sE sd sk => ?_
            have h23 : sa.eval (.tmp 23) = .bool (true) := sk.fact 7 23 rfl (sd 7 rfl)
            have h30 : sa.eval (.tmp 30) = .bool (true) := sk.fact 14 30 rfl (sd 14 rfl)
            exact Runs.pick rfl h23 ⟨Ext.refl _, by first | exact h30 | simpa using h30⟩
          intro vals W4 hE4 hv4
          have e0 : vals 0 = .slice ((some ad)) (nl) (cl) := hv4 0 (by omega) 16 rfl
          have e1 : vals 1 = .int .i64 ((m : Int)) := hv4 1 (by omega) 17 rfl
          have e2 : vals 2 = .pointer (some (ad.add (m * 4))) := hv4 2 (by omega) 18 rfl
          have e3 : vals 3 = .pointer (some (ad.add (m * 4))) := hv4 3 (by omega) 19 rfl
          have e4 : vals 4 = .int .i64 (wn) := hv4 4 (by omega) 20 rfl
          have e5 : vals 5 = .int .i64 ((i : Int)) := hv4 5 (by omega) 21 rfl
          have e6 : vals 6 = .bool (true) := hv4 6 (by omega) 22 rfl
          have e7 : vals 7 = .bool (true) := hv4 7 (by omega) 23 rfl
          have e8 : vals 8 = .agg #[.slice (G) (ng) (cg), .slice (A) (n) (c), .int .i64 (q)] := hv4 8 (by omega) 24 rfl
          have e9 : vals 9 = .agg #[.int .i64 (x), .slice (B) (nb) (d)] := hv4 9 (by omega) 25 rfl
          have e10 : vals 10 = .slice ((some ad)) (nl) (cl) := hv4 10 (by omega) 26 rfl
          have e11 : vals 11 = .int .i64 ((m : Int)) := hv4 11 (by omega) 27 rfl
          have e12 : vals 12 = .pointer (some (ad.add (m * 4))) := hv4 12 (by omega) 28 rfl
          have e13 : vals 13 = .agg #[.int .i64 (wn), .int .i64 (k), .slice (P) (np) (cp), .slice (Q) (nq) (cq)] := hv4 13 (by omega) 29 rfl
          have e14 : vals 14 = .bool (true) := hv4 14 (by omega) 30 rfl
          have e15 : vals 15 = .bool (true) := hv4 15 (by omega) 31 rfl
          simp only [putAll, Act.put, List.take_succ_cons, List.take_zero, List.drop_succ_cons, List.drop_zero, List.drop_nil, List.take_nil, Nat.reduceAdd, List.setIfInBounds_toArray, List.set_cons_succ, List.set_cons_zero, e0, e1, e2, e3, e4, e5, e6, e7, e8, e9, e10, e11, e12, e13, e14, e15]
          clear hv4 e0 e1 e2 e3 e4 e5 e6 e7 e8 e9 e10 e11 e12 e13 e14 e15
          clear hw rG1 rW1 rR1 rP rQ k0 k1 k2 k3 hB4 hB5
          go_wp2_with fail
          go_ret
          rw [Hy.out]
          exact ⟨rfl, hEw.trans hE4⟩
        | false =>
          have hno : seenL v (gs.take (m + 1)) i = false := by rw [Hsn.out, seenL_snoc, Hvg.out, hcb, Hno.out]; simp
          have Hn := Lib.hid hno
          have Hcb := Lib.hid hcb
          clear hno hcb
          refine par_ext (n := 16) (by kernel_rfl) [.is (.slice ((some ad)) (nl) (cl)), .is (.int .i64 ((m : Int))), .is (.pointer (some (ad.add (m * 4)))), .is (.pointer (some (ad.add (m * 4)))), .is (.int .i64 (wn)), .is (.int .i64 ((i : Int))), .is (.bool (true)), .is (.bool (true)), .is (.agg #[.slice (G) (ng) (cg), .slice (A) (n) (c), .int .i64 (q)]), .is (.agg #[.int .i64 (x), .slice (B) (nb) (d)]), .is (.slice ((some ad)) (nl) (cl)), .is (.int .i64 ((m : Int))), .is (.pointer (some (ad.add (m * 4)))), .is (.agg #[.int .i64 (wn), .int .i64 (k), .slice (P) (np) (cp), .slice (Q) (nq) (cq)]), .is (.bool (false)), .is (.bool (false))] rfl ⟨?_, ?_, ?_, ?_, ?_, ?_, ?_, ?_, ?_, ?_, ?_, ?_, ?_, ?_, ?_, ?_, trivial⟩ ?_
          · refine stepE rfl fun sdn sa sw sE sd sk => ?_
            have h2 : sa.eval (.tmp 2) = .slice ((some ad)) (nl) (cl) := sk.old 2 rfl
            exact Runs.move rfl h2 ⟨Ext.refl _, rfl⟩
          · refine stepE rfl fun sdn sa sw sE sd sk => ?_
            have h9 : sa.eval (.tmp 9) = .int .i64 ((m : Int)) := sk.old 9 rfl
            exact Runs.move rfl h9 ⟨Ext.refl _, rfl⟩
          · refine stepE rfl fun sdn sa sw sE sd sk => ?_
            have h16 : sa.eval (.tmp 16) = .slice ((some ad)) (nl) (cl) := sk.fact 0 16 rfl (sd 0 rfl)
            have h17 : sa.eval (.tmp 17) = .int .i64 ((m : Int)) := sk.fact 1 17 rfl (sd 1 rfl)
            exact Runs.idx rfl h16 h17 (run_idx_sl4 Try.underlying55 infC_eq infC_size (m) (by omega) (by omega)) ⟨Ext.refl _, rfl⟩
          · refine stepE rfl fun sdn sa sw sE sd sk => ?_
            have h18 : sa.eval (.tmp 18) = .pointer (some (ad.add (m * 4))) := sk.fact 2 18 rfl (sd 2 rfl)
            refine Runs.of_run (r := .pointer (some (ad.add (m * 4)))) (w' := sw) ?_ ⟨Ext.refl _, rfl⟩
            unfold execOp
            simp only [h18]
            go_simp
          · refine stepE rfl fun sdn sa sw sE sd sk => ?_
            have h19 : sa.eval (.tmp 19) = .pointer (some (ad.add (m * 4))) := sk.fact 3 19 rfl (sd 3 rfl)
            exact Runs.load rfl h19 (run_load1 Try.underlying3 rfl (sE.cell k0)) ⟨Ext.refl _, rfl⟩
          · refine stepE rfl fun sdn sa sw sE sd sk => ?_
            have h3 : sa.eval (.tmp 3) = .int .i64 ((i : Int)) := sk.old 3 rfl
            exact Runs.move rfl h3 ⟨Ext.refl _, rfl⟩
          · refine stepE rfl fun sdn sa sw sE sd sk => ?_
            have h20 : sa.eval (.tmp 20) = .int .i64 (wn) := sk.fact 4 20 rfl (sd 4 rfl)
            have h21 : sa.eval (.tmp 21) = .int .i64 ((i : Int)) := sk.fact 5 21 rfl (sd 5 rfl)
            exact Runs.bin rfl h20 h21 (by rfl) (bin_eql _ _ _ _) ⟨Ext.refl _, congrArg Value.bool (hw)⟩
          · refine stepE rfl fun sdn sa sw sE sd sk => ?_
            have h22 : sa.eval (.tmp 22) = .bool (true) := sk.fact 6 22 rfl (sd 6 rfl)
            exact Runs.move rfl h22 ⟨Ext.refl _, rfl⟩
          · refine stepY (j := 7) (d := 23) (b := true) rfl rfl rfl (fun v w h => h) fun sdn sa sw sE sd sk => ?_
            have h4 : sa.eval (.tmp 4) = .pointer (some ⟨g4, 0, none⟩) := sk.old 4 rfl
            exact Runs.load rfl h4 (load_part (hB4.ext sE) 0 (vs := [.slice (G) (ng) (cg), .slice (A) (n) (c), .int .i64 (q)]) rfl Try.underlying52 rfl (by kernel_rfl)) ⟨Ext.refl _, rfl⟩
          · refine stepY (j := 7) (d := 23) (b := true) rfl rfl rfl (fun v w h => h) fun sdn sa sw sE sd sk => ?_
            have h5 : sa.eval (.tmp 5) = .pointer (some ⟨g5, 0, none⟩) := sk.old 5 rfl
            exact Runs.load rfl h5 (load_part (hB5.ext sE) 0 (vs := [.int .i64 (x), .slice (B) (nb) (d)]) rfl Try.underlying54 rfl (by kernel_rfl)) ⟨Ext.refl _, rfl⟩
          · refine stepY (j := 7) (d := 23) (b := true) rfl rfl rfl (fun v w h => h) fun sdn sa sw sE sd sk => ?_
            have h2 : sa.eval (.tmp 2) = .slice ((some ad)) (nl) (cl) := sk.old 2 rfl
            exact Runs.move rfl h2 ⟨Ext.refl _, rfl⟩
          · refine stepY (j := 7) (d := 23) (b := true) rfl rfl rfl (fun v w h => h) fun sdn sa sw sE sd sk => ?_
            have h9 : sa.eval (.tmp 9) = .int .i64 ((m : Int)) := sk.old 9 rfl
            exact Runs.move rfl h9 ⟨Ext.refl _, rfl⟩
          · refine stepY (j := 7) (d := 23) (b := true) rfl rfl rfl (fun v w h => h) fun sdn sa sw sE sd sk => ?_
            have h26 : sa.eval (.tmp 26) = .slice ((some ad)) (nl) (cl) := sk.fact 10 26 rfl (sd 10 rfl)
            have h27 : sa.eval (.tmp 27) = .int .i64 ((m : Int)) := sk.fact 11 27 rfl (sd 11 rfl)
            exact Runs.idx rfl h26 h27 (run_idx_sl4 Try.underlying55 infC_eq infC_size (m) (by omega) (by omega)) ⟨Ext.refl _, rfl⟩
          · refine stepY (j := 7) (d := 23) (b := true) rfl rfl rfl (fun v w h => h) fun sdn sa sw sE sd sk => ?_
            have h28 : sa.eval (.tmp 28) = .pointer (some (ad.add (m * 4))) := sk.fact 12 28 rfl (sd 12 rfl)
            exact Runs.load rfl h28 (load_cs (sE.cell k0) (sE.cell k1) (sE.cell k2) (sE.cell k3)) ⟨Ext.refl _, rfl⟩
          · refine stepY (j := 7) (d := 23) (b := true) rfl rfl rfl (fun v w h => h) fun sdn sa sw sE sd sk => ?_
            have h24 : sa.eval (.tmp 24) = .agg #[.slice (G) (ng) (cg), .slice (A) (n) (c), .int .i64 (q)] := sk.fact 8 24 rfl (sd 8 rfl)
            have h25 : sa.eval (.tmp 25) = .agg #[.int .i64 (x), .slice (B) (nb) (d)] := sk.fact 9 25 rfl (sd 9 rfl)
            have h29 : sa.eval (.tmp 29) = .agg #[.int .i64 (wn), .int .i64 (k), .slice (P) (np) (cp), .slice (Q) (nq) (cq)] := sk.fact 13 29 rfl (sd 13 rfl)
            refine Runs.call (f := 68) (vs := [.agg #[.slice (G) (ng) (cg), .slice (A) (n) (c), .int .i64 (q)], .agg #[.int .i64 (x), .slice (B) (nb) (d)], .agg #[.int .i64 (wn), .int .i64 (k), .slice (P) (np) (cp), .slice (Q) (nq) (cq)]]) rfl rfl rfl (by simp only [List.map_toArray, List.map_cons, List.map_nil, h24, h25, h29] <;> rfl) (ent68 _ _) ((rcosigned_any _ _ _ _ _ _ _ _ _ _ _ _ _ _ _ _ _ _ _ _ _ _ _ _ sw (rG1.ext sE) (rW1.ext sE) (rR1.ext sE) (rP.ext sE) (rQ.ext sE)).mono ?_); rintro e w' ⟨rfl, hx⟩; exact ⟨_, rfl, hx, congrArg Value.bool (Hcb.out)⟩
          · refine stepE rfl fun sdn sa sw sE sd sk => ?_
            have h23 : sa.eval (.tmp 23) = .bool (true) := sk.fact 7 23 rfl (sd 7 rfl)
            have h30 : sa.eval (.tmp 30) = .bool (false) := sk.fact 14 30 rfl (sd 14 rfl)
            exact Runs.pick rfl h23 ⟨Ext.refl _, by first | exact h30 | simpa using h30⟩
          intro vals W4 hE4 hv4
          have e0 : vals 0 = .slice ((some ad)) (nl) (cl) := hv4 0 (by omega) 16 rfl
          have e1 : vals 1 = .int .i64 ((m : Int)) := hv4 1 (by omega) 17 rfl
          have e2 : vals 2 = .pointer (some (ad.add (m * 4))) := hv4 2 (by omega) 18 rfl
          have e3 : vals 3 = .pointer (some (ad.add (m * 4))) := hv4 3 (by omega) 19 rfl
          have e4 : vals 4 = .int .i64 (wn) := hv4 4 (by omega) 20 rfl
          have e5 : vals 5 = .int .i64 ((i : Int)) := hv4 5 (by omega) 21 rfl
          have e6 : vals 6 = .bool (true) := hv4 6 (by omega) 22 rfl
          have e7 : vals 7 = .bool (true) := hv4 7 (by omega) 23 rfl
          have e8 : vals 8 = .agg #[.slice (G) (ng) (cg), .slice (A) (n) (c), .int .i64 (q)] := hv4 8 (by omega) 24 rfl
          have e9 : vals 9 = .agg #[.int .i64 (x), .slice (B) (nb) (d)] := hv4 9 (by omega) 25 rfl
          have e10 : vals 10 = .slice ((some ad)) (nl) (cl) := hv4 10 (by omega) 26 rfl
          have e11 : vals 11 = .int .i64 ((m : Int)) := hv4 11 (by omega) 27 rfl
          have e12 : vals 12 = .pointer (some (ad.add (m * 4))) := hv4 12 (by omega) 28 rfl
          have e13 : vals 13 = .agg #[.int .i64 (wn), .int .i64 (k), .slice (P) (np) (cp), .slice (Q) (nq) (cq)] := hv4 13 (by omega) 29 rfl
          have e14 : vals 14 = .bool (false) := hv4 14 (by omega) 30 rfl
          have e15 : vals 15 = .bool (false) := hv4 15 (by omega) 31 rfl
          simp only [putAll, Act.put, List.take_succ_cons, List.take_zero, List.drop_succ_cons, List.drop_zero, List.drop_nil, List.take_nil, Nat.reduceAdd, List.setIfInBounds_toArray, List.set_cons_succ, List.set_cons_zero, e0, e1, e2, e3, e4, e5, e6, e7, e8, e9, e10, e11, e12, e13, e14, e15]
          clear hv4 e0 e1 e2 e3 e4 e5 e6 e7 e8 e9 e10 e11 e12 e13 e14 e15
          clear hw rG1 rW1 rR1 rP rQ k0 k1 k2 k3 hB4 hB5
          have hB4 := HB4.out
          have hB5 := HB5.out
          go_wp2_with fail
          go_roundw
          case rel => exact ⟨m + 1, by rw [Hll.out]; omega, by go_num, Hn.out, hEr.trans hE4⟩
          case measure => simp [intOf]; omega
      · have hno : seenL v (gs.take (m + 1)) i = false := by rw [Hsn.out, seenL_snoc, Hno.out]; simp [hw]
        have Hn := Lib.hid hno
        replace hw : decide (wn = (i : Int)) = false := decide_eq_false hw
        clear hno
        refine par_ext (n := 16) (by kernel_rfl) [.is (.slice ((some ad)) (nl) (cl)), .is (.int .i64 ((m : Int))), .is (.pointer (some (ad.add (m * 4)))), .is (.pointer (some (ad.add (m * 4)))), .is (.int .i64 (wn)), .is (.int .i64 ((i : Int))), .is (.bool (false)), .is (.bool (false)), .is undef, .is undef, .is undef, .is undef, .is undef, .is undef, .is undef, .is (.bool (false))] rfl ⟨?_, ?_, ?_, ?_, ?_, ?_, ?_, ?_, ?_, ?_, ?_, ?_, ?_, ?_, ?_, ?_, trivial⟩ ?_
        · refine stepE rfl fun sdn sa sw sE sd sk => ?_
          have h2 : sa.eval (.tmp 2) = .slice ((some ad)) (nl) (cl) := sk.old 2 rfl
          exact Runs.move rfl h2 ⟨Ext.refl _, rfl⟩
        · refine stepE rfl fun sdn sa sw sE sd sk => ?_
          have h9 : sa.eval (.tmp 9) = .int .i64 ((m : Int)) := sk.old 9 rfl
          exact Runs.move rfl h9 ⟨Ext.refl _, rfl⟩
        · refine stepE rfl fun sdn sa sw sE sd sk => ?_
          have h16 : sa.eval (.tmp 16) = .slice ((some ad)) (nl) (cl) := sk.fact 0 16 rfl (sd 0 rfl)
          have h17 : sa.eval (.tmp 17) = .int .i64 ((m : Int)) := sk.fact 1 17 rfl (sd 1 rfl)
          exact Runs.idx rfl h16 h17 (run_idx_sl4 Try.underlying55 infC_eq infC_size (m) (by omega) (by omega)) ⟨Ext.refl _, rfl⟩
        · refine stepE rfl fun sdn sa sw sE sd sk => ?_
          have h18 : sa.eval (.tmp 18) = .pointer (some (ad.add (m * 4))) := sk.fact 2 18 rfl (sd 2 rfl)
          refine Runs.of_run (r := .pointer (some (ad.add (m * 4)))) (w' := sw) ?_ ⟨Ext.refl _, rfl⟩
          unfold execOp
          simp only [h18]
          go_simp
        · refine stepE rfl fun sdn sa sw sE sd sk => ?_
          have h19 : sa.eval (.tmp 19) = .pointer (some (ad.add (m * 4))) := sk.fact 3 19 rfl (sd 3 rfl)
          exact Runs.load rfl h19 (run_load1 Try.underlying3 rfl (sE.cell k0)) ⟨Ext.refl _, rfl⟩
        · refine stepE rfl fun sdn sa sw sE sd sk => ?_
          have h3 : sa.eval (.tmp 3) = .int .i64 ((i : Int)) := sk.old 3 rfl
          exact Runs.move rfl h3 ⟨Ext.refl _, rfl⟩
        · refine stepE rfl fun sdn sa sw sE sd sk => ?_
          have h20 : sa.eval (.tmp 20) = .int .i64 (wn) := sk.fact 4 20 rfl (sd 4 rfl)
          have h21 : sa.eval (.tmp 21) = .int .i64 ((i : Int)) := sk.fact 5 21 rfl (sd 5 rfl)
          exact Runs.bin rfl h20 h21 (by rfl) (bin_eql _ _ _ _) ⟨Ext.refl _, congrArg Value.bool (hw)⟩
        · refine stepE rfl fun sdn sa sw sE sd sk => ?_
          have h22 : sa.eval (.tmp 22) = .bool (false) := sk.fact 6 22 rfl (sd 6 rfl)
          exact Runs.move rfl h22 ⟨Ext.refl _, rfl⟩
        · exact stepN (j := 7) (d := 23) (b := false) rfl rfl rfl (fun v w h => h) fun w => rfl
        · exact stepN (j := 7) (d := 23) (b := false) rfl rfl rfl (fun v w h => h) fun w => rfl
        · exact stepN (j := 7) (d := 23) (b := false) rfl rfl rfl (fun v w h => h) fun w => rfl
        · exact stepN (j := 7) (d := 23) (b := false) rfl rfl rfl (fun v w h => h) fun w => rfl
        · exact stepN (j := 7) (d := 23) (b := false) rfl rfl rfl (fun v w h => h) fun w => rfl
        · exact stepN (j := 7) (d := 23) (b := false) rfl rfl rfl (fun v w h => h) fun w => rfl
        · exact stepN (j := 7) (d := 23) (b := false) rfl rfl rfl (fun v w h => h) fun w => rfl
        · refine stepE rfl fun sdn sa sw sE sd sk => ?_
          have h23 : sa.eval (.tmp 23) = .bool (false) := sk.fact 7 23 rfl (sd 7 rfl)
          exact Runs.pick rfl h23 ⟨Ext.refl _, rfl⟩
        intro vals W4 hE4 hv4
        have e0 : vals 0 = .slice ((some ad)) (nl) (cl) := hv4 0 (by omega) 16 rfl
        have e1 : vals 1 = .int .i64 ((m : Int)) := hv4 1 (by omega) 17 rfl
        have e2 : vals 2 = .pointer (some (ad.add (m * 4))) := hv4 2 (by omega) 18 rfl
        have e3 : vals 3 = .pointer (some (ad.add (m * 4))) := hv4 3 (by omega) 19 rfl
        have e4 : vals 4 = .int .i64 (wn) := hv4 4 (by omega) 20 rfl
        have e5 : vals 5 = .int .i64 ((i : Int)) := hv4 5 (by omega) 21 rfl
        have e6 : vals 6 = .bool (false) := hv4 6 (by omega) 22 rfl
        have e7 : vals 7 = .bool (false) := hv4 7 (by omega) 23 rfl
        have e15 : vals 15 = .bool (false) := hv4 15 (by omega) 31 rfl
        simp only [putAll, Act.put, List.take_succ_cons, List.take_zero, List.drop_succ_cons, List.drop_zero, List.drop_nil, List.take_nil, Nat.reduceAdd, List.setIfInBounds_toArray, List.set_cons_succ, List.set_cons_zero, e0, e1, e2, e3, e4, e5, e6, e7, e15]
        clear hv4 e0 e1 e2 e3 e4 e5 e6 e7 e15
        clear hw rG1 rW1 rR1 rP rQ k0 k1 k2 k3 hB4 hB5
        have hB4 := HB4.out
        have hB5 := HB5.out
        go_wp2_with fail
        go_roundw
        case rel => exact ⟨m + 1, by rw [Hll.out]; omega, by go_num, Hn.out, hEr.trans hE4⟩
        case measure => simp [intOf]; omega
    · obtain rfl : m = nl := by omega
      have hall : gs.take m = gs := List.take_of_length_le (by rw [Hll.out]; exact Nat.le_refl _)
      have hno := Hno.out
      rw [hall] at hno
      have Hn := Lib.hid hno
      clear hall hno
      go_wp2_with fail
      go_ret
      rw [Hn.out]
      exact ⟨rfl, hEa.trans hEr⟩
end Go.Proofs.Ytkndgpjamijbbaa

/-
  Rows of cosignatures: what they hold; append. SHA-256 over Nat, for the kernel to reckon with (5 ms a block), and that it is sha.
-/
import Derived.Test.YthggfbpdhkpkjaaLawTells11Q32
import Derived.Test.YthggfbpdhkpkjaaLawTells11Q1
namespace Go.Proofs.Ythggfbpdhkpkjaa
set_option maxRecDepth 100000
open Go Go.RowKit
structure CV where
  wn : Int
  k : Int
  P : Option Addr
  cp : Nat
  Q : Option Addr
  cq : Nat
def CV.cells (v : CV) : List Value := [.int .i64 v.wn, .int .i64 v.k, .slice v.P 64 v.cp, .slice v.Q 4 v.cq]
def vz : CV := ⟨0, 0, none, 0, none, 0⟩
def cv_ (vs : List CV) (j : Nat) : CV := vs.getD j vz
structure CVR (w : World) (v : CV) (g : CSig) : Prop where
  wn : g.wn = v.wn
  k : g.k = v.k
  ps : RBB w v.P 64 v.cp g.ps
  qs : RBB w v.Q 4 v.cq g.qs
theorem CVR.ext {w w' : World} {v : CV} {g : CSig} (h : CVR w v g) (e : Ext w w') : CVR w' v g := ⟨h.wn, h.k, h.ps.ext e, h.qs.ext e⟩
theorem CVR.away {w w' : World} {v : CV} {g : CSig} (h : CVR w v g) {k : Nat} {t : TypeId} {cs : Array Value} (hb : Blk w k t cs) (h8 : ∀ (i : Nat) (x : Int), cs[i]? ≠ some (.int .u8 x))
    (h3 : ∀ (i : Nat) (a b c : Value), cs[i]? = some a → cs[i + 1]? = some b → cs[i + 2]? = some c → ¬ (isSl (some a) = true ∧ isSl (some b) = true ∧ isSl (some c) = true)) (e : w.grownBy w' (some k)) : CVR w' v g :=
  ⟨h.wn, h.k, h.ps.away hb h8 e (fun _ => h.ps.apart3 hb h3 (by omega)), h.qs.away hb h8 e (fun _ => h.qs.apart3 hb h3 (by omega))⟩
theorem fm_len (vs : List CV) : (vs.flatMap CV.cells).length = vs.length * 4 := by
  induction vs with
  | nil => rfl
  | cons v vs ih =>
    rw [List.flatMap_cons, List.length_append, ih, List.length_cons]
    have : v.cells.length = 4 := rfl
    omega
theorem fm_get (vs : List CV) : ∀ (j i : Nat), i < 4 → j < vs.length → (vs.flatMap CV.cells)[j * 4 + i]? = (cv_ vs j).cells[i]? := by
  induction vs with
  | nil => intro j i _ h; exact absurd h (Nat.not_lt_zero _)
  | cons v vs ih =>
    intro j i hi hj
    have h4 : v.cells.length = 4 := rfl
    rw [List.flatMap_cons]
    cases j with
    | zero =>
      rw [List.getElem?_append_left (by omega)]
      rw [Nat.zero_mul, Nat.zero_add]
      rfl
    | succ j =>
      rw [List.getElem?_append_right (by omega)]
      rw [show (j + 1) * 4 + i - v.cells.length = j * 4 + i by rw [h4]; omega]
      exact ih j i hi (by rw [List.length_cons] at hj; omega)
theorem fm_shape (vs : List CV) : ShapeL (vs.flatMap CV.cells) := by
  intro i v h
  have hi : i < vs.length * 4 := by
    rcases Nat.lt_or_ge i (vs.length * 4) with h1 | h1
    · exact h1
    · rw [List.getElem?_eq_none (by rw [fm_len]; exact h1)] at h
      cases h
  have e : i = i / 4 * 4 + i % 4 := by omega
  rw [e, fm_get vs _ _ (by omega) (by omega)] at h
  have hc : i % 4 = 0 ∨ i % 4 = 1 ∨ i % 4 = 2 ∨ i % 4 = 3 := by omega
  rcases hc with h1 | h1 | h1 | h1 <;> rw [h1] at h ⊢ <;> injection h with h <;> subst h
  · exact ⟨fun _ => ⟨_, rfl⟩, fun h => by omega⟩
  · exact ⟨fun _ => ⟨_, rfl⟩, fun h => by omega⟩
  · exact ⟨fun h => by omega, fun _ => ⟨_, _, _, rfl⟩⟩
  · exact ⟨fun h => by omega, fun _ => ⟨_, _, _, rfl⟩⟩
theorem fm_one (vs : List CV) : ∀ u ∈ vs.flatMap CV.cells, u.oneCell' = true := by
  intro u hu
  rw [List.mem_flatMap] at hu
  obtain ⟨v, _, hv⟩ := hu
  unfold CV.cells at hv
  simp only [List.mem_cons, List.not_mem_nil, or_false] at hv
  rcases hv with rfl | rfl | rfl | rfl <;> rfl
/-- a slice of cosignatures that is read, its cells -/
structure RCV (w : World) (A : Option Addr) (n c : Nat) (vs : List CV) (gs : List CSig) : Prop where
  lv : vs.length = n
  lg : gs.length = n
  room : n ≤ c
  cap : c ≤ maxLen
  cells : 0 < n → ∃ ad, A = some ad ∧ ∀ j u, (vs.flatMap CV.cells)[j]? = some u → w.cell? (ad.add j) = some u
  each : ∀ j, j < n → CVR w (cv_ vs j) (cg_ gs j)
theorem RCV.ext {w w' : World} {A : Option Addr} {n c : Nat} {vs : List CV} {gs : List CSig} (h : RCV w A n c vs gs) (e : Ext w w') : RCV w' A n c vs gs :=
  ⟨h.lv, h.lg, h.room, h.cap, fun hn => by
    obtain ⟨ad, ha, hc⟩ := h.cells hn
    exact ⟨ad, ha, fun j u hu => e.cell (hc j u hu)⟩, fun j hj => (h.each j hj).ext e⟩
theorem add_lit_ (ad : Addr) (j i : Nat) : (ad.add j).add i = ad.add (j + i) := by
  unfold Addr.add
  by_cases hj : j = 0 <;> by_cases hi : i = 0 <;> simp [hj, hi]
  omega
theorem RCV.at_ {w : World} {ad : Addr} {n c : Nat} {vs : List CV} {gs : List CSig} (h : RCV w (some ad) n c vs gs) {j : Nat} (hj : j < n) :
    w.cell? (ad.add (j * 4)) = some (.int .i64 (cv_ vs j).wn) ∧ w.cell? ((ad.add (j * 4)).add 1) = some (.int .i64 (cv_ vs j).k) ∧ w.cell? ((ad.add (j * 4)).add 2) = some (.slice (cv_ vs j).P 64 (cv_ vs j).cp) ∧ w.cell? ((ad.add (j * 4)).add 3) = some (.slice (cv_ vs j).Q 4 (cv_ vs j).cq) := by
  obtain ⟨ad', ha, hc⟩ := h.cells (by omega)
  injection ha with ha
  subst ha
  have hl := h.lv
  have k := fun i (hi : i < 4) => fm_get vs j i hi (by omega)
  refine ⟨?_, ?_, ?_, ?_⟩
  · exact hc _ _ (k 0 (by omega))
  · rw [add_lit_]; exact hc _ _ (k 1 (by omega))
  · rw [add_lit_]; exact hc _ _ (k 2 (by omega))
  · rw [add_lit_]; exact hc _ _ (k 3 (by omega))
theorem RCV.rcs {w : World} {A : Option Addr} {n c : Nat} {vs : List CV} {gs : List CSig} (h : RCV w A n c vs gs) : RCS w A n c gs := by
  refine ⟨h.lg, h.room, h.cap, fun hn => ?_⟩
  obtain ⟨ad, rfl, _⟩ := h.cells hn
  refine ⟨ad, rfl, fun j hj => ?_⟩
  obtain ⟨k0, k1, k2, k3⟩ := h.at_ hj
  obtain ⟨e1, e2, e3, e4⟩ := h.each j hj
  exact ⟨_, 64, _, _, 4, _, by rw [e1]; exact k0, by rw [e2]; exact k1, k2, k3, e3, e4⟩
/-- an own row of cosignatures -/
def OCS (w : World) (base : Nat) (A : Option Addr) (n c : Nat) (vs : List CV) (gs : List CSig) : Prop :=
  vs.length = n ∧ gs.length = n ∧ OwZ w base A n c (vs.flatMap CV.cells) ∧ ∀ j, j < n → CVR w (cv_ vs j) (cg_ gs j)
theorem OCS.none_ (w : World) (base : Nat) : OCS w base none 0 0 [] [] := ⟨rfl, rfl, OwZ.none_ _ _, fun j hj => absurd hj (Nat.not_lt_zero _)⟩
theorem OCS.ext {w w' : World} {base n c : Nat} {A : Option Addr} {vs : List CV} {gs : List CSig} (h : OCS w base A n c vs gs) (e : Ext w w') : OCS w' base A n c vs gs :=
  ⟨h.1, h.2.1, h.2.2.1.ext e, fun j hj => (h.2.2.2 j hj).ext e⟩
theorem OCS.lt {w : World} {base n c : Nat} {A : Option Addr} {vs : List CV} {gs : List CSig} (h : OCS w base A n c vs gs) {k : Nat} (hk : blk A = some k) : base ≤ k ∧ k < w.heap.size := h.2.2.1.lt hk
theorem OCS.blk_ {w : World} {base n c : Nat} {A : Option Addr} {vs : List CV} {gs : List CSig} (h : OCS w base A n c vs gs) {k : Nat} (hk : blk A = some k) : ∃ cs, Blk w k 69 cs ∧ ShapeL cs.toList := by
  rcases h.2.2.1.2 with ⟨rfl, _⟩ | ⟨g, cs, rfl, _, k3, _, _, _, k7, _⟩
  · cases hk
  · have e : some g = some k := hk
    injection e with e
    subst e
    exact ⟨cs, k3, k7⟩
/-- another block is turned -/
theorem OCS.away {w w' : World} {base n c : Nat} {A : Option Addr} {vs : List CV} {gs : List CSig} (h : OCS w base A n c vs gs) {k : Nat} {t : TypeId} {cs : Array Value} (hb : Blk w k t cs) (h8 : noU8 cs = true) (h3 : no3B cs = true) (hne : blk A ≠ some k) (e : w.grownBy w' (some k)) : OCS w' base A n c vs gs :=
  ⟨h.1, h.2.1, h.2.2.1.grown e (fun g hg e' => hne (hg.trans e')), fun j hj => (h.2.2.2 j hj).away hb (nou8 h8) (no3 h3) e⟩
theorem OCS.ne_blk {w : World} {base n c : Nat} {A : Option Addr} {vs : List CV} {gs : List CSig} (h : OCS w base A n c vs gs) {k : Nat} {t : TypeId} {cs : Array Value} (hb : Blk w k t cs) (ht : t ≠ 69) : blk A ≠ some k := by
  intro hk
  obtain ⟨cs', h1, _⟩ := h.blk_ hk
  exact h1.ne_ hb (fun e => ht e.symm) rfl
theorem OCS.rcv {w : World} {base n c : Nat} {A : Option Addr} {vs : List CV} {gs : List CSig} (h : OCS w base A n c vs gs) : RCV w A n c vs gs := by
  obtain ⟨h1, h2, h3, h4⟩ := h
  rcases h3.2 with ⟨rfl, rfl, rfl⟩ | ⟨g, cs, rfl, hbg, hg, hnc, hcm, hcs, hsc, htake⟩
  · exact ⟨h1, h2, Nat.le_refl _, Nat.zero_le _, fun h => absurd h (Nat.lt_irrefl _), h4⟩
  · refine ⟨h1, h2, hnc, hcm, fun _ => ⟨_, rfl, fun j u hu => ?_⟩, h4⟩
    have hj : j < n * 4 := by
      rcases Nat.lt_or_ge j (n * 4) with k1 | k1
      · exact k1
      · rw [List.getElem?_eq_none (by rw [fm_len, h1]; exact k1)] at hu; cases hu
    rw [← htake, List.getElem?_take_of_lt hj, Array.getElem?_toList] at hu
    rw [add_plain]
    exact hg.cell hu
theorem cv_left (vs us : List CV) {j : Nat} (h : j < vs.length) : cv_ (vs ++ us) j = cv_ vs j := by unfold cv_; simp [List.getElem?_append_left h]
theorem cv_right (vs us : List CV) (j : Nat) : cv_ (vs ++ us) (vs.length + j) = cv_ us j := by unfold cv_; rw [List.getD_eq_getElem?_getD, List.getD_eq_getElem?_getD, List.getElem?_append_right (by omega), Nat.add_sub_cancel_left]
theorem cg_left (vs us : List CSig) {j : Nat} (h : j < vs.length) : cg_ (vs ++ us) j = cg_ vs j := by unfold cg_; simp [List.getElem?_append_left h]
theorem cg_right (vs us : List CSig) (j : Nat) : cg_ (vs ++ us) (vs.length + j) = cg_ us j := by unfold cg_; rw [List.getD_eq_getElem?_getD, List.getD_eq_getElem?_getD, List.getElem?_append_right (by omega), Nat.add_sub_cancel_left]
theorem run_app_cs (ty : TypeId) {w : World} {base n c : Nat} {A : Option Addr} {vs us : List CV} {gs hs : List CSig} (hown : OCS w base A n c vs gs) {B : Option Addr} {m d : Nat} (hx : RCV w B m d us hs) (hnm : n + m ≤ 1000000) (hbase : base ≤ w.heap.size) (hm : 0 < m) :
    ∃ A' c' w', (Builtin.append_ #[67, 67] ty #[.slice A n c, .slice B m d]).run Try.prog w = .ok (.slice A' (n + m) c') w' ∧ OCS w' base A' (n + m) c' (vs ++ us) (gs ++ hs) ∧ w.grownBy w' (blk A) ∧ (blk A' = blk A ∨ blk A' = some w.heap.size) := by
  obtain ⟨ad, rfl, hc⟩ := hx.cells hm
  obtain ⟨h1, h2, h3, h4⟩ := hown
  obtain ⟨A', c', w', k1, k2, k3, k4⟩ := run_app_cz ty h3 (m := m) (d := d) (by rw [fm_len, hx.lv]) hc (fm_one us) (fm_shape us) hnm hbase hm
  have stay : ∀ v g, CVR w v g → CVR w' v g := by
    intro v g hv
    cases hA : blk A with
    | none =>
      rw [hA] at k3
      exact hv.ext ((Ext.refl w).then_grown k3 (fun b hb => by cases hb))
    | some k =>
      rw [hA] at k3
      obtain ⟨cs, b1, b2⟩ := OCS.blk_ ⟨h1, h2, h3, h4⟩ hA
      exact hv.away b1 b2.nou8 b2.no3 k3
  refine ⟨A', c', w', k1, ⟨by rw [List.length_append, h1, hx.lv], by rw [List.length_append, h2, hx.lg], by rw [List.flatMap_append]; exact k2, fun j hj => ?_⟩, k3, k4⟩
  by_cases hjn : j < n
  · rw [cv_left _ _ (by omega), cg_left _ _ (by omega)]
    exact stay _ _ (h4 j hjn)
  · have e1 := cv_right vs us (j - n)
    have e2 := cg_right gs hs (j - n)
    rw [h1, show n + (j - n) = j by omega] at e1
    rw [h2, show n + (j - n) = j by omega] at e2
    rw [e1, e2]
    exact stay _ _ (hx.each _ (by omega))
theorem appcs_law {ops : Array Oper} {rest : List Oper} {o : Oper} {a : Act} {Q : Exit → Act → World → Prop} {w : World} (hgd : o.guard = none) {s x : Operand} (ho : o.op = .call { callee := .builtin .append, args := #[s, x], argTypes := #[67, 67] })
    {A B : Option Addr} {n c m d : Nat} (hs : a.eval s = .slice A n c) (hx : a.eval x = .slice B m d) {base : Nat} {vs us : List CV} {gs hs_ : List CSig}
    (hown : OCS w base A n c vs gs) (hB : RCV w B m d us hs_) (hbase : base ≤ w.heap.size) (hnk : n + m ≤ 1000000) (hm : 0 < m)
    (h : ∀ A' c' w', OCS w' base A' (n + m) c' (vs ++ us) (gs ++ hs_) → w.grownBy w' (blk A) → wpList Try.prog ops Q rest (a.put o.dst (.slice A' (n + m) c')) w') : wpList Try.prog ops Q (o :: rest) a w := by
  obtain ⟨A', c', w', hrun, r1, r2, _⟩ := run_app_cs o.type hown hB hnk hbase hm
  refine run_law hgd (v := .slice A' (n + m) c') (w' := w') ?_ (h A' c' w' r1 r2)
  unfold execOp
  simp only [ho, resolve, invoke, builtin, Sem.run_bind, Sem.run_pure, Result.andThen_ok, List.map_toArray, List.map_cons, List.map_nil, hs, hx, hrun]
/-- one cosignature in a block of its own, as 'append' lays it -/
theorem RCV.one {w : World} {g : Nat} {wn k : Int} {P Q : Option Addr} {cp cq : Nat} {ps qs : List (List UInt8)} (hb : Blk w g 69 #[.int .i64 wn, .int .i64 k, .slice P 64 cp, .slice Q 4 cq]) (rP : RBB w P 64 cp ps) (rQ : RBB w Q 4 cq qs) :
    RCV w (some ⟨g, 0, none⟩) 1 1 [⟨wn, k, P, cp, Q, cq⟩] [⟨wn, k, ps, qs⟩] := by
  refine ⟨rfl, rfl, Nat.le_refl _, by unfold maxLen; omega, fun _ => ⟨_, rfl, fun j u hu => ?_⟩, fun j hj => ?_⟩
  · rw [add_plain]
    refine hb.cell ?_
    rw [← hu]
    show _ = (CV.cells ⟨wn, k, P, cp, Q, cq⟩ ++ [])[j]?
    rw [List.append_nil]
    exact List.getElem?_toArray
  · obtain rfl : j = 0 := by omega
    exact ⟨rfl, rfl, rP, rQ⟩
end Go.Proofs.Ythggfbpdhkpkjaa
namespace Go.Proofs.Ythggfbpdhkpkjaa
set_option maxRecDepth 100000
noncomputable def force {α : Type} (x : Nat) (k : Nat → α) : α := Nat.rec (motive := fun _ => α) (k (nat_lit 0)) (fun n _ => k (Nat.succ n)) x
theorem force_eq {α : Type} (x : Nat) (k : Nat → α) : force x k = k x := by cases x <;> rfl
def nS1 (x : Nat) : Nat := (Nat.xor (Nat.xor (Nat.lor (Nat.div x (nat_lit 64)) (Nat.mod (Nat.mul x (nat_lit 67108864)) (nat_lit 4294967296))) (Nat.lor (Nat.div x (nat_lit 2048)) (Nat.mod (Nat.mul x (nat_lit 2097152)) (nat_lit 4294967296)))) (Nat.lor (Nat.div x (nat_lit 33554432)) (Nat.mod (Nat.mul x (nat_lit 128)) (nat_lit 4294967296))))
def nS0 (x : Nat) : Nat := (Nat.xor (Nat.xor (Nat.lor (Nat.div x (nat_lit 4)) (Nat.mod (Nat.mul x (nat_lit 1073741824)) (nat_lit 4294967296))) (Nat.lor (Nat.div x (nat_lit 8192)) (Nat.mod (Nat.mul x (nat_lit 524288)) (nat_lit 4294967296)))) (Nat.lor (Nat.div x (nat_lit 4194304)) (Nat.mod (Nat.mul x (nat_lit 1024)) (nat_lit 4294967296))))
def ns0 (x : Nat) : Nat := (Nat.xor (Nat.xor (Nat.lor (Nat.div x (nat_lit 128)) (Nat.mod (Nat.mul x (nat_lit 33554432)) (nat_lit 4294967296))) (Nat.lor (Nat.div x (nat_lit 262144)) (Nat.mod (Nat.mul x (nat_lit 16384)) (nat_lit 4294967296)))) (Nat.div x (nat_lit 8)))
def ns1 (x : Nat) : Nat := (Nat.xor (Nat.xor (Nat.lor (Nat.div x (nat_lit 131072)) (Nat.mod (Nat.mul x (nat_lit 32768)) (nat_lit 4294967296))) (Nat.lor (Nat.div x (nat_lit 524288)) (Nat.mod (Nat.mul x (nat_lit 8192)) (nat_lit 4294967296)))) (Nat.div x (nat_lit 1024)))
def nCh (e f g : Nat) : Nat := (Nat.xor (Nat.land e f) (Nat.land (Nat.sub (nat_lit 4294967295) e) g))
def nMaj (a b c : Nat) : Nat := (Nat.xor (Nat.xor (Nat.land a b) (Nat.land a c)) (Nat.land b c))
def nj (r x : Nat) : Nat := Nat.add (Nat.mul r (nat_lit 4294967296)) x
theorem nj_eq (r x : Nat) : nj r x = r * 4294967296 + x := rfl
def nm (x y : Nat) : Nat := Nat.mod (Nat.add x y) (nat_lit 4294967296)
theorem nm_eq (x y : Nat) : nm x y = (x + y) % 4294967296 := rfl
abbrev NK := Nat → Nat → Nat → Nat → Nat → Nat → Nat → Nat → Nat
noncomputable def nr2 (fin : NK) (ks : List Nat) : List Nat → NK :=
  List.rec (motive := fun _ => List Nat → NK) (fun _ => fin)
    (fun k _ ih ws a b c d e f g h => force (Nat.mod (Nat.add (Nat.add (Nat.add (Nat.add h (nS1 e)) (nCh e f g)) k) (ws.headD (nat_lit 0))) (nat_lit 4294967296)) fun t => force (Nat.mod (Nat.add t (Nat.add (nS0 a) (nMaj a b c))) (nat_lit 4294967296)) fun a' => force (Nat.mod (Nat.add d t) (nat_lit 4294967296)) fun e' => ih ws.tail a' a b c e' e f g) ks
noncomputable def nr1 (nx : List Nat → NK) (ks : List Nat) : Nat → Nat → Nat → Nat → Nat → Nat → Nat → Nat → Nat → Nat → Nat → Nat → Nat → Nat → Nat → Nat → NK :=
  List.rec (motive := fun _ => Nat → Nat → Nat → Nat → Nat → Nat → Nat → Nat → Nat → Nat → Nat → Nat → Nat → Nat → Nat → Nat → NK) (fun w0 w1 w2 w3 w4 w5 w6 w7 w8 w9 w10 w11 w12 w13 w14 w15 => nx [w0, w1, w2, w3, w4, w5, w6, w7, w8, w9, w10, w11, w12, w13, w14, w15])
    (fun k _ ih w0 w1 w2 w3 w4 w5 w6 w7 w8 w9 w10 w11 w12 w13 w14 w15 a b c d e f g h => force (Nat.mod (Nat.add (Nat.add (Nat.add w0 (ns0 w1)) w9) (ns1 w14)) (nat_lit 4294967296)) fun nw => force (Nat.mod (Nat.add (Nat.add (Nat.add (Nat.add h (nS1 e)) (nCh e f g)) k) w0) (nat_lit 4294967296)) fun t => force (Nat.mod (Nat.add t (Nat.add (nS0 a) (nMaj a b c))) (nat_lit 4294967296)) fun a' => force (Nat.mod (Nat.add d t) (nat_lit 4294967296)) fun e' => ih w1 w2 w3 w4 w5 w6 w7 w8 w9 w10 w11 w12 w13 w14 w15 nw a' a b c e' e f g) ks
theorem nr2_cons (fin : NK) (k : Nat) (ks ws : List Nat) (a b c d e f g h : Nat) : nr2 fin (k :: ks) ws a b c d e f g h = (force (Nat.mod (Nat.add (Nat.add (Nat.add (Nat.add h (nS1 e)) (nCh e f g)) k) (ws.headD (nat_lit 0))) (nat_lit 4294967296)) fun t => force (Nat.mod (Nat.add t (Nat.add (nS0 a) (nMaj a b c))) (nat_lit 4294967296)) fun a' => force (Nat.mod (Nat.add d t) (nat_lit 4294967296)) fun e' => nr2 fin ks ws.tail a' a b c e' e f g) := rfl
theorem nr1_cons (nx : List Nat → NK) (k : Nat) (ks : List Nat) (w0 w1 w2 w3 w4 w5 w6 w7 w8 w9 w10 w11 w12 w13 w14 w15 a b c d e f g h : Nat) : nr1 nx (k :: ks) w0 w1 w2 w3 w4 w5 w6 w7 w8 w9 w10 w11 w12 w13 w14 w15 a b c d e f g h = (force (Nat.mod (Nat.add (Nat.add (Nat.add w0 (ns0 w1)) w9) (ns1 w14)) (nat_lit 4294967296)) fun nw => force (Nat.mod (Nat.add (Nat.add (Nat.add (Nat.add h (nS1 e)) (nCh e f g)) k) w0) (nat_lit 4294967296)) fun t => force (Nat.mod (Nat.add t (Nat.add (nS0 a) (nMaj a b c))) (nat_lit 4294967296)) fun a' => force (Nat.mod (Nat.add d t) (nat_lit 4294967296)) fun e' => nr1 nx ks w1 w2 w3 w4 w5 w6 w7 w8 w9 w10 w11 w12 w13 w14 w15 nw a' a b c e' e f g) := rfl
def nK1 : List Nat := [nat_lit 1116352408, nat_lit 1899447441, nat_lit 3049323471, nat_lit 3921009573, nat_lit 961987163, nat_lit 1508970993, nat_lit 2453635748, nat_lit 2870763221, nat_lit 3624381080, nat_lit 310598401, nat_lit 607225278, nat_lit 1426881987, nat_lit 1925078388, nat_lit 2162078206, nat_lit 2614888103, nat_lit 3248222580, nat_lit 3835390401, nat_lit 4022224774, nat_lit 264347078, nat_lit 604807628, nat_lit 770255983, nat_lit 1249150122, nat_lit 1555081692, nat_lit 1996064986, nat_lit 2554220882, nat_lit 2821834349, nat_lit 2952996808, nat_lit 3210313671, nat_lit 3336571891, nat_lit 3584528711, nat_lit 113926993, nat_lit 338241895, nat_lit 666307205, nat_lit 773529912, nat_lit 1294757372, nat_lit 1396182291, nat_lit 1695183700, nat_lit 1986661051, nat_lit 2177026350, nat_lit 2456956037, nat_lit 2730485921, nat_lit 2820302411, nat_lit 3259730800, nat_lit 3345764771, nat_lit 3516065817, nat_lit 3600352804, nat_lit 4094571909, nat_lit 275423344]
def nK2 : List Nat := [nat_lit 430227734, nat_lit 506948616, nat_lit 659060556, nat_lit 883997877, nat_lit 958139571, nat_lit 1322822218, nat_lit 1537002063, nat_lit 1747873779, nat_lit 1955562222, nat_lit 2024104815, nat_lit 2227730452, nat_lit 2361852424, nat_lit 2428436474, nat_lit 2756734187, nat_lit 3204031479, nat_lit 3329325298]
noncomputable def nblock (st m : Nat) : Nat :=
  force (Nat.mod (Nat.div st (nat_lit 26959946667150639794667015087019630673637144422540572481103610249216)) (nat_lit 4294967296)) fun h0 =>
  force (Nat.mod (Nat.div st (nat_lit 6277101735386680763835789423207666416102355444464034512896)) (nat_lit 4294967296)) fun h1 =>
  force (Nat.mod (Nat.div st (nat_lit 1461501637330902918203684832716283019655932542976)) (nat_lit 4294967296)) fun h2 =>
  force (Nat.mod (Nat.div st (nat_lit 340282366920938463463374607431768211456)) (nat_lit 4294967296)) fun h3 =>
  force (Nat.mod (Nat.div st (nat_lit 79228162514264337593543950336)) (nat_lit 4294967296)) fun h4 =>
  force (Nat.mod (Nat.div st (nat_lit 18446744073709551616)) (nat_lit 4294967296)) fun h5 =>
  force (Nat.mod (Nat.div st (nat_lit 4294967296)) (nat_lit 4294967296)) fun h6 =>
  force (Nat.mod (Nat.div st (nat_lit 1)) (nat_lit 4294967296)) fun h7 =>
  force (Nat.mod (Nat.div m (nat_lit 3121748550315992231381597229793166305748598142664971150859156959625371738819765620120306103063491971159826931121406622895447975679288285306290176)) (nat_lit 4294967296)) fun w0 =>
  force (Nat.mod (Nat.div m (nat_lit 726838724295606890549323807888004534353641360687318060281490199180639288113397923326191050713763565560762521606266177933534601628614656)) (nat_lit 4294967296)) fun w1 =>
  force (Nat.mod (Nat.div m (nat_lit 169230328010303641331690318856389386196071598838855992136870091590247882556495704531248437872567112920983350278405979725889536)) (nat_lit 4294967296)) fun w2 =>
  force (Nat.mod (Nat.div m (nat_lit 39402006196394479212279040100143613805079739270465446667948293404245721771497210611414266254884915640806627990306816)) (nat_lit 4294967296)) fun w3 =>
  force (Nat.mod (Nat.div m (nat_lit 9173994463960286046443283581208347763186259956673124494950355357547691504353939232280074212440502746218496)) (nat_lit 4294967296)) fun w4 =>
  force (Nat.mod (Nat.div m (nat_lit 2135987035920910082395021706169552114602704522356652769947041607822219725780640550022962086936576)) (nat_lit 4294967296)) fun w5 =>
  force (Nat.mod (Nat.div m (nat_lit 497323236409786642155382248146820840100456150797347717440463976893159497012533375533056)) (nat_lit 4294967296)) fun w6 =>
  force (Nat.mod (Nat.div m (nat_lit 115792089237316195423570985008687907853269984665640564039457584007913129639936)) (nat_lit 4294967296)) fun w7 =>
  force (Nat.mod (Nat.div m (nat_lit 26959946667150639794667015087019630673637144422540572481103610249216)) (nat_lit 4294967296)) fun w8 =>
  force (Nat.mod (Nat.div m (nat_lit 6277101735386680763835789423207666416102355444464034512896)) (nat_lit 4294967296)) fun w9 =>
  force (Nat.mod (Nat.div m (nat_lit 1461501637330902918203684832716283019655932542976)) (nat_lit 4294967296)) fun w10 =>
  force (Nat.mod (Nat.div m (nat_lit 340282366920938463463374607431768211456)) (nat_lit 4294967296)) fun w11 =>
  force (Nat.mod (Nat.div m (nat_lit 79228162514264337593543950336)) (nat_lit 4294967296)) fun w12 =>
  force (Nat.mod (Nat.div m (nat_lit 18446744073709551616)) (nat_lit 4294967296)) fun w13 =>
  force (Nat.mod (Nat.div m (nat_lit 4294967296)) (nat_lit 4294967296)) fun w14 =>
  force (Nat.mod (Nat.div m (nat_lit 1)) (nat_lit 4294967296)) fun w15 =>
  nr1 (nr2 (fun a b c d e f g h => (nj (nj (nj (nj (nj (nj (nj (nm h0 a) (nm h1 b)) (nm h2 c)) (nm h3 d)) (nm h4 e)) (nm h5 f)) (nm h6 g)) (nm h7 h))) nK2) nK1 w0 w1 w2 w3 w4 w5 w6 w7 w8 w9 w10 w11 w12 w13 w14 w15 h0 h1 h2 h3 h4 h5 h6 h7
def nH0 : Nat := nat_lit 47962653771679561900652889051773562940742041696833059450490514104358170316057
/-- the blocks: n more, of a number of 512 * n bits -/
noncomputable def nblocks (n : Nat) : Nat → Nat → Nat :=
  Nat.rec (motive := fun _ => Nat → Nat → Nat) (fun st _ => st)
    (fun n ih st m => force (nblock st (Nat.mod (Nat.div m (Nat.pow (nat_lit 2) (Nat.mul (nat_lit 512) n))) (nat_lit 13407807929942597099574024998205846127479365820592393377723561443721764030073546976801874298166903427690031858186486050853753882811946569946433649006084096))) fun st' => ih st' m) n
def nZ (n : Nat) : Nat := Nat.mod (Nat.sub (nat_lit 119) (Nat.mod n (nat_lit 64))) (nat_lit 64)
/-- of a number of n bytes, the highest first -/
noncomputable def nsha (n m : Nat) : Nat :=
  force (Nat.add (Nat.mul (Nat.add (Nat.mul m (nat_lit 256)) (nat_lit 128)) (Nat.pow (nat_lit 256) (Nat.add (nZ n) (nat_lit 8)))) (Nat.mul n (nat_lit 8))) fun x =>
  nblocks (Nat.div (Nat.add n (Nat.add (nZ n) (nat_lit 9))) (nat_lit 64)) nH0 x
/-! the parts -/
theorem n_rotr (x : UInt32) (n : Nat) : (rotr x n).toNat = Nat.lor (x.toNat / 2 ^ n) (x.toNat * 2 ^ (32 - n) % 4294967296) := by
  unfold rotr
  rw [UInt32.toNat_or, shr_toNat, shl_toNat]
  rfl
theorem n_S1 (e : UInt32) : nS1 e.toNat = (bigS1 e).toNat := by
  unfold bigS1
  rw [UInt32.toNat_xor, UInt32.toNat_xor, n_rotr, n_rotr, n_rotr]
  rfl
theorem n_S0 (e : UInt32) : nS0 e.toNat = (bigS0 e).toNat := by
  unfold bigS0
  rw [UInt32.toNat_xor, UInt32.toNat_xor, n_rotr, n_rotr, n_rotr]
  rfl
theorem n_s0 (e : UInt32) : ns0 e.toNat = (sig0 e).toNat := by
  unfold sig0
  rw [UInt32.toNat_xor, UInt32.toNat_xor, n_rotr, n_rotr, shr_toNat]
  rfl
theorem n_s1 (e : UInt32) : ns1 e.toNat = (sig1 e).toNat := by
  unfold sig1
  rw [UInt32.toNat_xor, UInt32.toNat_xor, n_rotr, n_rotr, shr_toNat]
  rfl
theorem n_not (e : UInt32) : (~~~e).toNat = 4294967295 - e.toNat := by
  rw [UInt32.toNat_not]
  rfl
theorem n_ch (e f g : UInt32) : nCh e.toNat f.toNat g.toNat = (chF e f g).toNat := by
  unfold chF
  rw [UInt32.toNat_xor, UInt32.toNat_and, UInt32.toNat_and, n_not]
  rfl
theorem n_maj (a b c : UInt32) : nMaj a.toNat b.toNat c.toNat = (majF a b c).toNat := by
  unfold majF
  rw [UInt32.toNat_xor, UInt32.toNat_xor, UInt32.toNat_and, UInt32.toNat_and, UInt32.toNat_and]
  rfl
theorem n_t (s : S8) (k w : UInt32) : Nat.mod (Nat.add (Nat.add (Nat.add (Nat.add s.h.toNat (nS1 s.e.toNat)) (nCh s.e.toNat s.f.toNat s.g.toNat)) k.toNat) w.toNat) (nat_lit 4294967296) = (roundT s k w).toNat := by
  rw [n_S1, n_ch]
  unfold roundT
  simp only [UInt32.toNat_add]
  show (s.h.toNat + (bigS1 s.e).toNat + (chF s.e s.f s.g).toNat + k.toNat + w.toNat) % 4294967296 = _
  omega
theorem n_a (s : S8) (k w : UInt32) : Nat.mod (Nat.add (roundT s k w).toNat (Nat.add (nS0 s.a.toNat) (nMaj s.a.toNat s.b.toNat s.c.toNat))) (nat_lit 4294967296) = (roundS s k w).a.toNat := by
  rw [n_S0, n_maj]
  show ((roundT s k w).toNat + ((bigS0 s.a).toNat + (majF s.a s.b s.c).toNat)) % 4294967296 = (roundT s k w + roundU s).toNat
  unfold roundU
  simp only [UInt32.toNat_add]
  omega
theorem n_e (s : S8) (k w : UInt32) : Nat.mod (Nat.add s.d.toNat (roundT s k w).toNat) (nat_lit 4294967296) = (roundS s k w).e.toNat := by
  show (s.d.toNat + (roundT s k w).toNat) % 4294967296 = (s.d + roundT s k w).toNat
  rw [UInt32.toNat_add]
theorem n_w (a b c d : UInt32) : Nat.mod (Nat.add (Nat.add (Nat.add a.toNat (ns0 b.toNat)) c.toNat) (ns1 d.toNat)) (nat_lit 4294967296) = (((a + sig0 b) + c) + sig1 d).toNat := by
  rw [n_s0, n_s1]
  simp only [UInt32.toNat_add]
  show (a.toNat + (sig0 b).toNat + c.toNat + (sig1 d).toNat) % 4294967296 = _
  omega
/-! the rounds -/
def foldW (s : S8) (W : Nat → UInt32) : List UInt32 → Nat → S8
  | [], _ => s
  | k :: ks, j => foldW (roundS s k (W j)) W ks (j + 1)
def apK (k : NK) (s : S8) : Nat := k s.a.toNat s.b.toNat s.c.toNat s.d.toNat s.e.toNat s.f.toNat s.g.toNat s.h.toNat
theorem nr2_eq (fin : NK) (W : Nat → UInt32) : ∀ (ks : List UInt32) (j : Nat) (s : S8) (l : List Nat), (∀ i, i < ks.length → l.getD i 0 = (W (j + i)).toNat) →
    apK (nr2 fin (ks.map UInt32.toNat) l) s = apK fin (foldW s W ks j)
  | [], _, _, _, _ => rfl
  | k :: ks, j, s, l, hl => by
    have h0 : l.headD (nat_lit 0) = (W j).toNat := by
      have := hl 0 (by simp)
      cases l with
      | nil => simpa using this
      | cons x l => simpa using this
    have ht : ∀ i, i < ks.length → l.tail.getD i 0 = (W (j + 1 + i)).toNat := by
      intro i hi
      have := hl (i + 1) (by simp; omega)
      rw [show j + 1 + i = j + (i + 1) by omega, ← this]
      cases l <;> simp
    have ih := nr2_eq fin W ks (j + 1) (roundS s k (W j)) l.tail ht
    show _ = apK fin (foldW (roundS s k (W j)) W ks (j + 1))
    rw [← ih]
    unfold apK
    rw [List.map_cons]
    rw [nr2_cons, h0, n_t]
    simp only [force_eq]
    rw [n_a, n_e]
    rfl
theorem nr1_eq (nx : List Nat → NK) (W : Nat → UInt32) : ∀ (ks : List UInt32) (j : Nat) (s : S8), (∀ i, i < ks.length → W (j + i + 16) = ((W (j + i) + sig0 (W (j + i + 1))) + W (j + i + 9)) + sig1 (W (j + i + 14))) →
    apK (nr1 nx (ks.map UInt32.toNat) (W j).toNat (W (j + 1)).toNat (W (j + 2)).toNat (W (j + 3)).toNat (W (j + 4)).toNat (W (j + 5)).toNat (W (j + 6)).toNat (W (j + 7)).toNat (W (j + 8)).toNat (W (j + 9)).toNat (W (j + 10)).toNat (W (j + 11)).toNat (W (j + 12)).toNat (W (j + 13)).toNat (W (j + 14)).toNat (W (j + 15)).toNat) s = apK (nx [(W (j + ks.length + 0)).toNat, (W (j + ks.length + 1)).toNat, (W (j + ks.length + 2)).toNat, (W (j + ks.length + 3)).toNat, (W (j + ks.length + 4)).toNat, (W (j + ks.length + 5)).toNat, (W (j + ks.length + 6)).toNat, (W (j + ks.length + 7)).toNat, (W (j + ks.length + 8)).toNat, (W (j + ks.length + 9)).toNat, (W (j + ks.length + 10)).toNat, (W (j + ks.length + 11)).toNat, (W (j + ks.length + 12)).toNat, (W (j + ks.length + 13)).toNat, (W (j + ks.length + 14)).toNat, (W (j + ks.length + 15)).toNat]) (foldW s W ks (j))
  | [], _, _, _ => rfl
  | k :: ks, j, s, hw => by
    have ih := nr1_eq nx W ks (j + 1) (roundS s k (W j)) (fun i hi => by
      have := hw (i + 1) (by simp; omega)
      rw [show j + 1 + i = j + (i + 1) by omega]
      exact this)
    have hw0 := hw 0 (by simp)
    simp only [Nat.add_zero] at hw0
    rw [show (k :: ks).length = ks.length + 1 from rfl]
    have hj : ∀ i, j + (ks.length + 1) + i = j + 1 + ks.length + i := fun i => by omega
    simp only [hj]
    show _ = apK _ (foldW (roundS s k (W j)) W ks (j + 1))
    rw [← ih]
    unfold apK
    rw [List.map_cons]
    rw [nr1_cons, n_w, ← hw0]
    simp only [force_eq]
    rw [n_t, n_a, n_e]
    simp only [Nat.add_assoc]
    rfl
end Go.Proofs.Ythggfbpdhkpkjaa

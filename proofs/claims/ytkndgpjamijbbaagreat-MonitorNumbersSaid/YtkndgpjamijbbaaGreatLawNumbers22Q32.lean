/-
  Monitor.Rebuild, Alarms, walked. keep.Item and law9.known, walked. law22.items, signed, walked. Two items' leaf hashes that differ (law22's known). A plain theorem.
-/
import Derived.Test.YtkndgpjamijbbaaGreatLawNumbers22Q31
import Derived.Test.YtkndgpjamijbbaaGreatLawNumbers22Q24
import Derived.Test.YtkndgpjamijbbaaGreatLawNumbers22Q26
import Derived.Test.YtkndgpjamijbbaaGreatLawNumbers22Q30
import Derived.Test.YtkndgpjamijbbaaGreatLawNumbers22Q28
import Derived.Lib.AppendZerosOnto
namespace Go.Proofs.YtkndgpjamijbbaaGreat
set_option maxRecDepth 100000
open Go Go.RowKit
def rebIn (its : List (List UInt8)) (i : Int) : Bool := decide (0 ≤ i ∧ i < (its.length : Int)) && decOK (lb its i.toNat)
def rebB (its : List (List UInt8)) (i : Int) (F : List UInt8) : Bool := rebIn its i && decide ((readM (lb its i.toNat)).man.fw = F)
def rebS (s : MSt) (i : Int) (F : List UInt8) : MSt := if rebIn s.its i = true ∧ rebB s.its i F = false then { s with al := s.al ++ [(2, i)] } else s
def RebP (w : World) (base : Nat) (φ : Nat → Prop) (g : Nat) (s' : MSt) (b : Bool) (e : Ending) (w' : World) : Prop :=
  e = .returned (.bool b) ∧ ∃ φ', MonR w' base φ' g s' ∧ Upd φ w w' ∧ ∀ k, k < w.heap.size → φ' k → φ k
theorem RebP.same {w w' : World} {base g : Nat} {φ : Nat → Prop} {s : MSt} {b : Bool} (h : MonR w base φ g s) (e : Ext w w') : RebP w base φ g s b (.returned (.bool b)) w' :=
  ⟨rfl, φ, h.ext e, Upd.of_ext e, fun _ _ h => h⟩
def RebD (w : World) (base : Nat) (φ ρ : Nat → Prop) (g : Nat) (s' : MSt) (b : Bool) (e : Ending) (w' : World) : Prop :=
  e = .returned (.bool b) ∧ ∃ φ', MonD w' base φ' ρ g s' ∧ Upd φ w w' ∧ ∀ k, k < w.heap.size → φ' k → φ k
theorem RebD.same {w w' : World} {base g : Nat} {φ ρ : Nat → Prop} {s : MSt} {b : Bool} (h : MonD w base φ ρ g s) (e : Ext w w') : RebD w base φ ρ g s b (.returned (.bool b)) w' :=
  ⟨rfl, φ, h.ext e, Upd.of_ext e, fun _ _ h => h⟩
theorem RebD.toP {w w' : World} {base g : Nat} {φ ρ : Nat → Prop} {s' : MSt} {b : Bool} {e : Ending} (h : RebD w base φ ρ g s' b e w') : RebP w base φ g s' b e w' := by
  obtain ⟨h1, φ', h3, h4, h5⟩ := h
  exact ⟨h1, φ', h3.toR, h4, h5⟩
theorem reb_no {s : MSt} {i : Int} {F : List UInt8} (h : rebIn s.its i = false) : rebB s.its i F = false ∧ rebS s i F = s := by
  refine ⟨by unfold rebB; rw [h]; rfl, ?_⟩
  unfold rebS
  rw [if_neg (by rw [h]; simp)]
theorem reb_yes {s : MSt} {i : Int} {F : List UInt8} (h : rebIn s.its i = true) (h2 : (readM (lb s.its i.toNat)).man.fw = F) : rebB s.its i F = true ∧ rebS s i F = s := by
  have e : rebB s.its i F = true := by unfold rebB; rw [h, decide_eq_true h2]; rfl
  refine ⟨e, ?_⟩
  unfold rebS
  rw [if_neg (by rw [e]; simp)]
theorem reb_off {s : MSt} {i : Int} {F : List UInt8} (h : rebIn s.its i = true) (h2 : ¬ (readM (lb s.its i.toNat)).man.fw = F) : rebB s.its i F = false ∧ rebS s i F = { s with al := s.al ++ [(2, i)] } := by
  have e : rebB s.its i F = false := by unfold rebB; rw [h, decide_eq_false h2]; rfl
  refine ⟨e, ?_⟩
  unfold rebS
  rw [if_pos ⟨h, e⟩]
/-- an alarm is put behind the others -/
theorem mon_alarm {w w4 : World} {base g : Nat} {s : MSt} {G I V Al R P Q A4 : Option Addr} {cg ci cv ca c4 nr cr np cp nq cq : Nat} {vs : List Value} (M : MonA w base g s G I V Al R P Q cg ci cv ca nr cr np cp nq cq vs) (a b : Int)
    (o4 : OwP isI1 54 2 w4 base A4 (s.al.length + 1) c4 (alC (s.al ++ [(a, b)]))) (u4 : Upd (phi1 Al) w w4) (b4 : blk A4 = blk Al ∨ ∀ k, blk A4 = some k → w.heap.size ≤ k) :
    MonA (w4.setCell ⟨g, 3, none⟩ (.slice A4 (s.al.length + 1) c4)) base g { s with al := s.al ++ [(a, b)] } G I V A4 R P Q cg ci cv c4 nr cr np cp nq cq vs ∧ Upd (phiM I Al g) w (w4.setCell ⟨g, 3, none⟩ (.slice A4 (s.al.length + 1) c4)) ∧ ∀ k, k < w.heap.size → phiM I A4 g k → phiM I Al g k := by
  have hB4 := M.blk.upd u4 (fun h => M.als.ne_blk M.blk (by decide) h)
  have gs := grown_set w4 ⟨g, 3, none⟩ (.slice A4 (s.al.length + 1) c4)
  have uF : Upd (phiM I Al g) w (w4.setCell ⟨g, 3, none⟩ (.slice A4 (s.al.length + 1) c4)) := (u4.mono (fun k _ hk => .inr (.inr hk))).trans (Upd.of_grown gs (fun k hk => by
    have hk2 : g = k := Option.some.inj hk
    exact .inl hk2.symm))
  have hm : ∀ k, k < w.heap.size → phiM I A4 g k → phiM I Al g k := by
    rintro k hk (h | h | h)
    · exact .inl h
    · exact .inr (.inl h)
    · rcases b4 with e | e
      · exact .inr (.inr (e.symm.trans h))
      · have := e k h
        omega
  obtain ⟨q1, q2, ⟨q3, q4⟩, q5, ⟨q6, q7⟩, q8, q9⟩ := mon_rest M uF hm
  have row4 := row_kept_p M.row M.als (by decide) u4
  have rowF := row4.grown gs (fun k hk e => row4.ne_blk hB4 (by decide) (hk.trans e))
  have alF := o4.grown gs (fun k hk e => o4.ne_blk hB4 (by decide) (hk.trans e))
  have bF := hB4.set 3 (.slice A4 (s.al.length + 1) c4)
  have hlen : (s.al ++ [(a, b)]).length = s.al.length + 1 := by simp
  refine ⟨⟨M.ge, ?_, rowF, q1, ?_, q2, q3, q4, q5, q6, q7, q8, q9⟩, uF, hm⟩
  · show Blk _ g 42 (monC G I V A4 R P Q cg s.its.length ci cv (s.al ++ [(a, b)]).length c4 nr cr np cp nq cq s.lx s.li s.has)
    rw [hlen]
    exact bF
  · show OwP isI1 54 2 _ base A4 (s.al ++ [(a, b)]).length c4 (alC (s.al ++ [(a, b)]))
    rw [hlen]
    exact alF
set_option maxHeartbeats 4000000 in
theorem mreb_anyd (w : World) (base g : Nat) (φ ρ : Nat → Prop) (s : MSt) (hM : MonD w base φ ρ g s) (i : Int) (A : Option Addr) (n c : Nat) (F : List UInt8) (rF : RB w A n c F) (hits : ∀ a ∈ s.its, a.length ≤ 1000000) (hal : s.al.length ≤ 100000) :
    Calls Tryz.prog 21 #[.pointer (some ⟨g, 0, none⟩), .int .i64 i, .slice A n c] w fun e w' => RebD w base φ ρ g (rebS s i F) (rebB s.its i F) e w' := by
  obtain ⟨G, I, V, Al, R0, P0, Q0, cg, ci, cv, ca, nr, cr, np0, cp0, nq0, cq0, vs, rfl, rfl, hA⟩ := hM
  have hM : MonD w base (phiM I Al g) (dltM V P0 Q0 s.its.length np0 nq0) g s := ⟨G, I, V, Al, R0, P0, Q0, cg, ci, cv, ca, nr, cr, np0, cp0, nq0, cq0, vs, rfl, rfl, hA⟩
  have hBg := hA.blk
  go_enter Tryz.func21, Tryz.ntmps21
  have y1 := hBg.cell (i := 1) (v := .slice I s.its.length ci) rfl
  by_cases h0 : i < 0
  · have Hr := Lib.hid (reb_no (s := s) (F := F) (i := i) (by unfold rebIn; rw [decide_eq_false (by omega)]; rfl))
    go_wp2_with fail
    go_ret
    rw [Hr.out.1, Hr.out.2]
    exact RebD.same hM (Ext.refl _)
  · by_cases h1 : (s.its.length : Int) ≤ i
    · have Hr := Lib.hid (reb_no (s := s) (F := F) (i := i) (by unfold rebIn; rw [decide_eq_false (by omega)]; rfl))
      go_wp2_with fail
      go_ret
      rw [Hr.out.1, Hr.out.2]
      exact RebD.same hM (Ext.refl _)
    · obtain ⟨k, rfl⟩ : ∃ k : Nat, i = (k : Int) := ⟨i.toNat, by omega⟩
      have hk : k < s.its.length := by omega
      obtain ⟨I0, rfl, hc⟩ := hA.row.at_ (by omega) (by omega)
      obtain ⟨B, m, d, hv, rB⟩ := hA.el k hk
      have y2 := hc k _ hv
      have hm : m ≤ 140737488355328 := by
        have h1 := rB.len
        have h2 := hits _ (lb_mem hk)
        omega
      have hd := mdec_any B m d _ w rB hm
      have Hd := Lib.hid hd
      have hroom := hA.row.room
      have hci := hroom.2
      unfold maxLen at hci
      clear hd hc hv
      go_wp2_with fail
      refine Hd.out.mono ?_
      clear y1 y2 Hd
      cases hdo : decOK (lb s.its k) with
      | false =>
        have Hr := Lib.hid (reb_no (s := s) (F := F) (i := (k : Int)) (by unfold rebIn; rw [Int.toNat_natCast, hdo, Bool.and_false]))
        rintro e w1 ⟨-, h, hE⟩
        obtain rfl := h rfl
        go_wp2_with fail
        go_ret
        rw [Hr.out.1, Hr.out.2]
        exact RebD.same hM (hE.trans (Ext.new _ _))
      | true =>
        have hin : rebIn s.its (k : Int) = true := by unfold rebIn; rw [decide_eq_true (by omega), Int.toNat_natCast, hdo]; rfl
        rintro e w1 ⟨h, -, hE⟩
        obtain ⟨F1, nf, cf, N1, nn, cn, rfl, rF1, rN1⟩ := h rfl
        unfold manV
        go_wp2_with fail
        have hE2 := Ext.new w1 (.cells #[.string (str (readM (lb s.its k)).man.name), .int .u32 (u32i (readM (lb s.its k)).man.ver), .slice F1 nf cf, .slice N1 nn cn] 58)
        replace hE2 := hE.trans hE2
        generalize hw2 : w1.alloc (.cells #[.string (str (readM (lb s.its k)).man.name), .int .u32 (u32i (readM (lb s.its k)).man.ver), .slice F1 nf cf, .slice N1 nn cn] 58) = w2 at *
        have rF2 : RB w2 F1 nf cf (readM (lb s.its k)).man.fw := by rw [← hw2]; exact rF1.ext (Ext.new _ _)
        refine (hsame_any F1 A nf cf n c _ _ w2 rF2 (rF.ext hE2)).mono ?_
        rintro e w3 ⟨rfl, rfl⟩
        clear hw2 hE rF1 rN1 rF rB h
        by_cases hfw : (readM (lb s.its k)).man.fw = F
        · have Hr := Lib.hid (reb_yes (s := s) (F := F) (i := (k : Int)) hin (by rw [Int.toNat_natCast]; exact hfw))
          rw [decide_eq_true hfw]
          clear hfw hin
          go_wp2_with fail
          go_ret
          rw [Hr.out.1, Hr.out.2]
          exact RebD.same hM hE2
        · have Hr := Lib.hid (reb_off (s := s) (F := F) (i := (k : Int)) hin (by rw [Int.toNat_natCast]; exact hfw))
          rw [decide_eq_false hfw]
          clear hfw hin
          have M2 := hA.ext hE2
          have hB2 := M2.blk
          have y3 := hB2.cell (i := 3) (v := .slice Al s.al.length ca) rfl
          have hEl := Ext.new w2 (.cells #[.int .i64 2, .int .i64 ((k : Nat) : Int)] 54)
          have hBl := Blk.new w2 54 #[.int .i64 2, .int .i64 ((k : Nat) : Int)]
          have M3 := M2.ext hEl
          have hbz : base ≤ (w2.alloc (.cells #[.int .i64 2, .int .i64 ((k : Nat) : Int)] 54)).heap.size := Nat.le_trans M3.ge (Nat.le_of_lt M3.blk.lt)
          have hn9 : ∀ (j : Nat) (u : Value), ([.int .i64 2, .int .i64 ((k : Nat) : Int)] : List Value)[j]? = some u → (w2.alloc (.cells #[.int .i64 2, .int .i64 ((k : Nat) : Int)] 54)).cell? ((⟨w2.heap.size, 0, none⟩ : Addr).add j) = some u := fun j u hu => by
            rw [add_plain]
            exact hBl.cell (i := j) (by rw [← hu]; exact List.getElem?_toArray)
          go_wp2_with (refine appp_law kAlarms rfl rfl rfl rfl M3.als rfl hn9 two_one two_I (by omega) hbz (by omega) ?_; intro A4 c4 w4 o4 g4 b4; have hB4 : Blk w4 g 42 _ := M3.blk.grown g4 (fun e => M3.als.ne_blk M3.blk (by decide) e.symm); have f3 := hB4.frozen 3; have x3 := hB4.cell (i := 3) (v := .slice Al s.al.length ca) rfl)
          go_ret
          rw [Hr.out.1, Hr.out.2]
          obtain ⟨r1, r2, r3⟩ := mon_alarm M3 2 ((k : Nat) : Int) (by rw [alC_snoc]; exact o4) (Upd.of_grown g4 (fun k hk => hk)) (b4.imp_right (fun e k hk => by rw [e] at hk; injection hk with hk; omega))
          exact ⟨rfl, _, ⟨G, some ⟨I0, 0, none⟩, V, A4, R0, P0, Q0, cg, ci, cv, c4, nr, cr, np0, cp0, nq0, cq0, vs, rfl, rfl, r1⟩, (Upd.of_ext (hE2.trans hEl)).trans r2, fun k hk hp => r3 k (Nat.lt_of_lt_of_le hk (hE2.trans hEl).size) hp⟩
theorem mreb_any (w : World) (base g : Nat) (φ : Nat → Prop) (s : MSt) (hM : MonR w base φ g s) (i : Int) (A : Option Addr) (n c : Nat) (F : List UInt8) (rF : RB w A n c F) (hits : ∀ a ∈ s.its, a.length ≤ 1000000) (hal : s.al.length ≤ 100000) :
    Calls Tryz.prog 21 #[.pointer (some ⟨g, 0, none⟩), .int .i64 i, .slice A n c] w fun e w' => RebP w base φ g (rebS s i F) (rebB s.its i F) e w' := by
  obtain ⟨ρ, hD⟩ := hM.toD
  exact (mreb_anyd w base g φ ρ s hD i A n c F rF hits hal).mono fun e w' h => h.toP
theorem OwP.mem {P : Value → Prop} {tE : TypeId} {sz base n c : Nat} {w : World} {A : Option Addr} {xs : List Value} (h : OwP P tE sz w base A n c xs) : ∀ u ∈ xs, P u := by
  intro u hu
  rcases h.2 with ⟨_, h0, _⟩ | ⟨g, cs, _, _, _, _, _, _, k7, k8⟩
  · rw [List.eq_nil_of_length_eq_zero (show xs.length = 0 by rw [h.1, h0, Nat.zero_mul])] at hu
    cases hu
  · rw [← k8] at hu
    exact k7 u (List.mem_of_mem_take hu)
theorem OwP.lit0 {P : Value → Prop} {tE : TypeId} {sz : Nat} (w : World) : OwP P tE sz (w.alloc (.cells #[] tE)) w.heap.size (some ⟨w.heap.size, 0, none⟩) 0 0 [] :=
  ⟨by simp, .inr ⟨w.heap.size, #[], rfl, Nat.le_refl _, Blk.new _ _ _, Nat.le_refl _, Nat.zero_le _, by simp, fun u hu => by simp at hu, by simp⟩⟩
/-- nothing is appended -/
theorem appp0_law {P : Value → Prop} {tS tE : TypeId} {sz by_ : Nat} {z : Value} (K : OwK P tS tE sz by_ z) {ops : Array Oper} {rest : List Oper} {o : Oper} {a : Act} {Q : Exit → Act → World → Prop} {w : World} (hgd : o.guard = none) {s x : Operand} (ho : o.op = .call { callee := .builtin .append, args := #[s, x], argTypes := #[tS, tS] })
    {A B : Option Addr} {n c d : Nat} (hs : a.eval s = .slice A n c) (hx : a.eval x = .slice B 0 d) (hnc : n ≤ c)
    (h : wpList Tryz.prog ops Q rest (a.put o.dst (.slice A n c)) w) : wpList Tryz.prog ops Q (o :: rest) a w := by
  obtain ⟨i0, hi0, hz0, hz1, hz2⟩ := info_parts K.info
  have hrun : (Builtin.append_ #[tS, tS] o.type #[.slice A n c, .slice B 0 d]).run Tryz.prog w = .ok (.slice A n c) w := by
    rcases A with _ | A <;> rcases B with _ | B <;> simp [Builtin.append_, run_underlying K.under, sizeOf, typeInfo, hi0, Builtin.lenOf, Builtin.firstCells, hnc, storeCells, loadCells, loadCellsFrom]
  refine run_law hgd (v := .slice A n c) (w' := w) ?_ h
  unfold execOp
  simp only [ho, resolve, invoke, builtin, Sem.run_bind, Sem.run_pure, Result.andThen_ok, List.map_toArray, List.map_cons, List.map_nil, hs, hx, hrun]
@[go_sem] theorem eql_nil_alarms (w : World) (A : Option Addr) (n c : Nat) : (binOp .eql 34 (.slice A n c) (.slice none 0 0)).run Tryz.prog w = .ok (.bool A.isNone) w :=
  Lib.run_eql_slice_nil w 34 54 A n c 0 0 Tryz.underlying34
theorem aclone_any (A : Option Addr) (base n c : Nat) (xs : List Value) (w : World) (h : OwP isI1 54 2 w base A n c xs) (hn : n ≤ 1000000) :
    Calls Tryz.prog 51 #[.slice A n c] w fun e w' => ∃ B d, e = .returned (.slice B n d) ∧ OwP isI1 54 2 w' w.heap.size B n d xs ∧ Ext w w' := by
  go_enter Tryz.func51, Tryz.ntmps51
  rcases A with _ | A
  · go_wp2_with fail
    go_ret
    rcases h.2 with ⟨_, rfl, rfl⟩ | ⟨g, cs, e, _⟩
    · obtain rfl : xs = [] := List.eq_nil_of_length_eq_zero (by rw [h.1, Nat.zero_mul])
      exact ⟨none, 0, rfl, OwP.none_ _ _, Ext.refl _⟩
    · cases e
  · have own0 := OwP.lit0 (P := isI1) (tE := 54) (sz := 2) w
    have hEl := Ext.new w (.cells #[] 54)
    rcases Nat.eq_zero_or_pos n with rfl | h0
    · obtain rfl : xs = [] := List.eq_nil_of_length_eq_zero (by rw [h.1, Nat.zero_mul])
      go_wp2_with (refine appp0_law kAlarms rfl rfl rfl rfl (Nat.le_refl _) ?_)
      go_ret
      exact ⟨_, 0, rfl, own0, hEl⟩
    · obtain ⟨g, e, hc⟩ := h.at_ h0 (by omega)
      injection e with e
      subst e
      go_wp2_with (refine appp_law kAlarms rfl rfl rfl rfl own0 h.1 (fun j u hu => by rw [add_plain]; exact hEl.cell (hc j u hu)) (fun u hu => by obtain ⟨x, rfl⟩ := h.mem u hu; rfl) h.mem (by omega) hEl.size h0 ?_; intro A7 c7 w2 own2 g2 b2)
      go_ret
      rw [Nat.zero_add, List.nil_append] at own2
      exact ⟨A7, c7, rfl, own2, hEl.then_grown g2 (by intro x hx; cases hx; exact Nat.le_refl _)⟩
theorem malarms_any (w : World) (base g : Nat) (φ : Nat → Prop) (s : MSt) (hM : MonR w base φ g s) (hal : s.al.length ≤ 100000) :
    Calls Tryz.prog 27 #[.pointer (some ⟨g, 0, none⟩)] w fun e w' => ∃ B d, e = .returned (.slice B s.al.length d) ∧ OwP isI1 54 2 w' w.heap.size B s.al.length d (alC s.al) ∧ Ext w w' := by
  obtain ⟨G, I, V, Al, R0, P0, Q0, cg, ci, cv, ca, nr, cr, np0, cp0, nq0, cq0, vs, rfl, hA⟩ := hM
  have y3 := hA.blk.cell (i := 3) (v := .slice Al s.al.length ca) rfl
  go_enter Tryz.func27, Tryz.ntmps27
  go_wp2_with fail
  refine (aclone_any Al base _ ca _ w hA.als (by omega)).mono ?_
  rintro e w1 ⟨B, d, rfl, own, hE⟩
  go_wp2_with fail
  go_ret
  exact ⟨B, d, rfl, own, hE⟩
end Go.Proofs.YtkndgpjamijbbaaGreat
namespace Go.Proofs.YtkndgpjamijbbaaGreat
set_option maxRecDepth 100000
open Go Go.RowKit
set_option maxHeartbeats 1000000 in
theorem item_any (a v f : Int) (w : World) (ha0 : -9223372036854775808 ≤ a) (ha1 : a ≤ 9223372036854775807) (hv0 : -9223372036854775808 ≤ v) (hv1 : v ≤ 9223372036854775807) (hf0 : -9223372036854775808 ≤ f) (hf1 : f ≤ 9223372036854775807) :
    Calls Tryz.prog 30 #[.int .i64 a, .int .i64 v, .int .i64 f] w fun e w' => ∃ A k c, e = .returned (.slice A k c) ∧ OB w' w.heap.size A k c (encM (kman a v f)) ∧ Ext w w' := by
  have hk := kman_any a v f w ha0 ha1 hv0 hv1 hf0 hf1
  have hr := kman_right a v f
  generalize kman a v f = m at hk hr ⊢
  obtain ⟨h1, h2, h3⟩ := right_small hr
  have H1 := Lib.hid h1
  have H2 := Lib.hid h2
  have H3 := Lib.hid h3
  clear h1 h2 h3 hr
  go_enter Tryz.func30, Tryz.ntmps30
  go_wp2_with fail
  refine hk.mono ?_
  rintro e w1 ⟨F, nf, cf, N, nn, cn, rfl, hF, hN, hE1⟩
  have hnf : nf = 32 := by rw [← hF.len]; exact H2.out
  have hnn : nn ≤ 64 := by rw [← hN.len]; exact H3.out
  subst hnf
  unfold manV
  go_wp2_with fail
  refine (renc_any m F N 32 cf nn cn w1 hF hN (by have := H1.out; omega) (by omega) (by omega)).mono ?_
  rintro e w2 ⟨A, k, c, rfl, own, hE2⟩
  go_wp2_with fail
  go_ret
  exact ⟨A, k, c, rfl, own.base hE1.size, hE1.trans hE2⟩
end Go.Proofs.YtkndgpjamijbbaaGreat
namespace Go.Proofs.YtkndgpjamijbbaaGreat
set_option maxRecDepth 100000
open Go Go.RowKit
noncomputable def it22 (which i : Nat) : List UInt8 := if i % 3 = 2 then [UInt8.ofNat i, UInt8.ofNat which] else encM (kman i ((i / 4 : Nat) : Int) which)
noncomputable def its22 (n which : Nat) : List (List UInt8) := (List.range n).map (it22 which)
theorem its22_snoc (n which : Nat) : its22 (n + 1) which = its22 n which ++ [it22 which n] := range_snoc _ _
def ItI (w : World) (n which : Nat) (v i : Value) (wr : World) : Prop :=
  ∃ (p d : Nat) (P : Option Addr), p ≤ n ∧ i = .int .i64 p ∧ v = .slice P p d ∧ OBC wr w.heap.size P p d (its22 p which) ∧ Ext w wr
set_option maxHeartbeats 4000000 in
theorem items22_any (n which : Nat) (w : World) (hn : n ≤ 100) (hw : which ≤ 100) :
    Calls Tryz.prog 13 #[.int .i64 (n : Int), .int .i64 (which : Int)] w fun e w' => ∃ A c, e = .returned (.slice A n c) ∧ OBC w' w.heap.size A n c (its22 n which) ∧ Ext w w' := by
  go_enter Tryz.func13, Tryz.ntmps13
  go_wp2_with fail
  go_loopw [5, 6] (fun v i wr => ItI w n which v i wr) (fun _ i _ => n - (intOf i).toNat)
  case atStart => exact ⟨0, 0, none, by omega, rfl, rfl, OBC.none_ _ _, Ext.refl _⟩
  case round =>
    obtain ⟨p, d, P, hp, rfl, rfl, own, hEr⟩ := hrel
    by_cases hlt : p < n
    · have hpn : (p : Int) < (n : Int) := by omega
      have hne : ∀ {w2 : World} {E1 : Option Addr} {z z1 : Nat} {L : List UInt8}, OB w2 wr.heap.size E1 z z1 L → 0 < z → blk E1 ≠ blk P := by
        intro w2 E1 z z1 L oE hz e
        obtain ⟨b, hb⟩ : ∃ b, blk E1 = some b := by
          obtain ⟨ad', h1, _⟩ := oE.rb.cells hz
          rw [h1]
          exact ⟨_, rfl⟩
        have h1 := oE.lt hb
        have h2 := own.lt (e.symm.trans hb)
        omega
      have e3 : (p : Int).tmod 3 = ((p % 3 : Nat) : Int) := (Int.ofNat_tmod p 3).symm
      have e4 : (p : Int).tdiv 4 = ((p / 4 : Nat) : Int) := (Int.ofNat_tdiv p 4).symm
      by_cases hm : p % 3 = 2
      · have hm2 : (p : Int).tmod 3 = 2 := by rw [e3, hm]; rfl
        have hY : it22 which p = [UInt8.ofNat p, UInt8.ofNat which] := if_pos hm
        have hEb := Ext.new wr (.cells #[.int .u8 (p : Int), .int .u8 (which : Int)] 5)
        have hBb := Blk.new wr 5 #[.int .u8 (p : Int), .int .u8 (which : Int)]
        have u1 : u8i (UInt8.ofNat p) = (p : Int) := by unfold u8i; rw [UInt8.toNat_ofNat']; omega
        have u2 : u8i (UInt8.ofNat which) = (which : Int) := by unfold u8i; rw [UInt8.toNat_ofNat']; omega
        have rY : RB (wr.alloc (.cells #[.int .u8 (p : Int), .int .u8 (which : Int)] 5)) (some ⟨wr.heap.size, 0, none⟩) 2 2 [UInt8.ofNat p, UInt8.ofNat which] := ⟨rfl, Nat.le_refl _, small_maxLen (by omega), fun _ => ⟨_, rfl, fun j hj => by
          rw [add_plain]
          rcases j with _ | _ | j
          · exact hBb.cell (i := 0) (by rw [show ub [UInt8.ofNat p, UInt8.ofNat which] 0 = UInt8.ofNat p from rfl, u1]; rfl)
          · exact hBb.cell (i := 1) (by rw [show ub [UInt8.ofNat p, UInt8.ofNat which] (0 + 1) = UInt8.ofNat which from rfl, u2]; rfl)
          · omega⟩⟩
        have hEl := Ext.new (wr.alloc (.cells #[.int .u8 (p : Int), .int .u8 (which : Int)] 5)) (.cells #[.slice (some ⟨wr.heap.size, 0, none⟩) 2 2] 26)
        have hBl := Blk.new (wr.alloc (.cells #[.int .u8 (p : Int), .int .u8 (which : Int)] 5)) 26 #[.slice (some ⟨wr.heap.size, 0, none⟩) 2 2]
        rw [World.size_alloc] at hBl
        have hE2 := hEr.trans (hEb.trans hEl)
        have own4 := own.ext (hEb.trans hEl)
        have hn2 : 0 < 2 → blk (some ⟨wr.heap.size, 0, none⟩) ≠ blk P := by
          intro _ e
          have h2 := own.lt (k := wr.heap.size) e.symm
          omega
        clear hne
        go_wp2_with (refine appbc_law (base := w.heap.size) (Y := [UInt8.ofNat p, UInt8.ofNat which]) rfl rfl rfl rfl (by rw [add_plain]; exact hBl.cell (i := 0) rfl) own4 (rY.ext hEl) hn2 hE2.size (by omega) ?_; intro P5 d5 w5 own5 g5)
        go_roundw
        case rel =>
          rw [← hY, ← its22_snoc] at own5
          exact ⟨p + 1, d5, P5, by omega, by go_num, rfl, own5, hE2.then_grown g5 (fun b hb => (own4.lt hb).1)⟩
        case measure => simp [intOf]; omega
      · have hm2 : ¬ (p : Int).tmod 3 = 2 := by rw [e3]; omega
        have hY : it22 which p = encM (kman p ((p / 4 : Nat) : Int) which) := if_neg hm
        have hit := item_any p ((p / 4 : Nat) : Int) which wr (by omega) (by omega) (by omega) (by omega) (by omega) (by omega)
        rw [← hY] at hit
        have Hit := Lib.hid hit
        clear hit
        go_wp2_with fail
        refine Hit.out.mono ?_
        rintro e w2 ⟨E1, z, z1, rfl, ownC, hE2⟩
        have hn2 := hne ownC
        clear Hit hne
        have hEl := Ext.new w2 (.cells #[.slice E1 z z1] 26)
        have hBl := Blk.new w2 26 #[.slice E1 z z1]
        have own4 := (own.ext hE2).ext hEl
        go_wp2_with (refine appbc_law (base := w.heap.size) (Y := it22 which p) rfl rfl rfl rfl (by rw [add_plain]; exact hBl.cell (i := 0) rfl) own4 (ownC.rb.ext hEl) hn2 ((hEr.trans hE2).trans hEl).size (by omega) ?_; intro P5 d5 w5 own5 g5)
        go_roundw
        case rel =>
          rw [← its22_snoc] at own5
          exact ⟨p + 1, d5, P5, by omega, by go_num, rfl, own5, ((hEr.trans hE2).trans hEl).then_grown g5 (fun b hb => (own4.lt hb).1)⟩
        case measure => simp [intOf]; omega
    · obtain rfl : n = p := by omega
      have hpn : ¬ (n : Int) < (n : Int) := by omega
      go_wp2_with fail
      go_ret
      exact ⟨P, d, rfl, own, hEr⟩
def MP.sg5 (b : Nat) (x : Int) (B : Option Addr) (nb d : Nat) (y : Int) (np : Nat) (Ps : List (List UInt8)) (nq : Nat) (Qs : List (List UInt8)) : MP Ext := ⟨fun u w => ∃ P c Q e, u = .agg #[.int .i64 x, .slice B nb d, .int .i64 y, .slice P np c, .slice Q nq e] ∧ OBC w b P np c Ps ∧ OBC w b Q nq e Qs, fun _ _ _ e ⟨P, c, Q, d, h1, h2, h3⟩ => ⟨P, c, Q, d, h1, h2.ext e, h3.ext e⟩⟩
/-- what a log signs of its items -/
def Sgd (w : World) (b : Nat) (S R : List UInt8) (n k : Nat) (B : Option Addr) (d : Nat) (P : Option Addr) (d1 : Nat) (Q : Option Addr) (d2 : Nat) : Prop :=
  RB w B 32 d R ∧ OBC w b P 64 d1 (sigP S (bodyC checkL (n : Int) R) k) ∧ OBC w b Q 4 d2 (pathL S k)
set_option maxHeartbeats 4000000 in
theorem signed22_any (g b : Nat) (S : List UInt8) (A : Option Addr) (n c : Nat) (Ls : List (List UInt8)) (w : World) (o1 : OwnR w b g S) (rA : RBB w A n c Ls) (hn : n ≤ 256) (hb : ∀ a ∈ Ls, a.length ≤ 1000000) :
    Calls Tryz.prog 14 #[.pointer (some ⟨g, 0, none⟩), .slice A n c] w fun e w' => ∃ B d P d1 Q d2, e = .returned (.agg #[.int .i64 (n : Int), .slice B 32 d, .int .i64 ((n % 16 : Nat) : Int), .slice P 64 d1, .slice Q 4 d2]) ∧ Sgd w' w.heap.size S (rootL (Ls.map leafH)) n (n % 16) B d P d1 Q d2 ∧ Ext w w' := by
  have hk16 : n % 16 < 16 := Nat.mod_lt _ (by omega)
  have hEa := Ext.new w (.cells #[.int .i64 0, .slice none 0 0, .int .i64 0, .slice none 0 0, .slice none 0 0] 40)
  have hB0 := Blk.new w 40 #[.int .i64 0, .slice none 0 0, .int .i64 0, .slice none 0 0, .slice none 0 0]
  go_enter Tryz.func14, Tryz.ntmps14
  go_wp2_with fail
  generalize w.alloc (.cells #[.int .i64 0, .slice none 0 0, .int .i64 0, .slice none 0 0, .slice none 0 0] 40) = w0 at *
  replace rA := rA.ext hEa
  replace o1 := o1.ext hEa
  refine (r6leaves_any A n c Ls w0 rA (by omega) hb).mono ?_
  rintro e w1 ⟨P0, d0, rfl, own, hE⟩
  have rL := own.rbb
  replace hB0 := hB0.ext hE
  replace o1 := o1.ext hE
  replace rA := rA.ext hE
  replace hEa := hEa.trans hE
  clear hE own
  go_wp2_with fail
  refine (r6root_any n P0 d0 _ w1 (by omega) rL (leaf_len Ls)).mono ?_
  rintro e w2 ⟨B, d, rfl, rR, hE⟩
  replace hB0 := hB0.ext hE
  replace o1 := o1.ext hE
  replace rA := rA.ext hE
  replace hEa := hEa.trans hE
  clear hE rL
  obtain ⟨R, hR⟩ : ∃ R, R = rootL (Ls.map leafH) := ⟨_, rfl⟩
  rw [← hR] at rR
  have HR := Lib.hid hR
  clear hR
  have hEn := Ext.new w2 (.cells #[.int .i64 (n : Int), .slice B 32 d] 36)
  have hBc := Blk.new w2 36 #[.int .i64 (n : Int), .slice B 32 d]
  replace hB0 := hB0.ext hEn
  replace o1 := o1.ext hEn
  replace rR := rR.ext hEn
  replace rA := rA.ext hEn
  replace hEa := hEa.trans hEn
  have hsz := hEa.size
  clear hEn
  go_upto_region 2 with (fail)
  generalize w2.alloc (.cells #[.int .i64 (n : Int), .slice B 32 d] 36) = w4 at *
  generalize w2.heap.size = gc at *
  refine par_ext (n := 9) (by kernel_rfl) [.is (.agg #[.int .i64 ((n : Int)), .slice (B) (32) (d)]), .is (.pointer (some ⟨g, 0, none⟩)), .is (.slice (A) (n) (c)), .is (.int .i64 ((n : Nat))), .is (.int .i64 (((n % 16 : Nat) : Int))), .is (.agg #[.int .i64 ((n : Int)), .slice (B) (32) (d)]), .rb (bodyC checkL (n : Int) R), .sgo (w4.heap.size) (((n % 16 : Nat) : Int)) (64) (sigP S (bodyC checkL (n : Int) R) (n % 16)) (4) (pathL S (n % 16)), .sg5 (w4.heap.size) ((n : Int)) (B) (32) (d) (((n % 16 : Nat) : Int)) (64) (sigP S (bodyC checkL (n : Int) R) (n % 16)) (4) (pathL S (n % 16))] rfl ⟨?_, ?_, ?_, ?_, ?_, ?_, ?_, ?_, ?_, trivial⟩ ?_
  · refine stepE rfl fun sdn sa sw sE sd sk => ?_
    have h5 : sa.eval (.tmp 5) = .pointer (some ⟨gc, 0, none⟩) := sk.old 5 rfl
    exact Runs.load rfl h5 (load_part (hBc.ext sE) 0 (vs := [.int .i64 ((n : Int)), .slice (B) (32) (d)]) rfl Tryz.underlying36 rfl (by kernel_rfl)) ⟨Ext.refl _, rfl⟩
  · refine stepE rfl fun sdn sa sw sE sd sk => ?_
    have h0 : sa.eval (.tmp 0) = .pointer (some ⟨g, 0, none⟩) := sk.old 0 rfl
    exact Runs.move rfl h0 ⟨Ext.refl _, rfl⟩
  · refine stepE rfl fun sdn sa sw sE sd sk => ?_
    have h1 : sa.eval (.tmp 1) = .slice (A) (n) (c) := sk.old 1 rfl
    exact Runs.move rfl h1 ⟨Ext.refl _, rfl⟩
  · refine stepE rfl fun sdn sa sw sE sd sk => ?_
    have h14 : sa.eval (.tmp 14) = .slice (A) (n) (c) := sk.fact 2 14 rfl (sd 2 rfl)
    exact Runs.len Tryz.underlying33 rfl h14 ⟨Ext.refl _, rfl⟩
  · refine stepE rfl fun sdn sa sw sE sd sk => ?_
    have h15 : sa.eval (.tmp 15) = .int .i64 ((n : Nat)) := sk.fact 3 15 rfl (sd 3 rfl)
    exact Runs.bin rfl h15 rfl (eqGuard_bin rfl) (bin_remn _ n 16 (by omega) (by omega)) ⟨Ext.refl _, rfl⟩
  · refine stepE rfl fun sdn sa sw sE sd sk => ?_
    have h5 : sa.eval (.tmp 5) = .pointer (some ⟨gc, 0, none⟩) := sk.old 5 rfl
    exact Runs.load rfl h5 (load_part (hBc.ext sE) 0 (vs := [.int .i64 ((n : Int)), .slice (B) (32) (d)]) rfl Tryz.underlying36 rfl (by kernel_rfl)) ⟨Ext.refl _, rfl⟩
  · refine stepE rfl fun sdn sa sw sE sd sk => ?_
    have h17 : sa.eval (.tmp 17) = .agg #[.int .i64 ((n : Int)), .slice (B) (32) (d)] := sk.fact 5 17 rfl (sd 5 rfl)
    refine Runs.call (f := 32) (vs := [.agg #[.int .i64 ((n : Int)), .slice (B) (32) (d)]]) rfl rfl rfl (by simp only [List.map_toArray, List.map_cons, List.map_nil, h17] <;> rfl) (ent32 _ _) ((rbody_any _ _ _ _ _ sw (rR.ext sE)).mono ?_); rintro e w' ⟨A', n', c', rfl, own, hx⟩; exact ⟨_, rfl, hx, A', n', c', rfl, own⟩
  · refine stepE rfl fun sdn sa sw sE sd sk => ?_
    have h13 : sa.eval (.tmp 13) = .pointer (some ⟨g, 0, none⟩) := sk.fact 1 13 rfl (sd 1 rfl)
    have h16 : sa.eval (.tmp 16) = .int .i64 (((n % 16 : Nat) : Int)) := sk.fact 4 16 rfl (sd 4 rfl)
    obtain ⟨A18, n18, c18, h18, r18⟩ := sk.fact 6 18 rfl (sd 6 rfl)
    refine Runs.call (f := 31) (vs := [.pointer (some ⟨g, 0, none⟩), .int .i64 (((n % 16 : Nat) : Int)), .slice (A18) (n18) (c18)]) rfl rfl rfl (by simp only [List.map_toArray, List.map_cons, List.map_nil, h13, h16, h18] <;> rfl) (ent31 _ _) ((rsign_own _ _ _ _ _ (n % 16) S (bodyC checkL (n : Int) R) sw (o1.ext sE) r18 (by rw [← RB.len r18]; exact Nat.le_trans lenW (by decide)) hk16).mono ?_); rintro e w' ⟨P, d, Q, d', rfl, h1, h2, hx⟩; exact ⟨_, rfl, hx, _, _, _, _, rfl, h1.base_ sE.size, h2.base_ sE.size⟩
  · refine stepE rfl fun sdn sa sw sE sd sk => ?_
    have h12 : sa.eval (.tmp 12) = .agg #[.int .i64 ((n : Int)), .slice (B) (32) (d)] := sk.fact 0 12 rfl (sd 0 rfl)
    obtain ⟨P19, c19, Q19, d19, h19, o19, p19⟩ := sk.fact 7 19 rfl (sd 7 rfl)
    refine Runs.of_run (r := .agg #[.int .i64 ((n : Int)), .slice (B) (32) (d), .int .i64 (((n % 16 : Nat) : Int)), .slice P19 64 c19, .slice Q19 4 d19]) (w' := sw) ?_ ⟨Ext.refl _, _, _, _, _, rfl, o19, p19⟩
    unfold execOp
    simp only [List.map_toArray, List.map_cons, List.map_nil, h12, h19]
    go_simp
  intro vals W2 hE2 hv2
  have e0 : vals 0 = .agg #[.int .i64 ((n : Int)), .slice (B) (32) (d)] := hv2 0 (by omega) 12 rfl
  have e1 : vals 1 = .pointer (some ⟨g, 0, none⟩) := hv2 1 (by omega) 13 rfl
  have e2 : vals 2 = .slice (A) (n) (c) := hv2 2 (by omega) 14 rfl
  have e3 : vals 3 = .int .i64 ((n : Nat)) := hv2 3 (by omega) 15 rfl
  have e4 : vals 4 = .int .i64 (((n % 16 : Nat) : Int)) := hv2 4 (by omega) 16 rfl
  have e5 : vals 5 = .agg #[.int .i64 ((n : Int)), .slice (B) (32) (d)] := hv2 5 (by omega) 17 rfl
  obtain ⟨A18, n18, c18, e6, r18⟩ := hv2 6 (by omega) 18 rfl
  obtain ⟨P19, c19, Q19, d19, e7, o19, p19⟩ := hv2 7 (by omega) 19 rfl
  obtain ⟨P20, c20, Q20, d20, e8, o20, p20⟩ := hv2 8 (by omega) 20 rfl
  simp only [putAll, Act.put, List.take_succ_cons, List.take_zero, List.drop_succ_cons, List.drop_zero, List.drop_nil, List.take_nil, Nat.reduceAdd, List.setIfInBounds_toArray, List.set_cons_succ, List.set_cons_zero, e0, e1, e2, e3, e4, e5, e6, e7, e8]
  clear hv2 e0 e1 e2 e3 e4 e5 e6 e7 e8
  replace hB0 := hB0.ext hE2
  replace rR := rR.ext hE2
  replace hEa := hEa.trans hE2
  clear hE2
  have fhB00 := hB0.frozen 0
  have fhB01 := hB0.frozen 1
  have fhB02 := hB0.frozen 2
  have fhB03 := hB0.frozen 3
  have fhB04 := hB0.frozen 4
  have xhB00 := hB0.cell (i := 0) rfl
  have xhB01 := hB0.cell (i := 1) rfl
  have xhB02 := hB0.cell (i := 2) rfl
  have xhB03 := hB0.cell (i := 3) rfl
  have xhB04 := hB0.cell (i := 4) rfl
  go_wp2_with fail
  refine bodyPost_ret (results_cell_row rfl _ _ w.heap.size _ _ _ _ rfl (setall5 hB0 _ _ _ _ _) Tryz.underlying40 rfl rfl) rfl ?_
  rw [← HR.out]
  exact ⟨_, _, _, _, _, _, rfl, ⟨rR.set5 hB0 _ _ _ _ _ _ _ _ _ _ _, (o20.base_ hsz).set5 (by decide) hB0 _ _ _ _ _ _ _ _ _ _ _, (p20.base_ hsz).set5 (by decide) hB0 _ _ _ _ _ _ _ _ _ _ _⟩, ext5 hEa (Nat.le_refl _) _ _ _ _ _⟩
end Go.Proofs.YtkndgpjamijbbaaGreat
namespace Go.Proofs.YtkndgpjamijbbaaGreat
set_option maxRecDepth 100000
theorem item_ne : tagged 0 (encM (kman 0 0 0)) ≠ tagged 0 (encM (kman 0 0 1)) := by decide +kernel
end Go.Proofs.YtkndgpjamijbbaaGreat

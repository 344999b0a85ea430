/-
  Monitor.Rebuild, Alarms, walked. keep.Item and law9.known, walked.
-/
import Derived.Test.YtkndgpjamijbbaaLawPieces22Q34
import Derived.Test.YtkndgpjamijbbaaLawPieces22Q25
import Derived.Test.YtkndgpjamijbbaaLawPieces22Q27
namespace Go.Proofs.Ytkndgpjamijbbaa
set_option maxRecDepth 100000
open Go Go.RowKit
def rebIn (its : List (List UInt8)) (i : Int) : Bool := decide (0 ≤ i ∧ i < (its.length : Int)) && decOK (lb its i.toNat)
def rebB (its : List (List UInt8)) (i : Int) (F : List UInt8) : Bool := rebIn its i && decide ((readM (lb its i.toNat)).man.fw = F)
def rebS (s : MSt) (i : Int) (F : List UInt8) : MSt := if rebIn s.its i = true ∧ rebB s.its i F = false then { s with al := s.al ++ [(2, i)] } else s
def RebP (w : World) (base : Nat) (φ : Nat → Prop) (g : Nat) (s' : MSt) (b : Bool) (e : Ending) (w' : World) : Prop :=
  e = .returned (.bool b) ∧ ∃ φ', MonR w' base φ' g s' ∧ Upd φ w w' ∧ ∀ k, k < w.heap.size → φ' k → φ k
theorem RebP.same {w w' : World} {base g : Nat} {φ : Nat → Prop} {s : MSt} {b : Bool} (h : MonR w base φ g s) (e : Ext w w') : RebP w base φ g s b (.returned (.bool b)) w' :=
  ⟨rfl, φ, h.ext e, Upd.of_ext e, fun _ _ h => h⟩
def RebD (w : World) (base : Nat) (φ ρ : Nat → Prop) (g : Nat) (s' : MSt) (b : Bool) (e : Ending) (w' : World) : Prop :=
  e = .returned (.bool b) ∧ ∃ φ', MonD w' base φ' ρ g s' ∧ Upd φ w w' ∧ ∀ k, k < w.heap.size → φ' k → φ k
theorem RebD.same {w w' : World} {base g : Nat} {φ ρ : Nat → Prop} {s : MSt} {b : Bool} (h : MonD w base φ ρ g s) (e : Ext w w') : RebD w base φ ρ g s b (.returned (.bool b)) w' :=
  ⟨rfl, φ, h.ext e, Upd.of_ext e, fun _ _ h => h⟩
theorem RebD.toP {w w' : World} {base g : Nat} {φ ρ : Nat → Prop} {s' : MSt} {b : Bool} {e : Ending} (h : RebD w base φ ρ g s' b e w') : RebP w base φ g s' b e w' := by
  obtain ⟨h1, φ', h3, h4, h5⟩ := h
  exact ⟨h1, φ', h3.toR, h4, h5⟩
theorem reb_no {s : MSt} {i : Int} {F : List UInt8} (h : rebIn s.its i = false) : rebB s.its i F = false ∧ rebS s i F = s := by
  refine ⟨by unfold rebB; rw [h]; rfl, ?_⟩
  unfold rebS
  rw [if_neg (by rw [h]; simp)]
theorem reb_yes {s : MSt} {i : Int} {F : List UInt8} (h : rebIn s.its i = true) (h2 : (readM (lb s.its i.toNat)).man.fw = F) : rebB s.its i F = true ∧ rebS s i F = s := by
  have e : rebB s.its i F = true := by unfold rebB; rw [h, decide_eq_true h2]; rfl
  refine ⟨e, ?_⟩
  unfold rebS
  rw [if_neg (by rw [e]; simp)]
theorem reb_off {s : MSt} {i : Int} {F : List UInt8} (h : rebIn s.its i = true) (h2 : ¬ (readM (lb s.its i.toNat)).man.fw = F) : rebB s.its i F = false ∧ rebS s i F = { s with al := s.al ++ [(2, i)] } := by
  have e : rebB s.its i F = false := by unfold rebB; rw [h, decide_eq_false h2]; rfl
  refine ⟨e, ?_⟩
  unfold rebS
  rw [if_pos ⟨h, e⟩]
/-- an alarm is put behind the others -/
theorem mon_alarm {w w4 : World} {base g : Nat} {s : MSt} {G I V Al R P Q A4 : Option Addr} {cg ci cv ca c4 nr cr np cp nq cq : Nat} {vs : List Value} (M : MonA w base g s G I V Al R P Q cg ci cv ca nr cr np cp nq cq vs) (a b : Int)
    (o4 : OwP isI1 75 2 w4 base A4 (s.al.length + 1) c4 (alC (s.al ++ [(a, b)]))) (u4 : Upd (phi1 Al) w w4) (b4 : blk A4 = blk Al ∨ ∀ k, blk A4 = some k → w.heap.size ≤ k) :
    MonA (w4.setCell ⟨g, 3, none⟩ (.slice A4 (s.al.length + 1) c4)) base g { s with al := s.al ++ [(a, b)] } G I V A4 R P Q cg ci cv c4 nr cr np cp nq cq vs ∧ Upd (phiM I Al g) w (w4.setCell ⟨g, 3, none⟩ (.slice A4 (s.al.length + 1) c4)) ∧ ∀ k, k < w.heap.size → phiM I A4 g k → phiM I Al g k := by
  have hB4 := M.blk.upd u4 (fun h => M.als.ne_blk M.blk (by decide) h)
  have gs := grown_set w4 ⟨g, 3, none⟩ (.slice A4 (s.al.length + 1) c4)
  have uF : Upd (phiM I Al g) w (w4.setCell ⟨g, 3, none⟩ (.slice A4 (s.al.length + 1) c4)) := (u4.mono (fun k _ hk => .inr (.inr hk))).trans (Upd.of_grown gs (fun k hk => by
    have hk2 : g = k := Option.some.inj hk
    exact .inl hk2.symm))
  have hm : ∀ k, k < w.heap.size → phiM I A4 g k → phiM I Al g k := by
    rintro k hk (h | h | h)
    · exact .inl h
    · exact .inr (.inl h)
    · rcases b4 with e | e
      · exact .inr (.inr (e.symm.trans h))
      · have := e k h
        omega
  obtain ⟨q1, q2, ⟨q3, q4⟩, q5, ⟨q6, q7⟩, q8, q9⟩ := mon_rest M uF hm
  have row4 := row_kept_p M.row M.als (by decide) u4
  have rowF := row4.grown gs (fun k hk e => row4.ne_blk hB4 (by decide) (hk.trans e))
  have alF := o4.grown gs (fun k hk e => o4.ne_blk hB4 (by decide) (hk.trans e))
  have bF := hB4.set 3 (.slice A4 (s.al.length + 1) c4)
  have hlen : (s.al ++ [(a, b)]).length = s.al.length + 1 := by simp
  refine ⟨⟨M.ge, ?_, rowF, q1, ?_, q2, q3, q4, q5, q6, q7, q8, q9⟩, uF, hm⟩
  · show Blk _ g 110 (monC G I V A4 R P Q cg s.its.length ci cv (s.al ++ [(a, b)]).length c4 nr cr np cp nq cq s.lx s.li s.has)
    rw [hlen]
    exact bF
  · show OwP isI1 75 2 _ base A4 (s.al ++ [(a, b)]).length c4 (alC (s.al ++ [(a, b)]))
    rw [hlen]
    exact alF
set_option maxHeartbeats 4000000 in
theorem mreb_anyd (w : World) (base g : Nat) (φ ρ : Nat → Prop) (s : MSt) (hM : MonD w base φ ρ g s) (i : Int) (A : Option Addr) (n c : Nat) (F : List UInt8) (rF : RB w A n c F) (hits : ∀ a ∈ s.its, a.length ≤ 1000000) (hal : s.al.length ≤ 100000) :
    Calls Try.prog 44 #[.pointer (some ⟨g, 0, none⟩), .int .i64 i, .slice A n c] w fun e w' => RebD w base φ ρ g (rebS s i F) (rebB s.its i F) e w' := by
  obtain ⟨G, I, V, Al, R0, P0, Q0, cg, ci, cv, ca, nr, cr, np0, cp0, nq0, cq0, vs, rfl, rfl, hA⟩ := hM
  have hM : MonD w base (phiM I Al g) (dltM V P0 Q0 s.its.length np0 nq0) g s := ⟨G, I, V, Al, R0, P0, Q0, cg, ci, cv, ca, nr, cr, np0, cp0, nq0, cq0, vs, rfl, rfl, hA⟩
  have hBg := hA.blk
  go_enter Try.func44, Try.ntmps44
  have y1 := hBg.cell (i := 1) (v := .slice I s.its.length ci) rfl
  by_cases h0 : i < 0
  · have Hr := Lib.hid (reb_no (s := s) (F := F) (i := i) (by unfold rebIn; rw [decide_eq_false (by omega)]; rfl))
    go_wp2_with fail
    go_ret
    rw [Hr.out.1, Hr.out.2]
    exact RebD.same hM (Ext.refl _)
  · by_cases h1 : (s.its.length : Int) ≤ i
    · have Hr := Lib.hid (reb_no (s := s) (F := F) (i := i) (by unfold rebIn; rw [decide_eq_false (by omega)]; rfl))
      go_wp2_with fail
      go_ret
      rw [Hr.out.1, Hr.out.2]
      exact RebD.same hM (Ext.refl _)
    · obtain ⟨k, rfl⟩ : ∃ k : Nat, i = (k : Int) := ⟨i.toNat, by omega⟩
      have hk : k < s.its.length := by omega
      obtain ⟨I0, rfl, hc⟩ := hA.row.at_ (by omega) (by omega)
      obtain ⟨B, m, d, hv, rB⟩ := hA.el k hk
      have y2 := hc k _ hv
      have hm : m ≤ 140737488355328 := by
        have h1 := rB.len
        have h2 := hits _ (lb_mem hk)
        omega
      have hd := mdec_any B m d _ w rB hm
      have Hd := Lib.hid hd
      have hroom := hA.row.room
      have hci := hroom.2
      unfold maxLen at hci
      clear hd hc hv
      go_wp2_with fail
      refine Hd.out.mono ?_
      clear y1 y2 Hd
      cases hdo : decOK (lb s.its k) with
      | false =>
        have Hr := Lib.hid (reb_no (s := s) (F := F) (i := (k : Int)) (by unfold rebIn; rw [Int.toNat_natCast, hdo, Bool.and_false]))
        rintro e w1 ⟨-, h, hE⟩
        obtain rfl := h rfl
        go_wp2_with fail
        go_ret
        rw [Hr.out.1, Hr.out.2]
        exact RebD.same hM (hE.trans (Ext.new _ _))
      | true =>
        have hin : rebIn s.its (k : Int) = true := by unfold rebIn; rw [decide_eq_true (by omega), Int.toNat_natCast, hdo]; rfl
        rintro e w1 ⟨h, -, hE⟩
        obtain ⟨F1, nf, cf, N1, nn, cn, rfl, rF1, rN1⟩ := h rfl
        unfold manV
        go_wp2_with fail
        have hE2 := Ext.new w1 (.cells #[.string (str (readM (lb s.its k)).man.name), .int .u32 (u32i (readM (lb s.its k)).man.ver), .slice F1 nf cf, .slice N1 nn cn] 117)
        replace hE2 := hE.trans hE2
        generalize hw2 : w1.alloc (.cells #[.string (str (readM (lb s.its k)).man.name), .int .u32 (u32i (readM (lb s.its k)).man.ver), .slice F1 nf cf, .slice N1 nn cn] 117) = w2 at *
        have rF2 : RB w2 F1 nf cf (readM (lb s.its k)).man.fw := by rw [← hw2]; exact rF1.ext (Ext.new _ _)
        refine (hsame_any F1 A nf cf n c _ _ w2 rF2 (rF.ext hE2)).mono ?_
        rintro e w3 ⟨rfl, rfl⟩
        clear hw2 hE rF1 rN1 rF rB h
        by_cases hfw : (readM (lb s.its k)).man.fw = F
        · have Hr := Lib.hid (reb_yes (s := s) (F := F) (i := (k : Int)) hin (by rw [Int.toNat_natCast]; exact hfw))
          rw [decide_eq_true hfw]
          clear hfw hin
          go_wp2_with fail
          go_ret
          rw [Hr.out.1, Hr.out.2]
          exact RebD.same hM hE2
        · have Hr := Lib.hid (reb_off (s := s) (F := F) (i := (k : Int)) hin (by rw [Int.toNat_natCast]; exact hfw))
          rw [decide_eq_false hfw]
          clear hfw hin
          have M2 := hA.ext hE2
          have hB2 := M2.blk
          have y3 := hB2.cell (i := 3) (v := .slice Al s.al.length ca) rfl
          have hEl := Ext.new w2 (.cells #[.int .i64 2, .int .i64 ((k : Nat) : Int)] 75)
          have hBl := Blk.new w2 75 #[.int .i64 2, .int .i64 ((k : Nat) : Int)]
          have M3 := M2.ext hEl
          have hbz : base ≤ (w2.alloc (.cells #[.int .i64 2, .int .i64 ((k : Nat) : Int)] 75)).heap.size := Nat.le_trans M3.ge (Nat.le_of_lt M3.blk.lt)
          have hn9 : ∀ (j : Nat) (u : Value), ([.int .i64 2, .int .i64 ((k : Nat) : Int)] : List Value)[j]? = some u → (w2.alloc (.cells #[.int .i64 2, .int .i64 ((k : Nat) : Int)] 75)).cell? ((⟨w2.heap.size, 0, none⟩ : Addr).add j) = some u := fun j u hu => by
            rw [add_plain]
            exact hBl.cell (i := j) (by rw [← hu]; exact List.getElem?_toArray)
          go_wp2_with (refine appp_law kAlarms rfl rfl rfl rfl M3.als rfl hn9 two_one two_I (by omega) hbz (by omega) ?_; intro A4 c4 w4 o4 g4 b4; have hB4 : Blk w4 g 110 _ := M3.blk.grown g4 (fun e => M3.als.ne_blk M3.blk (by decide) e.symm); have f3 := hB4.frozen 3; have x3 := hB4.cell (i := 3) (v := .slice Al s.al.length ca) rfl)
          go_ret
          rw [Hr.out.1, Hr.out.2]
          obtain ⟨r1, r2, r3⟩ := mon_alarm M3 2 ((k : Nat) : Int) (by rw [alC_snoc]; exact o4) (Upd.of_grown g4 (fun k hk => hk)) (b4.imp_right (fun e k hk => by rw [e] at hk; injection hk with hk; omega))
          exact ⟨rfl, _, ⟨G, some ⟨I0, 0, none⟩, V, A4, R0, P0, Q0, cg, ci, cv, c4, nr, cr, np0, cp0, nq0, cq0, vs, rfl, rfl, r1⟩, (Upd.of_ext (hE2.trans hEl)).trans r2, fun k hk hp => r3 k (Nat.lt_of_lt_of_le hk (hE2.trans hEl).size) hp⟩
theorem mreb_any (w : World) (base g : Nat) (φ : Nat → Prop) (s : MSt) (hM : MonR w base φ g s) (i : Int) (A : Option Addr) (n c : Nat) (F : List UInt8) (rF : RB w A n c F) (hits : ∀ a ∈ s.its, a.length ≤ 1000000) (hal : s.al.length ≤ 100000) :
    Calls Try.prog 44 #[.pointer (some ⟨g, 0, none⟩), .int .i64 i, .slice A n c] w fun e w' => RebP w base φ g (rebS s i F) (rebB s.its i F) e w' := by
  obtain ⟨ρ, hD⟩ := hM.toD
  exact (mreb_anyd w base g φ ρ s hD i A n c F rF hits hal).mono fun e w' h => h.toP
theorem OwP.mem {P : Value → Prop} {tE : TypeId} {sz base n c : Nat} {w : World} {A : Option Addr} {xs : List Value} (h : OwP P tE sz w base A n c xs) : ∀ u ∈ xs, P u := by
  intro u hu
  rcases h.2 with ⟨_, h0, _⟩ | ⟨g, cs, _, _, _, _, _, _, k7, k8⟩
  · rw [List.eq_nil_of_length_eq_zero (show xs.length = 0 by rw [h.1, h0, Nat.zero_mul])] at hu
    cases hu
  · rw [← k8] at hu
    exact k7 u (List.mem_of_mem_take hu)
theorem OwP.lit0 {P : Value → Prop} {tE : TypeId} {sz : Nat} (w : World) : OwP P tE sz (w.alloc (.cells #[] tE)) w.heap.size (some ⟨w.heap.size, 0, none⟩) 0 0 [] :=
  ⟨by simp, .inr ⟨w.heap.size, #[], rfl, Nat.le_refl _, Blk.new _ _ _, Nat.le_refl _, Nat.zero_le _, by simp, fun u hu => by simp at hu, by simp⟩⟩
/-- nothing is appended -/
theorem appp0_law {P : Value → Prop} {tS tE : TypeId} {sz by_ : Nat} {z : Value} (K : OwK P tS tE sz by_ z) {ops : Array Oper} {rest : List Oper} {o : Oper} {a : Act} {Q : Exit → Act → World → Prop} {w : World} (hgd : o.guard = none) {s x : Operand} (ho : o.op = .call { callee := .builtin .append, args := #[s, x], argTypes := #[tS, tS] })
    {A B : Option Addr} {n c d : Nat} (hs : a.eval s = .slice A n c) (hx : a.eval x = .slice B 0 d) (hnc : n ≤ c)
    (h : wpList Try.prog ops Q rest (a.put o.dst (.slice A n c)) w) : wpList Try.prog ops Q (o :: rest) a w := by
  obtain ⟨i0, hi0, hz0, hz1, hz2⟩ := info_parts K.info
  have hrun : (Builtin.append_ #[tS, tS] o.type #[.slice A n c, .slice B 0 d]).run Try.prog w = .ok (.slice A n c) w := by
    rcases A with _ | A <;> rcases B with _ | B <;> simp [Builtin.append_, run_underlying K.under, sizeOf, typeInfo, hi0, Builtin.lenOf, Builtin.firstCells, hnc, storeCells, loadCells, loadCellsFrom]
  refine run_law hgd (v := .slice A n c) (w' := w) ?_ h
  unfold execOp
  simp only [ho, resolve, invoke, builtin, Sem.run_bind, Sem.run_pure, Result.andThen_ok, List.map_toArray, List.map_cons, List.map_nil, hs, hx, hrun]
@[go_sem] theorem eql_nil_alarms (w : World) (A : Option Addr) (n c : Nat) : (binOp .eql 72 (.slice A n c) (.slice none 0 0)).run Try.prog w = .ok (.bool A.isNone) w :=
  Lib.run_eql_slice_nil w 72 75 A n c 0 0 Try.underlying72
theorem aclone_any (A : Option Addr) (base n c : Nat) (xs : List Value) (w : World) (h : OwP isI1 75 2 w base A n c xs) (hn : n ≤ 1000000) :
    Calls Try.prog 76 #[.slice A n c] w fun e w' => ∃ B d, e = .returned (.slice B n d) ∧ OwP isI1 75 2 w' w.heap.size B n d xs ∧ Ext w w' := by
  go_enter Try.func76, Try.ntmps76
  rcases A with _ | A
  · go_wp2_with fail
    go_ret
    rcases h.2 with ⟨_, rfl, rfl⟩ | ⟨g, cs, e, _⟩
    · obtain rfl : xs = [] := List.eq_nil_of_length_eq_zero (by rw [h.1, Nat.zero_mul])
      exact ⟨none, 0, rfl, OwP.none_ _ _, Ext.refl _⟩
    · cases e
  · have own0 := OwP.lit0 (P := isI1) (tE := 75) (sz := 2) w
    have hEl := Ext.new w (.cells #[] 75)
    rcases Nat.eq_zero_or_pos n with rfl | h0
    · obtain rfl : xs = [] := List.eq_nil_of_length_eq_zero (by rw [h.1, Nat.zero_mul])
      go_wp2_with (refine appp0_law kAlarms rfl rfl rfl rfl (Nat.le_refl _) ?_)
      go_ret
      exact ⟨_, 0, rfl, own0, hEl⟩
    · obtain ⟨g, e, hc⟩ := h.at_ h0 (by omega)
      injection e with e
      subst e
      go_wp2_with (refine appp_law kAlarms rfl rfl rfl rfl own0 h.1 (fun j u hu => by rw [add_plain]; exact hEl.cell (hc j u hu)) (fun u hu => by obtain ⟨x, rfl⟩ := h.mem u hu; rfl) h.mem (by omega) hEl.size h0 ?_; intro A7 c7 w2 own2 g2 b2)
      go_ret
      rw [Nat.zero_add, List.nil_append] at own2
      exact ⟨A7, c7, rfl, own2, hEl.then_grown g2 (by intro x hx; cases hx; exact Nat.le_refl _)⟩
theorem malarms_any (w : World) (base g : Nat) (φ : Nat → Prop) (s : MSt) (hM : MonR w base φ g s) (hal : s.al.length ≤ 100000) :
    Calls Try.prog 41 #[.pointer (some ⟨g, 0, none⟩)] w fun e w' => ∃ B d, e = .returned (.slice B s.al.length d) ∧ OwP isI1 75 2 w' w.heap.size B s.al.length d (alC s.al) ∧ Ext w w' := by
  obtain ⟨G, I, V, Al, R0, P0, Q0, cg, ci, cv, ca, nr, cr, np0, cp0, nq0, cq0, vs, rfl, hA⟩ := hM
  have y3 := hA.blk.cell (i := 3) (v := .slice Al s.al.length ca) rfl
  go_enter Try.func41, Try.ntmps41
  go_wp2_with fail
  refine (aclone_any Al base _ ca _ w hA.als (by omega)).mono ?_
  rintro e w1 ⟨B, d, rfl, own, hE⟩
  go_wp2_with fail
  go_ret
  exact ⟨B, d, rfl, own, hE⟩
end Go.Proofs.Ytkndgpjamijbbaa
namespace Go.Proofs.Ytkndgpjamijbbaa
set_option maxRecDepth 100000
open Go Go.RowKit
set_option maxHeartbeats 1000000 in
theorem item_any (a v f : Int) (w : World) (ha0 : -9223372036854775808 ≤ a) (ha1 : a ≤ 9223372036854775807) (hv0 : -9223372036854775808 ≤ v) (hv1 : v ≤ 9223372036854775807) (hf0 : -9223372036854775808 ≤ f) (hf1 : f ≤ 9223372036854775807) :
    Calls Try.prog 70 #[.int .i64 a, .int .i64 v, .int .i64 f] w fun e w' => ∃ A k c, e = .returned (.slice A k c) ∧ OB w' w.heap.size A k c (encM (kman a v f)) ∧ Ext w w' := by
  have hk := kman_any a v f w ha0 ha1 hv0 hv1 hf0 hf1
  have hr := kman_right a v f
  generalize kman a v f = m at hk hr ⊢
  obtain ⟨h1, h2, h3⟩ := right_small hr
  have H1 := Lib.hid h1
  have H2 := Lib.hid h2
  have H3 := Lib.hid h3
  clear h1 h2 h3 hr
  go_enter Try.func70, Try.ntmps70
  go_wp2_with fail
  refine hk.mono ?_
  rintro e w1 ⟨F, nf, cf, N, nn, cn, rfl, hF, hN, hE1⟩
  have hnf : nf = 32 := by rw [← hF.len]; exact H2.out
  have hnn : nn ≤ 64 := by rw [← hN.len]; exact H3.out
  subst hnf
  unfold manV
  go_wp2_with fail
  refine (renc_any m F N 32 cf nn cn w1 hF hN (by have := H1.out; omega) (by omega) (by omega)).mono ?_
  rintro e w2 ⟨A, k, c, rfl, own, hE2⟩
  go_wp2_with fail
  go_ret
  exact ⟨A, k, c, rfl, own.base hE1.size, hE1.trans hE2⟩
end Go.Proofs.Ytkndgpjamijbbaa

/-
  sign.Right and sign.Verify, walked. A region that draws its order and writes constant texts ('[]byte("..")'): new rows get the run-time's mark, their cells stay. Plain theorems. law5.known, walked.
-/
import Derived.Test.YtkndgpjamijbbaaLawPieces22Q16
import Derived.Test.YtkndgpjamijbbaaLawPieces22Q5
import Derived.Test.YtkndgpjamijbbaaLawPieces22Q2
import Derived.Lib.SlBytesConst
namespace Go.Proofs.Ytkndgpjamijbbaa
set_option maxRecDepth 100000
open Go Go.RowKit
def all32 (Ls : List (List UInt8)) : Prop := ∀ i, i < Ls.length → (lb Ls i).length = 32
open Classical in
noncomputable def hashB (Ls : List (List UInt8)) (k : Nat) : Bool := decide (Ls.length = k ∧ all32 Ls)
noncomputable def rightB (x : Int) (Ps Qs : List (List UInt8)) : Bool := decide (0 ≤ x ∧ x < 16) && hashB Ps 64 && hashB Qs 4
noncomputable def verB (X M : List UInt8) (x : Int) (Ps Qs : List (List UInt8)) : Bool := rightB x Ps Qs && decide (climb x.toNat (rootV M Ps) Qs 4 = X)
theorem not32_any (B : Option Addr) (m d : Nat) (w : World) : Calls Try.prog 131 #[.slice B m d] w fun e w' => e = .returned (.bool (decide (m ≠ 32))) ∧ w' = w := by
  have e : decide ((m : Int) ≠ 32) = decide (m ≠ 32) := by
    apply decide_eq_decide.2
    omega
  go_enter Try.func131, Try.ntmps131
  go_wp2_with fail
  go_ret
  refine ⟨?_, rfl⟩
  rw [← e]
  by_cases h : (m : Int) = 32 <;> simp [h]
def IdxI (w : World) (Ls : List (List UInt8)) (i : Value) (wr : World) : Prop :=
  ∃ k : Nat, k ≤ Ls.length ∧ i = .int .i64 k ∧ (∀ j, j < k → (lb Ls j).length = 32) ∧ wr = w
set_option maxHeartbeats 2000000 in
theorem indexf_any (A : Option Addr) (n c : Nat) (Ls : List (List UInt8)) (w : World) (hr : RBB w A n c Ls) :
    Calls Try.prog 89 #[.slice A n c, .func (.func 131) #[] #[]] w fun e w' => (∃ x : Int, e = .returned (.int .i64 x) ∧ (all32 Ls → x = -1) ∧ (¬ all32 Ls → 0 ≤ x)) ∧ w' = w := by
  have hcap := hr.cap
  have hroom := hr.room
  unfold maxLen at hcap
  have hl := hr.len
  have Hl := Lib.hid hl
  clear hl
  go_enter Try.func89, Try.ntmps89
  go_wp2_with fail
  go_loopw [8] (fun i wr => IdxI w Ls i wr) (fun i _ => n - (intOf i).toNat)
  case atStart => exact ⟨0, by omega, rfl, fun j hj => absurd hj (Nat.not_lt_zero _), rfl⟩
  case round =>
    obtain ⟨k, hk, rfl, hall, rfl⟩ := hrel
    rw [Hl.out] at hk
    have Hall := Lib.hid hall
    clear hall
    by_cases hlt : k < n
    · have hki : (k : Int) < (n : Int) := by omega
      obtain ⟨ad, rfl, hc⟩ := hr.cells (by omega)
      obtain ⟨E, z, y, hcell, hrE⟩ := hc k hlt
      have hz := hrE.len
      have Hz := Lib.hid hz
      clear hz hc hrE
      go_wp2_with fail
      refine (not32_any E z y wr).mono ?_
      rintro e w2 ⟨rfl, rfl⟩
      by_cases h32 : z = 32
      · have e1 : decide (z ≠ 32) = false := by simp [h32]
        rw [e1]
        go_wp2_with fail
        go_roundw
        case rel =>
          refine ⟨k + 1, by rw [Hl.out]; omega, by go_num, fun j hj => ?_, rfl⟩
          by_cases hjk : j = k
          · subst hjk; rw [Hz.out]; exact h32
          · exact Hall.out j (by omega)
        case measure => simp [intOf]; omega
      · have e1 : decide (z ≠ 32) = true := by simp [h32]
        rw [e1]
        go_wp2_with fail
        go_ret
        refine ⟨⟨_, rfl, fun h => ?_, fun _ => by omega⟩, rfl⟩
        have h1 := h k (by rw [Hl.out]; omega)
        rw [Hz.out] at h1
        exact absurd h1 h32
    · obtain rfl : k = n := by omega
      go_wp2_with fail
      go_ret
      refine ⟨⟨_, rfl, fun _ => rfl, fun h => absurd (fun j hj => ?_) h⟩, rfl⟩
      exact Hall.out j (by rw [← Hl.out]; exact hj)
theorem containsf_any (A : Option Addr) (n c : Nat) (Ls : List (List UInt8)) (w : World) (hr : RBB w A n c Ls) :
    Calls Try.prog 62 #[.slice A n c, .func (.func 131) #[] #[]] w fun e w' => (∃ b, e = .returned (.bool b) ∧ (all32 Ls → b = false) ∧ (¬ all32 Ls → b = true)) ∧ w' = w := by
  go_enter Try.func62, Try.ntmps62
  go_wp2_with fail
  refine (indexf_any A n c Ls w hr).mono ?_
  rintro e w2 ⟨⟨x, rfl, h1, h2⟩, rfl⟩
  have Hx1 := Lib.hid h1
  have Hx2 := Lib.hid h2
  clear h1 h2
  go_wp2_with fail
  go_ret
  refine ⟨⟨_, rfl, fun h => ?_, fun h => ?_⟩, rfl⟩
  · have := Hx1.out h; simp; omega
  · have := Hx2.out h; simp; omega
theorem hashes_any (A : Option Addr) (n c k : Nat) (Ls : List (List UInt8)) (w : World) (hr : RBB w A n c Ls) :
    Calls Try.prog 114 #[.slice A n c, .int .i64 (k : Int)] w fun e w' => e = .returned (.bool (hashB Ls k)) ∧ w' = w := by
  have hl := hr.len
  have Hl := Lib.hid hl
  clear hl
  go_enter Try.func114, Try.ntmps114
  by_cases h : n = k
  · subst h
    go_wp2_with fail
    refine (containsf_any A n c Ls w hr).mono ?_
    rintro e w2 ⟨⟨b, rfl, h1, h2⟩, rfl⟩
    have hv : hashB Ls n = !b := by
      unfold hashB
      by_cases ha : all32 Ls
      · rw [h1 ha]; simp [Hl.out, ha]
      · rw [h2 ha]; simp [ha]
    have Hv := Lib.hid hv
    clear h1 h2 hv
    go_wp2_with fail
    go_ret
    exact ⟨by rw [Hv.out]; rfl, rfl⟩
  · have hv : hashB Ls k = false := by unfold hashB; simp [Hl.out, h]
    have hk : ¬ ((n : Int) = (k : Int)) := by omega
    have Hv := Lib.hid hv
    clear hv
    go_wp2_with fail
    go_ret
    exact ⟨by rw [Hv.out]; rfl, rfl⟩
theorem sright_any (x : Int) (P Q : Option Addr) (np cp nq cq : Nat) (Ps Qs : List (List UInt8)) (w : World) (hp : RBB w P np cp Ps) (hq : RBB w Q nq cq Qs) :
    Calls Try.prog 90 #[.agg #[.int .i64 x, .slice P np cp, .slice Q nq cq]] w fun e w' => e = .returned (.bool (rightB x Ps Qs)) ∧ Ext w w' := by
  have e64 : ((64 : Nat) : Int) = 64 := rfl
  have e4 : ((4 : Nat) : Int) = 4 := rfl
  have hE1 := Ext.new w (.cells #[.int .i64 x, .slice P np cp, .slice Q nq cq] 42)
  go_enter Try.func90, Try.ntmps90
  by_cases h0 : 0 ≤ x
  · by_cases h1 : x < 16
    · have h2 := hashes_any P np cp 64 Ps _ (hp.ext hE1)
      have h3 := hashes_any Q nq cq 4 Qs _ (hq.ext hE1)
      rw [e64] at h2
      rw [e4] at h3
      have H2 := Lib.hid h2
      have H3 := Lib.hid h3
      have hv : rightB x Ps Qs = (hashB Ps 64 && hashB Qs 4) := by unfold rightB; simp [h0, h1]
      have Hv := Lib.hid hv
      clear h2 h3 hv
      go_wp2_with fail
      refine H2.out.mono ?_
      rintro e w2 ⟨rfl, rfl⟩
      clear H2
      cases hb : hashB Ps 64 with
      | true =>
        have Hb := Lib.hid hb
        clear hb
        go_wp2_with fail
        refine H3.out.mono ?_
        rintro e w3 ⟨rfl, rfl⟩
        clear H3
        go_wp2_with fail
        go_ret
        exact ⟨by rw [Hv.out, Hb.out]; rfl, hE1⟩
      | false =>
        have Hb := Lib.hid hb
        clear hb
        go_wp2_with fail
        go_ret
        exact ⟨by rw [Hv.out, Hb.out]; rfl, hE1⟩
    · have hv : rightB x Ps Qs = false := by unfold rightB; simp [h1]
      have Hv := Lib.hid hv
      clear hv
      go_wp2_with fail
      go_ret
      exact ⟨by rw [Hv.out]; rfl, hE1⟩
  · have hv : rightB x Ps Qs = false := by unfold rightB; simp [h0]
    have Hv := Lib.hid hv
    clear hv
    go_wp2_with fail
    go_ret
    exact ⟨by rw [Hv.out]; rfl, hE1⟩
theorem rightB_true {x : Int} {Ps Qs : List (List UInt8)} (h : rightB x Ps Qs = true) : (∃ k : Nat, k < 16 ∧ x = k) ∧ rootOK Ps ∧ Qs.length = 4 ∧ ∀ i, i < 4 → (lb Qs i).length = 32 := by
  unfold rightB hashB at h
  simp only [Bool.and_eq_true, decide_eq_true_eq] at h
  obtain ⟨⟨⟨h0, h1⟩, h2, h3⟩, h4, h5⟩ := h
  refine ⟨⟨x.toNat, by omega, by omega⟩, ⟨h2, fun i hi => h3 i (by omega)⟩, h4, fun i hi => h5 i (by omega)⟩
def VerI (w1 : World) (k : Nat) (T : List UInt8) (Qs : List (List UInt8)) (t a i : Value) (wr : World) : Prop :=
  ∃ (h d : Nat) (A : Option Addr), h ≤ 4 ∧ i = .int .i64 h ∧ a = .int .i64 ((k / 2 ^ h : Nat) : Int) ∧ t = .slice A 32 d ∧ RB wr A 32 d (climb k T Qs h) ∧ Ext w1 wr
set_option maxHeartbeats 4000000 in
theorem sverify_any (B D P Q : Option Addr) (m e' nd cd np cp nq cq : Nat) (x : Int) (X M : List UInt8) (Ps Qs : List (List UInt8)) (w : World) (hX : RB w D nd cd X) (hM : RB w B m e' M) (hmn : m ≤ 140737488355000) (hp : RBB w P np cp Ps) (hq : RBB w Q nq cq Qs) :
    Calls Try.prog 64 #[.slice D nd cd, .slice B m e', .agg #[.int .i64 x, .slice P np cp, .slice Q nq cq]] w fun e w' => e = .returned (.bool (verB X M x Ps Qs)) ∧ Ext w w' := by
  go_enter Try.func64, Try.ntmps64
  have hE1 := Ext.new w (.cells #[.int .i64 x, .slice P np cp, .slice Q nq cq] 42)
  have hB1 := Blk.new w 42 #[.int .i64 x, .slice P np cp, .slice Q nq cq]
  go_wp2_with fail
  refine (sright_any x P Q np cp nq cq Ps Qs _ (hp.ext hE1) (hq.ext hE1)).mono ?_
  rintro e w2 ⟨rfl, hE2⟩
  have hE12 := hE1.trans hE2
  have hB2 := hB1.ext hE2
  clear hB1
  cases hr : rightB x Ps Qs with
  | false =>
    have hv : verB X M x Ps Qs = false := by unfold verB; rw [hr]; rfl
    have Hv := Lib.hid hv
    clear hv hr
    go_wp2_with fail
    go_ret
    exact ⟨by rw [Hv.out]; rfl, hE12⟩
  | true =>
    obtain ⟨⟨k, hk, rfl⟩, hok, hql, hq32⟩ := rightB_true hr
    have hv : verB X M (k : Int) Ps Qs = decide (climb k (rootV M Ps) Qs 4 = X) := by unfold verB; rw [hr]; simp
    have Hv := Lib.hid hv
    clear hv hr
    obtain rfl : nq = 4 := hq.len.symm.trans hql
    have y0 : w2.cell? ⟨w.heap.size, 0, none⟩ = some (.int .i64 (k : Int)) := hB2.cell (i := 0) rfl
    have y1 : w2.cell? ⟨w.heap.size, 1, none⟩ = some (.slice P np cp) := hB2.cell (i := 1) rfl
    go_wp2_with fail
    refine (root_any B P m e' np cp M Ps _ (hM.ext hE12) hmn (hp.ext hE12)).mono ?_
    rintro e w3 ⟨hroot, _, hE3⟩
    obtain ⟨A3, c3, rfl, own3⟩ := hroot hok
    obtain ⟨T, hT⟩ : ∃ T, T = rootV M Ps := ⟨_, rfl⟩
    rw [← hT] at own3 Hv
    clear hT hroot y0 y1
    have hE13 := hE12.trans hE3
    have hB3 := hB2.ext hE3
    have z0 : w3.cell? ⟨w.heap.size, 0, none⟩ = some (.int .i64 (k : Int)) := hB3.cell (i := 0) rfl
    have z2 : w3.cell? ⟨w.heap.size, 2, none⟩ = some (.slice Q 4 cq) := hB3.cell (i := 2) rfl
    have own3 := own3.rb
    go_wp2_with fail
    go_loopw [7, 9, 27] (fun t a i wr => VerI w3 k T Qs t a i wr) (fun _ _ i _ => 4 - (intOf i).toNat)
    case atStart => exact ⟨0, c3, A3, by omega, rfl, by simp, rfl, own3, Ext.refl _⟩
    case round =>
      clear own3 hB3 z0 z2
      obtain ⟨h, d, A, hh, rfl, rfl, rfl, own, hEr⟩ := hrel
      have hEw := hE13.trans hEr
      by_cases hlt : h < 4
      · have hhi : (h : Int) < 4 := by omega
        obtain ⟨ad, rfl, hc⟩ := hq.cells (by omega)
        obtain ⟨E, z, y, hcell, hrE⟩ := hc h hlt
        obtain rfl : z = 32 := hrE.len.symm.trans (hq32 h hlt)
        have y1 := hEw.cell hcell
        have rE := hrE.ext hEw
        have hl1 := Lib.hid rE.len
        have hl2 := Lib.hid own.len
        have hs3 := Lib.hid (step_lt hk hlt).2.2
        have hcl : climb k T Qs (h + 1) = climbB k h (climb k T Qs h) (lb Qs h) := rfl
        unfold climbB at hcl
        have Hcl := Lib.hid hcl
        clear hcl hcell hrE hc hq
        have hq16 : k / 2 ^ h < 16 := Nat.lt_of_le_of_lt (Nat.div_le_self _ _) hk
        generalize climb k T Qs h = V at *
        generalize lb Qs h = Y at *
        generalize k / 2 ^ h = q at *
        by_cases hq2 : q % 2 = 0
        · have hqi : (q : Int) % 2 = 0 := by omega
          have r2 := RBB.of2 own rE 22
          have hEa := Ext.new wr (.cells #[.slice A 32 d, .slice E 32 y] 22)
          have hta := htagged_any 14 _ 2 2 _ _ r2 (by simp only [List.flatten_cons, List.flatten_nil, List.length_append, List.length_nil, hl1.out, hl2.out]; omega)
          have e14 : u8i 14 = 14 := rfl
          rw [e14, show [V, Y].flatten = V ++ Y from by simp] at hta
          have Hta := Lib.hid hta
          have hcl2 : climb k T Qs (h + 1) = tagged 14 (V ++ Y) := by rw [Hcl.out, if_pos hq2]; rfl
          have Hcl2 := Lib.hid hcl2
          clear hta hcl2 e14
          go_wp2_with fail
          refine Hta.out.mono ?_
          rintro e w5 ⟨A5, c5, rfl, own5, hE5⟩
          go_wp2_with fail
          go_roundw
          case rel => exact ⟨h + 1, c5, A5, by omega, by go_num, by rw [hs3.out]; go_num, rfl, by rw [Hcl2.out]; exact own5.rb, (hEr.trans hEa).trans hE5⟩
          case measure => simp [intOf]; omega
        · have hqi : ¬ ((q : Int) % 2 = 0) := by omega
          have r2 := RBB.of2 rE own 22
          have hEa := Ext.new wr (.cells #[.slice E 32 y, .slice A 32 d] 22)
          have hta := htagged_any 14 _ 2 2 _ _ r2 (by simp only [List.flatten_cons, List.flatten_nil, List.length_append, List.length_nil, hl1.out, hl2.out]; omega)
          have e14 : u8i 14 = 14 := rfl
          rw [e14, show [Y, V].flatten = Y ++ V from by simp] at hta
          have Hta := Lib.hid hta
          have hcl2 : climb k T Qs (h + 1) = tagged 14 (Y ++ V) := by rw [Hcl.out, if_neg hq2]; rfl
          have Hcl2 := Lib.hid hcl2
          clear hta hcl2 e14
          go_wp2_with fail
          refine Hta.out.mono ?_
          rintro e w5 ⟨A5, c5, rfl, own5, hE5⟩
          go_wp2_with fail
          go_roundw
          case rel => exact ⟨h + 1, c5, A5, by omega, by go_num, by rw [hs3.out]; go_num, rfl, by rw [Hcl2.out]; exact own5.rb, (hEr.trans hEa).trans hE5⟩
          case measure => simp [intOf]; omega
      · obtain rfl : h = 4 := by omega
        have hsm := hsame_any A D 32 d nd cd _ X wr own (hX.ext hEw)
        have Hsm := Lib.hid hsm
        clear hsm
        go_wp2_with fail
        refine Hsm.out.mono ?_
        rintro e w6 ⟨rfl, rfl⟩
        go_wp2_with fail
        go_ret
        exact ⟨by rw [Hv.out]; rfl, hEw⟩
end Go.Proofs.Ytkndgpjamijbbaa
namespace Go.Proofs.Ytkndgpjamijbbaa
set_option maxRecDepth 100000
open Go Go.RowKit
def bare : Obj → Obj
  | .cells c e _ => .cells c e (0, 0)
  | o => o
/-- all blocks stay, but for the run-time's marks -/
structure Mk (w w' : World) : Prop where
  size : w.heap.size ≤ w'.heap.size
  at_ : ∀ i, i < w.heap.size → (w'.heap[i]?).map bare = (w.heap[i]?).map bare
theorem Mk.of_ext {w w' : World} (e : Ext w w') : Mk w w' := ⟨e.size, fun i hi => by rw [e.block hi]⟩
theorem cell_bare {w w' : World} {i : Nat} (h : (w'.heap[i]?).map bare = (w.heap[i]?).map bare) (p : Addr) (hp : p.block = i) : w'.cell? p = w.cell? p := by
  unfold World.cell?
  rw [hp]
  cases h1 : w.heap[i]? with
  | none =>
    rw [h1] at h
    cases h2 : w'.heap[i]? with
    | none => rfl
    | some o => rw [h2] at h; cases h
  | some o =>
    rw [h1] at h
    cases h2 : w'.heap[i]? with
    | none => rw [h2] at h; cases h
    | some o' =>
      rw [h2] at h
      simp only [Option.map_some, Option.some.injEq] at h
      cases o <;> cases o' <;> simp_all [bare]
theorem shape_bare {w w' : World} {i : Nat} (h : (w'.heap[i]?).map bare = (w.heap[i]?).map bare) : w'.shape? i = w.shape? i := by
  unfold World.shape?
  cases h1 : w.heap[i]? with
  | none =>
    rw [h1] at h
    cases h2 : w'.heap[i]? with
    | none => rfl
    | some o => rw [h2] at h; cases h
  | some o =>
    rw [h1] at h
    cases h2 : w'.heap[i]? with
    | none => rw [h2] at h; cases h
    | some o' =>
      rw [h2] at h
      simp only [Option.map_some, Option.some.injEq] at h
      cases o <;> cases o' <;> simp_all [bare]
theorem Mk.cell {w w' : World} (h : Mk w w') {p : Addr} {v : Value} (hc : w.cell? p = some v) : w'.cell? p = some v :=
  (cell_bare (h.at_ p.block (World.block_lt_of_cell? w p hc)) p rfl).trans hc
theorem RB.mk_ {w w' : World} {A : Option Addr} {n c : Nat} {L : List UInt8} (h : RB w A n c L) (e : Mk w w') : RB w' A n c L :=
  ⟨h.len, h.room, h.cap, fun hn => by
    obtain ⟨ad, ha, hc⟩ := h.cells hn
    exact ⟨ad, ha, fun j hj => e.cell (hc j hj)⟩⟩
theorem Runs.conv_w {P : Program} {o : Oper} {ρ : Operand → Value} {w w' : World} {G : Value → World → Prop} {s t : TypeId} {x : Operand} {u r : Value} (ho : o.op = .convert s t x) (hx : ρ x = u) (hr : (convert s t u).run P w = .ok r w') (h : G r w') : Runs P o ρ w G := by
  unfold Runs execOp
  simp only [ho, hx, Sem.run_bind, hr, Result.andThen_ok, Sem.run_pure]
  exact h
/-- a constant text's new row -/
def MP.lit (b m : Nat) (L : List UInt8) : MP Mk := ⟨fun u w => ∃ g, u = .slice (some ⟨g, 0, none⟩) m m ∧ RB w (some ⟨g, 0, none⟩) m m L ∧ w.shape? g = some (5, m) ∧ b ≤ g ∧ g < w.heap.size, fun _ _ _ e ⟨g, h1, h2, h3, h4, h5⟩ => ⟨g, h1, h2.mk_ e, (shape_bare (e.at_ g h5)).trans h3, h4, Nat.lt_of_lt_of_le h5 e.size⟩⟩
section
variable {P : Program} {ops : Array Oper} {H : List Tmp} {F : List (MP Mk)} {a0 : Act} {w0 : World} {i : Nat} {o : Oper}
end
end Go.Proofs.Ytkndgpjamijbbaa
namespace Go.Proofs.Ytkndgpjamijbbaa
set_option maxRecDepth 100000
open Go Go.RowKit
theorem verB_own (S M : List UInt8) (k : Nat) (hk : k < 16) : verB (ownP S) M (k : Int) ((List.range 64).map (partS (digestW M) S k)) (pathL S k) = true := by
  obtain ⟨⟨h1, h2⟩, h3⟩ := root_sign M S (k : Int)
  have h4 : (pathL S k).length = 4 := by simp [pathL]
  have h5 : ∀ i, i < 4 → (lb (pathL S k) i).length = 32 := by
    intro i hi
    unfold pathL
    rw [lb_range _ hi]
    exact lb_lev_length S i _ (step_lt hk hi).1
  unfold verB rightB hashB
  rw [h3]
  have h6 : ((k : Int)).toNat = k := rfl
  rw [h6, climb_own S k hk]
  simp only [Bool.and_eq_true, decide_eq_true_eq]
  exact ⟨⟨⟨⟨by omega, by omega⟩, h1, fun i hi => h2 i (by omega)⟩, h4, fun i hi => h5 i (by omega)⟩, trivial⟩
end Go.Proofs.Ytkndgpjamijbbaa

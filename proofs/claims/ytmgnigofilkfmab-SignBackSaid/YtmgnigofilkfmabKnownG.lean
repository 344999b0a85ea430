/-
  sign.Right and sign.Verify, walked. A region that draws its order and writes constant texts ('[]byte("..")'): new rows get the run-time's mark, their cells stay. Plain theorems. law5.known, walked.
-/
import Derived.Test.YtmgnigofilkfmabSignG
import Derived.Test.YtmgnigofilkfmabOwn
import Derived.Test.YtmgnigofilkfmabRuns
import Derived.Lib.SlBytesConst
import Derived.Test.YtmgnigofilkfmabSeed
namespace Go.Proofs.Ytmgnigofilkfmab
set_option maxRecDepth 100000
open Go Go.RowKit
def all32 (Ls : List (List UInt8)) : Prop := ∀ i, i < Ls.length → (lb Ls i).length = 32
open Classical in
noncomputable def hashB (Ls : List (List UInt8)) (k : Nat) : Bool := decide (Ls.length = k ∧ all32 Ls)
noncomputable def rightB (x : Int) (Ps Qs : List (List UInt8)) : Bool := decide (0 ≤ x ∧ x < 16) && hashB Ps 64 && hashB Qs 4
noncomputable def verB (X M : List UInt8) (x : Int) (Ps Qs : List (List UInt8)) : Bool := rightB x Ps Qs && decide (climb x.toNat (rootV M Ps) Qs 4 = X)
theorem not32_any (B : Option Addr) (m d : Nat) (w : World) : Calls Try.prog 114 #[.slice B m d] w fun e w' => e = .returned (.bool (decide (m ≠ 32))) ∧ w' = w := by
  have e : decide ((m : Int) ≠ 32) = decide (m ≠ 32) := by
    apply decide_eq_decide.2
    omega
  go_enter Try.func114, Try.ntmps114
  go_wp2_with fail
  go_ret
  refine ⟨?_, rfl⟩
  rw [← e]
  by_cases h : (m : Int) = 32 <;> simp [h]
def IdxI (w : World) (Ls : List (List UInt8)) (i : Value) (wr : World) : Prop :=
  ∃ k : Nat, k ≤ Ls.length ∧ i = .int .i64 k ∧ (∀ j, j < k → (lb Ls j).length = 32) ∧ wr = w
set_option maxHeartbeats 2000000 in
theorem indexf_any (A : Option Addr) (n c : Nat) (Ls : List (List UInt8)) (w : World) (hr : RBB w A n c Ls) :
    Calls Try.prog 119 #[.slice A n c, .func (.func 114) #[] #[]] w fun e w' => (∃ x : Int, e = .returned (.int .i64 x) ∧ (all32 Ls → x = -1) ∧ (¬ all32 Ls → 0 ≤ x)) ∧ w' = w := by
  have hcap := hr.cap
  have hroom := hr.room
  unfold maxLen at hcap
  have hl := hr.len
  have Hl := Lib.hid hl
  clear hl
  go_enter Try.func119, Try.ntmps119
  go_wp2_with fail
  go_loopw [8] (fun i wr => IdxI w Ls i wr) (fun i _ => n - (intOf i).toNat)
  case atStart => exact ⟨0, by omega, rfl, fun j hj => absurd hj (Nat.not_lt_zero _), rfl⟩
  case round =>
    obtain ⟨k, hk, rfl, hall, rfl⟩ := hrel
    rw [Hl.out] at hk
    have Hall := Lib.hid hall
    clear hall
    by_cases hlt : k < n
    · have hki : (k : Int) < (n : Int) := by omega
      obtain ⟨ad, rfl, hc⟩ := hr.cells (by omega)
      obtain ⟨E, z, y, hcell, hrE⟩ := hc k hlt
      have hz := hrE.len
      have Hz := Lib.hid hz
      clear hz hc hrE
      go_wp2_with fail
      refine (not32_any E z y wr).mono ?_
      rintro e w2 ⟨rfl, rfl⟩
      by_cases h32 : z = 32
      · have e1 : decide (z ≠ 32) = false := by simp [h32]
        rw [e1]
        go_wp2_with fail
        go_roundw
        case rel =>
          refine ⟨k + 1, by rw [Hl.out]; omega, by go_num, fun j hj => ?_, rfl⟩
          by_cases hjk : j = k
          · subst hjk; rw [Hz.out]; exact h32
          · exact Hall.out j (by omega)
        case measure => simp [intOf]; omega
      · have e1 : decide (z ≠ 32) = true := by simp [h32]
        rw [e1]
        go_wp2_with fail
        go_ret
        refine ⟨⟨_, rfl, fun h => ?_, fun _ => by omega⟩, rfl⟩
        have h1 := h k (by rw [Hl.out]; omega)
        rw [Hz.out] at h1
        exact absurd h1 h32
    · obtain rfl : k = n := by omega
      go_wp2_with fail
      go_ret
      refine ⟨⟨_, rfl, fun _ => rfl, fun h => absurd (fun j hj => ?_) h⟩, rfl⟩
      exact Hall.out j (by rw [← Hl.out]; exact hj)
theorem containsf_any (A : Option Addr) (n c : Nat) (Ls : List (List UInt8)) (w : World) (hr : RBB w A n c Ls) :
    Calls Try.prog 113 #[.slice A n c, .func (.func 114) #[] #[]] w fun e w' => (∃ b, e = .returned (.bool b) ∧ (all32 Ls → b = false) ∧ (¬ all32 Ls → b = true)) ∧ w' = w := by
  go_enter Try.func113, Try.ntmps113
  go_wp2_with fail
  refine (indexf_any A n c Ls w hr).mono ?_
  rintro e w2 ⟨⟨x, rfl, h1, h2⟩, rfl⟩
  have Hx1 := Lib.hid h1
  have Hx2 := Lib.hid h2
  clear h1 h2
  go_wp2_with fail
  go_ret
  refine ⟨⟨_, rfl, fun h => ?_, fun h => ?_⟩, rfl⟩
  · have := Hx1.out h; simp; omega
  · have := Hx2.out h; simp; omega
theorem hashes_any (A : Option Addr) (n c k : Nat) (Ls : List (List UInt8)) (w : World) (hr : RBB w A n c Ls) :
    Calls Try.prog 104 #[.slice A n c, .int .i64 (k : Int)] w fun e w' => e = .returned (.bool (hashB Ls k)) ∧ w' = w := by
  have hl := hr.len
  have Hl := Lib.hid hl
  clear hl
  go_enter Try.func104, Try.ntmps104
  by_cases h : n = k
  · subst h
    go_wp2_with fail
    refine (containsf_any A n c Ls w hr).mono ?_
    rintro e w2 ⟨⟨b, rfl, h1, h2⟩, rfl⟩
    have hv : hashB Ls n = !b := by
      unfold hashB
      by_cases ha : all32 Ls
      · rw [h1 ha]; simp [Hl.out, ha]
      · rw [h2 ha]; simp [ha]
    have Hv := Lib.hid hv
    clear h1 h2 hv
    go_wp2_with fail
    go_ret
    exact ⟨by rw [Hv.out]; rfl, rfl⟩
  · have hv : hashB Ls k = false := by unfold hashB; simp [Hl.out, h]
    have hk : ¬ ((n : Int) = (k : Int)) := by omega
    have Hv := Lib.hid hv
    clear hv
    go_wp2_with fail
    go_ret
    exact ⟨by rw [Hv.out]; rfl, rfl⟩
theorem sright_any (x : Int) (P Q : Option Addr) (np cp nq cq : Nat) (Ps Qs : List (List UInt8)) (w : World) (hp : RBB w P np cp Ps) (hq : RBB w Q nq cq Qs) :
    Calls Try.prog 71 #[.agg #[.int .i64 x, .slice P np cp, .slice Q nq cq]] w fun e w' => e = .returned (.bool (rightB x Ps Qs)) ∧ Ext w w' := by
  have e64 : ((64 : Nat) : Int) = 64 := rfl
  have e4 : ((4 : Nat) : Int) = 4 := rfl
  have hE1 := Ext.new w (.cells #[.int .i64 x, .slice P np cp, .slice Q nq cq] 52)
  go_enter Try.func71, Try.ntmps71
  by_cases h0 : 0 ≤ x
  · by_cases h1 : x < 16
    · have h2 := hashes_any P np cp 64 Ps _ (hp.ext hE1)
      have h3 := hashes_any Q nq cq 4 Qs _ (hq.ext hE1)
      rw [e64] at h2
      rw [e4] at h3
      have H2 := Lib.hid h2
      have H3 := Lib.hid h3
      have hv : rightB x Ps Qs = (hashB Ps 64 && hashB Qs 4) := by unfold rightB; simp [h0, h1]
      have Hv := Lib.hid hv
      clear h2 h3 hv
      go_wp2_with fail
      refine H2.out.mono ?_
      rintro e w2 ⟨rfl, rfl⟩
      clear H2
      cases hb : hashB Ps 64 with
      | true =>
        have Hb := Lib.hid hb
        clear hb
        go_wp2_with fail
        refine H3.out.mono ?_
        rintro e w3 ⟨rfl, rfl⟩
        clear H3
        go_wp2_with fail
        go_ret
        exact ⟨by rw [Hv.out, Hb.out]; rfl, hE1⟩
      | false =>
        have Hb := Lib.hid hb
        clear hb
        go_wp2_with fail
        go_ret
        exact ⟨by rw [Hv.out, Hb.out]; rfl, hE1⟩
    · have hv : rightB x Ps Qs = false := by unfold rightB; simp [h1]
      have Hv := Lib.hid hv
      clear hv
      go_wp2_with fail
      go_ret
      exact ⟨by rw [Hv.out]; rfl, hE1⟩
  · have hv : rightB x Ps Qs = false := by unfold rightB; simp [h0]
    have Hv := Lib.hid hv
    clear hv
    go_wp2_with fail
    go_ret
    exact ⟨by rw [Hv.out]; rfl, hE1⟩
theorem rightB_true {x : Int} {Ps Qs : List (List UInt8)} (h : rightB x Ps Qs = true) : (∃ k : Nat, k < 16 ∧ x = k) ∧ rootOK Ps ∧ Qs.length = 4 ∧ ∀ i, i < 4 → (lb Qs i).length = 32 := by
  unfold rightB hashB at h
  simp only [Bool.and_eq_true, decide_eq_true_eq] at h
  obtain ⟨⟨⟨h0, h1⟩, h2, h3⟩, h4, h5⟩ := h
  refine ⟨⟨x.toNat, by omega, by omega⟩, ⟨h2, fun i hi => h3 i (by omega)⟩, h4, fun i hi => h5 i (by omega)⟩
def VerI (w1 : World) (k : Nat) (T : List UInt8) (Qs : List (List UInt8)) (t a i : Value) (wr : World) : Prop :=
  ∃ (h d : Nat) (A : Option Addr), h ≤ 4 ∧ i = .int .i64 h ∧ a = .int .i64 ((k / 2 ^ h : Nat) : Int) ∧ t = .slice A 32 d ∧ RB wr A 32 d (climb k T Qs h) ∧ Ext w1 wr
set_option maxHeartbeats 4000000 in
theorem sverify_any (B D P Q : Option Addr) (m e' nd cd np cp nq cq : Nat) (x : Int) (X M : List UInt8) (Ps Qs : List (List UInt8)) (w : World) (hX : RB w D nd cd X) (hM : RB w B m e' M) (hmn : m ≤ 140737488355000) (hp : RBB w P np cp Ps) (hq : RBB w Q nq cq Qs) :
    Calls Try.prog 33 #[.slice D nd cd, .slice B m e', .agg #[.int .i64 x, .slice P np cp, .slice Q nq cq]] w fun e w' => e = .returned (.bool (verB X M x Ps Qs)) ∧ Ext w w' := by
  go_enter Try.func33, Try.ntmps33
  have hE1 := Ext.new w (.cells #[.int .i64 x, .slice P np cp, .slice Q nq cq] 52)
  have hB1 := Blk.new w 52 #[.int .i64 x, .slice P np cp, .slice Q nq cq]
  go_wp2_with fail
  refine (sright_any x P Q np cp nq cq Ps Qs _ (hp.ext hE1) (hq.ext hE1)).mono ?_
  rintro e w2 ⟨rfl, hE2⟩
  have hE12 := hE1.trans hE2
  have hB2 := hB1.ext hE2
  clear hB1
  cases hr : rightB x Ps Qs with
  | false =>
    have hv : verB X M x Ps Qs = false := by unfold verB; rw [hr]; rfl
    have Hv := Lib.hid hv
    clear hv hr
    go_wp2_with fail
    go_ret
    exact ⟨by rw [Hv.out]; rfl, hE12⟩
  | true =>
    obtain ⟨⟨k, hk, rfl⟩, hok, hql, hq32⟩ := rightB_true hr
    have hv : verB X M (k : Int) Ps Qs = decide (climb k (rootV M Ps) Qs 4 = X) := by unfold verB; rw [hr]; simp
    have Hv := Lib.hid hv
    clear hv hr
    obtain rfl : nq = 4 := hq.len.symm.trans hql
    have y0 : w2.cell? ⟨w.heap.size, 0, none⟩ = some (.int .i64 (k : Int)) := hB2.cell (i := 0) rfl
    have y1 : w2.cell? ⟨w.heap.size, 1, none⟩ = some (.slice P np cp) := hB2.cell (i := 1) rfl
    go_wp2_with fail
    refine (root_any B P m e' np cp M Ps _ (hM.ext hE12) hmn (hp.ext hE12)).mono ?_
    rintro e w3 ⟨hroot, _, hE3⟩
    obtain ⟨A3, c3, rfl, own3⟩ := hroot hok
    obtain ⟨T, hT⟩ : ∃ T, T = rootV M Ps := ⟨_, rfl⟩
    rw [← hT] at own3 Hv
    clear hT hroot y0 y1
    have hE13 := hE12.trans hE3
    have hB3 := hB2.ext hE3
    have z0 : w3.cell? ⟨w.heap.size, 0, none⟩ = some (.int .i64 (k : Int)) := hB3.cell (i := 0) rfl
    have z2 : w3.cell? ⟨w.heap.size, 2, none⟩ = some (.slice Q 4 cq) := hB3.cell (i := 2) rfl
    have own3 := own3.rb
    go_wp2_with fail
    go_loopw [7, 9, 27] (fun t a i wr => VerI w3 k T Qs t a i wr) (fun _ _ i _ => 4 - (intOf i).toNat)
    case atStart => exact ⟨0, c3, A3, by omega, rfl, by simp, rfl, own3, Ext.refl _⟩
    case round =>
      clear own3 hB3 z0 z2
      obtain ⟨h, d, A, hh, rfl, rfl, rfl, own, hEr⟩ := hrel
      have hEw := hE13.trans hEr
      by_cases hlt : h < 4
      · have hhi : (h : Int) < 4 := by omega
        obtain ⟨ad, rfl, hc⟩ := hq.cells (by omega)
        obtain ⟨E, z, y, hcell, hrE⟩ := hc h hlt
        obtain rfl : z = 32 := hrE.len.symm.trans (hq32 h hlt)
        have y1 := hEw.cell hcell
        have rE := hrE.ext hEw
        have hl1 := Lib.hid rE.len
        have hl2 := Lib.hid own.len
        have hs3 := Lib.hid (step_lt hk hlt).2.2
        have hcl : climb k T Qs (h + 1) = climbB k h (climb k T Qs h) (lb Qs h) := rfl
        unfold climbB at hcl
        have Hcl := Lib.hid hcl
        clear hcl hcell hrE hc hq
        have hq16 : k / 2 ^ h < 16 := Nat.lt_of_le_of_lt (Nat.div_le_self _ _) hk
        generalize climb k T Qs h = V at *
        generalize lb Qs h = Y at *
        generalize k / 2 ^ h = q at *
        by_cases hq2 : q % 2 = 0
        · have hqi : (q : Int) % 2 = 0 := by omega
          have r2 := RBB.of2 own rE 22
          have hEa := Ext.new wr (.cells #[.slice A 32 d, .slice E 32 y] 22)
          have hta := htagged_any 14 _ 2 2 _ _ r2 (by simp only [List.flatten_cons, List.flatten_nil, List.length_append, List.length_nil, hl1.out, hl2.out]; omega)
          have e14 : u8i 14 = 14 := rfl
          rw [e14, show [V, Y].flatten = V ++ Y from by simp] at hta
          have Hta := Lib.hid hta
          have hcl2 : climb k T Qs (h + 1) = tagged 14 (V ++ Y) := by rw [Hcl.out, if_pos hq2]; rfl
          have Hcl2 := Lib.hid hcl2
          clear hta hcl2 e14
          go_wp2_with fail
          refine Hta.out.mono ?_
          rintro e w5 ⟨A5, c5, rfl, own5, hE5⟩
          go_wp2_with fail
          go_roundw
          case rel => exact ⟨h + 1, c5, A5, by omega, by go_num, by rw [hs3.out]; go_num, rfl, by rw [Hcl2.out]; exact own5.rb, (hEr.trans hEa).trans hE5⟩
          case measure => simp [intOf]; omega
        · have hqi : ¬ ((q : Int) % 2 = 0) := by omega
          have r2 := RBB.of2 rE own 22
          have hEa := Ext.new wr (.cells #[.slice E 32 y, .slice A 32 d] 22)
          have hta := htagged_any 14 _ 2 2 _ _ r2 (by simp only [List.flatten_cons, List.flatten_nil, List.length_append, List.length_nil, hl1.out, hl2.out]; omega)
          have e14 : u8i 14 = 14 := rfl
          rw [e14, show [Y, V].flatten = Y ++ V from by simp] at hta
          have Hta := Lib.hid hta
          have hcl2 : climb k T Qs (h + 1) = tagged 14 (Y ++ V) := by rw [Hcl.out, if_neg hq2]; rfl
          have Hcl2 := Lib.hid hcl2
          clear hta hcl2 e14
          go_wp2_with fail
          refine Hta.out.mono ?_
          rintro e w5 ⟨A5, c5, rfl, own5, hE5⟩
          go_wp2_with fail
          go_roundw
          case rel => exact ⟨h + 1, c5, A5, by omega, by go_num, by rw [hs3.out]; go_num, rfl, by rw [Hcl2.out]; exact own5.rb, (hEr.trans hEa).trans hE5⟩
          case measure => simp [intOf]; omega
      · obtain rfl : h = 4 := by omega
        have hsm := hsame_any A D 32 d nd cd _ X wr own (hX.ext hEw)
        have Hsm := Lib.hid hsm
        clear hsm
        go_wp2_with fail
        refine Hsm.out.mono ?_
        rintro e w6 ⟨rfl, rfl⟩
        go_wp2_with fail
        go_ret
        exact ⟨by rw [Hv.out]; rfl, hEw⟩
end Go.Proofs.Ytmgnigofilkfmab
namespace Go.Proofs.Ytmgnigofilkfmab
set_option maxRecDepth 100000
open Go Go.RowKit
def bare : Obj → Obj
  | .cells c e _ => .cells c e (0, 0)
  | o => o
/-- all blocks stay, but for the run-time's marks -/
structure Mk (w w' : World) : Prop where
  size : w.heap.size ≤ w'.heap.size
  at_ : ∀ i, i < w.heap.size → (w'.heap[i]?).map bare = (w.heap[i]?).map bare
theorem Mk.of_ext {w w' : World} (e : Ext w w') : Mk w w' := ⟨e.size, fun i hi => by rw [e.block hi]⟩
theorem cell_bare {w w' : World} {i : Nat} (h : (w'.heap[i]?).map bare = (w.heap[i]?).map bare) (p : Addr) (hp : p.block = i) : w'.cell? p = w.cell? p := by
  unfold World.cell?
  rw [hp]
  cases h1 : w.heap[i]? with
  | none =>
    rw [h1] at h
    cases h2 : w'.heap[i]? with
    | none => rfl
    | some o => rw [h2] at h; cases h
  | some o =>
    rw [h1] at h
    cases h2 : w'.heap[i]? with
    | none => rw [h2] at h; cases h
    | some o' =>
      rw [h2] at h
      simp only [Option.map_some, Option.some.injEq] at h
      cases o <;> cases o' <;> simp_all [bare]
theorem shape_bare {w w' : World} {i : Nat} (h : (w'.heap[i]?).map bare = (w.heap[i]?).map bare) : w'.shape? i = w.shape? i := by
  unfold World.shape?
  cases h1 : w.heap[i]? with
  | none =>
    rw [h1] at h
    cases h2 : w'.heap[i]? with
    | none => rfl
    | some o => rw [h2] at h; cases h
  | some o =>
    rw [h1] at h
    cases h2 : w'.heap[i]? with
    | none => rw [h2] at h; cases h
    | some o' =>
      rw [h2] at h
      simp only [Option.map_some, Option.some.injEq] at h
      cases o <;> cases o' <;> simp_all [bare]
theorem Mk.cell {w w' : World} (h : Mk w w') {p : Addr} {v : Value} (hc : w.cell? p = some v) : w'.cell? p = some v :=
  (cell_bare (h.at_ p.block (World.block_lt_of_cell? w p hc)) p rfl).trans hc
theorem RB.mk_ {w w' : World} {A : Option Addr} {n c : Nat} {L : List UInt8} (h : RB w A n c L) (e : Mk w w') : RB w' A n c L :=
  ⟨h.len, h.room, h.cap, fun hn => by
    obtain ⟨ad, ha, hc⟩ := h.cells hn
    exact ⟨ad, ha, fun j hj => e.cell (hc j hj)⟩⟩
theorem freeze_heap (w : World) (g k i : Nat) : (((w.freeze ⟨g, k, none⟩ 1).heap[i]?).map bare = (w.heap[i]?).map bare) ∧ (i ≠ g → (w.freeze ⟨g, k, none⟩ 1).heap[i]? = w.heap[i]?) := by
  unfold World.freeze
  rw [if_neg (by decide)]
  refine ⟨?_, fun hi => ?_⟩
  · show ((w.heap.modify g _)[i]?).map bare = _
    rw [Array.getElem?_modify]
    by_cases h : g = i
    · rw [if_pos h]
      cases w.heap[i]? with
      | none => rfl
      | some o => cases o <;> rfl
    · rw [if_neg h]
  · show (w.heap.modify g _)[i]? = _
    rw [Array.getElem?_modify, if_neg (Ne.symm hi)]
theorem freeze_size (w : World) (g k : Nat) : (w.freeze ⟨g, k, none⟩ 1).heap.size = w.heap.size := by
  unfold World.freeze
  rw [if_neg (by decide)]
  show (w.heap.modify g _).size = _
  rw [Array.size_modify]
theorem Mk.freeze (w : World) (g k : Nat) : Mk w (w.freeze ⟨g, k, none⟩ 1) := ⟨by rw [freeze_size]; exact Nat.le_refl _, fun i _ => (freeze_heap w g k i).1⟩
theorem Ext.freeze {w0 w : World} (h : Ext w0 w) {g k : Nat} (hg : w0.heap.size ≤ g) : Ext w0 (w.freeze ⟨g, k, none⟩ 1) :=
  h.then_grown (row := some g) ⟨by unfold World.freeze; rw [if_neg (by decide)], by unfold World.freeze; rw [if_neg (by decide)], by unfold World.freeze; rw [if_neg (by decide)], by rw [freeze_size]; exact Nat.le_refl _, fun i _ hne => (freeze_heap w g k i).2 (fun e => hne (by rw [e]))⟩ (by intro k hk; cases hk; exact hg)
theorem run_mark {P : Program} (w : World) (t e : TypeId) (g n m c : Nat) (ht : P.underlying t = some (.slice e)) (he : P.underlying e = some (.int .u8)) (hs : w.shape? g = some (e, m)) :
    (convert t t (.slice (some ⟨g, 0, none⟩) n c)).run P w = .ok (.slice (some ⟨g, 0, none⟩) n c) (w.freeze ⟨g, m, none⟩ 1) := by
  simp [convert, run_underlying ht, run_underlying he, markStringish, hs]
theorem OB.shape {w : World} {base g n c : Nat} {L : List UInt8} (h : OB w base (some ⟨g, 0, none⟩) n c L) : w.shape? g = some (5, c) := by
  rcases h.2 with ⟨e, _⟩ | ⟨g', cap, cur, e, _, h1, _, _, h2, _⟩
  · cases e
  · injection e with e1 e2 e3
    injection e1 with e1
    injection e1 with e1
    subst e1
    unfold World.shape?
    rw [h1]
    simp only [h2, e3, Nat.mul_one]
def MP.rbm (L : List UInt8) : MP Mk := ⟨fun u w => ∃ A n c, u = .slice A n c ∧ RB w A n c L, fun _ _ _ e ⟨A, n, c, h1, h2⟩ => ⟨A, n, c, h1, h2.mk_ e⟩⟩
def MP.rbk (n : Nat) (L : List UInt8) : MP Mk := ⟨fun u w => ∃ A c, u = .slice A n c ∧ RB w A n c L, fun _ _ _ e ⟨A, c, h1, h2⟩ => ⟨A, c, h1, h2.mk_ e⟩⟩
theorem Runs.conv_w {P : Program} {o : Oper} {ρ : Operand → Value} {w w' : World} {G : Value → World → Prop} {s t : TypeId} {x : Operand} {u r : Value} (ho : o.op = .convert s t x) (hx : ρ x = u) (hr : (convert s t u).run P w = .ok r w') (h : G r w') : Runs P o ρ w G := by
  unfold Runs execOp
  simp only [ho, hx, Sem.run_bind, hr, Result.andThen_ok, Sem.run_pure]
  exact h
/-- a constant text's new row -/
def MP.lit (b m : Nat) (L : List UInt8) : MP Mk := ⟨fun u w => ∃ g, u = .slice (some ⟨g, 0, none⟩) m m ∧ RB w (some ⟨g, 0, none⟩) m m L ∧ w.shape? g = some (5, m) ∧ b ≤ g ∧ g < w.heap.size, fun _ _ _ e ⟨g, h1, h2, h3, h4, h5⟩ => ⟨g, h1, h2.mk_ e, (shape_bare (e.at_ g h5)).trans h3, h4, Nat.lt_of_lt_of_le h5 e.size⟩⟩
section
variable {P : Program} {ops : Array Oper} {H : List Tmp} {F : List (MP Mk)} {a0 : Act} {w0 : World} {i : Nat} {o : Oper}
theorem stepEM (ho : o.guard = none) (h : ∀ (done : Nat → Bool) (a : Act) (w : World), Ext w0 w → (∀ j, (depsOf o).contains j = true → done j = true) → Known ops H F a0 done a w →
    Runs P o a.eval w fun v w' => Ext w w' ∧ factAt F i v w') : StepOK P ops H F (fun _ w' => Ext w0 w') a0 i o := by
  intro done a w hJ _ hd hk
  rw [if_pos (by simp [Region.wanted, ho])]
  exact (h done a w hJ (deps_done hd) hk).mono fun v w' hg => ⟨fun j _ u hu => factAt_keep (Mk.of_ext hg.1) j u hu, hJ.trans hg.1, hg.2⟩
theorem stepYM {j d : Nat} {b : Bool} (ho : o.guard = some (j, b)) (hj : dstAt ops j = some d) (hdep : (depsOf o).contains j = true) (hyes : ∀ v w, factAt F j v w → v = .bool b)
    (h : ∀ (done : Nat → Bool) (a : Act) (w : World), Ext w0 w → (∀ j, (depsOf o).contains j = true → done j = true) → Known ops H F a0 done a w →
    Runs P o a.eval w fun v w' => Ext w w' ∧ factAt F i v w') : StepOK P ops H F (fun _ w' => Ext w0 w') a0 i o := by
  intro done a w hJ _ hd hk
  have hd' := deps_done hd
  have hb := hyes _ _ (hk.fact j d hj (hd' j hdep))
  rw [if_pos (by simp [Region.wanted, ho, yielded_of hj hb])]
  exact (h done a w hJ hd' hk).mono fun v w' hg => ⟨fun j _ u hu => factAt_keep (Mk.of_ext hg.1) j u hu, hJ.trans hg.1, hg.2⟩
/-- the mark itself -/
theorem stepYK {j d : Nat} {b : Bool} (ho : o.guard = some (j, b)) (hj : dstAt ops j = some d) (hdep : (depsOf o).contains j = true) (hyes : ∀ v w, factAt F j v w → v = .bool b)
    (h : ∀ (done : Nat → Bool) (a : Act) (w : World), Ext w0 w → (∀ j, (depsOf o).contains j = true → done j = true) → Known ops H F a0 done a w →
    Runs P o a.eval w fun v w' => (Mk w w' ∧ Ext w0 w') ∧ factAt F i v w') : StepOK P ops H F (fun _ w' => Ext w0 w') a0 i o := by
  intro done a w hJ _ hd hk
  have hd' := deps_done hd
  have hb := hyes _ _ (hk.fact j d hj (hd' j hdep))
  rw [if_pos (by simp [Region.wanted, ho, yielded_of hj hb])]
  exact (h done a w hJ hd' hk).mono fun v w' hg => ⟨fun j _ u hu => factAt_keep hg.1.1 j u hu, hg.1.2, hg.2⟩
theorem stepEK (ho : o.guard = none) (h : ∀ (done : Nat → Bool) (a : Act) (w : World), Ext w0 w → (∀ j, (depsOf o).contains j = true → done j = true) → Known ops H F a0 done a w →
    Runs P o a.eval w fun v w' => (Mk w w' ∧ Ext w0 w') ∧ factAt F i v w') : StepOK P ops H F (fun _ w' => Ext w0 w') a0 i o := by
  intro done a w hJ _ hd hk
  rw [if_pos (by simp [Region.wanted, ho])]
  exact (h done a w hJ (deps_done hd) hk).mono fun v w' hg => ⟨fun j _ u hu => factAt_keep hg.1.1 j u hu, hg.1.2, hg.2⟩
theorem stepNM {j d : Nat} {b : Bool} (ho : o.guard = some (j, !b)) (hj : dstAt ops j = some d) (hdep : (depsOf o).contains j = true) (hno : ∀ v w, factAt F j v w → v = .bool b)
    (h : ∀ w, factAt F i undef w) : StepOK P ops H F (fun _ w' => Ext w0 w') a0 i o := by
  intro done a w hJ _ hd hk
  have hd' := deps_done hd
  have hb := hno _ _ (hk.fact j d hj (hd' j hdep))
  rw [if_neg (by simp [Region.wanted, ho, yielded_of hj hb])]
  exact ⟨hJ, h w⟩
end
theorem par_mk {ops : Array Oper} {id n : Nat} {a : Act} {w : World} {Q : Exit → Act → World → Prop}
    (hB : parB ops n = true) (F : List (MP Mk))
    (hsz : (dsts ops).all (fun t => decide (t < a.tmps.size)) = true)
    (steps : StepsOK Try.prog ops ((ops.toList.take n).filterMap (·.dst)) F (fun _ w' => Ext w w') a 0 (ops.toList.take n))
    (fin : ∀ (vals : Nat → Value) (w' : World), Ext w w' → (∀ j, j < n → ∀ d, dstAt ops j = some d → factAt F j (vals j) w') → wpList Try.prog ops Q (ops.toList.drop n) (putAll a 0 (ops.toList.take n) vals) w') :
    (Code.region id ops true).wp Try.prog Q a w :=
  par_region (R := Mk) (by kernel_rfl) hB F (fun _ w' => Ext w w') (Ext.refl w).drew (fun t ht => by simpa using List.all_eq_true.1 hsz t ht) steps (fun vals w' h1 h2 => fin vals w' h1 h2) (fun _ _ _ _ h => h)
end Go.Proofs.Ytmgnigofilkfmab
namespace Go.Proofs.Ytmgnigofilkfmab
set_option maxRecDepth 100000
open Go Go.RowKit
theorem ssign_used (A B : Option Addr) (c m e' : Nat) (key : Int) (w : World) (h : key < 0 ∨ 16 ≤ key) :
    Calls Try.prog 32 #[.slice A 32 c, .int .i64 key, .slice B m e'] w fun e w' => e = .returned (.tuple #[.agg #[.int .i64 0, .slice none 0 0, .slice none 0 0], .int .i64 23]) ∧ Ext w w' := by
  have hB6 := Blk.new w 52 #[.int .i64 0, .slice none 0 0, .slice none 0 0]
  have hE := Ext.new w (.cells #[.int .i64 0, .slice none 0 0, .slice none 0 0] 52)
  go_enter Try.func32, Try.ntmps32
  by_cases h0 : key < 0
  · go_wp2_with fail
    refine bodyPost_ret (results_sig rfl _ _ w.heap.size _ _ _ rfl hB6 Try.underlying52 rfl rfl) rfl ?_
    exact ⟨rfl, hE⟩
  · have h1 : 16 ≤ key := by omega
    go_wp2_with fail
    refine bodyPost_ret (results_sig rfl _ _ w.heap.size _ _ _ rfl hB6 Try.underlying52 rfl rfl) rfl ?_
    exact ⟨rfl, hE⟩
theorem load_sig {w : World} {b : Nat} {v0 v1 v2 : Value} (hB : Blk w b 52 #[v0, v1, v2]) :
    (Instr.loadAt 52 (.pointer (some ⟨b, 0, none⟩))).run Try.prog w = .ok (.agg #[v0, v1, v2]) w := by
  have h0 : (Try.prog.info? 52).map (·.size) = some (#[v0, v1, v2] : Array Value).size := by kernel_rfl
  simp [Instr.loadAt, Instr.sureAddr, run_loadVar_row w b 52 52 #[v0, v1, v2] (0, 0) _ hB Try.underlying52 rfl h0]
theorem seedL_length (k : Int) : (seedL k).length = 32 := tagged_length _ _
theorem verB_own (S M : List UInt8) (k : Nat) (hk : k < 16) : verB (ownP S) M (k : Int) ((List.range 64).map (partS (digestW M) S k)) (pathL S k) = true := by
  obtain ⟨⟨h1, h2⟩, h3⟩ := root_sign M S (k : Int)
  have h4 : (pathL S k).length = 4 := by simp [pathL]
  have h5 : ∀ i, i < 4 → (lb (pathL S k) i).length = 32 := by
    intro i hi
    unfold pathL
    rw [lb_range _ hi]
    exact lb_lev_length S i _ (step_lt hk hi).1
  unfold verB rightB hashB
  rw [h3]
  have h6 : ((k : Int)).toNat = k := rfl
  rw [h6, climb_own S k hk]
  simp only [Bool.and_eq_true, decide_eq_true_eq]
  exact ⟨⟨⟨⟨by omega, by omega⟩, h1, fun i hi => h2 i (by omega)⟩, h4, fun i hi => h5 i (by omega)⟩, trivial⟩
theorem verB_none (X M : List UInt8) : verB X M 0 [] [] = false := by unfold verB rightB hashB; simp
set_option maxHeartbeats 4000000 in
theorem known5_any (w : World) : Calls Try.prog 34 #[] w fun e w' => e = .returned (.bool true) ∧ Ext w w' := by
  go_enter Try.func34, Try.ntmps34
  go_wp2_with fail
  refine (seed_any 1 w (by omega) (by omega)).mono ?_
  rintro e w1 ⟨A1, c1, rfl, own1, hE1⟩
  obtain ⟨S, hS⟩ : ∃ S, S = seedL 1 := ⟨_, rfl⟩
  rw [← hS] at own1
  clear hS
  have rS1 := own1.rb
  have es : (#[.int .u8 109] : Array Value).size = 1 := rfl
  have s0 := Lib.run_convert_bytes_const (P := Try.prog) w1 22 5 #[.int .u8 109] 1 1 Try.underlying22 Try.underlying5
  rw [es] at s0
  obtain ⟨w2, hw2⟩ : ∃ w2, w2 = w1.alloc (.cells #[.int .u8 109] 5 (1, 1 + 1)) := ⟨_, rfl⟩
  have rM2 : RB w2 (some ⟨w1.heap.size, 0, none⟩) 1 1 [109] := by rw [hw2]; exact RB.litM w1 [109] (1, 1 + 1) (n := 1) rfl (small_maxLen (by decide))
  have hE2 : Ext w1 w2 := by rw [hw2]; exact Ext.new w1 _
  rw [← hw2] at s0
  clear hw2
  go_wp2_with fail
  have hsg := ssign_any A1 (some ⟨w1.heap.size, 0, none⟩) c1 1 1 15 S [109] w2 (rS1.ext hE2) rM2 (by omega) (by omega)
  have e15 : ((15 : Nat) : Int) = 15 := rfl
  rw [e15] at hsg
  refine hsg.mono ?_
  rintro e w3 ⟨P, d, Q, d', rfl, rP, rQ, hE3⟩
  clear hsg s0
  have hE23 := hE2.trans hE3
  have hE4 := Ext.new w3 (.cells #[.int .i64 15, .slice P 64 d, .slice Q 4 d'] 52)
  have hB4 := Blk.new w3 52 #[.int .i64 15, .slice P 64 d, .slice Q 4 d']
  obtain ⟨w4, hw4⟩ : ∃ w4, w4 = w3.alloc (.cells #[.int .i64 15, .slice P 64 d, .slice Q 4 d'] 52) := ⟨_, rfl⟩
  rw [← hw4] at hE4 hB4
  have s1 := Lib.run_convert_bytes_const (P := Try.prog) w4 22 5 #[.int .u8 109] 1 1 Try.underlying22 Try.underlying5
  rw [es, hw4, World.size_alloc] at s1
  go_wp2_with fail
  rw [← hw4]
  have rM5 : RB (w4.alloc (.cells #[.int .u8 109] 5 (1, 1 + 1))) (some ⟨w4.heap.size, 0, none⟩) 1 1 [109] := RB.litM w4 [109] (1, 1 + 1) (n := 1) rfl (small_maxLen (by decide))
  have hE5 : Ext w4 (w4.alloc (.cells #[.int .u8 109] 5 (1, 1 + 1))) := Ext.new w4 _
  refine (ssign_used A1 _ c1 1 1 16 _ (.inr (by omega))).mono ?_
  rintro e w6 ⟨rfl, hE6⟩
  have hE46 := hE5.trans hE6
  have hE7 := Ext.new w6 (.cells #[.int .i64 0, .slice none 0 0, .slice none 0 0] 52)
  have hE47 := hE46.trans hE7
  have hE37 := hE4.trans hE47
  have rP7 := rP.ext hE37
  have rQ7 := rQ.ext hE37
  have hE27 := hE3.trans hE37
  have hB7 := hB4.ext hE47
  have rS7 := ((rS1.ext hE2).ext hE27)
  have hEa := (hE1.trans hE2).trans hE27
  clear s1 hw4 rM5 hE5 hE6 hE46 hE47 hE37 hE27 hB4 rS1 rM2 rP rQ hE1 hE2 hE23 hE3 hE4
  go_upto_region 4 with (fail)
  generalize w6.alloc (.cells #[.int .i64 0, .slice none 0 0, .slice none 0 0] 52) = w7 at *
  refine par_mk (n := 24) (by kernel_rfl) [.is (.int .i64 ((0 : Int))), .is (.bool (true)), .is (.bool (true)), .is (.slice (A1) (32) (c1)), .rbm (ownP S), .lit (w7.heap.size) 1 ([(109 : UInt8)]), .rbk (1) ([(109 : UInt8)]), .is (.agg #[.int .i64 15, .slice P 64 d, .slice Q 4 d']), .is (.bool (true)), .is (.bool (true)), .is (.bool (true)), .is (.int .i64 ((23 : Int))), .is (.bool (true)), .is (.bool (true)), .is (.bool (true)), .is (.slice (A1) (32) (c1)), .rbm (ownP S), .lit (w7.heap.size) 1 ([(109 : UInt8)]), .rbk (1) ([(109 : UInt8)]), .is (.agg #[.int .i64 0, .slice none 0 0, .slice none 0 0]), .is (.bool (false)), .is (.bool (true)), .is (.bool (true)), .is (.bool (true))] rfl ⟨?_, ?_, ?_, ?_, ?_, ?_, ?_, ?_, ?_, ?_, ?_, ?_, ?_, ?_, ?_, ?_, ?_, ?_, ?_, ?_, ?_, ?_, ?_, ?_, trivial⟩ ?_
  · refine stepEM rfl fun sdn sa sw sE sd sk => ?_
    have h3 : sa.eval (.tmp 3) = .int .i64 ((0 : Int)) := sk.old 3 rfl
    exact Runs.move rfl h3 ⟨Ext.refl _, rfl⟩
  · refine stepEM rfl fun sdn sa sw sE sd sk => ?_
    have h21 : sa.eval (.tmp 21) = .int .i64 ((0 : Int)) := sk.fact 0 21 rfl (sd 0 rfl)
    exact Runs.bin rfl h21 rfl (by rfl) (bin_eql _ _ _ _) ⟨Ext.refl _, congrArg Value.bool (decide_eq_true rfl)⟩
  · refine stepEM rfl fun sdn sa sw sE sd sk => ?_
    have h22 : sa.eval (.tmp 22) = .bool (true) := sk.fact 1 22 rfl (sd 1 rfl)
    exact Runs.move rfl h22 ⟨Ext.refl _, rfl⟩
  · refine stepYM (j := 2) (d := 23) (b := true) rfl rfl rfl (fun v w h => h) fun sdn sa sw sE sd sk => ?_
    have h1 : sa.eval (.tmp 1) = .slice (A1) (32) (c1) := sk.old 1 rfl
    exact Runs.move rfl h1 ⟨Ext.refl _, rfl⟩
  · refine stepYM (j := 2) (d := 23) (b := true) rfl rfl rfl (fun v w h => h) fun sdn sa sw sE sd sk => ?_
    have h24 : sa.eval (.tmp 24) = .slice (A1) (32) (c1) := sk.fact 3 24 rfl (sd 3 rfl)
    refine Runs.call (f := 31) (vs := [.slice (A1) (32) (c1)]) rfl rfl rfl (by simp only [List.map_toArray, List.map_cons, List.map_nil, h24] <;> rfl) (ent31 _ _) ((spublic_any _ _ _ sw (rS7.ext sE)).mono ?_); rintro e w' ⟨A', c', rfl, own, hx⟩; exact ⟨_, rfl, hx, A', 32, c', rfl, own.rb⟩
  · refine stepYM (j := 2) (d := 23) (b := true) rfl rfl rfl (fun v w h => h) fun sdn sa sw sE sd sk => ?_
    have hlit : (.int .u8 109 : Value) = .int .u8 (u8i (109 : UInt8)) := rfl
    exact Runs.lit1 (b0 := 109) rfl hlit (fun w1 e1 o1 => ⟨e1, _, rfl, o1.rb, o1.shape, sE.size, (o1.lt (k := _) rfl).2⟩)
  · refine stepYK (j := 2) (d := 23) (b := true) rfl rfl rfl (fun v w h => h) fun sdn sa sw sE sd sk => ?_
    obtain ⟨g26, h26, r26, s26, b26, l26⟩ := sk.fact 5 26 rfl (sd 5 rfl)
    exact Runs.conv_w rfl h26 (run_mark sw _ _ g26 1 1 1 Try.underlying22 Try.underlying5 s26) ⟨⟨Mk.freeze _ _ _, sE.freeze b26⟩, _, _, rfl, r26.mk_ (Mk.freeze _ _ _)⟩
  · refine stepYM (j := 2) (d := 23) (b := true) rfl rfl rfl (fun v w h => h) fun sdn sa sw sE sd sk => ?_
    have h2 : sa.eval (.tmp 2) = .pointer (some ⟨w3.heap.size, 0, none⟩) := sk.old 2 rfl
    exact Runs.load rfl h2 (load_sig (hB7.ext sE)) ⟨Ext.refl _, rfl⟩
  · refine stepYM (j := 2) (d := 23) (b := true) rfl rfl rfl (fun v w h => h) fun sdn sa sw sE sd sk => ?_
    obtain ⟨A25, n25, c25, h25, r25⟩ := sk.fact 4 25 rfl (sd 4 rfl)
    obtain ⟨A27, c27, h27, r27⟩ := sk.fact 6 27 rfl (sd 6 rfl)
    have h28 : sa.eval (.tmp 28) = .agg #[.int .i64 15, .slice P 64 d, .slice Q 4 d'] := sk.fact 7 28 rfl (sd 7 rfl)
    refine Runs.call (f := 33) (vs := [.slice (A25) (n25) (c25), .slice (A27) (1) (c27), .agg #[.int .i64 15, .slice P 64 d, .slice Q 4 d']]) rfl rfl rfl (by simp only [List.map_toArray, List.map_cons, List.map_nil, h25, h27, h28] <;> rfl) (ent33 _ _) ((sverify_any _ _ P Q _ _ _ _ 64 d 4 d' 15 _ [109] ((List.range 64).map (partS (digestW [109]) S (15 : Int))) (pathL S 15) sw r25 r27 (by omega) (rP7.ext sE) (rQ7.ext sE)).mono ?_); rintro e w' ⟨rfl, hx⟩; exact ⟨_, rfl, hx, congrArg Value.bool (verB_own S [109] 15 (by omega))⟩
  · refine stepEM rfl fun sdn sa sw sE sd sk => ?_
    have h23 : sa.eval (.tmp 23) = .bool (true) := sk.fact 2 23 rfl (sd 2 rfl)
    have h29 : sa.eval (.tmp 29) = .bool (true) := sk.fact 8 29 rfl (sd 8 rfl)
    exact Runs.pick rfl h23 ⟨Ext.refl _, by first | exact h29 | simpa using h29⟩
  · refine stepEM rfl fun sdn sa sw sE sd sk => ?_
    have h30 : sa.eval (.tmp 30) = .bool (true) := sk.fact 9 30 rfl (sd 9 rfl)
    exact Runs.move rfl h30 ⟨Ext.refl _, rfl⟩
  · refine stepYM (j := 10) (d := 31) (b := true) rfl rfl rfl (fun v w h => h) fun sdn sa sw sE sd sk => ?_
    have h5 : sa.eval (.tmp 5) = .int .i64 ((23 : Int)) := sk.old 5 rfl
    exact Runs.move rfl h5 ⟨Ext.refl _, rfl⟩
  · refine stepYM (j := 10) (d := 31) (b := true) rfl rfl rfl (fun v w h => h) fun sdn sa sw sE sd sk => ?_
    have h32 : sa.eval (.tmp 32) = .int .i64 ((23 : Int)) := sk.fact 11 32 rfl (sd 11 rfl)
    exact Runs.bin rfl h32 rfl (by rfl) (bin_eql _ _ _ _) ⟨Ext.refl _, congrArg Value.bool (decide_eq_true rfl)⟩
  · refine stepEM rfl fun sdn sa sw sE sd sk => ?_
    have h31 : sa.eval (.tmp 31) = .bool (true) := sk.fact 10 31 rfl (sd 10 rfl)
    have h33 : sa.eval (.tmp 33) = .bool (true) := sk.fact 12 33 rfl (sd 12 rfl)
    exact Runs.pick rfl h31 ⟨Ext.refl _, by first | exact h33 | simpa using h33⟩
  · refine stepEM rfl fun sdn sa sw sE sd sk => ?_
    have h34 : sa.eval (.tmp 34) = .bool (true) := sk.fact 13 34 rfl (sd 13 rfl)
    exact Runs.move rfl h34 ⟨Ext.refl _, rfl⟩
  · refine stepYM (j := 14) (d := 35) (b := true) rfl rfl rfl (fun v w h => h) fun sdn sa sw sE sd sk => ?_
    have h1 : sa.eval (.tmp 1) = .slice (A1) (32) (c1) := sk.old 1 rfl
    exact Runs.move rfl h1 ⟨Ext.refl _, rfl⟩
  · refine stepYM (j := 14) (d := 35) (b := true) rfl rfl rfl (fun v w h => h) fun sdn sa sw sE sd sk => ?_
    have h36 : sa.eval (.tmp 36) = .slice (A1) (32) (c1) := sk.fact 15 36 rfl (sd 15 rfl)
    refine Runs.call (f := 31) (vs := [.slice (A1) (32) (c1)]) rfl rfl rfl (by simp only [List.map_toArray, List.map_cons, List.map_nil, h36] <;> rfl) (ent31 _ _) ((spublic_any _ _ _ sw (rS7.ext sE)).mono ?_); rintro e w' ⟨A', c', rfl, own, hx⟩; exact ⟨_, rfl, hx, A', 32, c', rfl, own.rb⟩
  · refine stepYM (j := 14) (d := 35) (b := true) rfl rfl rfl (fun v w h => h) fun sdn sa sw sE sd sk => ?_
    have hlit : (.int .u8 109 : Value) = .int .u8 (u8i (109 : UInt8)) := rfl
    exact Runs.lit1 (b0 := 109) rfl hlit (fun w1 e1 o1 => ⟨e1, _, rfl, o1.rb, o1.shape, sE.size, (o1.lt (k := _) rfl).2⟩)
  · refine stepYK (j := 14) (d := 35) (b := true) rfl rfl rfl (fun v w h => h) fun sdn sa sw sE sd sk => ?_
    obtain ⟨g38, h38, r38, s38, b38, l38⟩ := sk.fact 17 38 rfl (sd 17 rfl)
    exact Runs.conv_w rfl h38 (run_mark sw _ _ g38 1 1 1 Try.underlying22 Try.underlying5 s38) ⟨⟨Mk.freeze _ _ _, sE.freeze b38⟩, _, _, rfl, r38.mk_ (Mk.freeze _ _ _)⟩
  · refine stepYM (j := 14) (d := 35) (b := true) rfl rfl rfl (fun v w h => h) fun sdn sa sw sE sd sk => ?_
    refine Runs.of_run (r := .agg #[.int .i64 0, .slice none 0 0, .slice none 0 0]) (w' := sw) ?_ ⟨Ext.refl _, rfl⟩
    unfold execOp
    simp only [List.map_toArray, List.map_cons, List.map_nil]
    go_simp
  · refine stepYM (j := 14) (d := 35) (b := true) rfl rfl rfl (fun v w h => h) fun sdn sa sw sE sd sk => ?_
    obtain ⟨A37, n37, c37, h37, r37⟩ := sk.fact 16 37 rfl (sd 16 rfl)
    obtain ⟨A39, c39, h39, r39⟩ := sk.fact 18 39 rfl (sd 18 rfl)
    have h40 : sa.eval (.tmp 40) = .agg #[.int .i64 0, .slice none 0 0, .slice none 0 0] := sk.fact 19 40 rfl (sd 19 rfl)
    refine Runs.call (f := 33) (vs := [.slice (A37) (n37) (c37), .slice (A39) (1) (c39), .agg #[.int .i64 0, .slice none 0 0, .slice none 0 0]]) rfl rfl rfl (by simp only [List.map_toArray, List.map_cons, List.map_nil, h37, h39, h40] <;> rfl) (ent33 _ _) ((sverify_any _ _ none none _ _ _ _ 0 0 0 0 0 _ [109] [] [] sw r37 r39 (by omega) (RBB.nil_ _) (RBB.nil_ _)).mono ?_); rintro e w' ⟨rfl, hx⟩; exact ⟨_, rfl, hx, congrArg Value.bool (verB_none _ _)⟩
  · refine stepYM (j := 14) (d := 35) (b := true) rfl rfl rfl (fun v w h => h) fun sdn sa sw sE sd sk => ?_
    have h41 : sa.eval (.tmp 41) = .bool (false) := sk.fact 20 41 rfl (sd 20 rfl)
    exact Runs.un rfl h41 (by rfl) ⟨Ext.refl _, rfl⟩
  · refine stepEM rfl fun sdn sa sw sE sd sk => ?_
    have h35 : sa.eval (.tmp 35) = .bool (true) := sk.fact 14 35 rfl (sd 14 rfl)
    have h42 : sa.eval (.tmp 42) = .bool (true) := sk.fact 21 42 rfl (sd 21 rfl)
    exact Runs.pick rfl h35 ⟨Ext.refl _, by first | exact h42 | simpa using h42⟩
  · refine stepEM rfl fun sdn sa sw sE sd sk => ?_
    have h43 : sa.eval (.tmp 43) = .bool (true) := sk.fact 22 43 rfl (sd 22 rfl)
    exact Runs.assign rfl h43 ⟨Ext.refl _, rfl⟩
  intro vals W9 hE hv
  have e0 : vals 0 = .int .i64 ((0 : Int)) := hv 0 (by omega) 21 rfl
  have e1 : vals 1 = .bool (true) := hv 1 (by omega) 22 rfl
  have e2 : vals 2 = .bool (true) := hv 2 (by omega) 23 rfl
  have e3 : vals 3 = .slice (A1) (32) (c1) := hv 3 (by omega) 24 rfl
  obtain ⟨A25, n25, c25, e4, r25⟩ := hv 4 (by omega) 25 rfl
  obtain ⟨g26, e5, r26, s26, b26, l26⟩ := hv 5 (by omega) 26 rfl
  obtain ⟨A27, c27, e6, r27⟩ := hv 6 (by omega) 27 rfl
  have e7 : vals 7 = .agg #[.int .i64 15, .slice P 64 d, .slice Q 4 d'] := hv 7 (by omega) 28 rfl
  have e8 : vals 8 = .bool (true) := hv 8 (by omega) 29 rfl
  have e9 : vals 9 = .bool (true) := hv 9 (by omega) 30 rfl
  have e10 : vals 10 = .bool (true) := hv 10 (by omega) 31 rfl
  have e11 : vals 11 = .int .i64 ((23 : Int)) := hv 11 (by omega) 32 rfl
  have e12 : vals 12 = .bool (true) := hv 12 (by omega) 33 rfl
  have e13 : vals 13 = .bool (true) := hv 13 (by omega) 34 rfl
  have e14 : vals 14 = .bool (true) := hv 14 (by omega) 35 rfl
  have e15 : vals 15 = .slice (A1) (32) (c1) := hv 15 (by omega) 36 rfl
  obtain ⟨A37, n37, c37, e16, r37⟩ := hv 16 (by omega) 37 rfl
  obtain ⟨g38, e17, r38, s38, b38, l38⟩ := hv 17 (by omega) 38 rfl
  obtain ⟨A39, c39, e18, r39⟩ := hv 18 (by omega) 39 rfl
  have e19 : vals 19 = .agg #[.int .i64 0, .slice none 0 0, .slice none 0 0] := hv 19 (by omega) 40 rfl
  have e20 : vals 20 = .bool (false) := hv 20 (by omega) 41 rfl
  have e21 : vals 21 = .bool (true) := hv 21 (by omega) 42 rfl
  have e22 : vals 22 = .bool (true) := hv 22 (by omega) 43 rfl
  have e23 : vals 23 = .bool (true) := hv 23 (by omega) 0 rfl
  simp only [putAll, Act.put, List.take_succ_cons, List.take_zero, List.drop_succ_cons, List.drop_zero, List.drop_nil, List.take_nil, Nat.reduceAdd, List.setIfInBounds_toArray, List.set_cons_succ, List.set_cons_zero, e0, e1, e2, e3, e4, e5, e6, e7, e8, e9, e10, e11, e12, e13, e14, e15, e16, e17, e18, e19, e20, e21, e22, e23]
  clear hv e0 e1 e2 e3 e4 e5 e6 e7 e8 e9 e10 e11 e12 e13 e14 e15 e16 e17 e18 e19 e20 e21 e22 e23
  go_wp2_with fail
  go_ret
  exact ⟨rfl, hEa.trans hE⟩
end Go.Proofs.Ytmgnigofilkfmab

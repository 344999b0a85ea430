/-
  sign.Encode and ref5.Encode, walked.
-/
import Derived.Test.YtmgnigofilkfmabConcat
import Derived.Test.YtmgnigofilkfmabWire2
import Derived.Test.YtmgnigofilkfmabOwner3
namespace Go.Proofs.Ytmgnigofilkfmab
set_option maxRecDepth 100000
open Go Go.RowKit
def encS (k : Int) (Ps Qs : List (List UInt8)) : List UInt8 := bytesOf (keyW k) ++ (Ps ++ Qs).flatten
theorem beBytes_four (x : UInt32) : beBytes x 4 = bytesOf x := by
  unfold beBytes bytesOf
  simp only [List.range_succ, List.range_zero, List.nil_append, List.cons_append, List.map_cons, List.map_nil]
  refine congrArg (fun z => [_, _, _, z]) ?_
  apply UInt8.toNat_inj.1
  rw [UInt32.toNat_toUInt8, shr_toNat, UInt32.toNat_toUInt8]
  simp
theorem row_chg {w w' : World} {base : Nat} {e : TypeId} {s : Nat} {v : Value} {n : Nat} {xs : List Value} (h : w.ownsRow base e s v n xs) {p : Nat} {A : Option Addr} (k : Chg w w' p A) (hp : v.ownBlock ≠ some p) (hA : ∀ b, blk A = some b → v.ownBlock ≠ some b) : w'.ownsRow base e s v n xs := by
  refine ⟨h.1, ?_⟩
  rcases h.2 with h0 | ⟨g, cap, cur, e, hg, h1, h2⟩
  · exact .inl h0
  · refine .inr ⟨g, cap, cur, e, hg, ?_, h2⟩
    have hv : v.ownBlock = some g := by rw [e]; rfl
    have hlt : g < w.heap.size := (Array.getElem?_eq_some_iff.1 h1).1
    rw [k.block g hlt (fun e => hp (by rw [hv, e])) (fun e => hA g e hv)]
    exact h1
theorem flatten_take_len (Ls : List (List UInt8)) (n : Nat) (hn : n ≤ Ls.length) (h : ∀ i, i < Ls.length → (lb Ls i).length = 32) : ((Ls.take n).flatten).length = 32 * n := by
  induction n with
  | zero => rfl
  | succ n ih => rw [flatten_take_succ Ls n hn, List.length_append, ih (by omega), h n (by omega)]; omega
def EncI (wI : World) (x : UInt32) (Ls : List (List UInt8)) (p : Nat) (C : Option Addr) (cc bc : Nat) (us : List Value) (i : Value) (wr : World) : Prop :=
  ∃ (k c : Nat) (A : Option Addr), k ≤ 68 ∧ i = .int .i64 k ∧ Wtr wr wI.heap.size p A (4 + 32 * k) c (beBytes x 4 ++ (Ls.take k).flatten) ∧ wr.ownsRow bc 22 1 (.slice C 68 cc) 68 us ∧ Ext wI wr
set_option maxHeartbeats 4000000 in
theorem sencode_any (x : Int) (P Q : Option Addr) (np cp nq cq : Nat) (Ps Qs : List (List UInt8)) (w : World) (hp : RBB w P np cp Ps) (hq : RBB w Q nq cq Qs) :
    Calls Try.prog 43 #[.agg #[.int .i64 x, .slice P np cp, .slice Q nq cq]] w fun e w' =>
      (rightB x Ps Qs = true → ∃ B d, e = .returned (.tuple #[.slice B 2180 d, .int .i64 0]) ∧ OB w' w.heap.size B 2180 d (encS x Ps Qs)) ∧
      (rightB x Ps Qs = false → e = .returned (.tuple #[.slice none 0 0, .int .i64 12])) ∧ Ext w w' := by
  have hck := fun w' => conv_key (P := Try.prog) (w := w') Try.underlying3 Try.underlying25 x
  go_enter Try.func43, Try.ntmps43
  have hE1 := Ext.new w (.cells #[.int .i64 x, .slice P np cp, .slice Q nq cq] 52)
  have hB1 := Blk.new w 52 #[.int .i64 x, .slice P np cp, .slice Q nq cq]
  go_wp2_with fail
  refine (sright_any x P Q np cp nq cq Ps Qs _ (hp.ext hE1) (hq.ext hE1)).mono ?_
  rintro e w2 ⟨rfl, hE2⟩
  have hE12 := hE1.trans hE2
  have hB2 := hB1.ext hE2
  clear hB1
  cases hr : rightB x Ps Qs with
  | false =>
    go_wp2_with fail
    go_ret2
    exact ⟨fun h => absurd (hr.symm.trans h) (by decide), fun _ => rfl, hE12⟩
  | true =>
    obtain ⟨_, ⟨hpl, hp32⟩, hql, hq32⟩ := rightB_true hr
    obtain rfl : np = 64 := hp.len.symm.trans hpl
    obtain rfl : nq = 4 := hq.len.symm.trans hql
    have hLs : (Ps ++ Qs).length = 68 := by rw [List.length_append, hpl, hql]
    have hL32 : ∀ i, i < (Ps ++ Qs).length → (lb (Ps ++ Qs) i).length = 32 := by
      intro i hi
      by_cases h64 : i < 64
      · have e : lb (Ps ++ Qs) i = lb Ps i := by unfold lb; simp [List.getElem?_append_left (show i < Ps.length by omega)]
        rw [e]
        exact hp32 i h64
      · have e : lb (Ps ++ Qs) i = lb Qs (i - 64) := by unfold lb; simp [List.getElem?_append_right (show Ps.length ≤ i by omega), hpl]
        rw [e]
        exact hq32 _ (by omega)
    have HLs := Lib.hid hLs
    have HL32 := Lib.hid hL32
    have Hr := Lib.hid hr
    clear hr hpl hp32 hql hq32 hLs hL32
    go_wp2_with fail
    refine (wnew_any w2).mono ?_
    rintro e w3 ⟨p, rfl, hW3, hE3⟩
    have hB3 := hB2.ext hE3
    have y0 := hB3.cell (i := 0) (v := .int .i64 x) rfl
    go_wp2_with fail
    refine (wnum_any w2 w3 p _ _ _ _ (keyW x) hE3 hW3 (by omega)).mono ?_
    rintro e w4 ⟨rfl, A4, c4, hW4, hC4, hL4⟩
    have hE4 := hW3.chg_ext hE3 hC4
    have hB4 := hB2.ext hE4
    have z1 := hB4.cell (i := 1) (v := .slice P 64 cp) rfl
    have z2 := hB4.cell (i := 2) (v := .slice Q 4 cq) rfl
    clear y0 hB3 hW3 hC4 hL4
    have hE5 := Ext.new w4 (.cells #[.slice P 64 cp, .slice Q 4 cq] 50)
    have hB5 := Blk.new w4 50 #[.slice P 64 cp, .slice Q 4 cq]
    go_wp2_with fail
    refine (concat_two w4.heap.size cp cq P Q Ps Qs w _ ((hE12.trans hE4).trans hE5) hp hq hB5).mono ?_
    rintro e w6 ⟨C, cc, us, rfl, ownC, hus, hE6⟩
    have hE46 := hE5.trans hE6
    have hE26 := hE4.trans hE46
    have hW6 : Wtr w6 w2.heap.size p A4 (4 + 32 * 0) c4 (beBytes (keyW x) 4 ++ ((Ps ++ Qs).take 0).flatten) := by
      have := (show Wtr w6 w2.heap.size p A4 (0 + 4) c4 ([] ++ beBytes (keyW x) 4) from ⟨hW4.blk.ext hE46, hW4.own.ext hE46, hW4.ne, hW4.base⟩)
      simpa using this
    obtain ⟨bc, hbc⟩ : ∃ bc, bc = (w4.alloc (.cells #[.slice P 64 cp, .slice Q 4 cq] 50)).heap.size := ⟨_, rfl⟩
    rw [← hbc] at ownC
    clear hbc hB5 hE5 hE6 hW4 z1 z2 hE46 hE4 hB4 hB2 hE3 hE1 hE2
    have Hus := Lib.hid hus
    clear hus hck
    obtain ⟨Ls, hLs⟩ : ∃ Ls, Ls = Ps ++ Qs := ⟨_, rfl⟩
    rw [← hLs] at HLs HL32 Hus hW6
    have HLq := Lib.hid hLs
    clear hLs
    go_wp2_with fail
    go_loopw [23] (fun i wr => EncI w2 (keyW x) Ls p C cc bc us i wr) (fun i _ => 68 - (intOf i).toNat)
    case atStart => exact ⟨0, c4, A4, by omega, rfl, hW6, ownC, hE26⟩
    case round =>
      clear hW6 ownC hE26
      obtain ⟨k, c, A, hk, rfl, hW, ownC, hEr⟩ := hrel
      by_cases hlt : k < 68
      · have hki : (k : Int) < 68 := by omega
        obtain ⟨B, m, d, hu, hB⟩ := Hus.out k hlt
        obtain rfl : m = 32 := hB.len.symm.trans (HL32.out k (by rw [HLs.out]; exact hlt))
        have hCn : ∃ gC, C = some ⟨gC, 0, none⟩ := by
          rcases ownC.2 with ⟨e, h0⟩ | ⟨g, cap, cur, e, _⟩
          · omega
          · injection e with e1
            exact ⟨g, e1⟩
        obtain ⟨gC, rfl⟩ := hCn
        have y1 := World.ownsRow.cells ownC (g := gC) (by rw [ownBlock_slice]; rfl) k _ hu
        rw [add_plain] at y1
        have hft := flatten_take_succ Ls k (by rw [HLs.out]; exact hlt)
        have Hft := Lib.hid hft
        clear hft hu
        go_wp2_with fail
        refine (wraw_any w2 wr p _ _ _ _ _ B _ (lb Ls k) hEr hW (hB.ext (hE12.trans hEr)) (by omega)).mono ?_
        rintro e w8 ⟨rfl, A8, c8, hW8, hC8, hL8⟩
        have hE8 := hW.chg_ext hEr hC8
        have ownC8 := row_chg ownC hC8 (row_ne ownC hW.blk (by decide)) (fun b hb => by
          obtain ⟨cs, hcs⟩ := row_type hW.own (k := b) (by rw [ownBlock_slice]; exact hb)
          exact row_ne ownC hcs (by decide))
        rw [show 4 + 32 * k + 32 = 4 + 32 * (k + 1) from by omega, List.append_assoc, ← Hft.out] at hW8
        go_wp2_with fail
        go_roundw
        case rel => exact ⟨k + 1, c8, A8, by omega, by go_num, hW8, ownC8, hE8⟩
        case measure => simp [intOf]; omega
      · obtain rfl : k = 68 := by omega
        have htk : Ls.take 68 = Ls := List.take_of_length_le (by rw [HLs.out]; omega)
        rw [htk] at hW
        go_wp2_with fail
        refine (wdone_any wr w2.heap.size p _ _ _ _ hW (by omega)).mono ?_
        rintro e w9 ⟨B, d, rfl, own9, hE9⟩
        go_wp2_with fail
        go_ret2
        refine ⟨fun _ => ⟨B, d, rfl, ?_⟩, fun h => absurd (Hr.out.symm.trans h) (by decide), (hE12.trans hEr).trans hE9⟩
        have h1 := own9.base (hE12.trans hEr).size
        rw [beBytes_four] at h1
        unfold encS
        rw [← HLq.out]
        exact h1
def offE (j : Nat) : Nat := if j = 0 then 0 else if j = 1 then 64 else 68
def EncO (w1 : World) (gB : Nat) (cs : Array Value) (x : UInt32) (Ls : List (List UInt8)) (v i : Value) (wr : World) : Prop :=
  ∃ (j c : Nat) (A : Option Addr), j ≤ 2 ∧ i = .int .i64 j ∧ v = .slice A (4 + 32 * offE j) c ∧ OB wr w1.heap.size A (4 + 32 * offE j) c (bytesOf x ++ (Ls.take (offE j)).flatten) ∧ Blk wr gB 50 cs ∧ Ext w1 wr
def EncN (w1 : World) (gB : Nat) (cs : Array Value) (x : UInt32) (Ls : List (List UInt8)) (m n : Nat) (v i : Value) (wr : World) : Prop :=
  ∃ (k c : Nat) (A : Option Addr), k ≤ n ∧ i = .int .i64 k ∧ v = .slice A (4 + 32 * (m + k)) c ∧ OB wr w1.heap.size A (4 + 32 * (m + k)) c (bytesOf x ++ (Ls.take (m + k)).flatten) ∧ Blk wr gB 50 cs ∧ Ext w1 wr
set_option maxHeartbeats 4000000 in
theorem rencode_any (x : Int) (P Q : Option Addr) (np cp nq cq : Nat) (Ps Qs : List (List UInt8)) (w : World) (hp : RBB w P np cp Ps) (hq : RBB w Q nq cq Qs) (hr : rightB x Ps Qs = true) :
    Calls Try.prog 79 #[.agg #[.int .i64 x, .slice P np cp, .slice Q nq cq]] w fun e w' => ∃ B d, e = .returned (.slice B 2180 d) ∧ OB w' w.heap.size B 2180 d (encS x Ps Qs) ∧ Ext w w' := by
  have hck := fun w' => conv_key (P := Try.prog) (w := w') Try.underlying3 Try.underlying25 x
  obtain ⟨_, ⟨hpl, hp32⟩, hql, hq32⟩ := rightB_true hr
  obtain rfl : np = 64 := hp.len.symm.trans hpl
  obtain rfl : nq = 4 := hq.len.symm.trans hql
  have hLs : (Ps ++ Qs).length = 68 := by rw [List.length_append, hpl, hql]
  have hlb0 : ∀ k, k < 64 → lb (Ps ++ Qs) (0 + k) = lb Ps k := by
    intro k hk
    unfold lb
    simp [List.getElem?_append_left (show k < Ps.length by omega)]
  have hlb1 : ∀ k, k < 4 → lb (Ps ++ Qs) (64 + k) = lb Qs k := by
    intro k hk
    unfold lb
    simp [List.getElem?_append_right (show Ps.length ≤ 64 + k by omega), hpl]
  have HLs := Lib.hid hLs
  have Hlb0 := Lib.hid hlb0
  have Hlb1 := Lib.hid hlb1
  have Hp32 := Lib.hid hp32
  have Hq32 := Lib.hid hq32
  have henc : encS x Ps Qs = bytesOf (keyW x) ++ ((Ps ++ Qs).take 68).flatten := by unfold encS; rw [List.take_of_length_le (by rw [hLs]; omega)]
  rw [henc]
  generalize Ps ++ Qs = Ls at *
  clear hpl hp32 hql hq32 hLs hlb0 hlb1 henc
  go_enter Try.func79, Try.ntmps79
  have hE1 := Ext.new w (.cells #[.int .i64 x, .slice P 64 cp, .slice Q 4 cq] 52)
  have hB1 := Blk.new w 52 #[.int .i64 x, .slice P 64 cp, .slice Q 4 cq]
  go_wp2_with fail
  refine (num4_any (keyW x) _).mono ?_
  rintro e w2 ⟨A2, c2, rfl, own2, hE2⟩
  have hB2 := hB1.ext hE2
  have z1 := hB2.cell (i := 1) (v := .slice P 64 cp) rfl
  have z2 := hB2.cell (i := 2) (v := .slice Q 4 cq) rfl
  have hE12 := hE1.trans hE2
  have own2 := own2.base hE1.size
  clear hB1 hE1 hE2 hck
  have hE3 := Ext.new w2 (.cells #[.slice P 64 cp, .slice Q 4 cq] 50)
  have hB3 := Blk.new w2 50 #[.slice P 64 cp, .slice Q 4 cq]
  have own3 := own2.ext hE3
  have hE13 := hE12.trans hE3
  go_wp2_with fail
  have gB2 : w2.heap.size < w2.heap.size + 1 := Nat.lt_succ_self _
  obtain ⟨gB, hgB⟩ : ∃ gB, gB = w2.heap.size := ⟨_, rfl⟩
  rw [← hgB] at hB3 ⊢
  clear gB2 own2 z1 z2 hE3 hB2 hE12
  have own3' : OB (w2.alloc (.cells #[.slice P 64 cp, .slice Q 4 cq] 50)) w.heap.size A2 (4 + 32 * offE 0) c2 (bytesOf (keyW x) ++ (Ls.take (offE 0)).flatten) := by
    show OB _ _ A2 4 c2 _
    simpa [offE] using own3
  go_loopw [3, 17] (fun v i wr => EncO w gB #[.slice P 64 cp, .slice Q 4 cq] (keyW x) Ls v i wr) (fun _ i _ => 2 - (intOf i).toNat)
  case atStart => exact ⟨0, c2, A2, by omega, rfl, rfl, own3', hB3, hE13⟩
  case round =>
    clear own3 own3' hB3 hE13 hgB
    obtain ⟨j, c, A, hj, rfl, rfl, own, hB, hEr⟩ := hrel
    by_cases hlt : j < 2
    · have hji : (j : Int) < 2 := by omega
      obtain ⟨A', n', c', L, hcell, hrL, hoff, hlb, h32, hn'⟩ : ∃ (A' : Option Addr) (n' c' : Nat) (L : List (List UInt8)), wr.cell? ⟨gB, j, none⟩ = some (.slice A' n' c') ∧ RBB w A' n' c' L ∧ offE j + n' = offE (j + 1) ∧ (∀ k, k < n' → lb Ls (offE j + k) = lb L k) ∧ (∀ k, k < n' → (lb L k).length = 32) ∧ n' ≤ 64 := by
        have hc : j = 0 ∨ j = 1 := by omega
        rcases hc with rfl | rfl
        · exact ⟨P, 64, cp, Ps, hB.cell (i := 0) rfl, hp, rfl, Hlb0.out, Hp32.out, by omega⟩
        · exact ⟨Q, 4, cq, Qs, hB.cell (i := 1) rfl, hq, rfl, Hlb1.out, Hq32.out, by omega⟩
      have ho68 : offE j + n' ≤ 68 := by
        rw [hoff]
        unfold offE
        split
        · omega
        · split <;> omega
      have Hoff := Lib.hid hoff
      have Hlb := Lib.hid hlb
      have H32 := Lib.hid h32
      clear hoff hlb h32
      generalize offE j = m at *
      go_wp2_with fail
      go_loopw [3, 6] (fun v i wi => EncN w gB #[.slice P 64 cp, .slice Q 4 cq] (keyW x) Ls m n' v i wi) (fun _ i _ => n' - (intOf i).toNat)
      case atStart => exact ⟨0, c, A, by omega, rfl, rfl, own, hB, hEr⟩
      case round =>
        clear own hB hEr hcell
        obtain ⟨k, c, A, hk, rfl, rfl, own, hB, hEr⟩ := hrel
        by_cases hlt2 : k < n'
        · have hki : (k : Int) < (n' : Int) := by omega
          obtain ⟨ad, rfl, hc⟩ := hrL.cells (by omega)
          obtain ⟨E, z, y, hcell3, hrE⟩ := hc k hlt2
          obtain rfl : z = 32 := hrE.len.symm.trans (H32.out k hlt2)
          have y1 := hEr.cell hcell3
          have rE := hrE.ext hEr
          have hft := flatten_take_succ Ls (m + k) (by rw [HLs.out]; omega)
          rw [Hlb.out k hlt2] at hft
          have Hft := Lib.hid hft
          clear hft hc hcell3 hrE
          have hnB := row_ne own hB (by decide)
          rw [ownBlock_slice] at hnB
          go_wp2_with (refine app_law rfl rfl rfl rfl own rE (by omega) hEr.size ?_; intro A5 c5 w5 own5 g5 b5 s5)
          have hB5 := hB.grown g5 (fun e => hnB e.symm)
          have hE5 := hEr.then_grown g5 (fun b hb => (own.lt hb).1)
          rw [show 4 + 32 * (m + k) + 32 = 4 + 32 * (m + (k + 1)) from by omega, List.append_assoc, ← Hft.out] at own5
          go_roundw
          case rel => exact ⟨k + 1, c5, A5, by omega, by go_num, rfl, own5, hB5, hE5⟩
          case measure => simp [intOf]; omega
        · obtain rfl : k = n' := by omega
          rw [Hoff.out] at own
          go_wp2_with fail
          go_roundw
          case rel => exact ⟨j + 1, c, A, by omega, by go_num, by rw [Hoff.out], own, hB, hEr⟩
          case measure => simp [intOf]; omega
    · obtain rfl : j = 2 := by omega
      go_wp2_with fail
      go_ret
      exact ⟨A, c, rfl, own, hEr⟩
end Go.Proofs.Ytmgnigofilkfmab

/-
  sign.Encode and ref5.Encode, walked. wire's Reader, walked: Read, take, number, Byte, Num, Bytes, Raw, End. wire's Reader, walked: Byte, Num, Bytes, End. Manifests in plain Lean: what may be one, how it is written, how it is read. Manifests in plain Lean: what is written is read again; what is read is written so; cut or longer it is none. Numbers of two bytes, and conversions. Plain theorems.
-/
import Derived.Test.YthggfbpdhkpkjaaLawPuts11Q17
import Derived.Test.YthggfbpdhkpkjaaLawPuts11Q18
import Derived.Test.YthggfbpdhkpkjaaLawPuts11Q20
import Derived.Test.YthggfbpdhkpkjaaLawPuts11Q11
namespace Go.Proofs.Ythggfbpdhkpkjaa
set_option maxRecDepth 100000
open Go Go.RowKit
def encS (k : Int) (Ps Qs : List (List UInt8)) : List UInt8 := bytesOf (keyW k) ++ (Ps ++ Qs).flatten
theorem beBytes_four (x : UInt32) : beBytes x 4 = bytesOf x := by
  unfold beBytes bytesOf
  simp only [List.range_succ, List.range_zero, List.nil_append, List.cons_append, List.map_cons, List.map_nil]
  refine congrArg (fun z => [_, _, _, z]) ?_
  apply UInt8.toNat_inj.1
  rw [UInt32.toNat_toUInt8, shr_toNat, UInt32.toNat_toUInt8]
  simp
theorem row_chg {w w' : World} {base : Nat} {e : TypeId} {s : Nat} {v : Value} {n : Nat} {xs : List Value} (h : w.ownsRow base e s v n xs) {p : Nat} {A : Option Addr} (k : Chg w w' p A) (hp : v.ownBlock ≠ some p) (hA : ∀ b, blk A = some b → v.ownBlock ≠ some b) : w'.ownsRow base e s v n xs := by
  refine ⟨h.1, ?_⟩
  rcases h.2 with h0 | ⟨g, cap, cur, e, hg, h1, h2⟩
  · exact .inl h0
  · refine .inr ⟨g, cap, cur, e, hg, ?_, h2⟩
    have hv : v.ownBlock = some g := by rw [e]; rfl
    have hlt : g < w.heap.size := (Array.getElem?_eq_some_iff.1 h1).1
    rw [k.block g hlt (fun e => hp (by rw [hv, e])) (fun e => hA g e hv)]
    exact h1
theorem flatten_take_len (Ls : List (List UInt8)) (n : Nat) (hn : n ≤ Ls.length) (h : ∀ i, i < Ls.length → (lb Ls i).length = 32) : ((Ls.take n).flatten).length = 32 * n := by
  induction n with
  | zero => rfl
  | succ n ih => rw [flatten_take_succ Ls n hn, List.length_append, ih (by omega), h n (by omega)]; omega
def EncI (wI : World) (x : UInt32) (Ls : List (List UInt8)) (p : Nat) (C : Option Addr) (cc bc : Nat) (us : List Value) (i : Value) (wr : World) : Prop :=
  ∃ (k c : Nat) (A : Option Addr), k ≤ 68 ∧ i = .int .i64 k ∧ Wtr wr wI.heap.size p A (4 + 32 * k) c (beBytes x 4 ++ (Ls.take k).flatten) ∧ wr.ownsRow bc 22 1 (.slice C 68 cc) 68 us ∧ Ext wI wr
set_option maxHeartbeats 4000000 in
theorem sencode_any (x : Int) (P Q : Option Addr) (np cp nq cq : Nat) (Ps Qs : List (List UInt8)) (w : World) (hp : RBB w P np cp Ps) (hq : RBB w Q nq cq Qs) :
    Calls Try.prog 69 #[.agg #[.int .i64 x, .slice P np cp, .slice Q nq cq]] w fun e w' =>
      (rightB x Ps Qs = true → ∃ B d, e = .returned (.tuple #[.slice B 2180 d, .int .i64 0]) ∧ OB w' w.heap.size B 2180 d (encS x Ps Qs)) ∧
      (rightB x Ps Qs = false → e = .returned (.tuple #[.slice none 0 0, .int .i64 12])) ∧ Ext w w' := by
  have hck := fun w' => conv_key (P := Try.prog) (w := w') Try.underlying3 Try.underlying101 x
  go_enter Try.func69, Try.ntmps69
  have hE1 := Ext.new w (.cells #[.int .i64 x, .slice P np cp, .slice Q nq cq] 39)
  have hB1 := Blk.new w 39 #[.int .i64 x, .slice P np cp, .slice Q nq cq]
  go_wp2_with fail
  refine (sright_any x P Q np cp nq cq Ps Qs _ (hp.ext hE1) (hq.ext hE1)).mono ?_
  rintro e w2 ⟨rfl, hE2⟩
  have hE12 := hE1.trans hE2
  have hB2 := hB1.ext hE2
  clear hB1
  cases hr : rightB x Ps Qs with
  | false =>
    go_wp2_with fail
    go_ret2
    exact ⟨fun h => absurd (hr.symm.trans h) (by decide), fun _ => rfl, hE12⟩
  | true =>
    obtain ⟨_, ⟨hpl, hp32⟩, hql, hq32⟩ := rightB_true hr
    obtain rfl : np = 64 := hp.len.symm.trans hpl
    obtain rfl : nq = 4 := hq.len.symm.trans hql
    have hLs : (Ps ++ Qs).length = 68 := by rw [List.length_append, hpl, hql]
    have hL32 : ∀ i, i < (Ps ++ Qs).length → (lb (Ps ++ Qs) i).length = 32 := by
      intro i hi
      by_cases h64 : i < 64
      · have e : lb (Ps ++ Qs) i = lb Ps i := by unfold lb; simp [List.getElem?_append_left (show i < Ps.length by omega)]
        rw [e]
        exact hp32 i h64
      · have e : lb (Ps ++ Qs) i = lb Qs (i - 64) := by unfold lb; simp [List.getElem?_append_right (show Ps.length ≤ i by omega), hpl]
        rw [e]
        exact hq32 _ (by omega)
    have HLs := Lib.hid hLs
    have HL32 := Lib.hid hL32
    have Hr := Lib.hid hr
    clear hr hpl hp32 hql hq32 hLs hL32
    go_wp2_with fail
    refine (wnew_any w2).mono ?_
    rintro e w3 ⟨p, rfl, hW3, hE3⟩
    have hB3 := hB2.ext hE3
    have y0 := hB3.cell (i := 0) (v := .int .i64 x) rfl
    go_wp2_with fail
    refine (wnum_any w2 w3 p _ _ _ _ (keyW x) hE3 hW3 (by omega)).mono ?_
    rintro e w4 ⟨rfl, A4, c4, hW4, hC4, hL4⟩
    have hE4 := hW3.chg_ext hE3 hC4
    have hB4 := hB2.ext hE4
    have z1 := hB4.cell (i := 1) (v := .slice P 64 cp) rfl
    have z2 := hB4.cell (i := 2) (v := .slice Q 4 cq) rfl
    clear y0 hB3 hW3 hC4 hL4
    have hE5 := Ext.new w4 (.cells #[.slice P 64 cp, .slice Q 4 cq] 37)
    have hB5 := Blk.new w4 37 #[.slice P 64 cp, .slice Q 4 cq]
    go_wp2_with fail
    refine (concat_two w4.heap.size cp cq P Q Ps Qs w _ ((hE12.trans hE4).trans hE5) hp hq hB5).mono ?_
    rintro e w6 ⟨C, cc, us, rfl, ownC, hus, hE6⟩
    have hE46 := hE5.trans hE6
    have hE26 := hE4.trans hE46
    have hW6 : Wtr w6 w2.heap.size p A4 (4 + 32 * 0) c4 (beBytes (keyW x) 4 ++ ((Ps ++ Qs).take 0).flatten) := by
      have := (show Wtr w6 w2.heap.size p A4 (0 + 4) c4 ([] ++ beBytes (keyW x) 4) from ⟨hW4.blk.ext hE46, hW4.own.ext hE46, hW4.ne, hW4.base⟩)
      simpa using this
    obtain ⟨bc, hbc⟩ : ∃ bc, bc = (w4.alloc (.cells #[.slice P 64 cp, .slice Q 4 cq] 37)).heap.size := ⟨_, rfl⟩
    rw [← hbc] at ownC
    clear hbc hB5 hE5 hE6 hW4 z1 z2 hE46 hE4 hB4 hB2 hE3 hE1 hE2
    have Hus := Lib.hid hus
    clear hus hck
    obtain ⟨Ls, hLs⟩ : ∃ Ls, Ls = Ps ++ Qs := ⟨_, rfl⟩
    rw [← hLs] at HLs HL32 Hus hW6
    have HLq := Lib.hid hLs
    clear hLs
    go_wp2_with fail
    go_loopw [23] (fun i wr => EncI w2 (keyW x) Ls p C cc bc us i wr) (fun i _ => 68 - (intOf i).toNat)
    case atStart => exact ⟨0, c4, A4, by omega, rfl, hW6, ownC, hE26⟩
    case round =>
      clear hW6 ownC hE26
      obtain ⟨k, c, A, hk, rfl, hW, ownC, hEr⟩ := hrel
      by_cases hlt : k < 68
      · have hki : (k : Int) < 68 := by omega
        obtain ⟨B, m, d, hu, hB⟩ := Hus.out k hlt
        obtain rfl : m = 32 := hB.len.symm.trans (HL32.out k (by rw [HLs.out]; exact hlt))
        have hCn : ∃ gC, C = some ⟨gC, 0, none⟩ := by
          rcases ownC.2 with ⟨e, h0⟩ | ⟨g, cap, cur, e, _⟩
          · omega
          · injection e with e1
            exact ⟨g, e1⟩
        obtain ⟨gC, rfl⟩ := hCn
        have y1 := World.ownsRow.cells ownC (g := gC) (by rw [ownBlock_slice]; rfl) k _ hu
        rw [add_plain] at y1
        have hft := flatten_take_succ Ls k (by rw [HLs.out]; exact hlt)
        have Hft := Lib.hid hft
        clear hft hu
        go_wp2_with fail
        refine (wraw_any w2 wr p _ _ _ _ _ B _ (lb Ls k) hEr hW (hB.ext (hE12.trans hEr)) (by omega)).mono ?_
        rintro e w8 ⟨rfl, A8, c8, hW8, hC8, hL8⟩
        have hE8 := hW.chg_ext hEr hC8
        have ownC8 := row_chg ownC hC8 (row_ne ownC hW.blk (by decide)) (fun b hb => by
          obtain ⟨cs, hcs⟩ := row_type hW.own (k := b) (by rw [ownBlock_slice]; exact hb)
          exact row_ne ownC hcs (by decide))
        rw [show 4 + 32 * k + 32 = 4 + 32 * (k + 1) from by omega, List.append_assoc, ← Hft.out] at hW8
        go_wp2_with fail
        go_roundw
        case rel => exact ⟨k + 1, c8, A8, by omega, by go_num, hW8, ownC8, hE8⟩
        case measure => simp [intOf]; omega
      · obtain rfl : k = 68 := by omega
        have htk : Ls.take 68 = Ls := List.take_of_length_le (by rw [HLs.out]; omega)
        rw [htk] at hW
        go_wp2_with fail
        refine (wdone_any wr w2.heap.size p _ _ _ _ hW (by omega)).mono ?_
        rintro e w9 ⟨B, d, rfl, own9, hE9⟩
        go_wp2_with fail
        go_ret2
        refine ⟨fun _ => ⟨B, d, rfl, ?_⟩, fun h => absurd (Hr.out.symm.trans h) (by decide), (hE12.trans hEr).trans hE9⟩
        have h1 := own9.base (hE12.trans hEr).size
        rw [beBytes_four] at h1
        unfold encS
        rw [← HLq.out]
        exact h1
def offE (j : Nat) : Nat := if j = 0 then 0 else if j = 1 then 64 else 68
def EncO (w1 : World) (gB : Nat) (cs : Array Value) (x : UInt32) (Ls : List (List UInt8)) (v i : Value) (wr : World) : Prop :=
  ∃ (j c : Nat) (A : Option Addr), j ≤ 2 ∧ i = .int .i64 j ∧ v = .slice A (4 + 32 * offE j) c ∧ OB wr w1.heap.size A (4 + 32 * offE j) c (bytesOf x ++ (Ls.take (offE j)).flatten) ∧ Blk wr gB 37 cs ∧ Ext w1 wr
def EncN (w1 : World) (gB : Nat) (cs : Array Value) (x : UInt32) (Ls : List (List UInt8)) (m n : Nat) (v i : Value) (wr : World) : Prop :=
  ∃ (k c : Nat) (A : Option Addr), k ≤ n ∧ i = .int .i64 k ∧ v = .slice A (4 + 32 * (m + k)) c ∧ OB wr w1.heap.size A (4 + 32 * (m + k)) c (bytesOf x ++ (Ls.take (m + k)).flatten) ∧ Blk wr gB 37 cs ∧ Ext w1 wr
set_option maxHeartbeats 4000000 in
theorem rencode_any (x : Int) (P Q : Option Addr) (np cp nq cq : Nat) (Ps Qs : List (List UInt8)) (w : World) (hp : RBB w P np cp Ps) (hq : RBB w Q nq cq Qs) (hr : rightB x Ps Qs = true) :
    Calls Try.prog 59 #[.agg #[.int .i64 x, .slice P np cp, .slice Q nq cq]] w fun e w' => ∃ B d, e = .returned (.slice B 2180 d) ∧ OB w' w.heap.size B 2180 d (encS x Ps Qs) ∧ Ext w w' := by
  have hck := fun w' => conv_key (P := Try.prog) (w := w') Try.underlying3 Try.underlying101 x
  obtain ⟨_, ⟨hpl, hp32⟩, hql, hq32⟩ := rightB_true hr
  obtain rfl : np = 64 := hp.len.symm.trans hpl
  obtain rfl : nq = 4 := hq.len.symm.trans hql
  have hLs : (Ps ++ Qs).length = 68 := by rw [List.length_append, hpl, hql]
  have hlb0 : ∀ k, k < 64 → lb (Ps ++ Qs) (0 + k) = lb Ps k := by
    intro k hk
    unfold lb
    simp [List.getElem?_append_left (show k < Ps.length by omega)]
  have hlb1 : ∀ k, k < 4 → lb (Ps ++ Qs) (64 + k) = lb Qs k := by
    intro k hk
    unfold lb
    simp [List.getElem?_append_right (show Ps.length ≤ 64 + k by omega), hpl]
  have HLs := Lib.hid hLs
  have Hlb0 := Lib.hid hlb0
  have Hlb1 := Lib.hid hlb1
  have Hp32 := Lib.hid hp32
  have Hq32 := Lib.hid hq32
  have henc : encS x Ps Qs = bytesOf (keyW x) ++ ((Ps ++ Qs).take 68).flatten := by unfold encS; rw [List.take_of_length_le (by rw [hLs]; omega)]
  rw [henc]
  generalize Ps ++ Qs = Ls at *
  clear hpl hp32 hql hq32 hLs hlb0 hlb1 henc
  go_enter Try.func59, Try.ntmps59
  have hE1 := Ext.new w (.cells #[.int .i64 x, .slice P 64 cp, .slice Q 4 cq] 39)
  have hB1 := Blk.new w 39 #[.int .i64 x, .slice P 64 cp, .slice Q 4 cq]
  go_wp2_with fail
  refine (num4_any (keyW x) _).mono ?_
  rintro e w2 ⟨A2, c2, rfl, own2, hE2⟩
  have hB2 := hB1.ext hE2
  have z1 := hB2.cell (i := 1) (v := .slice P 64 cp) rfl
  have z2 := hB2.cell (i := 2) (v := .slice Q 4 cq) rfl
  have hE12 := hE1.trans hE2
  have own2 := own2.base hE1.size
  clear hB1 hE1 hE2 hck
  have hE3 := Ext.new w2 (.cells #[.slice P 64 cp, .slice Q 4 cq] 37)
  have hB3 := Blk.new w2 37 #[.slice P 64 cp, .slice Q 4 cq]
  have own3 := own2.ext hE3
  have hE13 := hE12.trans hE3
  go_wp2_with fail
  have gB2 : w2.heap.size < w2.heap.size + 1 := Nat.lt_succ_self _
  obtain ⟨gB, hgB⟩ : ∃ gB, gB = w2.heap.size := ⟨_, rfl⟩
  rw [← hgB] at hB3 ⊢
  clear gB2 own2 z1 z2 hE3 hB2 hE12
  have own3' : OB (w2.alloc (.cells #[.slice P 64 cp, .slice Q 4 cq] 37)) w.heap.size A2 (4 + 32 * offE 0) c2 (bytesOf (keyW x) ++ (Ls.take (offE 0)).flatten) := by
    show OB _ _ A2 4 c2 _
    simpa [offE] using own3
  go_loopw [3, 17] (fun v i wr => EncO w gB #[.slice P 64 cp, .slice Q 4 cq] (keyW x) Ls v i wr) (fun _ i _ => 2 - (intOf i).toNat)
  case atStart => exact ⟨0, c2, A2, by omega, rfl, rfl, own3', hB3, hE13⟩
  case round =>
    clear own3 own3' hB3 hE13 hgB
    obtain ⟨j, c, A, hj, rfl, rfl, own, hB, hEr⟩ := hrel
    by_cases hlt : j < 2
    · have hji : (j : Int) < 2 := by omega
      obtain ⟨A', n', c', L, hcell, hrL, hoff, hlb, h32, hn'⟩ : ∃ (A' : Option Addr) (n' c' : Nat) (L : List (List UInt8)), wr.cell? ⟨gB, j, none⟩ = some (.slice A' n' c') ∧ RBB w A' n' c' L ∧ offE j + n' = offE (j + 1) ∧ (∀ k, k < n' → lb Ls (offE j + k) = lb L k) ∧ (∀ k, k < n' → (lb L k).length = 32) ∧ n' ≤ 64 := by
        have hc : j = 0 ∨ j = 1 := by omega
        rcases hc with rfl | rfl
        · exact ⟨P, 64, cp, Ps, hB.cell (i := 0) rfl, hp, rfl, Hlb0.out, Hp32.out, by omega⟩
        · exact ⟨Q, 4, cq, Qs, hB.cell (i := 1) rfl, hq, rfl, Hlb1.out, Hq32.out, by omega⟩
      have ho68 : offE j + n' ≤ 68 := by
        rw [hoff]
        unfold offE
        split
        · omega
        · split <;> omega
      have Hoff := Lib.hid hoff
      have Hlb := Lib.hid hlb
      have H32 := Lib.hid h32
      clear hoff hlb h32
      generalize offE j = m at *
      go_wp2_with fail
      go_loopw [3, 6] (fun v i wi => EncN w gB #[.slice P 64 cp, .slice Q 4 cq] (keyW x) Ls m n' v i wi) (fun _ i _ => n' - (intOf i).toNat)
      case atStart => exact ⟨0, c, A, by omega, rfl, rfl, own, hB, hEr⟩
      case round =>
        clear own hB hEr hcell
        obtain ⟨k, c, A, hk, rfl, rfl, own, hB, hEr⟩ := hrel
        by_cases hlt2 : k < n'
        · have hki : (k : Int) < (n' : Int) := by omega
          obtain ⟨ad, rfl, hc⟩ := hrL.cells (by omega)
          obtain ⟨E, z, y, hcell3, hrE⟩ := hc k hlt2
          obtain rfl : z = 32 := hrE.len.symm.trans (H32.out k hlt2)
          have y1 := hEr.cell hcell3
          have rE := hrE.ext hEr
          have hft := flatten_take_succ Ls (m + k) (by rw [HLs.out]; omega)
          rw [Hlb.out k hlt2] at hft
          have Hft := Lib.hid hft
          clear hft hc hcell3 hrE
          have hnB := row_ne own hB (by decide)
          rw [ownBlock_slice] at hnB
          go_wp2_with (refine app_law rfl rfl rfl rfl own rE (by omega) hEr.size ?_; intro A5 c5 w5 own5 g5 b5 s5)
          have hB5 := hB.grown g5 (fun e => hnB e.symm)
          have hE5 := hEr.then_grown g5 (fun b hb => (own.lt hb).1)
          rw [show 4 + 32 * (m + k) + 32 = 4 + 32 * (m + (k + 1)) from by omega, List.append_assoc, ← Hft.out] at own5
          go_roundw
          case rel => exact ⟨k + 1, c5, A5, by omega, by go_num, rfl, own5, hB5, hE5⟩
          case measure => simp [intOf]; omega
        · obtain rfl : k = n' := by omega
          rw [Hoff.out] at own
          go_wp2_with fail
          go_roundw
          case rel => exact ⟨j + 1, c, A, by omega, by go_num, by rw [Hoff.out], own, hB, hEr⟩
          case measure => simp [intOf]; omega
    · obtain rfl : j = 2 := by omega
      go_wp2_with fail
      go_ret
      exact ⟨A, c, rfl, own, hEr⟩
end Go.Proofs.Ythggfbpdhkpkjaa
namespace Go.Proofs.Ythggfbpdhkpkjaa
set_option maxRecDepth 100000
open Go Go.RowKit
/-- what a Reader does: what it takes, what is left, whether bytes lacked -/
def rtake (L : List UInt8) (bad : Bool) (z : Int) : List UInt8 × List UInt8 × Bool := if bad = true ∨ z < 0 ∨ (L.length : Int) < z then ([], [], true) else (L.take z.toNat, L.drop z.toNat, false)
/-- A Reader: block q holds what is left, and whether bytes lacked. -/
structure Rdr (w : World) (base q : Nat) (A : Option Addr) (n c : Nat) (L : List UInt8) (bad : Bool) : Prop where
  blk : Blk w q 115 #[.slice A n c, .bool bad]
  rb : RB w A n c L
  ne : 0 < n → Go.Proofs.Ythggfbpdhkpkjaa.blk A ≠ some q
  base : base ≤ q
  ty : 0 < n → ∀ k, Go.Proofs.Ythggfbpdhkpkjaa.blk A = some k → ∃ cs fr, w.heap[k]? = some (.cells cs 5 fr)
theorem OB.typed {w : World} {base n c : Nat} {A : Option Addr} {L : List UInt8} (h : OB w base A n c L) (k : Nat) (hk : blk A = some k) : ∃ cs fr, w.heap[k]? = some (.cells cs 5 fr) := by
  rcases h.2 with ⟨e, _⟩ | ⟨g, cap, cur, e, _, h1, _⟩
  · injection e with e1
    subst e1
    cases hk
  · injection e with e1
    subst e1
    have h2 : some g = some k := hk
    injection h2 with h2
    subst h2
    exact ⟨cur, (0, 0), h1⟩
theorem typed_ext {w w' : World} (e : Ext w w') {k : Nat} (h : ∃ cs fr, w.heap[k]? = some (.cells cs 5 fr)) : ∃ cs fr, w'.heap[k]? = some (.cells cs 5 fr) := by
  obtain ⟨cs, fr, h1⟩ := h
  exact ⟨cs, fr, (e.block (Array.getElem?_eq_some_iff.1 h1).1).trans h1⟩
def RdrS (w : World) (base q : Nat) (L : List UInt8) (bad : Bool) : Prop := ∃ A n c, n ≤ 140737488355328 ∧ Rdr w base q A n c L bad
theorem Rdr.later {w w' : World} {base q n c : Nat} {A : Option Addr} {L : List UInt8} {bad : Bool} (h : Rdr w base q A n c L bad) (e : Ext w w') : Rdr w' base q A n c L bad :=
  ⟨h.blk.ext e, h.rb.ext e, h.ne, h.base, fun hn k hk => typed_ext e (h.ty hn k hk)⟩
theorem RdrS.later {w w' : World} {base q : Nat} {L : List UInt8} {bad : Bool} (h : RdrS w base q L bad) (e : Ext w w') : RdrS w' base q L bad := by
  obtain ⟨A, n, c, h1, h2⟩ := h
  exact ⟨A, n, c, h1, h2.later e⟩
set_option maxHeartbeats 1000000 in
theorem rread_any (A : Option Addr) (n c : Nat) (L : List UInt8) (w : World) (hr : RB w A n c L) (hn : n ≤ 140737488355328) :
    Calls Try.prog 24 #[.slice A n c] w fun e w' => ∃ q, e = .returned (.pointer (some ⟨q, 0, none⟩)) ∧ RdrS w' w.heap.size q L false ∧ Ext w w' := by
  go_enter Try.func24, Try.ntmps24
  go_wp2_with fail
  refine (clone_any A n c L w hr hn).mono ?_
  rintro e w1 ⟨B, d, rfl, own, hE⟩
  go_wp2_with fail
  go_ret
  refine ⟨w1.heap.size, rfl, ⟨B, n, d, hn, Blk.new w1 _ _, own.rb.ext (Ext.new w1 _), fun hn e => ?_, hE.size, fun _ k hk => typed_ext (Ext.new w1 _) (own.typed k hk)⟩, hE.alloc _⟩
  have := (own.lt e).2
  omega
set_option maxHeartbeats 1000000 in
theorem rtake_no (w : World) (base q n c : Nat) (A : Option Addr) (L : List UInt8) (bad : Bool) (z : Int) (hR : Rdr w base q A n c L bad) (hz0 : -9223372036854775808 ≤ z) (hz1 : z ≤ 9223372036854775807) (hno : bad = true ∨ z < 0 ∨ (n : Int) < z) :
    Calls Try.prog 100 #[.pointer (some ⟨q, 0, none⟩), .int .i64 z] w fun e w' => e = .returned (.slice none 0 0) ∧ RdrS w' base q [] true ∧ w.grownBy w' (some q) := by
  have y1 := hR.blk.cell (i := 0) rfl
  have y2 := hR.blk.cell (i := 1) rfl
  have y3 := hR.blk.frozen 0
  have y4 := hR.blk.frozen 1
  have hb := hR.blk
  have fin : ∀ w', w' = (w.setCell ⟨q, 0, none⟩ (.slice none 0 0)).setCell ⟨q, 1, none⟩ (.bool true) → RdrS w' base q [] true ∧ w.grownBy w' (some q) := by
    rintro w' rfl
    refine ⟨⟨none, 0, 0, by omega, (hb.set 0 _).set 1 _, RB.nil_ _, fun h => by omega, hR.base, fun h => by omega⟩, (grownBy_setCell w ⟨q, 0, none⟩ _).trans (grownBy_setCell _ ⟨q, 1, none⟩ _)⟩
  have Fin := Lib.hid fin
  clear fin hb hR
  by_cases hb : bad = true
  · subst hb
    go_enter Try.func100, Try.ntmps100
    go_wp2_with fail
    go_ret
    exact ⟨rfl, Fin.out _ rfl⟩
  · have hb' : bad = false := by simpa using hb
    subst hb'
    clear hb
    by_cases hz : z < 0
    · have d1 : decide (z < 0) = true := by simpa using hz
      go_enter Try.func100, Try.ntmps100
      go_wp2_with fail
      go_ret
      exact ⟨rfl, Fin.out _ rfl⟩
    · have d1 : decide (z < 0) = false := by simpa using hz
      have hlt : (n : Int) < z := by rcases hno with h | h | h <;> first | (cases h; done) | omega
      have d2 : decide ((n : Int) < z) = true := by simpa using hlt
      clear hno
      go_enter Try.func100, Try.ntmps100
      go_wp2_with fail
      go_ret
      exact ⟨rfl, Fin.out _ rfl⟩
set_option maxHeartbeats 1000000 in
theorem rtake_yes (w : World) (base q n c : Nat) (A : Option Addr) (L : List UInt8) (z : Int) (hR : Rdr w base q A n c L false) (hn : n ≤ 140737488355328) (hz0 : 0 ≤ z) (hz1 : z ≤ (n : Int)) :
    Calls Try.prog 100 #[.pointer (some ⟨q, 0, none⟩), .int .i64 z] w fun e w' => (∃ B m d, e = .returned (.slice B m d) ∧ RB w' B m d (L.take z.toNat) ∧ m ≤ 140737488355328 ∧ (0 < m → blk B ≠ some q)) ∧ RdrS w' base q (L.drop z.toNat) false ∧ w.grownBy w' (some q) := by
  obtain ⟨k, rfl⟩ := Int.eq_ofNat_of_zero_le hz0
  have hk : k ≤ n := by omega
  have hroom := hR.rb.room
  have hcap := hR.rb.cap
  unfold maxLen at hcap
  have y1 := hR.blk.cell (i := 0) rfl
  have y2 := hR.blk.cell (i := 1) rfl
  have y3 := hR.blk.frozen 0
  have y4 := hR.blk.frozen 1
  have d1 : decide ((k : Int) < 0) = false := by simp
  have d2 : decide ((n : Int) < (k : Int)) = false := by simp; omega
  have fin : ∀ (A' : Option Addr) (w' : World), (A' = if c = k then A else A.map (·.add (k * 1))) → w' = w.setCell ⟨q, 0, none⟩ (.slice A' (n - k) (c - k)) →
      (∃ B m d, Ending.returned (.slice A k c) = .returned (.slice B m d) ∧ RB w' B m d (L.take (k : Int).toNat) ∧ m ≤ 140737488355328 ∧ (0 < m → blk B ≠ some q)) ∧ RdrS w' base q (L.drop (k : Int).toNat) false ∧ w.grownBy w' (some q) := by
    rintro A' w' hA' rfl
    have hl := hR.rb.len
    have hbl : 0 < n - k → blk A' ≠ some q := by
      intro h e
      rw [hA', if_neg (by omega)] at e
      refine hR.ne (by omega) ?_
      cases A with
      | none => simp [blk] at e
      | some ad => simpa [blk, block_of_add] using e
    have hty : 0 < n - k → ∀ b, blk A' = some b → ∃ cs fr, (w.setCell ⟨q, 0, none⟩ (.slice A' (n - k) (c - k))).heap[b]? = some (.cells cs 5 fr) := by
      intro h b hb
      have hbq : b ≠ q := fun e => hbl h (by rw [hb, e])
      rw [Below.heap_setCell w ⟨q, 0, none⟩ _ b hbq]
      refine hR.ty (by omega) b ?_
      rw [hA', if_neg (by omega)] at hb
      cases A with
      | none => simp [blk] at hb
      | some ad => simpa [blk, block_of_add] using hb
    refine ⟨⟨A, k, c, rfl, ?_, by omega, fun h => hR.ne (by omega)⟩, ⟨A', n - k, c - k, by omega, ?_, ?_, hbl, hR.base, hty⟩, grownBy_setCell w ⟨q, 0, none⟩ _⟩
    · have h1 := hR.rb.cut (i := 0) (j := k) (c' := c) (A' := A) (by omega) hk rfl (fun _ => by cases A <;> simp [Addr.add])
      refine RB.grown (by simpa using h1) (grownBy_setCell w ⟨q, 0, none⟩ _) (fun h => hR.ne (by omega))
    · exact hR.blk.set 0 (.slice A' (n - k) (c - k))
    · have h2 := hR.rb.cut (i := k) (j := n) (c' := c - k) (A' := A') hk (Nat.le_refl _) rfl (fun h => by rw [hA', if_neg (by omega)]; simp)
      rw [List.take_of_length_le (by omega)] at h2
      exact RB.grown h2 (grownBy_setCell w ⟨q, 0, none⟩ _) hbl
  have Fin := Lib.hid fin
  clear fin hR
  by_cases hck : c = k
  · subst hck
    go_enter Try.func100, Try.ntmps100
    go_wp2_with fail
    go_ret
    have hcn : n - c = 0 := by omega
    exact Fin.out A _ (by simp) (by rw [Nat.sub_self]; try rw [hcn])
  · go_enter Try.func100, Try.ntmps100
    go_wp2_with fail
    go_ret
    exact Fin.out _ _ (by rw [if_neg hck, Nat.mul_one]) rfl
theorem rtake_any (w : World) (base q : Nat) (L : List UInt8) (bad : Bool) (z : Int) (hR : RdrS w base q L bad) (hz0 : -9223372036854775808 ≤ z) (hz1 : z ≤ 9223372036854775807) :
    Calls Try.prog 100 #[.pointer (some ⟨q, 0, none⟩), .int .i64 z] w fun e w' => (∃ B m d, e = .returned (.slice B m d) ∧ RB w' B m d (rtake L bad z).1 ∧ m ≤ 140737488355328 ∧ (0 < m → blk B ≠ some q)) ∧ RdrS w' base q (rtake L bad z).2.1 (rtake L bad z).2.2 ∧ w.grownBy w' (some q) := by
  obtain ⟨A, n, c, hn, hR⟩ := hR
  have hl := hR.rb.len
  unfold rtake
  by_cases h : bad = true ∨ z < 0 ∨ (L.length : Int) < z
  · rw [if_pos h]
    rw [hl] at h
    refine (rtake_no w base q n c A L bad z hR hz0 hz1 h).mono ?_
    rintro e w' ⟨rfl, h1, h2⟩
    exact ⟨⟨none, 0, 0, rfl, RB.nil_ _, by omega, fun h => by omega⟩, h1, h2⟩
  · rw [if_neg h]
    rw [hl] at h
    have hb : bad = false := by
      cases bad with
      | false => rfl
      | true => exact absurd (.inl rfl) h
    subst hb
    exact rtake_yes w base q n c A L z hR hn (by omega) (by omega)
set_option maxHeartbeats 1000000 in
theorem rraw_any (w : World) (base q : Nat) (L : List UInt8) (bad : Bool) (z : Int) (hR : RdrS w base q L bad) (hz0 : -9223372036854775808 ≤ z) (hz1 : z ≤ 9223372036854775807) :
    Calls Try.prog 72 #[.pointer (some ⟨q, 0, none⟩), .int .i64 z] w fun e w' => (∃ B m d, e = .returned (.slice B m d) ∧ OB w' w.heap.size B m d (rtake L bad z).1) ∧ RdrS w' base q (rtake L bad z).2.1 (rtake L bad z).2.2 ∧ w.grownBy w' (some q) := by
  go_enter Try.func72, Try.ntmps72
  go_wp2_with fail
  refine (rtake_any w base q L bad z hR hz0 hz1).mono ?_
  rintro e w1 ⟨⟨B, m, d, rfl, h1, h2, h3⟩, h4, h5⟩
  go_wp2_with fail
  refine (clone_any B m d _ w1 h1 h2).mono ?_
  rintro e w2 ⟨B2, d2, rfl, own, hE⟩
  go_wp2_with fail
  go_ret
  exact ⟨⟨B2, m, d2, rfl, own.base h5.size⟩, h4.later hE, h5.trans (hE.grownBy _)⟩
theorem bits_or32 (x y : UInt32) : bits .or .u32 (u32i x) (u32i y) = u32i (x ||| y) := by
  have h1 : BitVec.ofInt (IntKind.u32).bits (u32i x) = x.toBitVec := bitvec_u32 x
  have h2 : BitVec.ofInt (IntKind.u32).bits (u32i y) = y.toBitVec := bitvec_u32 y
  unfold bits
  simp only [h1, h2]
  exact u32_wrap_id (x ||| y)
theorem u32_shl8 (x : UInt32) : u32i x * 256 % 4294967296 = u32i (shl x 8) := by
  unfold u32i
  rw [shl_toNat]
  omega
/-- bytes, the highest first, as a number -/
def beNum (l : List UInt8) : UInt32 := l.foldl (fun n c => shl n 8 ||| c.toUInt32) 0
theorem beNum_snoc (l : List UInt8) (b : UInt8) : beNum (l ++ [b]) = (shl (beNum l) 8 ||| b.toUInt32) := by simp [beNum]
theorem take_snoc_ub (M : List UInt8) (k : Nat) (hk : k < M.length) : M.take (k + 1) = M.take k ++ [ub M k] := by
  rw [List.take_succ_eq_append_getElem hk]
  simp [ub, hk]
set_option maxHeartbeats 1000000 in
theorem rnumber_any (w : World) (base q : Nat) (L : List UInt8) (bad : Bool) (z : Int) (hR : RdrS w base q L bad) (hz0 : 0 ≤ z) (hz1 : z ≤ 4) :
    Calls Try.prog 99 #[.pointer (some ⟨q, 0, none⟩), .int .i64 z] w fun e w' => e = .returned (.int .u32 (u32i (beNum (rtake L bad z).1))) ∧ RdrS w' base q (rtake L bad z).2.1 (rtake L bad z).2.2 ∧ w.grownBy w' (some q) := by
  go_enter Try.func99, Try.ntmps99
  go_wp2_with fail
  refine (rtake_any w base q L bad z hR (by omega) (by omega)).mono ?_
  rintro e w1 ⟨⟨B, m, d, rfl, h1, h2, h3⟩, h4, h5⟩
  obtain ⟨M, hM⟩ : ∃ M, M = (rtake L bad z).1 := ⟨_, rfl⟩
  rw [← hM] at h1
  have HM := Lib.hid hM
  clear hM
  go_wp2_with fail
  go_loop [5, 12] (fun v i => ∃ k : Nat, k ≤ m ∧ i = .int .i64 k ∧ v = .int .u32 (u32i (beNum (M.take k)))) (fun _ i => m - (intOf i).toNat)
  case atStart => exact ⟨0, Nat.zero_le _, rfl, rfl⟩
  case round =>
    obtain ⟨k, hk, rfl, rfl⟩ := hrel
    have hroom := h1.room
    have hcap := h1.cap
    unfold maxLen at hcap
    by_cases hlt : k < m
    · obtain ⟨ad, rfl, hc⟩ := h1.cells (by omega)
      have y1 := hc k hlt
      clear hc
      have e2 := fun w' : World => conv_u8_u32' (P := Try.prog) (w := w') Try.underlying5 Try.underlying101 (ub M k)
      go_wp2_with fail
      go_round
      case rel => exact ⟨k + 1, by omega, by go_num, by rw [u32_shl8, bits_or32, take_snoc_ub M k (by rw [h1.len]; exact hlt), beNum_snoc]⟩
      case measure => simp [intOf]; omega
    · obtain rfl : k = m := by omega
      rw [List.take_of_length_le (by rw [h1.len]; exact Nat.le_refl _)]
      go_wp2_with fail
      go_ret
      refine ⟨?_, h4, h5⟩
      rw [← HM.out]
      rfl
end Go.Proofs.Ythggfbpdhkpkjaa
namespace Go.Proofs.Ythggfbpdhkpkjaa
set_option maxRecDepth 100000
open Go Go.RowKit
set_option maxHeartbeats 1000000 in
theorem rbyte_any (w : World) (base q : Nat) (L : List UInt8) (bad : Bool) (hR : RdrS w base q L bad) :
    Calls Try.prog 94 #[.pointer (some ⟨q, 0, none⟩)] w fun e w' => e = .returned (.int .u8 (u8i (beNum (rtake L bad 1).1).toUInt8)) ∧ RdrS w' base q (rtake L bad 1).2.1 (rtake L bad 1).2.2 ∧ w.grownBy w' (some q) := by
  have hc := fun w' : World => conv_u32_u8 (P := Try.prog) (w := w') Try.underlying101 Try.underlying5 (beNum (rtake L bad 1).1)
  go_enter Try.func94, Try.ntmps94
  go_wp2_with fail
  refine (rnumber_any w base q L bad 1 hR (by omega) (by omega)).mono ?_
  rintro e w1 ⟨rfl, h1, h2⟩
  go_wp2_with fail
  go_ret
  exact ⟨rfl, h1, h2⟩
set_option maxHeartbeats 1000000 in
theorem rnum_any (w : World) (base q : Nat) (L : List UInt8) (bad : Bool) (hR : RdrS w base q L bad) :
    Calls Try.prog 71 #[.pointer (some ⟨q, 0, none⟩)] w fun e w' => e = .returned (.int .u32 (u32i (beNum (rtake L bad 4).1))) ∧ RdrS w' base q (rtake L bad 4).2.1 (rtake L bad 4).2.2 ∧ w.grownBy w' (some q) := by
  go_enter Try.func71, Try.ntmps71
  go_wp2_with fail
  refine (rnumber_any w base q L bad 4 hR (by omega) (by omega)).mono ?_
  rintro e w1 ⟨rfl, h1, h2⟩
  go_wp2_with fail
  go_ret
  exact ⟨rfl, h1, h2⟩
set_option maxHeartbeats 1000000 in
theorem rend_blk (w : World) (q : Nat) (A : Option Addr) (n c : Nat) (L : List UInt8) (bad : Bool) (hb : Blk w q 115 #[.slice A n c, .bool bad]) (hl : L.length = n) (hn : n ≤ 140737488355328) :
    Calls Try.prog 74 #[.pointer (some ⟨q, 0, none⟩)] w fun e w' => e = .returned (.bool (!bad && L.isEmpty)) ∧ w = w' := by
  have y1 := hb.cell (i := 0) rfl
  have y2 := hb.cell (i := 1) rfl
  have hE : L.isEmpty = decide ((n : Int) = 0) := by
    rw [← hl]
    cases L <;> simp; omega
  rw [hE]
  clear hl hE hb
  cases bad with
  | true =>
    go_enter Try.func74, Try.ntmps74
    go_wp2_with fail
    go_ret
    exact ⟨rfl, rfl⟩
  | false =>
    go_enter Try.func74, Try.ntmps74
    go_wp2_with fail
    go_ret
    refine ⟨?_, rfl⟩
    simp [beq_dec]
theorem rend_any (w : World) (base q : Nat) (L : List UInt8) (bad : Bool) (hR : RdrS w base q L bad) :
    Calls Try.prog 74 #[.pointer (some ⟨q, 0, none⟩)] w fun e w' => e = .returned (.bool (!bad && L.isEmpty)) ∧ w = w' := by
  obtain ⟨A, n, c, hn, hR⟩ := hR
  exact rend_blk w q A n c L bad hR.blk hR.rb.len hn
end Go.Proofs.Ythggfbpdhkpkjaa
namespace Go.Proofs.Ythggfbpdhkpkjaa
set_option maxRecDepth 100000
structure Man where
  name : List UInt8
  ver : UInt32
  fw : List UInt8
  notes : List UInt8
/-- the reader's steps: mark, name, version, firmware, notes, what is left -/
structure Dec where
  first : UInt8
  man : Man
  left : List UInt8
  bad : Bool
end Go.Proofs.Ythggfbpdhkpkjaa
namespace Go.Proofs.Ythggfbpdhkpkjaa
set_option maxRecDepth 100000
theorem beBytes4 (x : UInt32) : beBytes x 4 = [(shr x 24).toUInt8, (shr x 16).toUInt8, (shr x 8).toUInt8, (shr x 0).toUInt8] := rfl
theorem len4 {l : List UInt8} (h : l.length = 4) : ∃ a b c d, l = [a, b, c, d] := by
  match l, h with
  | [a, b, c, d], _ => exact ⟨a, b, c, d, rfl⟩
end Go.Proofs.Ythggfbpdhkpkjaa
namespace Go.Proofs.Ythggfbpdhkpkjaa
set_option maxRecDepth 100000
open Go Go.RowKit
theorem shr_zero (x : UInt32) : shr x 0 = x := by rw [← UInt32.toNat_inj, shr_toNat]; simp
theorem conv_i64_u8 {P : Program} {w : World} {s t : TypeId} (hs : P.underlying s = some (.int .i64)) (ht : P.underlying t = some (.int .u8)) (x : Nat) : (convert s t (.int .i64 (x : Int))).run P w = .ok (.int .u8 (u8i (UInt8.ofNat x))) w := by
  have e : IntKind.u8.wrap (x : Int) = u8i (UInt8.ofNat x) := by
    unfold u8i
    rw [IntKind.wrap_u8, UInt8.toNat_ofNat']
    omega
  simp [convert, run_underlying hs, run_underlying ht, Conv.intToInt, e]
end Go.Proofs.Ythggfbpdhkpkjaa

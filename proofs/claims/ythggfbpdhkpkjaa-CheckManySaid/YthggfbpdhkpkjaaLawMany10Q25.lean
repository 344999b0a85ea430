/-
  sign.Encode and ref5.Encode, walked.
-/
import Derived.Test.YthggfbpdhkpkjaaLawMany10Q22
import Derived.Test.YthggfbpdhkpkjaaLawMany10Q6
import Derived.Test.YthggfbpdhkpkjaaLawMany10Q24
namespace Go.Proofs.Ythggfbpdhkpkjaa
set_option maxRecDepth 100000
open Go Go.RowKit
def encS (k : Int) (Ps Qs : List (List UInt8)) : List UInt8 := bytesOf (keyW k) ++ (Ps ++ Qs).flatten
theorem beBytes_four (x : UInt32) : beBytes x 4 = bytesOf x := by
  unfold beBytes bytesOf
  simp only [List.range_succ, List.range_zero, List.nil_append, List.cons_append, List.map_cons, List.map_nil]
  refine congrArg (fun z => [_, _, _, z]) ?_
  apply UInt8.toNat_inj.1
  rw [UInt32.toNat_toUInt8, shr_toNat, UInt32.toNat_toUInt8]
  simp
theorem row_chg {w w' : World} {base : Nat} {e : TypeId} {s : Nat} {v : Value} {n : Nat} {xs : List Value} (h : w.ownsRow base e s v n xs) {p : Nat} {A : Option Addr} (k : Chg w w' p A) (hp : v.ownBlock ≠ some p) (hA : ∀ b, blk A = some b → v.ownBlock ≠ some b) : w'.ownsRow base e s v n xs := by
  refine ⟨h.1, ?_⟩
  rcases h.2 with h0 | ⟨g, cap, cur, e, hg, h1, h2⟩
  · exact .inl h0
  · refine .inr ⟨g, cap, cur, e, hg, ?_, h2⟩
    have hv : v.ownBlock = some g := by rw [e]; rfl
    have hlt : g < w.heap.size := (Array.getElem?_eq_some_iff.1 h1).1
    rw [k.block g hlt (fun e => hp (by rw [hv, e])) (fun e => hA g e hv)]
    exact h1
theorem flatten_take_len (Ls : List (List UInt8)) (n : Nat) (hn : n ≤ Ls.length) (h : ∀ i, i < Ls.length → (lb Ls i).length = 32) : ((Ls.take n).flatten).length = 32 * n := by
  induction n with
  | zero => rfl
  | succ n ih => rw [flatten_take_succ Ls n hn, List.length_append, ih (by omega), h n (by omega)]; omega
def EncI (wI : World) (x : UInt32) (Ls : List (List UInt8)) (p : Nat) (C : Option Addr) (cc bc : Nat) (us : List Value) (i : Value) (wr : World) : Prop :=
  ∃ (k c : Nat) (A : Option Addr), k ≤ 68 ∧ i = .int .i64 k ∧ Wtr wr wI.heap.size p A (4 + 32 * k) c (beBytes x 4 ++ (Ls.take k).flatten) ∧ wr.ownsRow bc 22 1 (.slice C 68 cc) 68 us ∧ Ext wI wr
set_option maxHeartbeats 4000000 in
theorem sencode_any (x : Int) (P Q : Option Addr) (np cp nq cq : Nat) (Ps Qs : List (List UInt8)) (w : World) (hp : RBB w P np cp Ps) (hq : RBB w Q nq cq Qs) :
    Calls Try.prog 69 #[.agg #[.int .i64 x, .slice P np cp, .slice Q nq cq]] w fun e w' =>
      (rightB x Ps Qs = true → ∃ B d, e = .returned (.tuple #[.slice B 2180 d, .int .i64 0]) ∧ OB w' w.heap.size B 2180 d (encS x Ps Qs)) ∧
      (rightB x Ps Qs = false → e = .returned (.tuple #[.slice none 0 0, .int .i64 12])) ∧ Ext w w' := by
  have hck := fun w' => conv_key (P := Try.prog) (w := w') Try.underlying3 Try.underlying101 x
  go_enter Try.func69, Try.ntmps69
  have hE1 := Ext.new w (.cells #[.int .i64 x, .slice P np cp, .slice Q nq cq] 39)
  have hB1 := Blk.new w 39 #[.int .i64 x, .slice P np cp, .slice Q nq cq]
  go_wp2_with fail
  refine (sright_any x P Q np cp nq cq Ps Qs _ (hp.ext hE1) (hq.ext hE1)).mono ?_
  rintro e w2 ⟨rfl, hE2⟩
  have hE12 := hE1.trans hE2
  have hB2 := hB1.ext hE2
  clear hB1
  cases hr : rightB x Ps Qs with
  | false =>
    go_wp2_with fail
    go_ret2
    exact ⟨fun h => absurd (hr.symm.trans h) (by decide), fun _ => rfl, hE12⟩
  | true =>
    obtain ⟨_, ⟨hpl, hp32⟩, hql, hq32⟩ := rightB_true hr
    obtain rfl : np = 64 := hp.len.symm.trans hpl
    obtain rfl : nq = 4 := hq.len.symm.trans hql
    have hLs : (Ps ++ Qs).length = 68 := by rw [List.length_append, hpl, hql]
    have hL32 : ∀ i, i < (Ps ++ Qs).length → (lb (Ps ++ Qs) i).length = 32 := by
      intro i hi
      by_cases h64 : i < 64
      · have e : lb (Ps ++ Qs) i = lb Ps i := by unfold lb; simp [List.getElem?_append_left (show i < Ps.length by omega)]
        rw [e]
        exact hp32 i h64
      · have e : lb (Ps ++ Qs) i = lb Qs (i - 64) := by unfold lb; simp [List.getElem?_append_right (show Ps.length ≤ i by omega), hpl]
        rw [e]
        exact hq32 _ (by omega)
    have HLs := Lib.hid hLs
    have HL32 := Lib.hid hL32
    have Hr := Lib.hid hr
    clear hr hpl hp32 hql hq32 hLs hL32
    go_wp2_with fail
    refine (wnew_any w2).mono ?_
    rintro e w3 ⟨p, rfl, hW3, hE3⟩
    have hB3 := hB2.ext hE3
    have y0 := hB3.cell (i := 0) (v := .int .i64 x) rfl
    go_wp2_with fail
    refine (wnum_any w2 w3 p _ _ _ _ (keyW x) hE3 hW3 (by omega)).mono ?_
    rintro e w4 ⟨rfl, A4, c4, hW4, hC4, hL4⟩
    have hE4 := hW3.chg_ext hE3 hC4
    have hB4 := hB2.ext hE4
    have z1 := hB4.cell (i := 1) (v := .slice P 64 cp) rfl
    have z2 := hB4.cell (i := 2) (v := .slice Q 4 cq) rfl
    clear y0 hB3 hW3 hC4 hL4
    have hE5 := Ext.new w4 (.cells #[.slice P 64 cp, .slice Q 4 cq] 37)
    have hB5 := Blk.new w4 37 #[.slice P 64 cp, .slice Q 4 cq]
    go_wp2_with fail
    refine (concat_two w4.heap.size cp cq P Q Ps Qs w _ ((hE12.trans hE4).trans hE5) hp hq hB5).mono ?_
    rintro e w6 ⟨C, cc, us, rfl, ownC, hus, hE6⟩
    have hE46 := hE5.trans hE6
    have hE26 := hE4.trans hE46
    have hW6 : Wtr w6 w2.heap.size p A4 (4 + 32 * 0) c4 (beBytes (keyW x) 4 ++ ((Ps ++ Qs).take 0).flatten) := by
      have := (show Wtr w6 w2.heap.size p A4 (0 + 4) c4 ([] ++ beBytes (keyW x) 4) from ⟨hW4.blk.ext hE46, hW4.own.ext hE46, hW4.ne, hW4.base⟩)
      simpa using this
    obtain ⟨bc, hbc⟩ : ∃ bc, bc = (w4.alloc (.cells #[.slice P 64 cp, .slice Q 4 cq] 37)).heap.size := ⟨_, rfl⟩
    rw [← hbc] at ownC
    clear hbc hB5 hE5 hE6 hW4 z1 z2 hE46 hE4 hB4 hB2 hE3 hE1 hE2
    have Hus := Lib.hid hus
    clear hus hck
    obtain ⟨Ls, hLs⟩ : ∃ Ls, Ls = Ps ++ Qs := ⟨_, rfl⟩
    rw [← hLs] at HLs HL32 Hus hW6
    have HLq := Lib.hid hLs
    clear hLs
    go_wp2_with fail
    go_loopw [23] (fun i wr => EncI w2 (keyW x) Ls p C cc bc us i wr) (fun i _ => 68 - (intOf i).toNat)
    case atStart => exact ⟨0, c4, A4, by omega, rfl, hW6, ownC, hE26⟩
    case round =>
      clear hW6 ownC hE26
      obtain ⟨k, c, A, hk, rfl, hW, ownC, hEr⟩ := hrel
      by_cases hlt : k < 68
      · have hki : (k : Int) < 68 := by omega
        obtain ⟨B, m, d, hu, hB⟩ := Hus.out k hlt
        obtain rfl : m = 32 := hB.len.symm.trans (HL32.out k (by rw [HLs.out]; exact hlt))
        have hCn : ∃ gC, C = some ⟨gC, 0, none⟩ := by
          rcases ownC.2 with ⟨e, h0⟩ | ⟨g, cap, cur, e, _⟩
          · omega
          · injection e with e1
            exact ⟨g, e1⟩
        obtain ⟨gC, rfl⟩ := hCn
        have y1 := World.ownsRow.cells ownC (g := gC) (by rw [ownBlock_slice]; rfl) k _ hu
        rw [add_plain] at y1
        have hft := flatten_take_succ Ls k (by rw [HLs.out]; exact hlt)
        have Hft := Lib.hid hft
        clear hft hu
        go_wp2_with fail
        refine (wraw_any w2 wr p _ _ _ _ _ B _ (lb Ls k) hEr hW (hB.ext (hE12.trans hEr)) (by omega)).mono ?_
        rintro e w8 ⟨rfl, A8, c8, hW8, hC8, hL8⟩
        have hE8 := hW.chg_ext hEr hC8
        have ownC8 := row_chg ownC hC8 (row_ne ownC hW.blk (by decide)) (fun b hb => by
          obtain ⟨cs, hcs⟩ := row_type hW.own (k := b) (by rw [ownBlock_slice]; exact hb)
          exact row_ne ownC hcs (by decide))
        rw [show 4 + 32 * k + 32 = 4 + 32 * (k + 1) from by omega, List.append_assoc, ← Hft.out] at hW8
        go_wp2_with fail
        go_roundw
        case rel => exact ⟨k + 1, c8, A8, by omega, by go_num, hW8, ownC8, hE8⟩
        case measure => simp [intOf]; omega
      · obtain rfl : k = 68 := by omega
        have htk : Ls.take 68 = Ls := List.take_of_length_le (by rw [HLs.out]; omega)
        rw [htk] at hW
        go_wp2_with fail
        refine (wdone_any wr w2.heap.size p _ _ _ _ hW (by omega)).mono ?_
        rintro e w9 ⟨B, d, rfl, own9, hE9⟩
        go_wp2_with fail
        go_ret2
        refine ⟨fun _ => ⟨B, d, rfl, ?_⟩, fun h => absurd (Hr.out.symm.trans h) (by decide), (hE12.trans hEr).trans hE9⟩
        have h1 := own9.base (hE12.trans hEr).size
        rw [beBytes_four] at h1
        unfold encS
        rw [← HLq.out]
        exact h1
end Go.Proofs.Ythggfbpdhkpkjaa

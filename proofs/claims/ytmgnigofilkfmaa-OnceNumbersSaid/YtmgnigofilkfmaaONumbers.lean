/-
  law4.OnceNumbers, walked.
-/
import Derived.Test.YtmgnigofilkfmaaTells4
import Derived.Test.YtmgnigofilkfmaaFew
import Derived.Test.YtmgnigofilkfmaaAppVs
namespace Go.Proofs.Ytmgnigofilkfmaa
set_option maxRecDepth 100000
open Go Go.RowKit
theorem str_ofs (s : ByteArray) : ∃ L : List UInt8, s = str L ∧ L.length = s.size := ⟨s.data.toList, by cases s; simp [str], by cases s; simp [ByteArray.size]⟩
theorem cb_law {ops : Array Oper} {rest : List Oper} {o : Oper} {a : Act} {Q : Exit → Act → World → Prop} {w : World} (hgd : o.guard = none) {x : Operand} (ho : o.op = .convert 9 22 x) {s : List UInt8} (hx : a.eval x = .string (str s)) (hs : s.length ≤ 1000000)
    (h : ∀ c w', RB w' (some ⟨w.heap.size, 0, none⟩) s.length c s → Ext w w' → wpList Try.prog ops Q rest (a.put o.dst (.slice (some ⟨w.heap.size, 0, none⟩) s.length c)) w') : wpList Try.prog ops Q (o :: rest) a w := by
  have h0 := Lib.run_convert_string_bytes (P := Try.prog) w 9 22 5 (str s) Try.underlying9 Try.underlying22 Try.underlying5
  have hz : (str s).size = s.length := str_size s
  rw [hz] at h0
  refine wpList_plain hgd fun K hK => ?_
  unfold Oper.wp execOp
  simp only [ho, hx, Sem.run_bind, h0, Result.andThen_ok, Sem.run_pure]
  refine hK _ _ (h _ _ ⟨rfl, grownCap_ge _ _ _ _, grownCap_le_maxLen _ _ _ _ (small_maxLen hs), fun hn => ⟨_, rfl, fun j hj => ?_⟩⟩ ⟨rfl, rfl, rfl, by rw [Lib.bytesWorld_size]; omega, fun k hk => Lib.bytesWorld_at_old w _ _ k hk⟩)
  rw [add_plain, Lib.bytesWorld_cell w _ _ j (by rw [hz]; exact hj)]
  rfl
def NumO (w : World) (n : Nat) (i : Value) (wr : World) : Prop := ∃ k : Nat, k ≤ n ∧ i = .int .i64 k ∧ Ext w wr
def NumJ (w : World) (i : Value) (wr : World) : Prop := ∃ q : Nat, q ≤ 7 ∧ i = .int .i64 ((5 * q : Nat) : Int) ∧ Ext w wr
theorem bad_not {Ls : List (List UInt8)} {k : Nat} (hk : k < 64) (h : rootOK Ls) : ¬ rootOK (Ls.set k ((lb Ls k).take 31)) := by
  intro h'
  have h1 := h'.2 k hk
  have e : lb (Ls.set k ((lb Ls k).take 31)) k = (lb Ls k).take 31 := by unfold lb; simp [h.1, hk]
  rw [e, List.length_take] at h1
  omega
theorem OBC.elem {w : World} {base n c g : Nat} {Ls : List (List UInt8)} (h : OBC w base (some ⟨g, 0, none⟩) n c Ls) {j : Nat} (hj : j < n) : ∃ B m d, w.cell? ⟨g, j, none⟩ = some (.slice B m d) ∧ RB w B m d (lb Ls j) ∧ (0 < m → blk B ≠ some g) := by
  obtain ⟨vs, h1, h2, h3⟩ := h
  obtain ⟨B, m, d, h4, h5, h6⟩ := h3 j hj
  have h7 := World.ownsRow.cells h1 (g := g) rfl j _ h4
  rw [add_plain] at h7
  exact ⟨B, m, d, h7, h5, h6⟩
set_option maxHeartbeats 16000000 in
theorem onumbers_law (w : World) : Calls Try.prog 8 #[] w fun e w' => e = .returned (.bool true) ∧ Ext w w' := by
  go_enter Try.func8, Try.ntmps8
  go_wp2_with fail
  refine (seed_any 0 w (by omega) (by omega)).mono ?_
  rintro e w1 ⟨A1, c1, rfl, own1, hE1⟩
  have rS1 := own1.rb
  generalize seedL 0 = S at *
  clear own1
  have hEn := Ext.new w1 (.cells #[.string ⟨#[]⟩, .string ⟨#[97]⟩, .string ⟨#[97, 110, 111, 116, 104, 101, 114, 32, 109, 101, 115, 115, 97, 103, 101]⟩] 9)
  have hBn := Blk.new w1 9 #[.string ⟨#[]⟩, .string ⟨#[97]⟩, .string ⟨#[97, 110, 111, 116, 104, 101, 114, 32, 109, 101, 115, 115, 97, 103, 101]⟩]
  have hE2 := hE1.trans hEn
  have rS2 := rS1.ext hEn
  go_wp2_with fail
  generalize w1.alloc (.cells #[.string ⟨#[]⟩, .string ⟨#[97]⟩, .string ⟨#[97, 110, 111, 116, 104, 101, 114, 32, 109, 101, 115, 115, 97, 103, 101]⟩] 9) = w2 at *
  clear hE1 hEn rS1
  obtain ⟨gn, hgn⟩ : ∃ gn, gn = w1.heap.size := ⟨_, rfl⟩
  rw [← hgn] at hBn ⊢
  clear hgn
  go_loopw [15] (fun i wi => NumO w2 3 i wi) (fun i _ => 3 - (intOf i).toNat)
  case atStart => exact ⟨0, by omega, rfl, Ext.refl _⟩
  case round =>
    obtain ⟨j, hj, rfl, hEj⟩ := hrel
    have rS := rS2.ext hEj
    by_cases hlt2 : j < 3
    · have hji : (j : Int) < 3 := by omega
      obtain ⟨sn, hsn, hss⟩ : ∃ sn : ByteArray, w2.cell? ⟨gn, j, none⟩ = some (.string sn) ∧ sn.size ≤ 15 := by
        have hc : j = 0 ∨ j = 1 ∨ j = 2 := by omega
        rcases hc with rfl | rfl | rfl
        · exact ⟨_, hBn.cell (i := 0) rfl, by decide⟩
        · exact ⟨_, hBn.cell (i := 1) rfl, by decide⟩
        · exact ⟨_, hBn.cell (i := 2) rfl, by decide⟩
      obtain ⟨NL, rfl, hNs⟩ := str_ofs sn
      have y0 := hEj.cell hsn
      have hNl : NL.length ≤ 15 := by omega
      clear hsn hNs hss
      have hok := (root_sign NL S 2).1
      have Hok := Lib.hid hok
      clear hok
      go_wp2_with (refine cb_law rfl rfl rfl (by omega) ?_; intro c3 w3 rM3 hE3)
      refine (sign_any A1 _ 32 c1 _ c3 S NL 2 w3 (rS.ext hE3) (by omega) rM3 (by omega)).mono ?_
      rintro e w4 ⟨P4, d4, rfl, own4, hE4⟩
      have hE34 := hE3.trans hE4
      have rP4 := own4.rbb
      clear rM3 own4 hE3 hE4
      go_wp2_with (refine cb_law rfl rfl rfl (by omega) ?_; intro c5 w5 rM5 hE5)
      refine (r4sign_any A1 _ 32 c1 _ c5 S NL 2 w5 (rS.ext (hE34.trans hE5)) (by omega) rM5 (by omega)).mono ?_
      rintro e w6 ⟨P6, d6, rfl, own6, hE6⟩
      have rP4 := rP4.ext (hE5.trans hE6)
      have hE36 := hE34.trans (hE5.trans hE6)
      have rP6 := own6.rbb
      clear rM5 own6 hE5 hE6 hE34
      go_wp2_with (refine cb_law rfl rfl rfl (by omega) ?_; intro c7 w7 rM7 hE7)
      refine (digest_any _ _ c7 NL w7 rM7 (by omega)).mono ?_
      rintro e w8 ⟨rfl, hE8⟩
      have hE38 := hE36.trans (hE7.trans hE8)
      have rP4 := rP4.ext (hE7.trans hE8)
      have rP6 := rP6.ext (hE7.trans hE8)
      clear rM7 hE7 hE8 hE36
      go_wp2_with (refine cb_law rfl rfl rfl (by omega) ?_; intro c9 w9 rM9 hE9)
      refine (r4digest_any _ _ c9 NL w9 rM9 (by omega)).mono ?_
      rintro e w10 ⟨rfl, hE10⟩
      have hE310 := hE38.trans (hE9.trans hE10)
      have rP4 := rP4.ext (hE9.trans hE10)
      have rP6 := rP6.ext (hE9.trans hE10)
      clear rM9 hE9 hE10 hE38
      generalize (List.range 64).map (partS (digestW NL) S 2) = LS at *
      go_wp2_with fail
      refine (lists_same P4 P6 64 d4 64 d6 LS w10 rP4 rP6).mono ?_
      rintro e w11 ⟨rfl, hE11⟩
      have hE311 := hE310.trans hE11
      have rP4 := rP4.ext hE11
      have hE02 := hEj.trans hE311
      have rS := rS.ext hE311
      clear rP6 hE310 hE11 hE311 hEj y0
      obtain ⟨us, ul, uc, uo, uf⟩ := rP4.vals
      obtain ⟨adP, rfl, _⟩ := rP4.cells (by omega)
      have uc := uc adP rfl
      have hPl := rP4.len
      have HPl := Lib.hid hPl
      have Hul := Lib.hid ul
      have Huf := Lib.hid uf
      clear hPl ul uf
      go_wp2_with fail
      go_loopw [6] (fun i wi => NumO w11 64 i wi) (fun i _ => 64 - (intOf i).toNat)
      case atStart => exact ⟨0, by omega, rfl, Ext.refl _⟩
      case round =>
        obtain ⟨k, hk, rfl, hEk⟩ := hrel
        by_cases hlt3 : k < 64
        · have hki : (k : Int) < 64 := by omega
          have hEl := Ext.new wr (.cells #[] 22)
          have own0 : (wr.alloc (.cells #[] 22)).ownsRow wr.heap.size 22 1 (.slice (some ⟨wr.heap.size, 0, none⟩) 0 0) 0 [] := ⟨rfl, .inr ⟨wr.heap.size, 0, #[], rfl, Nat.le_refl _, heap_alloc_new _ _, Nat.zero_le _, Nat.zero_le _, rfl, by simp⟩⟩
          go_wp2_with (first | (refine appvs_law (base := wr.heap.size) (us := us) rfl rfl rfl rfl own0 Hul.out (fun j u hu => (hEk.trans hEl).cell (uc j u hu)) uo (by omega) hEl.size (by omega) ?_; intro A5 c5 w5 own5 g5; have hE5 := hEl.then_grown g5 (fun b hb => by cases hb; exact Nat.le_refl _); have obc5 := OBC.of_vals (Ls := LS) own5 (Nat.le_refl _) hE5 HPl.out (fun j hj => by obtain ⟨B, m, d, h1, h2⟩ := Huf.out j hj; exact ⟨B, m, d, by simpa using h1, h2.ext hEk⟩); obtain ⟨a5, rfl, _⟩ := obc5.rbb.cells (by omega); obtain ⟨g', rfl⟩ := obc5.plain; obtain ⟨E, z, y, hcell, hrE, hne⟩ := obc5.elem hlt3; have hz := Hok.out.2 k hlt3; obtain rfl : z = 32 := hrE.len.symm.trans hz; have hy := hrE.room; have hyc := hrE.cap; unfold maxLen at hyc; have y2 := obc5.frozen k; have hcp := obc5.rbb.cap; unfold maxLen at hcp; have Hst := Lib.hid (OBC.store obc5 (hrE.take (k := 31) (by omega)) (fun _ => hne (by omega)) k hlt3 hE5 (Nat.le_refl _)); clear hz own5 own0 g5 hE5 obc5 hrE hne hEl) | (refine cb_law rfl rfl rfl (by omega) ?_; intro c15 w15 rM15 hE15))
          have rM16 : RB w15 (some ⟨w5.heap.size, 0, none⟩) NL.length c15 NL := by
            have e : (w5.setCell ⟨g', k, none⟩ (.slice E 31 y)).heap.size = w5.heap.size := by simp
            rw [e] at rM15
            exact rM15
          clear rM15
          refine (root_any _ _ _ c15 64 c5 NL _ w15 rM16 (by omega) (Hst.out.1.ext hE15).rbb).mono ?_
          rintro e w16 ⟨_, h2, hE16⟩
          obtain rfl := h2 (bad_not hlt3 Hok.out)
          clear h2
          have hEw := hEk.trans (Hst.out.2.trans (hE15.trans hE16))
          clear Hst hE15 hE16 rM16
          go_wp2_with fail
          go_roundw
          case rel => exact ⟨k + 1, by omega, by go_num, hEw⟩
          case measure => simp [intOf]; omega
        · obtain rfl : k = 64 := by omega
          have hEo := hE02.trans hEk
          have rSo := rS.ext hEk
          clear uc rP4 Hul Huf HPl Hok hEk rS hE02
          go_wp2_with fail
          obtain ⟨wo, rfl⟩ : ∃ wo, wo = wr := ⟨_, rfl⟩
          go_loopw [10] (fun i wi => NumJ wo i wi) (fun i _ => 40 - (intOf i).toNat)
          case atStart => exact ⟨0, by omega, rfl, Ext.refl _⟩
          case round =>
            obtain ⟨q, hq, rfl, hEq⟩ := hrel
            have rSp := rSo.ext hEq
            by_cases hlt4 : q < 7
            · have hqi : ((5 * q : Nat) : Int) < 32 := by omega
              go_wp2_with fail
              obtain ⟨wp, rfl⟩ : ∃ wp, wp = wr := ⟨_, rfl⟩
              go_loopw [11] (fun i wi => NumO wp 2 i wi) (fun i _ => 2 - (intOf i).toNat)
              case atStart => exact ⟨0, by omega, rfl, Ext.refl _⟩
              case round =>
                obtain ⟨s, hs, rfl, hEs⟩ := hrel
                have rSq := rSp.ext hEs
                by_cases hlt5 : s < 2
                · have hsi : (s : Int) < 2 := by omega
                  go_upto_region 23 with (fail)
                  refine par_ext (n := 24) (by kernel_rfl) [.is (.slice (A1) (32) (c1)), .is (.int .i64 (((5 * q : Nat) : Int))), .is (.int .i64 (((s : Nat) : Int))), .rb (secretL S ((2 : Int)) (((5 * q : Nat) : Int)) (((s : Nat) : Int))), .is (.string (str (secretL S ((2 : Int)) (((5 * q : Nat) : Int)) (((s : Nat) : Int))))), .is (.slice (A1) (32) (c1)), .is (.int .i64 (((5 * q : Nat) : Int))), .is (.int .i64 (((s : Nat) : Int))), .rb (secretL S ((2 : Int)) (((5 * q : Nat) : Int)) (((s : Nat) : Int))), .is (.string (str (secretL S ((2 : Int)) (((5 * q : Nat) : Int)) (((s : Nat) : Int))))), .is (.bool (false)), .is (.bool (false)), .is (.slice (A1) (32) (c1)), .is (.int .i64 (((5 * q : Nat) : Int))), .is (.int .i64 (((s : Nat) : Int))), .rb (shownL S ((2 : Int)) (((5 * q : Nat) : Int)) (((s : Nat) : Int))), .is (.string (str (shownL S ((2 : Int)) (((5 * q : Nat) : Int)) (((s : Nat) : Int))))), .is (.slice (A1) (32) (c1)), .is (.int .i64 (((5 * q : Nat) : Int))), .is (.int .i64 (((s : Nat) : Int))), .rb (shownL S ((2 : Int)) (((5 * q : Nat) : Int)) (((s : Nat) : Int))), .is (.string (str (shownL S ((2 : Int)) (((5 * q : Nat) : Int)) (((s : Nat) : Int))))), .is (.bool (false)), .is (.bool (false))] rfl ⟨?_, ?_, ?_, ?_, ?_, ?_, ?_, ?_, ?_, ?_, ?_, ?_, ?_, ?_, ?_, ?_, ?_, ?_, ?_, ?_, ?_, ?_, ?_, ?_, trivial⟩ ?_
                  · refine stepE rfl fun sdn sa sw sE sd sk => ?_
                    have h1 : sa.eval (.tmp 1) = .slice (A1) (32) (c1) := sk.old 1 rfl
                    exact Runs.move rfl h1 ⟨Ext.refl _, rfl⟩
                  · refine stepE rfl fun sdn sa sw sE sd sk => ?_
                    have h10 : sa.eval (.tmp 10) = .int .i64 (((5 * q : Nat) : Int)) := sk.old 10 rfl
                    exact Runs.move rfl h10 ⟨Ext.refl _, rfl⟩
                  · refine stepE rfl fun sdn sa sw sE sd sk => ?_
                    have h11 : sa.eval (.tmp 11) = .int .i64 (((s : Nat) : Int)) := sk.old 11 rfl
                    exact Runs.move rfl h11 ⟨Ext.refl _, rfl⟩
                  · refine stepE rfl fun sdn sa sw sE sd sk => ?_
                    have h83 : sa.eval (.tmp 83) = .slice (A1) (32) (c1) := sk.fact 0 83 rfl (sd 0 rfl)
                    have h84 : sa.eval (.tmp 84) = .int .i64 (((5 * q : Nat) : Int)) := sk.fact 1 84 rfl (sd 1 rfl)
                    have h85 : sa.eval (.tmp 85) = .int .i64 (((s : Nat) : Int)) := sk.fact 2 85 rfl (sd 2 rfl)
                    refine Runs.call (f := 34) (vs := [.slice (A1) (32) (c1), .int .i64 ((2 : Int)), .int .i64 (((5 * q : Nat) : Int)), .int .i64 (((s : Nat) : Int))]) rfl rfl rfl (by simp only [List.map_toArray, List.map_cons, List.map_nil, h83, h84, h85] <;> rfl) (ent34 _ _) ((secret_any _ _ _ _ ((2 : Int)) (((5 * q : Nat) : Int)) (((s : Nat) : Int)) sw (rSq.ext sE) (by omega)).mono ?_); rintro e w' ⟨A', c', rfl, own, hx⟩; exact ⟨_, rfl, hx, A', 32, c', rfl, own.rb⟩
                  · refine stepE rfl fun sdn sa sw sE sd sk => ?_
                    obtain ⟨A86, n86, c86, h86, r86⟩ := sk.fact 3 86 rfl (sd 3 rfl)
                    exact Runs.conv rfl h86 (run_str r86) ⟨Ext.refl _, rfl⟩
                  · refine stepE rfl fun sdn sa sw sE sd sk => ?_
                    have h1 : sa.eval (.tmp 1) = .slice (A1) (32) (c1) := sk.old 1 rfl
                    exact Runs.move rfl h1 ⟨Ext.refl _, rfl⟩
                  · refine stepE rfl fun sdn sa sw sE sd sk => ?_
                    have h10 : sa.eval (.tmp 10) = .int .i64 (((5 * q : Nat) : Int)) := sk.old 10 rfl
                    exact Runs.move rfl h10 ⟨Ext.refl _, rfl⟩
                  · refine stepE rfl fun sdn sa sw sE sd sk => ?_
                    have h11 : sa.eval (.tmp 11) = .int .i64 (((s : Nat) : Int)) := sk.old 11 rfl
                    exact Runs.move rfl h11 ⟨Ext.refl _, rfl⟩
                  · refine stepE rfl fun sdn sa sw sE sd sk => ?_
                    have h88 : sa.eval (.tmp 88) = .slice (A1) (32) (c1) := sk.fact 5 88 rfl (sd 5 rfl)
                    have h89 : sa.eval (.tmp 89) = .int .i64 (((5 * q : Nat) : Int)) := sk.fact 6 89 rfl (sd 6 rfl)
                    have h90 : sa.eval (.tmp 90) = .int .i64 (((s : Nat) : Int)) := sk.fact 7 90 rfl (sd 7 rfl)
                    refine Runs.call (f := 35) (vs := [.slice (A1) (32) (c1), .int .i64 ((2 : Int)), .int .i64 (((5 * q : Nat) : Int)), .int .i64 (((s : Nat) : Int))]) rfl rfl rfl (by simp only [List.map_toArray, List.map_cons, List.map_nil, h88, h89, h90] <;> rfl) (ent35 _ _) ((r4secret_any _ _ _ _ ((2 : Int)) (((5 * q : Nat) : Int)) (((s : Nat) : Int)) sw (rSq.ext sE) (by omega)).mono ?_); rintro e w' ⟨A', c', rfl, own, hx⟩; exact ⟨_, rfl, hx, A', 32, c', rfl, own.rb⟩
                  · refine stepE rfl fun sdn sa sw sE sd sk => ?_
                    obtain ⟨A91, n91, c91, h91, r91⟩ := sk.fact 8 91 rfl (sd 8 rfl)
                    exact Runs.conv rfl h91 (run_str r91) ⟨Ext.refl _, rfl⟩
                  · refine stepE rfl fun sdn sa sw sE sd sk => ?_
                    have h87 : sa.eval (.tmp 87) = .string (str (secretL S ((2 : Int)) (((5 * q : Nat) : Int)) (((s : Nat) : Int)))) := sk.fact 4 87 rfl (sd 4 rfl)
                    have h92 : sa.eval (.tmp 92) = .string (str (secretL S ((2 : Int)) (((5 * q : Nat) : Int)) (((s : Nat) : Int)))) := sk.fact 9 92 rfl (sd 9 rfl)
                    exact Runs.bin rfl h87 h92 (by rfl) (bin_nes _ _ _) ⟨Ext.refl _, congrArg Value.bool (by simp)⟩
                  · refine stepE rfl fun sdn sa sw sE sd sk => ?_
                    have h93 : sa.eval (.tmp 93) = .bool (false) := sk.fact 10 93 rfl (sd 10 rfl)
                    exact Runs.move rfl h93 ⟨Ext.refl _, rfl⟩
                  · refine stepY (j := 11) (d := 94) (b := false) rfl rfl rfl (fun v w h => h) fun sdn sa sw sE sd sk => ?_
                    have h1 : sa.eval (.tmp 1) = .slice (A1) (32) (c1) := sk.old 1 rfl
                    exact Runs.move rfl h1 ⟨Ext.refl _, rfl⟩
                  · refine stepY (j := 11) (d := 94) (b := false) rfl rfl rfl (fun v w h => h) fun sdn sa sw sE sd sk => ?_
                    have h10 : sa.eval (.tmp 10) = .int .i64 (((5 * q : Nat) : Int)) := sk.old 10 rfl
                    exact Runs.move rfl h10 ⟨Ext.refl _, rfl⟩
                  · refine stepY (j := 11) (d := 94) (b := false) rfl rfl rfl (fun v w h => h) fun sdn sa sw sE sd sk => ?_
                    have h11 : sa.eval (.tmp 11) = .int .i64 (((s : Nat) : Int)) := sk.old 11 rfl
                    exact Runs.move rfl h11 ⟨Ext.refl _, rfl⟩
                  · refine stepY (j := 11) (d := 94) (b := false) rfl rfl rfl (fun v w h => h) fun sdn sa sw sE sd sk => ?_
                    have h95 : sa.eval (.tmp 95) = .slice (A1) (32) (c1) := sk.fact 12 95 rfl (sd 12 rfl)
                    have h96 : sa.eval (.tmp 96) = .int .i64 (((5 * q : Nat) : Int)) := sk.fact 13 96 rfl (sd 13 rfl)
                    have h97 : sa.eval (.tmp 97) = .int .i64 (((s : Nat) : Int)) := sk.fact 14 97 rfl (sd 14 rfl)
                    refine Runs.call (f := 36) (vs := [.slice (A1) (32) (c1), .int .i64 ((2 : Int)), .int .i64 (((5 * q : Nat) : Int)), .int .i64 (((s : Nat) : Int))]) rfl rfl rfl (by simp only [List.map_toArray, List.map_cons, List.map_nil, h95, h96, h97] <;> rfl) (ent36 _ _) ((shown_any _ _ _ _ ((2 : Int)) (((5 * q : Nat) : Int)) (((s : Nat) : Int)) sw (rSq.ext sE) (by omega)).mono ?_); rintro e w' ⟨A', c', rfl, own, hx⟩; exact ⟨_, rfl, hx, A', 32, c', rfl, own.rb⟩
                  · refine stepY (j := 11) (d := 94) (b := false) rfl rfl rfl (fun v w h => h) fun sdn sa sw sE sd sk => ?_
                    obtain ⟨A98, n98, c98, h98, r98⟩ := sk.fact 15 98 rfl (sd 15 rfl)
                    exact Runs.conv rfl h98 (run_str r98) ⟨Ext.refl _, rfl⟩
                  · refine stepY (j := 11) (d := 94) (b := false) rfl rfl rfl (fun v w h => h) fun sdn sa sw sE sd sk => ?_
                    have h1 : sa.eval (.tmp 1) = .slice (A1) (32) (c1) := sk.old 1 rfl
                    exact Runs.move rfl h1 ⟨Ext.refl _, rfl⟩
                  · refine stepY (j := 11) (d := 94) (b := false) rfl rfl rfl (fun v w h => h) fun sdn sa sw sE sd sk => ?_
                    have h10 : sa.eval (.tmp 10) = .int .i64 (((5 * q : Nat) : Int)) := sk.old 10 rfl
                    exact Runs.move rfl h10 ⟨Ext.refl _, rfl⟩
                  · refine stepY (j := 11) (d := 94) (b := false) rfl rfl rfl (fun v w h => h) fun sdn sa sw sE sd sk => ?_
                    have h11 : sa.eval (.tmp 11) = .int .i64 (((s : Nat) : Int)) := sk.old 11 rfl
                    exact Runs.move rfl h11 ⟨Ext.refl _, rfl⟩
                  · refine stepY (j := 11) (d := 94) (b := false) rfl rfl rfl (fun v w h => h) fun sdn sa sw sE sd sk => ?_
                    have h100 : sa.eval (.tmp 100) = .slice (A1) (32) (c1) := sk.fact 17 100 rfl (sd 17 rfl)
                    have h101 : sa.eval (.tmp 101) = .int .i64 (((5 * q : Nat) : Int)) := sk.fact 18 101 rfl (sd 18 rfl)
                    have h102 : sa.eval (.tmp 102) = .int .i64 (((s : Nat) : Int)) := sk.fact 19 102 rfl (sd 19 rfl)
                    refine Runs.call (f := 37) (vs := [.slice (A1) (32) (c1), .int .i64 ((2 : Int)), .int .i64 (((5 * q : Nat) : Int)), .int .i64 (((s : Nat) : Int))]) rfl rfl rfl (by simp only [List.map_toArray, List.map_cons, List.map_nil, h100, h101, h102] <;> rfl) (ent37 _ _) ((r4shown_any _ _ _ _ ((2 : Int)) (((5 * q : Nat) : Int)) (((s : Nat) : Int)) sw (rSq.ext sE) (by omega)).mono ?_); rintro e w' ⟨A', c', rfl, own, hx⟩; exact ⟨_, rfl, hx, A', 32, c', rfl, own.rb⟩
                  · refine stepY (j := 11) (d := 94) (b := false) rfl rfl rfl (fun v w h => h) fun sdn sa sw sE sd sk => ?_
                    obtain ⟨A103, n103, c103, h103, r103⟩ := sk.fact 20 103 rfl (sd 20 rfl)
                    exact Runs.conv rfl h103 (run_str r103) ⟨Ext.refl _, rfl⟩
                  · refine stepY (j := 11) (d := 94) (b := false) rfl rfl rfl (fun v w h => h) fun sdn sa sw sE sd sk => ?_
                    have h99 : sa.eval (.tmp 99) = .string (str (shownL S ((2 : Int)) (((5 * q : Nat) : Int)) (((s : Nat) : Int)))) := sk.fact 16 99 rfl (sd 16 rfl)
                    have h104 : sa.eval (.tmp 104) = .string (str (shownL S ((2 : Int)) (((5 * q : Nat) : Int)) (((s : Nat) : Int)))) := sk.fact 21 104 rfl (sd 21 rfl)
                    exact Runs.bin rfl h99 h104 (by rfl) (bin_nes _ _ _) ⟨Ext.refl _, congrArg Value.bool (by simp)⟩
                  · refine stepE rfl fun sdn sa sw sE sd sk => ?_
                    have h94 : sa.eval (.tmp 94) = .bool (false) := sk.fact 11 94 rfl (sd 11 rfl)
                    have h105 : sa.eval (.tmp 105) = .bool (false) := sk.fact 22 105 rfl (sd 22 rfl)
                    exact Runs.pick rfl h94 ⟨Ext.refl _, by first | exact h105 | simpa using h105⟩
                  intro vals W8 hE23 hv23
                  have e0 : vals 0 = .slice (A1) (32) (c1) := hv23 0 (by omega) 83 rfl
                  have e1 : vals 1 = .int .i64 (((5 * q : Nat) : Int)) := hv23 1 (by omega) 84 rfl
                  have e2 : vals 2 = .int .i64 (((s : Nat) : Int)) := hv23 2 (by omega) 85 rfl
                  obtain ⟨A86, n86, c86, e3, r86⟩ := hv23 3 (by omega) 86 rfl
                  have e4 : vals 4 = .string (str (secretL S ((2 : Int)) (((5 * q : Nat) : Int)) (((s : Nat) : Int)))) := hv23 4 (by omega) 87 rfl
                  have e5 : vals 5 = .slice (A1) (32) (c1) := hv23 5 (by omega) 88 rfl
                  have e6 : vals 6 = .int .i64 (((5 * q : Nat) : Int)) := hv23 6 (by omega) 89 rfl
                  have e7 : vals 7 = .int .i64 (((s : Nat) : Int)) := hv23 7 (by omega) 90 rfl
                  obtain ⟨A91, n91, c91, e8, r91⟩ := hv23 8 (by omega) 91 rfl
                  have e9 : vals 9 = .string (str (secretL S ((2 : Int)) (((5 * q : Nat) : Int)) (((s : Nat) : Int)))) := hv23 9 (by omega) 92 rfl
                  have e10 : vals 10 = .bool (false) := hv23 10 (by omega) 93 rfl
                  have e11 : vals 11 = .bool (false) := hv23 11 (by omega) 94 rfl
                  have e12 : vals 12 = .slice (A1) (32) (c1) := hv23 12 (by omega) 95 rfl
                  have e13 : vals 13 = .int .i64 (((5 * q : Nat) : Int)) := hv23 13 (by omega) 96 rfl
                  have e14 : vals 14 = .int .i64 (((s : Nat) : Int)) := hv23 14 (by omega) 97 rfl
                  obtain ⟨A98, n98, c98, e15, r98⟩ := hv23 15 (by omega) 98 rfl
                  have e16 : vals 16 = .string (str (shownL S ((2 : Int)) (((5 * q : Nat) : Int)) (((s : Nat) : Int)))) := hv23 16 (by omega) 99 rfl
                  have e17 : vals 17 = .slice (A1) (32) (c1) := hv23 17 (by omega) 100 rfl
                  have e18 : vals 18 = .int .i64 (((5 * q : Nat) : Int)) := hv23 18 (by omega) 101 rfl
                  have e19 : vals 19 = .int .i64 (((s : Nat) : Int)) := hv23 19 (by omega) 102 rfl
                  obtain ⟨A103, n103, c103, e20, r103⟩ := hv23 20 (by omega) 103 rfl
                  have e21 : vals 21 = .string (str (shownL S ((2 : Int)) (((5 * q : Nat) : Int)) (((s : Nat) : Int)))) := hv23 21 (by omega) 104 rfl
                  have e22 : vals 22 = .bool (false) := hv23 22 (by omega) 105 rfl
                  have e23 : vals 23 = .bool (false) := hv23 23 (by omega) 106 rfl
                  simp only [putAll, Act.put, List.take_succ_cons, List.take_zero, List.drop_succ_cons, List.drop_zero, List.drop_nil, List.take_nil, Nat.reduceAdd, List.setIfInBounds_toArray, List.set_cons_succ, List.set_cons_zero, e0, e1, e2, e3, e4, e5, e6, e7, e8, e9, e10, e11, e12, e13, e14, e15, e16, e17, e18, e19, e20, e21, e22, e23]
                  clear hv23 e0 e1 e2 e3 e4 e5 e6 e7 e8 e9 e10 e11 e12 e13 e14 e15 e16 e17 e18 e19 e20 e21 e22 e23
                  go_wp2_with fail
                  go_roundw
                  case rel => exact ⟨s + 1, by omega, by go_num, hEs.trans hE23⟩
                  case measure => simp [intOf]; omega
                · obtain rfl : s = 2 := by omega
                  go_wp2_with fail
                  go_roundw
                  case rel => exact ⟨q + 1, by omega, by go_num, hEq.trans hEs⟩
                  case measure => simp [intOf]; omega
            · obtain rfl : q = 7 := by omega
              go_wp2_with fail
              go_roundw
              case rel => exact ⟨j + 1, by omega, by go_num, hEo.trans hEq⟩
              case measure => simp [intOf]; omega
    · obtain rfl : j = 3 := by omega
      have hEf := hE2.trans hEj
      clear hE2 hEj hBn rS2
      go_upto_region 26 with (fail)
      refine par_ext (n := 11) (by kernel_rfl) [.is (.slice (A1) (32) (c1)), .rb (publicL S 15), .is (.string (str (publicL S 15))), .is (.slice (A1) (32) (c1)), .rb (publicL S 15), .is (.string (str (publicL S 15))), .is (.bool (true)), .is (.bool (true)), .is (.bool (true)), .is (.bool (true)), .is (.bool (true))] rfl ⟨?_, ?_, ?_, ?_, ?_, ?_, ?_, ?_, ?_, ?_, ?_, trivial⟩ ?_
      · refine stepE rfl fun sdn sa sw sE sd sk => ?_
        have h1 : sa.eval (.tmp 1) = .slice (A1) (32) (c1) := sk.old 1 rfl
        exact Runs.move rfl h1 ⟨Ext.refl _, rfl⟩
      · refine stepE rfl fun sdn sa sw sE sd sk => ?_
        have h108 : sa.eval (.tmp 108) = .slice (A1) (32) (c1) := sk.fact 0 108 rfl (sd 0 rfl)
        refine Runs.call (f := 38) (vs := [.slice (A1) (32) (c1), .int .i64 ((15 : Int))]) rfl rfl rfl (by simp only [List.map_toArray, List.map_cons, List.map_nil, h108] <;> rfl) (ent38 _ _) ((public_any _ _ _ _ 15 sw (rS.ext sE) (by omega)).mono ?_); rintro e w' ⟨A', c', rfl, own, hx⟩; exact ⟨_, rfl, hx, A', 32, c', rfl, own.rb⟩
      · refine stepE rfl fun sdn sa sw sE sd sk => ?_
        obtain ⟨A109, n109, c109, h109, r109⟩ := sk.fact 1 109 rfl (sd 1 rfl)
        exact Runs.conv rfl h109 (run_str r109) ⟨Ext.refl _, rfl⟩
      · refine stepE rfl fun sdn sa sw sE sd sk => ?_
        have h1 : sa.eval (.tmp 1) = .slice (A1) (32) (c1) := sk.old 1 rfl
        exact Runs.move rfl h1 ⟨Ext.refl _, rfl⟩
      · refine stepE rfl fun sdn sa sw sE sd sk => ?_
        have h111 : sa.eval (.tmp 111) = .slice (A1) (32) (c1) := sk.fact 3 111 rfl (sd 3 rfl)
        refine Runs.call (f := 39) (vs := [.slice (A1) (32) (c1), .int .i64 ((15 : Int))]) rfl rfl rfl (by simp only [List.map_toArray, List.map_cons, List.map_nil, h111] <;> rfl) (ent39 _ _) ((r4public_any _ _ _ _ 15 sw (rS.ext sE) (by omega)).mono ?_); rintro e w' ⟨A', c', rfl, own, hx⟩; exact ⟨_, rfl, hx, A', 32, c', rfl, own.rb⟩
      · refine stepE rfl fun sdn sa sw sE sd sk => ?_
        obtain ⟨A112, n112, c112, h112, r112⟩ := sk.fact 4 112 rfl (sd 4 rfl)
        exact Runs.conv rfl h112 (run_str r112) ⟨Ext.refl _, rfl⟩
      · refine stepE rfl fun sdn sa sw sE sd sk => ?_
        have h110 : sa.eval (.tmp 110) = .string (str (publicL S 15)) := sk.fact 2 110 rfl (sd 2 rfl)
        have h113 : sa.eval (.tmp 113) = .string (str (publicL S 15)) := sk.fact 5 113 rfl (sd 5 rfl)
        exact Runs.bin rfl h110 h113 (by rfl) (bin_eqs _ _ _) ⟨Ext.refl _, congrArg Value.bool (by simp)⟩
      · refine stepE rfl fun sdn sa sw sE sd sk => ?_
        have h114 : sa.eval (.tmp 114) = .bool (true) := sk.fact 6 114 rfl (sd 6 rfl)
        exact Runs.move rfl h114 ⟨Ext.refl _, rfl⟩
      · refine stepY (j := 7) (d := 115) (b := true) rfl rfl rfl (fun v w h => h) fun sdn sa sw sE sd sk => ?_
        refine Runs.call (f := 40) (vs := []) rfl rfl rfl (by simp only [List.map_toArray, List.map_cons, List.map_nil] <;> rfl) (ent40 _ _) ((known4_any sw).mono ?_); rintro e w' ⟨rfl, hx⟩; exact ⟨_, rfl, hx, rfl⟩
      · refine stepE rfl fun sdn sa sw sE sd sk => ?_
        have h115 : sa.eval (.tmp 115) = .bool (true) := sk.fact 7 115 rfl (sd 7 rfl)
        have h116 : sa.eval (.tmp 116) = .bool (true) := sk.fact 8 116 rfl (sd 8 rfl)
        exact Runs.pick rfl h115 ⟨Ext.refl _, by first | exact h116 | simpa using h116⟩
      · refine stepE rfl fun sdn sa sw sE sd sk => ?_
        have h117 : sa.eval (.tmp 117) = .bool (true) := sk.fact 9 117 rfl (sd 9 rfl)
        exact Runs.assign rfl h117 ⟨Ext.refl _, rfl⟩
      intro vals W9 hE26 hv26
      have e0 : vals 0 = .slice (A1) (32) (c1) := hv26 0 (by omega) 108 rfl
      obtain ⟨A109, n109, c109, e1, r109⟩ := hv26 1 (by omega) 109 rfl
      have e2 : vals 2 = .string (str (publicL S 15)) := hv26 2 (by omega) 110 rfl
      have e3 : vals 3 = .slice (A1) (32) (c1) := hv26 3 (by omega) 111 rfl
      obtain ⟨A112, n112, c112, e4, r112⟩ := hv26 4 (by omega) 112 rfl
      have e5 : vals 5 = .string (str (publicL S 15)) := hv26 5 (by omega) 113 rfl
      have e6 : vals 6 = .bool (true) := hv26 6 (by omega) 114 rfl
      have e7 : vals 7 = .bool (true) := hv26 7 (by omega) 115 rfl
      have e8 : vals 8 = .bool (true) := hv26 8 (by omega) 116 rfl
      have e9 : vals 9 = .bool (true) := hv26 9 (by omega) 117 rfl
      have e10 : vals 10 = .bool (true) := hv26 10 (by omega) 0 rfl
      simp only [putAll, Act.put, List.take_succ_cons, List.take_zero, List.drop_succ_cons, List.drop_zero, List.drop_nil, List.take_nil, Nat.reduceAdd, List.setIfInBounds_toArray, List.set_cons_succ, List.set_cons_zero, e0, e1, e2, e3, e4, e5, e6, e7, e8, e9, e10]
      clear hv26 e0 e1 e2 e3 e4 e5 e6 e7 e8 e9 e10
      go_wp2_with fail
      go_ret
      exact ⟨rfl, hEf.trans hE26⟩
end Go.Proofs.Ytmgnigofilkfmaa

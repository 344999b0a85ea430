/-
  law9.ManifestCuts, walked.
-/
import Derived.Test.YtmgnigofilkfmabOwn
import Derived.Test.YtmgnigofilkfmabSame9
namespace Go.Proofs.Ytmgnigofilkfmab
set_option maxRecDepth 100000
open Go Go.RowKit
def zeroM : Array Value := #[.string ⟨#[]⟩, .int .u32 0, .slice none 0 0, .slice none 0 0]
theorem zero_same (w : World) : Calls Try.prog 19 #[.agg #[.string ⟨#[]⟩, .int .u32 0, .slice none 0 0, .slice none 0 0], .agg #[.string ⟨#[]⟩, .int .u32 0, .slice none 0 0, .slice none 0 0]] w fun e w' => e = .returned (.bool true) ∧ Ext w w' :=
  rsame_any ⟨[], 0, [], []⟩ ⟨[], 0, [], []⟩ none none none none 0 0 0 0 0 0 0 0 w (RB.nil_ _) (RB.nil_ _) (RB.nil_ _) (RB.nil_ _)
set_option maxHeartbeats 4000000 in
theorem cuts_any (a v f cut : Int) (A : Option Addr) (n c : Nat) (L : List UInt8) (w : World) (hr : RB w A n c L)
    (ha0 : -9223372036854775808 ≤ a) (ha1 : a ≤ 9223372036854775807) (hv0 : -9223372036854775808 ≤ v) (hv1 : v ≤ 9223372036854775807) (hf0 : -9223372036854775808 ≤ f) (hf1 : f ≤ 9223372036854775807) (hc0 : -9223372036854775808 ≤ cut) (hc1 : cut ≤ 9223372036854775807) :
    Calls Try.prog 3 #[.int .i64 a, .int .i64 v, .int .i64 f, .int .i64 cut, .slice A n c] w fun e w' => e = .returned (.bool true) ∧ Ext w w' := by
  have hi := item_any a v f w ha0 ha1 hv0 hv1 hf0 hf1
  have hm := kman_right a v f
  generalize kman a v f = m at hi hm
  have Hm := Lib.hid hm
  have hlm : 42 ≤ (encM m).length ∧ (encM m).length ≤ 200 := by
    obtain ⟨⟨h1, h2, h3⟩, h4, h5, h6⟩ := right_is hm
    rw [enc_length]
    omega
  clear hm ha0 ha1 hv0 hv1 hf0 hf1
  go_enter Try.func3, Try.ntmps3
  go_wp2_with fail
  refine hi.mono ?_
  rintro e w1 ⟨B, k, d, rfl, own1, hE1⟩
  have hlk := own1.len
  have hk1 : 42 ≤ k ∧ k ≤ 200 := by omega
  have Hlk := Lib.hid hlk
  clear hlk hlm hi
  obtain ⟨j, hj⟩ : ∃ j : Nat, within cut 0 ((k : Int) - 1) = j := ⟨_, (Int.toNat_of_nonneg (within_in cut 0 ((k : Int) - 1) (by omega)).1).symm⟩
  have hjk : j < k := by
    have := (within_in cut 0 ((k : Int) - 1) (by omega)).2
    omega
  go_wp2_with fail
  have hw := within_any cut 0 ((k : Int) - 1) w1 hc0 hc1 (by omega) (by omega) (by omega)
  rw [hj] at hw
  refine hw.mono ?_
  rintro e w1' ⟨rfl, rfl⟩
  have hroom := own1.rb.room
  clear hw hc0 hc1
  have Hj := Lib.hid hj
  clear hj
  go_wp2_with fail
  refine (mdec_any B j d _ w1 (own1.rb.take (by omega)) (by omega)).mono ?_
  rintro e w2 ⟨_, h2, hE2⟩
  obtain rfl := h2 (dec_cut Hm.out (by have := Hlk.out; omega))
  clear h2
  go_upto_region 4 with (fail)
  obtain ⟨w3, hw3⟩ : ∃ w3, w3 = w2.alloc (.cells #[.string ⟨#[]⟩, .int .u32 0, .slice none 0 0, .slice none 0 0] 27) := ⟨_, rfl⟩
  have hB3 : Blk w3 w2.heap.size 27 #[.string ⟨#[]⟩, .int .u32 0, .slice none 0 0, .slice none 0 0] := by rw [hw3]; exact Blk.new w2 _ _
  have hE3 : Ext w2 w3 := by rw [hw3]; exact Ext.new w2 _
  rw [← hw3]
  clear hw3
  have hE13 := (hE2.trans hE3)
  have rb3 := own1.rb.ext hE13
  have hrr := hr.ext (hE1.trans hE13)
  have o36 : OB (w3.alloc (.cells #[] 5)) w3.heap.size (some ⟨w3.heap.size, 0, none⟩) 0 0 [] := OB.lit w3 [] rfl (small_maxLen (by simp))
  have e36 := Ext.new w3 (.cells #[] 5)
  go_wp2_with (refine app_to (N := k) (LM := encM m) rfl rfl rfl rfl o36 (rb3.ext e36) (by omega) rfl (by omega) e36.size ?_; intro A38 c38 W38 own38 g38 h38 s38)
  have e38 : Ext w3 W38 := o36.step e36 g38
  have e39 := Ext.new W38 (.cells #[.int .u8 1] 5)
  have o39 : OB (W38.alloc (.cells #[.int .u8 1] 5)) W38.heap.size (some ⟨W38.heap.size, 0, none⟩) 1 1 [1] := OB.lit W38 [1] rfl (small_maxLen (by simp))
  have hcut := cut_any A n c 20 L _ (hrr.ext (e38.trans e39)) (by omega)
  have e20 : ((20 : Nat) : Int) = 20 := rfl
  rw [e20] at hcut
  refine hcut.mono ?_
  rintro e W40 ⟨⟨rfl, rb40⟩, rfl⟩
  clear hcut e20 o36 g38 h38
  obtain ⟨n20, hn20⟩ : ∃ n20, n20 = min n 20 := ⟨_, rfl⟩
  have hn21 : n20 ≤ 20 := by omega
  rw [← hn20] at rb40 ⊢
  have Hn20 := Lib.hid hn20
  clear hn20
  go_wp2_with (first | (refine app_to (N := 1 + n20) (LM := [1] ++ L.take 20) rfl rfl rfl rfl o39 rb40 rfl rfl (by omega) e39.size ?_; intro A42 c42 W42 own42 g42 h42 s42; have own38' := (own38.ext e39).grown g42 (.inr (fun e => by have h := (own38.lt e).2; exact absurd rfl (Nat.ne_of_lt h))); have e42 : Ext w3 W42 := (e38.trans (o39.step e39 g42))) | (refine app_own (N := k + (1 + n20)) (LM := encM m ++ ([1] ++ L.take 20)) rfl rfl rfl rfl e42 own38' own42.rb rfl rfl (by omega) ?_; intro A43 c43 W43 own43 e43))
  refine (mdec_any A43 (k + (1 + n20)) c43 _ W43 own43.rb (by omega)).mono ?_
  rintro e W44 ⟨_, h2, hE44⟩
  obtain rfl := h2 (by rw [dec_app Hm.out]; rfl)
  have hE34 := e43.trans hE44
  clear h2 own43 own42 own38' own38 o39 rb40 g42 h42 s42 e42 e43 hE44 s38 e38 e39 e36
  go_upto_region 5 with (fail)
  obtain ⟨w5, hw5⟩ : ∃ w5, w5 = W44.alloc (.cells #[.string ⟨#[]⟩, .int .u32 0, .slice none 0 0, .slice none 0 0] 27) := ⟨_, rfl⟩
  have hB5 : Blk w5 W44.heap.size 27 #[.string ⟨#[]⟩, .int .u32 0, .slice none 0 0, .slice none 0 0] := by rw [hw5]; exact Blk.new W44 _ _
  have hE5 : Ext W44 w5 := by rw [hw5]; exact Ext.new W44 _
  rw [← hw5]
  clear hw5
  have hE35 := hE34.trans hE5
  have rb5 := rb3.ext hE35
  have hB3' := hB3.ext hE35
  have hE05 := (hE1.trans hE13).trans hE35
  clear hE34 hE5 hE35 rb3 hB3 hE13 hrr hE3 hE2
  go_wp2_with fail
  refine (mdec_any B k d _ w5 rb5 (by omega)).mono ?_
  rintro e W6 ⟨h1, _, hE6⟩
  obtain ⟨F2, nf2, cf2, N2, nn2, cn2, rfl, hF2, hN2⟩ := h1 (dec_enc Hm.out)
  unfold manV
  clear h1
  have hE06 := hE05.trans hE6
  have hB7 := hB3'.ext hE6
  have hB8 := hB5.ext hE6
  clear hB3' hB5 hE05 hE6
  go_upto_region 6 with (fail)
  generalize (readM (encM m)).man = m2
  obtain ⟨w7, hw7⟩ : ∃ w7, w7 = W6.alloc (.cells #[.string (str m2.name), .int .u32 (u32i m2.ver), .slice F2 nf2 cf2, .slice N2 nn2 cn2] 27) := ⟨_, rfl⟩
  have hE7 : Ext W6 w7 := by rw [hw7]; exact Ext.new W6 _
  rw [← hw7]
  clear hw7
  have hB9 := hB7.ext hE7
  have hB10 := hB8.ext hE7
  have y0 := hB9.cell (i := 0) rfl
  have y1 := hB9.cell (i := 1) rfl
  have y2 := hB9.cell (i := 2) rfl
  have y3 := hB9.cell (i := 3) rfl
  go_wp2_with fail
  refine (zero_same w7).mono ?_
  rintro e w8 ⟨rfl, hE8⟩
  clear y0 y1 y2 y3
  have hB11 := hB10.ext hE8
  have y0 := hB11.cell (i := 0) rfl
  have y1 := hB11.cell (i := 1) rfl
  have y2 := hB11.cell (i := 2) rfl
  have y3 := hB11.cell (i := 3) rfl
  go_wp2_with fail
  refine (zero_same w8).mono ?_
  rintro e w9 ⟨rfl, hE9⟩
  go_wp2_with fail
  refine (known9_any w9).mono ?_
  rintro e w10 ⟨rfl, hE10⟩
  go_wp2_with fail
  go_ret
  exact ⟨rfl, hE06.trans (hE7.trans (hE8.trans (hE9.trans hE10)))⟩
end Go.Proofs.Ytmgnigofilkfmab

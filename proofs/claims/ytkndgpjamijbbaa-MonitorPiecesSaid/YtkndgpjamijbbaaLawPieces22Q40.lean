/-
  MonitorPieces, walked.
-/
import Derived.Test.YtkndgpjamijbbaaLawPieces22Q38
import Derived.Test.YtkndgpjamijbbaaLawPieces22Q39
namespace Go.Proofs.Ytkndgpjamijbbaa
set_option maxRecDepth 100000
open Go Go.RowKit
/-- what is known ahead of each piece -/
def PcI (w : World) (base ga gb g1 bo n : Nat) (A3 : Option Addr) (c3 : Nat) (S : List UInt8) (m : Nat) (at_ i : Value) (wr : World) : Prop :=
  ∃ (p a : Nat) (U : Nat → Prop) (sa : MSt), p ≤ m ∧ i = .int .i64 p ∧ at_ = .int .i64 a ∧ a ≤ n ∧ TwoM wr base U ga sa gb (newM (ownP S)) ∧ sa.log = ownP S ∧ sa.its = its22 a 0 ∧ sa.al = [] ∧ Keep U (fun w => OwnR w bo g1 S) wr ∧ Keep U (fun w => RBB w A3 n c3 (its22 n 0)) wr ∧ Ext w wr
def RbI (w : World) (base ga gb n : Nat) (i : Value) (wr : World) : Prop :=
  ∃ (p : Nat) (U : Nat → Prop) (sa sb : MSt), p ≤ n ∧ i = .int .i64 p ∧ TwoM wr base U ga sa gb sb ∧ sa.its = its22 n 0 ∧ sb.its = its22 n 0 ∧ sa.al = sb.al ∧ sa.al.length ≤ p ∧ Ext w wr
theorem reb_al (s t : MSt) (i : Int) (F : List UInt8) (hi : s.its = t.its) (ha : s.al = t.al) : (rebS s i F).al = (rebS t i F).al ∧ (rebS s i F).its = s.its ∧ (rebS s i F).al.length ≤ s.al.length + 1 := by
  unfold rebS
  by_cases h : rebIn s.its i = true ∧ rebB s.its i F = false
  · rw [if_pos h, if_pos (by rw [← hi]; exact h)]
    exact ⟨by show s.al ++ _ = t.al ++ _; rw [ha], rfl, by show (s.al ++ _).length ≤ _; simp⟩
  · rw [if_neg h, if_neg (by rw [← hi]; exact h)]
    exact ⟨ha, rfl, by omega⟩
set_option maxHeartbeats 64000000 in
theorem pieces22_any (n0 : Int) (hn0 : inR n0) (A1 : Option Addr) (m c1 : Nat) (zs : List Int) (w : World) (rZ : RI w A1 m c1 zs) :
    Calls Try.prog 10 #[.int .i64 n0, .slice A1 m c1] w fun e w' => e = .returned (.bool true) ∧ Ext w w' := by
  obtain ⟨n, hn, hn1, hn24⟩ := within_nat2 n0 1 24 (by omega) (by omega)
  have hwn := fun w' => within_any n0 1 24 w' hn0.1 hn0.2 (by omega) (by omega) (by omega)
  rw [hn] at hwn
  have Hwn := Lib.hid hwn
  have hits := fun w => items22_any n 0 w (by omega) (by omega)
  rw [show ((0 : Nat) : Int) = 0 from rfl] at hits
  have Hits := Lib.hid hits
  have hroom := rZ.room
  have hcap := rZ.cap
  unfold maxLen at hcap
  clear hn hwn hits
  go_enter Try.func10, Try.ntmps10
  go_wp2_with fail
  refine (seed_any 0 w (by omega) (by omega)).mono ?_
  rintro e w1 ⟨A1', c1', rfl, own1, hEa⟩
  obtain ⟨S, hS⟩ : ∃ S, S = seedL 0 := ⟨_, rfl⟩
  rw [← hS] at own1
  clear hS
  have rS := own1.rb
  clear own1
  go_wp2_with fail
  refine (rnew_any A1' c1' S w1 rS).mono ?_
  rintro e w2 ⟨g1, rfl, o1, hE⟩
  replace hEa := hEa.trans hE
  clear hE rS
  go_wp2_with fail
  refine (rpublic_any g1 _ S w2 o1).mono ?_
  rintro e w3 ⟨A2, c2, rfl, rX, hE⟩
  replace o1 := o1.ext hE
  replace hEa := hEa.trans hE
  clear hE
  go_wp2_with fail
  refine (mnew_yes A2 c2 _ w3 rX).mono ?_
  rintro e w4 ⟨ga, φ, rfl, hM, hE⟩
  have hw3 : w.heap.size ≤ w3.heap.size := hEa.size
  have eO := hE
  have o14 := o1.ext hE
  replace hEa := hEa.trans hE
  clear hE rX
  go_wp2_with fail
  refine (rpublic_any g1 _ S w4 o14).mono ?_
  rintro e w5 ⟨A4, c4, rfl, rX, hE⟩
  replace o14 := o14.ext hE
  replace hM := hM.ext hE
  replace hEa := hEa.trans hE
  replace eO := eO.trans hE
  clear hE
  go_wp2_with fail
  refine (mnew_yes A4 c4 _ w5 rX).mono ?_
  rintro e w6 ⟨gb, φb, rfl, hMb, hE⟩
  obtain ⟨ρa, hDa⟩ := hM.toD
  obtain ⟨ρb, hDb⟩ := hMb.toD
  have hb5 : ∀ k, φb k → w5.heap.size ≤ k := fun k hk => (hMb.lt hk).1
  have hT : TwoM w6 w3.heap.size (fun k => φ k ∨ φb k) ga (newM (ownP S)) gb (newM (ownP S)) :=
    ⟨φ, ρa, φb, ρb, rfl, hDa.ext hE, hDb.lower (by have := eO.size; exact this), fun k ha hb => by
      have := (hM.lt ha).2
      have := hb5 k hb
      omega, fun k ha hb => by
      have := hDa.rlt ha
      have := hb5 k hb
      omega, fun k hb => (hDb.new_none hb).elim⟩
  have kO : Keep (fun k => φ k ∨ φb k) (fun w => OwnR w w1.heap.size g1 S) w6 := Keep.old (fun w' e => o1.ext e) (eO.trans hE) (fun k hk => (hT.lt hk).1)
  replace hEa := hEa.trans hE
  clear hE rX o14 hM hMb hDa hDb hb5 eO
  generalize (fun k => φ k ∨ φb k) = U at hT kO
  go_wp2_with fail
  refine (Hwn.out w6).mono ?_
  rintro e _ ⟨rfl, rfl⟩
  go_wp2_with fail
  refine (Hits.out w6).mono ?_
  rintro e w7 ⟨A3, c3, rfl, oA, hE⟩
  have kA : Keep U (fun w => RBB w A3 n c3 (its22 n 0)) w7 := oA.rbb.keepS (hT.nob.ext hE) (fun _ k hk hp => by have := (oA.lt hk).1; have := (hT.lt hp).2; omega)
  replace hT := hT.ext hE
  replace kO := kO.ext hE
  replace hEa := hEa.trans hE
  clear hE oA Hits Hwn o1
  go_wp2_with fail
  go_loopw [11, 12, 13] (fun at_ i _ wr => PcI w w3.heap.size ga gb g1 w1.heap.size n A3 c3 S m at_ i wr) (fun _ i _ _ => m - (intOf i).toNat)
  case atStart => exact ⟨0, 0, U, _, by omega, rfl, rfl, by omega, hT, rfl, rfl, rfl, kO, kA, hEa⟩
  case round =>
    obtain ⟨p, a, U, sa, hp, rfl, rfl, han, hT, hlog, hit, hal, kO, kA, hEa⟩ := hrel
    have rA := kA.self
    have hroomA := rA.room
    have hcapA := rA.cap
    unfold maxLen at hcapA
    have o1 := kO.self
    have hpm : decide ((p : Int) < (m : Int)) = decide (p < m) := by rw [decide_eq_decide]; omega
    by_cases hlt : p < m ∧ p < 8
    · have e1 : (p : Int) < (m : Int) := by omega
      have e2 : (p : Int) < 8 := by omega
      obtain ⟨ad, rfl, hc⟩ := rZ.cells (by omega)
      have hc0 := hc p hlt.1
      have hcell := hEa.cell hc0.1
      obtain ⟨z, hz, hz1, hz2⟩ := within_nat2 (zs.getD p 0) (a : Int) (n : Int) (by omega) (by omega)
      have hwz := within_any (zs.getD p 0) (a : Int) (n : Int) wr hc0.2.1 hc0.2.2 (by omega) (by omega) (by omega)
      rw [hz] at hwz
      have Hwz := Lib.hid hwz
      have hz1' : a ≤ z := by omega
      have hz2' : z ≤ n := by omega
      clear hc hc0 hwz hz hpm
      go_wp2_with fail
      refine Hwz.out.mono ?_
      rintro e _ ⟨rfl, rfl⟩
      clear hcell Hwz
      have rAz := rA.fst (k := z) hz2'
      rw [its22_take hz2'] at rAz
      obtain ⟨AD, hAD⟩ : ∃ AD, AD = (if c3 = a then A3 else A3.map (·.add (a * 1))) := ⟨_, rfl⟩
      have HAD := Lib.hid hAD
      have rAd := rAz.snd (k := a) hz1'
      rw [← hAD] at rAd
      have kAd : Keep U (fun w => RBB w AD (z - a) (c3 - a) ((its22 z 0).drop a)) wr := kA.imp (fun w' r => by
        have h := r.fst (k := z) hz2'
        rw [its22_take hz2'] at h
        rw [hAD]
        exact h.snd (k := a) hz1')
      clear hAD
      have hbU : ∀ q, U q → q < wr.heap.size := fun q hq => (hT.lt hq).2
      go_upto_region 12 with (fail)
      refine par_ext (n := 10) (by kernel_rfl) [.is (.pointer (some ⟨ga, 0, none⟩)), .is (.pointer (some ⟨g1, 0, none⟩)), .is (.slice (A3) (n) (c3)), .is (.int .i64 ((z : Int))), .is (.slice (A3) (z) (c3)), .sgd (wr.heap.size) S (rootL ((its22 z 0).map leafH)) z (z % 16), .is (.slice (A3) (n) (c3)), .is (.int .i64 ((a : Int))), .is (.int .i64 ((z : Int))), .is (.slice (AD) (z - a) (c3 - a))] rfl ⟨?_, ?_, ?_, ?_, ?_, ?_, ?_, ?_, ?_, ?_, trivial⟩ ?_
      · refine stepE rfl fun sdn sa sw sE sd sk => ?_
        have h6 : sa.eval (.tmp 6) = .pointer (some ⟨ga, 0, none⟩) := sk.old 6 rfl
        exact Runs.move rfl h6 ⟨Ext.refl _, rfl⟩
      · refine stepE rfl fun sdn sa sw sE sd sk => ?_
        have h5 : sa.eval (.tmp 5) = .pointer (some ⟨g1, 0, none⟩) := sk.old 5 rfl
        exact Runs.move rfl h5 ⟨Ext.refl _, rfl⟩
      · refine stepE rfl fun sdn sa sw sE sd sk => ?_
        have h10 : sa.eval (.tmp 10) = .slice (A3) (n) (c3) := sk.old 10 rfl
        exact Runs.move rfl h10 ⟨Ext.refl _, rfl⟩
      · refine stepE rfl fun sdn sa sw sE sd sk => ?_
        have h13 : sa.eval (.tmp 13) = .int .i64 ((z : Int)) := sk.old 13 rfl
        exact Runs.move rfl h13 ⟨Ext.refl _, rfl⟩
      · refine stepE rfl fun sdn sa sw sE sd sk => ?_
        have h67 : sa.eval (.tmp 67) = .slice (A3) (n) (c3) := sk.fact 2 67 rfl (sd 2 rfl)
        have h68 : sa.eval (.tmp 68) = .int .i64 ((z : Int)) := sk.fact 3 68 rfl (sd 3 rfl)
        exact Runs.slice rfl h67 (by simp only [Option.map_some, Option.map_none, h68]; exact run_cut_h Try.underlying23 infZZ_eq z (by first | rfl | omega) (by omega)) ⟨Ext.refl _, rfl⟩
      · refine stepE rfl fun sdn sa sw sE sd sk => ?_
        have h66 : sa.eval (.tmp 66) = .pointer (some ⟨g1, 0, none⟩) := sk.fact 1 66 rfl (sd 1 rfl)
        have h69 : sa.eval (.tmp 69) = .slice (A3) (z) (c3) := sk.fact 4 69 rfl (sd 4 rfl)
        refine Runs.call (f := 38) (vs := [.pointer (some ⟨g1, 0, none⟩), .slice (A3) (z) (c3)]) rfl rfl rfl (by simp only [List.map_toArray, List.map_cons, List.map_nil, h66, h69] <;> rfl) (ent38 _ _) ((signed22_any _ _ S _ _ _ _ sw (o1.ext sE) (rAz.ext sE) (by omega) its22_small).mono ?_); rintro e w' ⟨B', d', P', d1', Q', d2', rfl, h1, hx⟩; exact ⟨_, rfl, hx, B', d', P', d1', Q', d2', rfl, h1.base_ sE.size⟩
      · refine stepE rfl fun sdn sa sw sE sd sk => ?_
        have h10 : sa.eval (.tmp 10) = .slice (A3) (n) (c3) := sk.old 10 rfl
        exact Runs.move rfl h10 ⟨Ext.refl _, rfl⟩
      · refine stepE rfl fun sdn sa sw sE sd sk => ?_
        have h11 : sa.eval (.tmp 11) = .int .i64 ((a : Int)) := sk.old 11 rfl
        exact Runs.move rfl h11 ⟨Ext.refl _, rfl⟩
      · refine stepE rfl fun sdn sa sw sE sd sk => ?_
        have h13 : sa.eval (.tmp 13) = .int .i64 ((z : Int)) := sk.old 13 rfl
        exact Runs.move rfl h13 ⟨Ext.refl _, rfl⟩
      · refine stepE rfl fun sdn sa sw sE sd sk => ?_
        have h71 : sa.eval (.tmp 71) = .slice (A3) (n) (c3) := sk.fact 6 71 rfl (sd 6 rfl)
        have h72 : sa.eval (.tmp 72) = .int .i64 ((a : Int)) := sk.fact 7 72 rfl (sd 7 rfl)
        have h73 : sa.eval (.tmp 73) = .int .i64 ((z : Int)) := sk.fact 8 73 rfl (sd 8 rfl)
        exact Runs.slice rfl h71 (by simp only [Option.map_some, Option.map_none, h72, h73]; exact run_cut_lh Try.underlying23 infZZ_eq infZZ_size a z (by first | rfl | omega) (by first | rfl | omega) (by omega) (by omega)) ⟨Ext.refl _, congrArg (fun Z => Value.slice Z (z - a) (c3 - a)) HAD.out.symm⟩
      intro vals W12 hE12 hv12
      have e0 : vals 0 = .pointer (some ⟨ga, 0, none⟩) := hv12 0 (by omega) 65 rfl
      have e1 : vals 1 = .pointer (some ⟨g1, 0, none⟩) := hv12 1 (by omega) 66 rfl
      have e2 : vals 2 = .slice (A3) (n) (c3) := hv12 2 (by omega) 67 rfl
      have e3 : vals 3 = .int .i64 ((z : Int)) := hv12 3 (by omega) 68 rfl
      have e4 : vals 4 = .slice (A3) (z) (c3) := hv12 4 (by omega) 69 rfl
      obtain ⟨B70, d70, P70, c70, Q70, e70, e5, sg70⟩ := hv12 5 (by omega) 70 rfl
      have e6 : vals 6 = .slice (A3) (n) (c3) := hv12 6 (by omega) 71 rfl
      have e7 : vals 7 = .int .i64 ((a : Int)) := hv12 7 (by omega) 72 rfl
      have e8 : vals 8 = .int .i64 ((z : Int)) := hv12 8 (by omega) 73 rfl
      have e9 : vals 9 = .slice (AD) (z - a) (c3 - a) := hv12 9 (by omega) 74 rfl
      simp only [putAll, Act.put, List.take_succ_cons, List.take_zero, List.drop_succ_cons, List.drop_zero, List.drop_nil, List.take_nil, Nat.reduceAdd, List.setIfInBounds_toArray, List.set_cons_succ, List.set_cons_zero, e0, e1, e2, e3, e4, e5, e6, e7, e8, e9]
      clear hv12 e0 e1 e2 e3 e4 e5 e6 e7 e8 e9
      replace hT := hT.ext hE12
      replace kO := kO.ext hE12
      replace kA := kA.ext hE12
      replace kAd := kAd.ext hE12
      replace hEa := hEa.trans hE12
      clear hE12 rA rAz rAd o1
      obtain ⟨sa', hlog', hit', hal', hf⟩ := two_feed W12 _ ga gb U sa _ hT _ z a (z % 16) rfl B70 P70 Q70 _ d70 c70 e70 _ _ S sg70 hbU kAd hlog hit hz1' (by omega) hal
      have Hf := Lib.hid hf
      clear hf sg70 hbU kAd
      go_wp2_with fail
      refine Hf.out.mono ?_
      intro e w16 hp
      obtain ⟨U', rfl, hT', u9, h9, hEb⟩ := hp.go hT hEa hw3
      replace kO := kO.move u9 h9
      replace kA := kA.move u9 h9
      clear Hf hp u9 h9 hT hEa
      go_wp2_with fail
      go_roundw
      case rel => exact ⟨p + 1, z, U', sa', by omega, by go_num, rfl, hz2', hT', hlog', hit', hal', kO, kA, hEb⟩
      case measure => simp [intOf]; omega
    · have hend : ¬ ((p : Int) < (m : Int)) ∨ ((p : Int) < (m : Int)) ∧ ¬ ((p : Int) < 8) := by omega
      clear hpm
      obtain ⟨AD, hAD⟩ : ∃ AD, AD = (if c3 = a then A3 else A3.map (·.add (a * 1))) := ⟨_, rfl⟩
      have HAD := Lib.hid hAD
      have rAd := rA.snd (k := a) han
      rw [← hAD] at rAd
      have kAd : Keep U (fun w => RBB w AD (n - a) (c3 - a) ((its22 n 0).drop a)) wr := kA.imp (fun w' r => by
        rw [hAD]
        exact r.snd (k := a) han)
      clear hAD
      obtain ⟨q16, hq⟩ : ∃ q, q = n % 16 := ⟨_, rfl⟩
      have Hq := Lib.hid hq
      clear hq
      rcases hend with e1 | ⟨e1, e2⟩
      all_goals
        go_upto_region 15 with (fail)
        refine seg_start (by kernel_rfl) ?_
        have hEd : Ext wr wr.drew := (Ext.refl _).drew
        replace hT := hT.ext hEd
        replace kO := kO.ext hEd
        replace kA := kA.ext hEd
        replace rA := rA.ext hEd
        replace rAd := rAd.ext hEd
        replace kAd := kAd.ext hEd
        replace o1 := o1.ext hEd
        replace hEa := hEa.trans hEd
        clear hEd e1
        generalize wr.drew = W15 at *
        have hbU : ∀ q, U q → q < W15.heap.size := fun q hq => (hT.lt hq).2
        refine seg_ext (m := 0) (n := 7) (by kernel_rfl) [.is (.pointer (some ⟨ga, 0, none⟩)), .is (.pointer (some ⟨g1, 0, none⟩)), .is (.slice (A3) (n) (c3)), .sgd (W15.heap.size) S (rootL ((its22 n 0).map leafH)) n q16, .is (.slice (A3) (n) (c3)), .is (.int .i64 ((a : Int))), .is (.slice (AD) (n - a) (c3 - a))] rfl ?_ ⟨?_, ?_, ?_, ?_, ?_, ?_, ?_, trivial⟩ ?_
        · exact fun j d hd hj => absurd hj (Nat.not_lt_zero _)
        · refine stepE rfl fun sdn sa sw sE sd sk => ?_
          have h6 : sa.eval (.tmp 6) = .pointer (some ⟨ga, 0, none⟩) := sk.old 6 rfl
          exact Runs.move rfl h6 ⟨Ext.refl _, rfl⟩
        · refine stepE rfl fun sdn sa sw sE sd sk => ?_
          have h5 : sa.eval (.tmp 5) = .pointer (some ⟨g1, 0, none⟩) := sk.old 5 rfl
          exact Runs.move rfl h5 ⟨Ext.refl _, rfl⟩
        · refine stepE rfl fun sdn sa sw sE sd sk => ?_
          have h10 : sa.eval (.tmp 10) = .slice (A3) (n) (c3) := sk.old 10 rfl
          exact Runs.move rfl h10 ⟨Ext.refl _, rfl⟩
        · refine stepE rfl fun sdn sa sw sE sd sk => ?_
          have h79 : sa.eval (.tmp 79) = .pointer (some ⟨g1, 0, none⟩) := sk.fact 1 79 rfl (sd 1 rfl)
          have h80 : sa.eval (.tmp 80) = .slice (A3) (n) (c3) := sk.fact 2 80 rfl (sd 2 rfl)
          refine Runs.call (f := 38) (vs := [.pointer (some ⟨g1, 0, none⟩), .slice (A3) (n) (c3)]) rfl rfl rfl (by simp only [List.map_toArray, List.map_cons, List.map_nil, h79, h80] <;> rfl) (ent38 _ _) ((signed22_q q16 _ _ S _ _ _ _ Hq.out sw (o1.ext sE) (rA.ext sE) (by omega) its22_small).mono ?_); rintro e w' ⟨B', d', P', d1', Q', d2', rfl, h1, hx⟩; exact ⟨_, rfl, hx, B', d', P', d1', Q', d2', rfl, h1.base_ sE.size⟩
        · refine stepE rfl fun sdn sa sw sE sd sk => ?_
          have h10 : sa.eval (.tmp 10) = .slice (A3) (n) (c3) := sk.old 10 rfl
          exact Runs.move rfl h10 ⟨Ext.refl _, rfl⟩
        · refine stepE rfl fun sdn sa sw sE sd sk => ?_
          have h11 : sa.eval (.tmp 11) = .int .i64 ((a : Int)) := sk.old 11 rfl
          exact Runs.move rfl h11 ⟨Ext.refl _, rfl⟩
        · refine stepE rfl fun sdn sa sw sE sd sk => ?_
          have h82 : sa.eval (.tmp 82) = .slice (A3) (n) (c3) := sk.fact 4 82 rfl (sd 4 rfl)
          have h83 : sa.eval (.tmp 83) = .int .i64 ((a : Int)) := sk.fact 5 83 rfl (sd 5 rfl)
          exact Runs.slice rfl h82 (by simp only [Option.map_some, Option.map_none, h83]; exact run_cut_l Try.underlying23 infZZ_eq infZZ_size a (by first | rfl | omega) (by omega)) ⟨Ext.refl _, congrArg (fun Z => Value.slice Z (n - a) (c3 - a)) HAD.out.symm⟩
        intro vals W16 hE16 hv16
        have e0 : vals 0 = .pointer (some ⟨ga, 0, none⟩) := hv16 0 (by omega) 78 rfl
        have e1 : vals 1 = .pointer (some ⟨g1, 0, none⟩) := hv16 1 (by omega) 79 rfl
        have e2 : vals 2 = .slice (A3) (n) (c3) := hv16 2 (by omega) 80 rfl
        obtain ⟨B81, d81, P81, c81, Q81, e81, e3, sg81⟩ := hv16 3 (by omega) 81 rfl
        have e4 : vals 4 = .slice (A3) (n) (c3) := hv16 4 (by omega) 82 rfl
        have e5 : vals 5 = .int .i64 ((a : Int)) := hv16 5 (by omega) 83 rfl
        have e6 : vals 6 = .slice (AD) (n - a) (c3 - a) := hv16 6 (by omega) 84 rfl
        simp only [putAll, Act.put, List.take_succ_cons, List.take_zero, List.drop_succ_cons, List.drop_zero, List.drop_nil, List.take_nil, Nat.reduceAdd, List.setIfInBounds_toArray, List.set_cons_succ, List.set_cons_zero, e0, e1, e2, e3, e4, e5, e6]
        clear hv16 e0 e1 e2 e3 e4 e5 e6
        replace hT := hT.ext hE16
        replace kO := kO.ext hE16
        replace kA := kA.ext hE16
        replace kAd := kAd.ext hE16
        replace hEa := hEa.trans hE16
        clear hE16 rA rAd o1
        obtain ⟨sa', hlog', hit', hal', hf⟩ := two_feed W16 _ ga gb U sa _ hT _ n a q16 Hq.out B81 P81 Q81 _ d81 c81 e81 _ _ S sg81 hbU kAd hlog hit han (by omega) hal
        have Hf := Lib.hid hf
        clear hf
        refine seg_call (n := 7) (o := _) 85 (G := fun v w' => v = .int .i64 0 ∧ TwoP W16 w3.heap.size U ga sa' gb (newM (ownP S)) (.int .i64 0) (.returned v) w') (by kernel_rfl) rfl rfl rfl ?_ ?_
        · refine Runs.call (f := 37) (vs := [.pointer (some ⟨ga, 0, none⟩), .agg #[.int .i64 (n : Int), .slice B81 32 d81, .int .i64 (q16 : Int), .slice P81 64 c81, .slice Q81 4 e81], .slice AD (n - a) (c3 - a)]) rfl rfl rfl (by simp only [List.map_toArray, List.map_cons, List.map_nil] <;> rfl) (ent37 _ _) ?_
          exact Hf.out.mono fun e w' hp => ⟨_, hp.1, rfl, by rw [← hp.1]; exact hp⟩
        rintro v W17 ⟨rfl, hp⟩
        obtain ⟨U', -, hT', u9, h9, hEb⟩ := hp.go hT hEa hw3
        replace kO := kO.move u9 h9
        replace kA := kA.move u9 h9
        clear Hf hp u9 h9 hT hEa kAd hbU sg81
        simp only [Act.put, List.setIfInBounds_toArray, List.set_cons_succ, List.set_cons_zero]
        have rA := kA.self
        have o1 := kO.self
        have hbU : ∀ q, U' q → q < W17.heap.size := fun q hq => (hT'.lt hq).2
        refine seg_ext (m := 8) (n := 15) (by kernel_rfl) [.any, .any, .any, .any, .any, .any, .any, .any, .is (.bool (false)), .is (.bool (false)), .is (.pointer (some ⟨gb, 0, none⟩)), .is (.pointer (some ⟨g1, 0, none⟩)), .is (.slice (A3) (n) (c3)), .sgd (W17.heap.size) S (rootL ((its22 n 0).map leafH)) n q16, .is (.slice (A3) (n) (c3))] rfl ?_ ⟨?_, ?_, ?_, ?_, ?_, ?_, ?_, trivial⟩ ?_
        · intro j d hd hj
          rcases j with _ | _ | _ | _ | _ | _ | _ | _ | j
          · trivial
          · trivial
          · trivial
          · trivial
          · trivial
          · trivial
          · trivial
          · trivial
          · omega
        · refine stepE rfl fun sdn sa sw sE sd sk => ?_
          have h85 : sa.eval (.tmp 85) = .int .i64 ((0 : Int)) := sk.old 85 rfl
          exact Runs.bin rfl h85 rfl (by rfl) (bin_neq _ _ _ _) ⟨Ext.refl _, congrArg Value.bool (by decide)⟩
        · refine stepE rfl fun sdn sa sw sE sd sk => ?_
          have h86 : sa.eval (.tmp 86) = .bool (false) := sk.fact 8 86 rfl (sd 8 rfl)
          exact Runs.move rfl h86 ⟨Ext.refl _, rfl⟩
        · refine stepY (j := 9) (d := 87) (b := false) rfl rfl rfl (fun v w h => h) fun sdn sa sw sE sd sk => ?_
          have h8 : sa.eval (.tmp 8) = .pointer (some ⟨gb, 0, none⟩) := sk.old 8 rfl
          exact Runs.move rfl h8 ⟨Ext.refl _, rfl⟩
        · refine stepY (j := 9) (d := 87) (b := false) rfl rfl rfl (fun v w h => h) fun sdn sa sw sE sd sk => ?_
          have h5 : sa.eval (.tmp 5) = .pointer (some ⟨g1, 0, none⟩) := sk.old 5 rfl
          exact Runs.move rfl h5 ⟨Ext.refl _, rfl⟩
        · refine stepY (j := 9) (d := 87) (b := false) rfl rfl rfl (fun v w h => h) fun sdn sa sw sE sd sk => ?_
          have h10 : sa.eval (.tmp 10) = .slice (A3) (n) (c3) := sk.old 10 rfl
          exact Runs.move rfl h10 ⟨Ext.refl _, rfl⟩
        · refine stepY (j := 9) (d := 87) (b := false) rfl rfl rfl (fun v w h => h) fun sdn sa sw sE sd sk => ?_
          have h89 : sa.eval (.tmp 89) = .pointer (some ⟨g1, 0, none⟩) := sk.fact 11 89 rfl (sd 11 rfl)
          have h90 : sa.eval (.tmp 90) = .slice (A3) (n) (c3) := sk.fact 12 90 rfl (sd 12 rfl)
          refine Runs.call (f := 38) (vs := [.pointer (some ⟨g1, 0, none⟩), .slice (A3) (n) (c3)]) rfl rfl rfl (by simp only [List.map_toArray, List.map_cons, List.map_nil, h89, h90] <;> rfl) (ent38 _ _) ((signed22_q q16 _ _ S _ _ _ _ Hq.out sw (o1.ext sE) (rA.ext sE) (by omega) its22_small).mono ?_); rintro e w' ⟨B', d', P', d1', Q', d2', rfl, h1, hx⟩; exact ⟨_, rfl, hx, B', d', P', d1', Q', d2', rfl, h1.base_ sE.size⟩
        · refine stepY (j := 9) (d := 87) (b := false) rfl rfl rfl (fun v w h => h) fun sdn sa sw sE sd sk => ?_
          have h10 : sa.eval (.tmp 10) = .slice (A3) (n) (c3) := sk.old 10 rfl
          exact Runs.move rfl h10 ⟨Ext.refl _, rfl⟩
        intro vals W18 hE18 hv18
        have e8 : vals 8 = .bool (false) := hv18 8 (by omega) 86 rfl
        have e9 : vals 9 = .bool (false) := hv18 9 (by omega) 87 rfl
        have e10 : vals 10 = .pointer (some ⟨gb, 0, none⟩) := hv18 10 (by omega) 88 rfl
        have e11 : vals 11 = .pointer (some ⟨g1, 0, none⟩) := hv18 11 (by omega) 89 rfl
        have e12 : vals 12 = .slice (A3) (n) (c3) := hv18 12 (by omega) 90 rfl
        obtain ⟨B91, d91, P91, c91, Q91, e91, e13, sg91⟩ := hv18 13 (by omega) 91 rfl
        have e14 : vals 14 = .slice (A3) (n) (c3) := hv18 14 (by omega) 92 rfl
        simp only [putAll, Act.put, List.take_succ_cons, List.take_zero, List.drop_succ_cons, List.drop_zero, List.drop_nil, List.take_nil, Nat.reduceAdd, List.setIfInBounds_toArray, List.set_cons_succ, List.set_cons_zero, e8, e9, e10, e11, e12, e13, e14]
        clear hv18 e8 e9 e10 e11 e12 e13 e14
        replace hT' := hT'.ext hE18
        replace kO := kO.ext hE18
        replace kA := kA.ext hE18
        replace hEb := hEb.trans hE18
        clear hE18 rA o1
        obtain ⟨sb', hlogb, hitb, halb, hf⟩ := two_feed W18 _ gb ga U' (newM (ownP S)) sa' hT'.symm _ n 0 q16 Hq.out B91 P91 Q91 A3 d91 c91 e91 n c3 S sg91 hbU (by rw [List.drop_zero]; exact kA) rfl rfl (Nat.zero_le _) (by omega) rfl
        have Hf := Lib.hid hf
        clear hf
        refine seg_call (n := 15) (o := _) 93 (G := fun v w' => v = .int .i64 0 ∧ TwoP W18 w3.heap.size U' gb sb' ga sa' (.int .i64 0) (.returned v) w') (by kernel_rfl) rfl rfl (wanted_of (j := 9) (d := 87) rfl rfl rfl) ?_ ?_
        · refine Runs.call (f := 37) (vs := [.pointer (some ⟨gb, 0, none⟩), .agg #[.int .i64 (n : Int), .slice B91 32 d91, .int .i64 (q16 : Int), .slice P91 64 c91, .slice Q91 4 e91], .slice A3 n c3]) rfl rfl rfl (by simp only [List.map_toArray, List.map_cons, List.map_nil] <;> rfl) (ent37 _ _) ?_
          exact Hf.out.mono fun e w' hp => ⟨_, hp.1, rfl, by rw [← hp.1]; exact hp⟩
        rintro v W19 ⟨rfl, hp⟩
        obtain ⟨U2, -, hT2, u9, h9, hEc⟩ := hp.symm.go hT' hEb hw3
        clear Hf hp u9 h9 hT' hEb hbU sg91 kO kA
        simp only [Act.put, List.setIfInBounds_toArray, List.set_cons_succ, List.set_cons_zero]
        obtain ⟨φ1, hRa⟩ := hT2.a
        obtain ⟨φ2, hRb⟩ := hT2.symm.a
        have hlna : sa'.its.length = n := by rw [hit', its22_len]
        have hlnb : sb'.its.length = n := by rw [hitb, its22_len]
        have hala := hal'
        refine seg_ext (m := 16) (n := 35) (by kernel_rfl) [.any, .any, .any, .any, .any, .any, .any, .any, .any, .is (.bool (false)), .any, .any, .any, .any, .any, .any, .is (.bool (false)), .is (.bool (false)), .is (.bool (false)), .is (.pointer (some ⟨ga, 0, none⟩)), .is (.int .i64 ((n : Int))), .is (.pointer (some ⟨gb, 0, none⟩)), .is (.int .i64 ((n : Int))), .is (.bool (false)), .is (.bool (false)), .is (.bool (false)), .is (.pointer (some ⟨ga, 0, none⟩)), .rk (0) ([]), .is (.int .i64 ((0 : Nat))), .is (.pointer (some ⟨gb, 0, none⟩)), .rk (0) ([]), .is (.int .i64 ((0 : Nat))), .is (.int .i64 ((0 : Nat) + (0 : Nat))), .is (.bool (false)), .is (.bool (false))] rfl ?_ ⟨?_, ?_, ?_, ?_, ?_, ?_, ?_, ?_, ?_, ?_, ?_, ?_, ?_, ?_, ?_, ?_, ?_, ?_, ?_, trivial⟩ ?_
        · intro j d hd hj
          rcases j with _ | _ | _ | _ | _ | _ | _ | _ | _ | _ | _ | _ | _ | _ | _ | _ | j
          · trivial
          · trivial
          · trivial
          · trivial
          · trivial
          · trivial
          · trivial
          · trivial
          · trivial
          · cases hd; rfl
          · trivial
          · trivial
          · trivial
          · trivial
          · trivial
          · trivial
          · omega
        · refine stepY (j := 9) (d := 87) (b := false) rfl rfl rfl (fun v w h => h) fun sdn sa sw sE sd sk => ?_
          have h93 : sa.eval (.tmp 93) = .int .i64 ((0 : Int)) := sk.old 93 rfl
          exact Runs.bin rfl h93 rfl (by rfl) (bin_neq _ _ _ _) ⟨Ext.refl _, congrArg Value.bool (by decide)⟩
        · refine stepE rfl fun sdn sa sw sE sd sk => ?_
          have h87 : sa.eval (.tmp 87) = .bool (false) := sk.old 87 rfl
          have h94 : sa.eval (.tmp 94) = .bool (false) := sk.fact 16 94 rfl (sd 16 rfl)
          exact Runs.pick rfl h87 ⟨Ext.refl _, by first | exact h94 | simpa using h94⟩
        · refine stepE rfl fun sdn sa sw sE sd sk => ?_
          have h95 : sa.eval (.tmp 95) = .bool (false) := sk.fact 17 95 rfl (sd 17 rfl)
          exact Runs.move rfl h95 ⟨Ext.refl _, rfl⟩
        · refine stepY (j := 18) (d := 96) (b := false) rfl rfl rfl (fun v w h => h) fun sdn sa sw sE sd sk => ?_
          have h6 : sa.eval (.tmp 6) = .pointer (some ⟨ga, 0, none⟩) := sk.old 6 rfl
          exact Runs.move rfl h6 ⟨Ext.refl _, rfl⟩
        · refine stepY (j := 18) (d := 96) (b := false) rfl rfl rfl (fun v w h => h) fun sdn sa sw sE sd sk => ?_
          have h97 : sa.eval (.tmp 97) = .pointer (some ⟨ga, 0, none⟩) := sk.fact 19 97 rfl (sd 19 rfl)
          refine Runs.call (f := 43) (vs := [.pointer (some ⟨ga, 0, none⟩)]) rfl rfl rfl (by simp only [List.map_toArray, List.map_cons, List.map_nil, h97] <;> rfl) (ent43 _ _) ((msize_k sw _ ga _ _ _ (hRa.ext sE) hlna).mono ?_); rintro e w' ⟨rfl, rfl⟩; exact ⟨_, rfl, Ext.refl _, rfl⟩
        · refine stepY (j := 18) (d := 96) (b := false) rfl rfl rfl (fun v w h => h) fun sdn sa sw sE sd sk => ?_
          have h8 : sa.eval (.tmp 8) = .pointer (some ⟨gb, 0, none⟩) := sk.old 8 rfl
          exact Runs.move rfl h8 ⟨Ext.refl _, rfl⟩
        · refine stepY (j := 18) (d := 96) (b := false) rfl rfl rfl (fun v w h => h) fun sdn sa sw sE sd sk => ?_
          have h99 : sa.eval (.tmp 99) = .pointer (some ⟨gb, 0, none⟩) := sk.fact 21 99 rfl (sd 21 rfl)
          refine Runs.call (f := 43) (vs := [.pointer (some ⟨gb, 0, none⟩)]) rfl rfl rfl (by simp only [List.map_toArray, List.map_cons, List.map_nil, h99] <;> rfl) (ent43 _ _) ((msize_k sw _ gb _ _ _ (hRb.ext sE) hlnb).mono ?_); rintro e w' ⟨rfl, rfl⟩; exact ⟨_, rfl, Ext.refl _, rfl⟩
        · refine stepY (j := 18) (d := 96) (b := false) rfl rfl rfl (fun v w h => h) fun sdn sa sw sE sd sk => ?_
          have h98 : sa.eval (.tmp 98) = .int .i64 ((n : Int)) := sk.fact 20 98 rfl (sd 20 rfl)
          have h100 : sa.eval (.tmp 100) = .int .i64 ((n : Int)) := sk.fact 22 100 rfl (sd 22 rfl)
          exact Runs.bin rfl h98 h100 (by rfl) (bin_neq _ _ _ _) ⟨Ext.refl _, congrArg Value.bool (by simp)⟩
        · refine stepE rfl fun sdn sa sw sE sd sk => ?_
          have h96 : sa.eval (.tmp 96) = .bool (false) := sk.fact 18 96 rfl (sd 18 rfl)
          have h101 : sa.eval (.tmp 101) = .bool (false) := sk.fact 23 101 rfl (sd 23 rfl)
          exact Runs.pick rfl h96 ⟨Ext.refl _, by first | exact h101 | simpa using h101⟩
        · refine stepE rfl fun sdn sa sw sE sd sk => ?_
          have h102 : sa.eval (.tmp 102) = .bool (false) := sk.fact 24 102 rfl (sd 24 rfl)
          exact Runs.move rfl h102 ⟨Ext.refl _, rfl⟩
        · refine stepY (j := 25) (d := 103) (b := false) rfl rfl rfl (fun v w h => h) fun sdn sa sw sE sd sk => ?_
          have h6 : sa.eval (.tmp 6) = .pointer (some ⟨ga, 0, none⟩) := sk.old 6 rfl
          exact Runs.move rfl h6 ⟨Ext.refl _, rfl⟩
        · refine stepY (j := 25) (d := 103) (b := false) rfl rfl rfl (fun v w h => h) fun sdn sa sw sE sd sk => ?_
          have h104 : sa.eval (.tmp 104) = .pointer (some ⟨ga, 0, none⟩) := sk.fact 26 104 rfl (sd 26 rfl)
          refine Runs.call (f := 41) (vs := [.pointer (some ⟨ga, 0, none⟩)]) rfl rfl rfl (by simp only [List.map_toArray, List.map_cons, List.map_nil, h104] <;> rfl) (ent41 _ _) ((malarms_0 sw _ ga _ _ (hRa.ext sE) hala).mono ?_); rintro e w' ⟨B', d', rfl, rB, hx⟩; exact ⟨_, rfl, hx, B', d', rfl, rB⟩
        · refine stepY (j := 25) (d := 103) (b := false) rfl rfl rfl (fun v w h => h) fun sdn sa sw sE sd sk => ?_
          obtain ⟨A105, c105, h105, r105⟩ := sk.fact 27 105 rfl (sd 27 rfl)
          exact Runs.len Try.underlying72 rfl h105 ⟨Ext.refl _, rfl⟩
        · refine stepY (j := 25) (d := 103) (b := false) rfl rfl rfl (fun v w h => h) fun sdn sa sw sE sd sk => ?_
          have h8 : sa.eval (.tmp 8) = .pointer (some ⟨gb, 0, none⟩) := sk.old 8 rfl
          exact Runs.move rfl h8 ⟨Ext.refl _, rfl⟩
        · refine stepY (j := 25) (d := 103) (b := false) rfl rfl rfl (fun v w h => h) fun sdn sa sw sE sd sk => ?_
          have h107 : sa.eval (.tmp 107) = .pointer (some ⟨gb, 0, none⟩) := sk.fact 29 107 rfl (sd 29 rfl)
          refine Runs.call (f := 41) (vs := [.pointer (some ⟨gb, 0, none⟩)]) rfl rfl rfl (by simp only [List.map_toArray, List.map_cons, List.map_nil, h107] <;> rfl) (ent41 _ _) ((malarms_0 sw _ gb _ _ (hRb.ext sE) halb).mono ?_); rintro e w' ⟨B', d', rfl, rB, hx⟩; exact ⟨_, rfl, hx, B', d', rfl, rB⟩
        · refine stepY (j := 25) (d := 103) (b := false) rfl rfl rfl (fun v w h => h) fun sdn sa sw sE sd sk => ?_
          obtain ⟨A108, c108, h108, r108⟩ := sk.fact 30 108 rfl (sd 30 rfl)
          exact Runs.len Try.underlying72 rfl h108 ⟨Ext.refl _, rfl⟩
        · refine stepY (j := 25) (d := 103) (b := false) rfl rfl rfl (fun v w h => h) fun sdn sa sw sE sd sk => ?_
          have h106 : sa.eval (.tmp 106) = .int .i64 ((0 : Nat)) := sk.fact 28 106 rfl (sd 28 rfl)
          have h109 : sa.eval (.tmp 109) = .int .i64 ((0 : Nat)) := sk.fact 31 109 rfl (sd 31 rfl)
          exact Runs.bin rfl h106 h109 (eqGuard_bin rfl) (bin_add64 _ _ _ (by omega) (by omega)) ⟨Ext.refl _, rfl⟩
        · refine stepY (j := 25) (d := 103) (b := false) rfl rfl rfl (fun v w h => h) fun sdn sa sw sE sd sk => ?_
          have h110 : sa.eval (.tmp 110) = .int .i64 ((0 : Nat) + (0 : Nat)) := sk.fact 32 110 rfl (sd 32 rfl)
          exact Runs.bin rfl h110 rfl (by rfl) (bin_neq _ _ _ _) ⟨Ext.refl _, congrArg Value.bool (by decide)⟩
        · refine stepE rfl fun sdn sa sw sE sd sk => ?_
          have h103 : sa.eval (.tmp 103) = .bool (false) := sk.fact 25 103 rfl (sd 25 rfl)
          have h111 : sa.eval (.tmp 111) = .bool (false) := sk.fact 33 111 rfl (sd 33 rfl)
          exact Runs.pick rfl h103 ⟨Ext.refl _, by first | exact h111 | simpa using h111⟩
        intro vals W20 hE20 hv20
        have e16 : vals 16 = .bool (false) := hv20 16 (by omega) 94 rfl
        have e17 : vals 17 = .bool (false) := hv20 17 (by omega) 95 rfl
        have e18 : vals 18 = .bool (false) := hv20 18 (by omega) 96 rfl
        have e19 : vals 19 = .pointer (some ⟨ga, 0, none⟩) := hv20 19 (by omega) 97 rfl
        have e20 : vals 20 = .int .i64 ((n : Int)) := hv20 20 (by omega) 98 rfl
        have e21 : vals 21 = .pointer (some ⟨gb, 0, none⟩) := hv20 21 (by omega) 99 rfl
        have e22 : vals 22 = .int .i64 ((n : Int)) := hv20 22 (by omega) 100 rfl
        have e23 : vals 23 = .bool (false) := hv20 23 (by omega) 101 rfl
        have e24 : vals 24 = .bool (false) := hv20 24 (by omega) 102 rfl
        have e25 : vals 25 = .bool (false) := hv20 25 (by omega) 103 rfl
        have e26 : vals 26 = .pointer (some ⟨ga, 0, none⟩) := hv20 26 (by omega) 104 rfl
        obtain ⟨A105, c105, e27, r105⟩ := hv20 27 (by omega) 105 rfl
        have e28 : vals 28 = .int .i64 ((0 : Nat)) := hv20 28 (by omega) 106 rfl
        have e29 : vals 29 = .pointer (some ⟨gb, 0, none⟩) := hv20 29 (by omega) 107 rfl
        obtain ⟨A108, c108, e30, r108⟩ := hv20 30 (by omega) 108 rfl
        have e31 : vals 31 = .int .i64 ((0 : Nat)) := hv20 31 (by omega) 109 rfl
        have e32 : vals 32 = .int .i64 ((0 : Nat) + (0 : Nat)) := hv20 32 (by omega) 110 rfl
        have e33 : vals 33 = .bool (false) := hv20 33 (by omega) 111 rfl
        have e34 : vals 34 = .bool (false) := hv20 34 (by omega) 112 rfl
        simp only [putAll, Act.put, List.take_succ_cons, List.take_zero, List.drop_succ_cons, List.drop_zero, List.drop_nil, List.take_nil, Nat.reduceAdd, List.setIfInBounds_toArray, List.set_cons_succ, List.set_cons_zero, e16, e17, e18, e19, e20, e21, e22, e23, e24, e25, e26, e27, e28, e29, e30, e31, e32, e33, e34]
        clear hv20 e16 e17 e18 e19 e20 e21 e22 e23 e24 e25 e26 e27 e28 e29 e30 e31 e32 e33 e34
        refine seg_end rfl ?_
        have e0 : ((0 : Nat) : Int) = 0 := rfl
        simp only [e0, Int.add_zero]
        clear e0
        replace hT2 := hT2.ext hE20
        replace hEc := hEc.trans hE20
        clear hE20 hRa hRb r105 r108
        go_wp2_with fail
        go_loopw [14, 15] (fun i _ wr => RbI w w3.heap.size ga gb n i wr) (fun i _ _ => n - (intOf i).toNat)
        case atStart => exact ⟨0, U2, sa', sb', by omega, rfl, hT2, hit', hitb, hal'.trans halb.symm, by rw [hal']; exact Nat.zero_le _, hEc⟩
        case round =>
          obtain ⟨p1, U3, ta, tb, hp1, rfl, hT3, hita0, hitb0, halab0, hall, hEd⟩ := hrel
          have Hita := Lib.hid hita0
          have Hitb := Lib.hid hitb0
          have Hal := Lib.hid halab0
          clear hita0 hitb0 halab0
          by_cases hlt1 : p1 < n
          · have e5 : (p1 : Int) < (n : Int) := by omega
            have hh := fun w' => hash_any 0 w' (by omega) (by omega)
            have Hh := Lib.hid hh
            clear hh
            go_wp2_with fail
            refine (Hh.out wr).mono ?_
            rintro e w21 ⟨D1, d1', rfl, own1, hE⟩
            replace hT3 := hT3.ext hE
            replace hEd := hEd.trans hE
            clear hE
            have hr := two_reb w21 _ ga gb U3 ta tb hT3 (p1 : Int) D1 32 d1' _ own1.rb (by rw [Hita.out]; exact its22_small) (by omega)
            have Hr := Lib.hid hr
            clear hr own1
            go_wp2_with fail
            refine Hr.out.mono ?_
            intro e w22 hp
            obtain ⟨U4, rfl, hT4, u9, h9, hEe⟩ := hp.go hT3 hEd hw3
            clear Hr hp u9 h9 hT3 hEd
            go_wp2_with fail
            refine (Hh.out w22).mono ?_
            rintro e w23 ⟨D2, d2', rfl, own2, hE⟩
            replace hT4 := hT4.ext hE
            replace hEe := hEe.trans hE
            clear hE
            have hr := two_reb w23 _ gb ga U4 tb _ hT4.symm (p1 : Int) D2 32 d2' _ own2.rb (by rw [Hitb.out]; exact its22_small) (by rw [← Hal.out]; omega)
            obtain ⟨v1, hv1⟩ : ∃ v1, v1 = rebB ta.its (p1 : Int) (khash 0) := ⟨_, rfl⟩
            have hv2 : rebB tb.its (p1 : Int) (khash 0) = v1 := by rw [hv1, Hita.out, Hitb.out]
            rw [hv2] at hr
            have Hr := Lib.hid hr
            clear hr own2 Hh
            rw [← hv1]
            obtain ⟨k1, k2, k3⟩ := reb_al ta tb (p1 : Int) (khash 0) (by rw [Hita.out, Hitb.out]) Hal.out
            have k4 := (reb_al tb ta (p1 : Int) (khash 0) (by rw [Hita.out, Hitb.out]) Hal.out.symm).2.1
            have K1 := Lib.hid k1
            have K2 := Lib.hid k2
            have K4 := Lib.hid k4
            clear hv1 hv2 k1 k2 k4
            go_wp2_with fail
            refine Hr.out.mono ?_
            intro e w24 hp
            obtain ⟨U5, rfl, hT5, u9, h9, hEf⟩ := hp.symm.go hT4 hEe hw3
            clear Hr hp u9 h9 hT4 hEe
            cases v1
            all_goals
              go_wp2_with fail
              go_roundw
              case rel => exact ⟨p1 + 1, U5, _, _, by omega, by go_num, hT5, K2.out.trans Hita.out, K4.out.trans Hitb.out, K1.out, by omega, hEf⟩
              case measure => simp [intOf]; omega
          · obtain rfl : n = p1 := by omega
            have e5 : ¬ ((n : Int) < (n : Int)) := by omega
            obtain ⟨φ1, hRa⟩ := hT3.a
            obtain ⟨φ2, hRb⟩ := hT3.symm.a
            have hl1 := malarms_any wr _ ga φ1 ta hRa (by omega)
            have Hl1 := Lib.hid hl1
            clear hl1
            go_wp2_with fail
            refine Hl1.out.mono ?_
            rintro e w25 ⟨D1, d1', rfl, own1, hE⟩
            have rd1 := own1.ral
            replace hRb := hRb.ext hE
            replace hEd := hEd.trans hE
            clear hE own1 Hl1
            have hl1 := malarms_any w25 _ gb φ2 tb hRb (by rw [← Hal.out]; omega)
            have Hl1 := Lib.hid hl1
            clear hl1
            go_wp2_with fail
            refine Hl1.out.mono ?_
            rintro e w26 ⟨D2, d2', rfl, own2, hE⟩
            have rd2 := own2.ral
            replace rd1 := rd1.ext hE
            replace hEd := hEd.trans hE
            clear hE own2 Hl1
            have hsm := samea_any _ _ _ _ _ _ _ _ w26 rd1 rd2
            rw [decide_eq_true Hal.out] at hsm
            have Hsm := Lib.hid hsm
            clear hsm
            go_wp2_with fail
            refine Hsm.out.mono ?_
            rintro e w27 ⟨rfl, hE⟩
            replace hEd := hEd.trans hE
            clear hE Hsm
            go_wp2_with fail
            refine (known22_any _).mono ?_
            rintro e w28 ⟨rfl, hE⟩
            go_wp2_with fail
            go_ret
            exact ⟨rfl, hEd.trans hE⟩
end Go.Proofs.Ytkndgpjamijbbaa

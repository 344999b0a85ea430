/-
  law22's play: the part that rebuilds.
-/
import Derived.Test.YtkndgpjamijbbaaGreatLawNumbers22Q36
import Derived.Deep.CutRange
namespace Go.Proofs.YtkndgpjamijbbaaGreat
set_option maxRecDepth 1000000
open Go Go.RowKit
noncomputable def plBc : Code := cAt [true, true, true, true, true, true, true, true, false, true, false, false, true, false, false, true, true, true, true, true, false, true, false, true, true, true, false] (Tryz.f6.body.getD .skip)
set_option maxHeartbeats 64000000 in
theorem plB_any (w0 : World) (base g g8 bo g1 m c1 p : Nat) (S : List UInt8) (ad : Addr) (qf qn : Int) (r3 : inR qf) (r4 : inR qn) (U : Nat → Prop) (s : MSt) (A6 : Option Addr) (c6 : Nat) (A7 : Option Addr) (c7 : Nat) (wr : World)
    (k3 : w0.cell? ((ad.add (p * 5)).add 2) = some (.int .i64 qf)) (k4 : w0.cell? ((ad.add (p * 5)).add 3) = some (.int .i64 qn)) (hpm : p < m) (hroom : m ≤ c1) (hcap : c1 ≤ 2 ^ 63 - 1) (hb0 : w0.heap.size ≤ base)
    (hP : Pl wr base U g g8 s s A6 c6 A7 c7) (hok : okS s) (hlog : s.log = ownP S) (hal : s.al.length ≤ p) (hp14 : p < 14) (hits : s.its.length ≤ 24) (hsm : ∀ a ∈ s.its, a.length ≤ 1000000) (kO : Keep U (fun w => OwnR w bo g1 S) wr) (hEa : Ext w0 wr)
    (z1 z2 z5 z11 z12 z13 z14 z15 z16 z17 z18 z19 z20 z21 z22 z23 z24 z25 z26 z27 z28 z29 z30 z31 z32 z33 z34 z35 z36 z37 z38 z39 z40 z41 z42 z43 z44 z45 z46 z47 z48 z49 z50 z51 z52 z53 z54 z55 z56 z57 z58 z59 z60 z61 z62 z63 z64 z65 z66 z67 z68 z69 z70 z71 z72 z73 z74 z75 z76 z77 z78 z79 z80 z81 z82 z83 z84 z85 z86 z87 z88 z89 z90 z91 z92 z93 z94 z95 z96 z97 z98 z99 z100 z101 z102 z103 z104 z105 z106 z107 z108 z109 z110 z111 z112 z113 z114 z115 z116 z117 z118 z119 z120 z121 z122 z123 z124 z125 z126 z127 z128 z129 z130 z131 z132 z133 z134 z135 z136 z137 z138 z139 z140 z141 z142 z143 z144 z145 z146 z147 z148 z149 z150 z151 z152 z153 z154 z155 z156 z157 z158 z159 z160 z161 z162 z163 z164 z165 z166 z167 z168 z169 z170 z171 z172 z173 z174 z175 z176 z177 z178 z179 z180 z181 z182 z183 z184 z185 z186 z187 z188 z189 z190 z191 z192 z193 z194 z195 z196 z197 z198 z199 z200 z201 z202 z203 z204 z205 z206 z207 z208 z209 z210 z211 z212 z213 z214 z215 z216 z217 z218 z219 z220 z221 z222 z223 z224 z225 z226 z227 z228 z229 z230 z231 z232 z233 z234 z235 z236 z237 z238 z239 z240 z241 z242 z243 z244 z245 z246 z247 z248 z249 z250 z251 z252 z253 z254 z255 z256 z257 z258 z259 z260 z261 z262 z263 z264 z265 z266 z267 z268 z269 z270 z271 z272 z273 z274 z275 z276 : Value) (Q : Exit → Act → World → Prop)
    (hQ : ∀ (x7 : Value) (v2 v19 v20 v21 v22 v23 v185 v186 v187 v188 v189 v190 v191 v192 v193 v194 v195 v196 v197 v198 v199 v200 v201 v202 v203 v204 v205 v206 v207 v208 v209 v210 v211 v212 v213 v214 v215 v216 v217 v218 v219 v220 v221 v222 v223 v224 v225 v226 v227 v228 v229 v230 v231 v232 v233 v234 v235 v236 v237 v238 : Value) (w' : World), PlB w0 base g g8 bo g1 S (p + 1) (.slice A6 s.its.length c6) x7 (.bool s.has) w' → Q .normal ⟨#[.slice (some ad) m c1, z1, v2, .pointer (some ⟨g1, 0, none⟩), .pointer (some ⟨g, 0, none⟩), z5, .slice A6 s.its.length c6, x7, .pointer (some ⟨g8, 0, none⟩), .bool s.has, .int .i64 (p : Int), z11, z12, z13, z14, z15, z16, z17, z18, v19, v20, v21, v22, v23, z24, z25, z26, z27, z28, z29, z30, z31, z32, z33, z34, z35, z36, z37, z38, z39, z40, z41, z42, z43, z44, z45, z46, z47, z48, z49, z50, z51, z52, z53, z54, z55, z56, z57, z58, z59, z60, z61, z62, z63, z64, z65, z66, z67, z68, z69, z70, z71, z72, z73, z74, z75, z76, z77, z78, z79, z80, z81, z82, z83, z84, z85, z86, z87, z88, z89, z90, z91, z92, z93, z94, z95, z96, z97, z98, z99, z100, z101, z102, z103, z104, z105, z106, z107, z108, z109, z110, z111, z112, z113, z114, z115, z116, z117, z118, z119, z120, z121, z122, z123, z124, z125, z126, z127, z128, z129, z130, z131, z132, z133, z134, z135, z136, z137, z138, z139, z140, z141, z142, z143, z144, z145, z146, z147, z148, z149, z150, z151, z152, z153, z154, z155, z156, z157, z158, z159, z160, z161, z162, z163, z164, z165, z166, z167, z168, z169, z170, z171, z172, z173, z174, z175, z176, z177, z178, z179, z180, z181, z182, z183, z184, v185, v186, v187, v188, v189, v190, v191, v192, v193, v194, v195, v196, v197, v198, v199, v200, v201, v202, v203, v204, v205, v206, v207, v208, v209, v210, v211, v212, v213, v214, v215, v216, v217, v218, v219, v220, v221, v222, v223, v224, v225, v226, v227, v228, v229, v230, v231, v232, v233, v234, v235, v236, v237, v238, z239, z240, z241, z242, z243, z244, z245, z246, z247, z248, z249, z250, z251, z252, z253, z254, z255, z256, z257, z258, z259, z260, z261, z262, z263, z264, z265, z266, z267, z268, z269, z270, z271, z272, z273, z274, z275, z276], []⟩ w') :
    plBc.wp Tryz.prog Q ⟨#[.slice (some ad) m c1, z1, z2, .pointer (some ⟨g1, 0, none⟩), .pointer (some ⟨g, 0, none⟩), z5, .slice A6 s.its.length c6, .slice A7 s.al.length c7, .pointer (some ⟨g8, 0, none⟩), .bool s.has, .int .i64 (p : Int), z11, z12, z13, z14, z15, z16, z17, z18, z19, z20, z21, z22, z23, z24, z25, z26, z27, z28, z29, z30, z31, z32, z33, z34, z35, z36, z37, z38, z39, z40, z41, z42, z43, z44, z45, z46, z47, z48, z49, z50, z51, z52, z53, z54, z55, z56, z57, z58, z59, z60, z61, z62, z63, z64, z65, z66, z67, z68, z69, z70, z71, z72, z73, z74, z75, z76, z77, z78, z79, z80, z81, z82, z83, z84, z85, z86, z87, z88, z89, z90, z91, z92, z93, z94, z95, z96, z97, z98, z99, z100, z101, z102, z103, z104, z105, z106, z107, z108, z109, z110, z111, z112, z113, z114, z115, z116, z117, z118, z119, z120, z121, z122, z123, z124, z125, z126, z127, z128, z129, z130, z131, z132, z133, z134, z135, z136, z137, z138, z139, z140, z141, z142, z143, z144, z145, z146, z147, z148, z149, z150, z151, z152, z153, z154, z155, z156, z157, z158, z159, z160, z161, z162, z163, z164, z165, z166, z167, z168, z169, z170, z171, z172, z173, z174, z175, z176, z177, z178, z179, z180, z181, z182, z183, z184, z185, z186, z187, z188, z189, z190, z191, z192, z193, z194, z195, z196, z197, z198, z199, z200, z201, z202, z203, z204, z205, z206, z207, z208, z209, z210, z211, z212, z213, z214, z215, z216, z217, z218, z219, z220, z221, z222, z223, z224, z225, z226, z227, z228, z229, z230, z231, z232, z233, z234, z235, z236, z237, z238, z239, z240, z241, z242, z243, z244, z245, z246, z247, z248, z249, z250, z251, z252, z253, z254, z255, z256, z257, z258, z259, z260, z261, z262, z263, z264, z265, z266, z267, z268, z269, z270, z271, z272, z273, z274, z275, z276], []⟩ wr := by
  conv => arg 2; whnf
  have e1 : (p : Int) < (m : Int) := by omega
  have y3 : wr.cell? ⟨(ad.add (p * 5)).block, (ad.add (p * 5)).off + 3, none⟩ = some (.int .i64 qn) := hEa.cell k4
  have hwb := within_in qn (-1) 26 (by omega)
  have hwn := within_negP qn (-1) 26 wr r4.1 r4.2 (by omega) (by omega) (by omega)
  obtain ⟨kk, hkk⟩ : ∃ kk, kk = within qn (-1) 26 := ⟨_, rfl⟩
  rw [← hkk] at hwb hwn
  have Hwn := Lib.hid hwn
  clear hwn hkk
  go_wp2_with fail
  refine Hwn.out.mono ?_
  rintro e _ ⟨rfl, rfl⟩
  clear Hwn y3
  have y2 : wr.cell? ⟨(ad.add (p * 5)).block, (ad.add (p * 5)).off + 2, none⟩ = some (.int .i64 qf) := hEa.cell k3
  have hqf : -4 < qf.tmod 4 ∧ qf.tmod 4 < 4 := by
    have h1 := Int.tmod_lt_of_pos qf (show (0 : Int) < 4 by decide)
    have h2 := Int.lt_tmod_of_pos qf (show (0 : Int) < 4 by decide)
    omega
  have hh := hash_any (qf.tmod 4) wr (by omega) (by omega)
  have Hh := Lib.hid hh
  clear hh
  go_wp2_with fail
  refine Hh.out.mono ?_
  rintro e w2 ⟨F1, f1, rfl, ownF, hE⟩
  obtain ⟨F, hF⟩ : ∃ F, F = khash (qf.tmod 4) := ⟨_, rfl⟩
  rw [← hF] at ownF
  have rF := ownF.rb
  replace hP := hP.ext hE
  replace kO := kO.ext hE
  replace hEa := hEa.trans hE
  clear hE Hh y2 ownF hF
  have kX : Keep U (fun w => OwnR w bo g1 S ∧ RB w F1 32 f1 F) w2 := fun w' u => ⟨kO w' u, (rF.keepS hP.nob) w' u⟩
  clear kO
  go_upto_region 49 with (fail)
  go_cut [205] from 185 to 238 (fun t w' => t = .bool (decide (0 ≤ kk ∧ kk < (s.its.length : Int))) ∧ w' = w2)
  case first =>
    by_cases h0 : 0 ≤ kk
    · by_cases h1 : kk < (s.its.length : Int)
      · go_wp2_with fail
        go_meet
        case rel => exact ⟨by simp [h0, h1], rfl⟩
      · have h1' : ¬ (kk < (s.its.length : Int)) := h1
        go_wp2_with fail
        go_meet
        case rel => exact ⟨by rw [decide_eq_false (fun h => by omega)], rfl⟩
    · go_wp2_with fail
      go_meet
      case rel => exact ⟨by rw [decide_eq_false (fun h => by omega)], rfl⟩
  case rest =>
  obtain ⟨rfl, rfl⟩ := hcut
  go_upto_if 205 with (fail)
  go_cut [7, 21] from 185 to 238 (fun t7 t21 w' => ∃ (U' : Nat → Prop) (A7' : Option Addr) (c7' : Nat), t7 = .slice A7' (rebS s kk F).al.length c7' ∧ t21 = .bool (rebB s.its kk F) ∧ Pl w' base U' g g8 s (rebS s kk F) A6 c6 A7' c7' ∧ Keep U' (fun w => OwnR w bo g1 S ∧ RB w F1 32 f1 F) w' ∧ Ext w0 w')
  case first =>
    by_cases hin : 0 ≤ kk ∧ kk < (s.its.length : Int)
    · rw [decide_eq_true hin]
      obtain ⟨k, rfl⟩ : ∃ k : Nat, kk = (k : Int) := ⟨kk.toNat, by omega⟩
      have hk : k < s.its.length := by omega
      have hk' : (k : Int) < (s.its.length : Int) := by omega
      have rH := hP.its.self
      have hroomH := rH.room
      have hcapH := rH.cap
      unfold maxLen at hcapH
      obtain ⟨hd, rfl, hc⟩ := rH.cells (by omega)
      obtain ⟨B, bm, bd, hv, rB⟩ := hc k hk
      have hm : bm ≤ 140737488355328 := by
        have h1 := rB.len
        have h2 := hsm _ (lb_mem hk)
        omega
      have hdec := r9dec_any B bm bd _ wc rB hm
      have Hd := Lib.hid hdec
      clear hdec hc rH hin
      go_wp2_with fail
      refine Hd.out.mono ?_
      cases hdo : decOK (lb s.its k) with
      | false =>
        have Hr := Lib.hid (reb_no (s := s) (F := F) (i := (k : Int)) (by unfold rebIn; rw [Int.toNat_natCast, hdo, Bool.and_false]))
        rintro e w3 ⟨-, h, hE⟩
        obtain rfl := h rfl
        clear h Hd hv
        replace hP := hP.ext hE
        replace kX := kX.ext hE
        replace hEa := hEa.trans hE
        have hEn := Ext.new w3 (.cells #[.string ⟨#[]⟩, .int .u32 0, .slice none 0 0, .slice none 0 0] 58)
        go_wp2_with fail
        go_meet
        case rel =>
          rw [Hr.out.1, Hr.out.2]
          exact ⟨U, A7, c7, rfl, rfl, hP.ext hEn, kX.ext hEn, hEa.trans hEn⟩
      | true =>
        have hrin : rebIn s.its (k : Int) = true := by unfold rebIn; rw [decide_eq_true (by omega), Int.toNat_natCast, hdo]; rfl
        rintro e w3 ⟨h, -, hE⟩
        obtain ⟨G1, nf, cf, N1, nn, cn, rfl, rG1, rN1⟩ := h rfl
        unfold manV
        clear h Hd hv
        replace hP := hP.ext hE
        replace kX := kX.ext hE
        replace hEa := hEa.trans hE
        have hEn := Ext.new w3 (.cells #[.string (str (readM (lb s.its k)).man.name), .int .u32 (u32i (readM (lb s.its k)).man.ver), .slice G1 nf cf, .slice N1 nn cn] 58)
        have cv1 := run_str (rG1.ext hEn)
        have cv2 := run_str (kX.self.2.ext hEn)
        by_cases hfw : (readM (lb s.its k)).man.fw = F
        · have Hr := Lib.hid (reb_yes (s := s) (F := F) (i := (k : Int)) hrin (by rw [Int.toNat_natCast]; exact hfw))
          rw [← hfw] at cv2
          clear hfw hrin
          go_wp2_with fail
          go_meet
          case rel =>
            rw [Hr.out.1, Hr.out.2]
            exact ⟨U, A7, c7, rfl, by simp, hP.ext hEn, kX.ext hEn, hEa.trans hEn⟩
        · have Hr := Lib.hid (reb_off (s := s) (F := F) (i := (k : Int)) hrin (by rw [Int.toNat_natCast]; exact hfw))
          have hs : ((str (readM (lb s.its k)).man.fw).toList == (str F).toList) = false := by rw [beq_eq_false_iff_ne]; exact str_neP hfw
          have hEl := Ext.new (w3.alloc (.cells #[.string (str (readM (lb s.its k)).man.name), .int .u32 (u32i (readM (lb s.its k)).man.ver), .slice G1 nf cf, .slice N1 nn cn] 58)) (.cells #[.int .i64 2, .int .i64 ((k : Nat) : Int)] 54)
          have hBl := Blk.new (w3.alloc (.cells #[.string (str (readM (lb s.its k)).man.name), .int .u32 (u32i (readM (lb s.its k)).man.ver), .slice G1 nf cf, .slice N1 nn cn] 58)) 54 #[.int .i64 2, .int .i64 ((k : Nat) : Int)]
          have hP4 := (hP.ext hEn).ext hEl
          have hbz := hEl.size
          have hbz2 : base ≤ ((w3.alloc (.cells #[.string (str (readM (lb s.its k)).man.name), .int .u32 (u32i (readM (lb s.its k)).man.ver), .slice G1 nf cf, .slice N1 nn cn] 58)).alloc (.cells #[.int .i64 2, .int .i64 ((k : Nat) : Int)] 54)).heap.size := Nat.le_trans hP4.ge (Nat.le_of_lt (by obtain ⟨B', P', Q', _, _, _, _, _, _, h5, _⟩ := hP4.lst; exact h5.lt))
          have hn9 : ∀ (j : Nat) (u : Value), ([.int .i64 2, .int .i64 ((k : Nat) : Int)] : List Value)[j]? = some u → ((w3.alloc (.cells #[.string (str (readM (lb s.its k)).man.name), .int .u32 (u32i (readM (lb s.its k)).man.ver), .slice G1 nf cf, .slice N1 nn cn] 58)).alloc (.cells #[.int .i64 2, .int .i64 ((k : Nat) : Int)] 54)).cell? ((⟨(w3.alloc (.cells #[.string (str (readM (lb s.its k)).man.name), .int .u32 (u32i (readM (lb s.its k)).man.ver), .slice G1 nf cf, .slice N1 nn cn] 58)).heap.size, 0, none⟩ : Addr).add j) = some u := fun j u hu => by
            rw [add_plain]
            exact hBl.cell (i := j) (by rw [← hu]; exact List.getElem?_toArray)
          rw [World.size_alloc] at hn9
          have hals := hP4.als
          clear hfw hrin hbz hBl
          go_wp2_with (refine appp_law kAlarms rfl rfl rfl rfl hals rfl hn9 two_one two_I (by omega) hbz2 (by omega) ?_; intro A4 c4 w4 o4 g4 b4)
          go_meet
          case rel =>
            rw [Hr.out.1, Hr.out.2]
            obtain ⟨U', k1, k2, k3⟩ := hP4.alarm 2 (k : Int) (by rw [alC_snoc]; exact o4) g4 b4
            refine ⟨U', A4, c4, ?_, rfl, k1, ((kX.ext hEn).ext hEl).move k2 k3, ((hEa.trans hEn).trans hEl).then_grown g4 (fun b hb => Nat.le_trans hb0 (hP4.als.lt hb).1)⟩
            show Value.slice A4 (s.al.length + 1) c4 = .slice A4 (s.al ++ [(2, (k : Int))]).length c4
            rw [List.length_append]
            rfl
    · rw [decide_eq_false hin]
      have Hr := Lib.hid (reb_no (s := s) (F := F) (i := kk) (by unfold rebIn; rw [decide_eq_false hin]; rfl))
      clear hin
      go_wp2_with fail
      go_meet
      case rel =>
        rw [Hr.out.1, Hr.out.2]
        exact ⟨U, A7, c7, rfl, rfl, hP, kX, hEa⟩
  case rest =>
  obtain ⟨U', A7', c7', rfl, rfl, hP', kX', hE'⟩ := hcut
  clear hP kX hEa
  obtain ⟨φ, ρ, hD, hsub, hgo⟩ := hP'.mon_sub
  obtain ⟨r2, hlogr, hhas, r3'⟩ := reb_keep s kk F
  have hr := mreb_anyd wc base g φ ρ s hD kk F1 32 f1 F kX'.self.2 hsm (by omega)
  obtain ⟨v1, hv1⟩ : ∃ v1, v1 = rebB s.its kk F := ⟨_, rfl⟩
  rw [← hv1] at hr ⊢
  clear hv1
  obtain ⟨t, ht⟩ : ∃ t, t = rebS s kk F := ⟨_, rfl⟩
  have hokt : okS t := by rw [ht]; exact rebS_ok hok
  rw [← ht] at hr hP' hgo r2 r3' hlogr hhas ⊢
  have Hr := Lib.hid hr
  have R2 := Lib.hid r2
  have Hhas := Lib.hid hhas
  have Hlog := Lib.hid (hlogr.trans hlog)
  clear hr r2 hlogr ht hhas
  go_wp2_with fail
  refine Hr.out.mono ?_
  rintro e w5 ⟨rfl, φ', hM', u5, h5⟩
  obtain ⟨U2, hP2, u6, h6⟩ := hgo w5 φ' ρ _ hM' u5 h5 (fun _ _ h => h)
  have kX2 := kX'.move u6 h6
  have hE2 := Upd.ext hE' u6 (fun k hk => Nat.le_trans hb0 (hP'.lt hk).1)
  clear Hr u5 h5 u6 h6 hP' kX' hE' hD hgo hsub
  cases v1
  all_goals
    go_wp2_with fail
    refine ⟨U2, t, A6, c6, A7', c7', ?_, rfl, ?_, hP2, hokt, Hlog.out, ?_, ?_, ?_, kX2.imp (fun w' h => h.1), hE2⟩
    · rw [R2.out]
    · rw [Hhas.out]
    · exact Nat.le_trans r3' (by omega)
    · rw [R2.out]; exact hits
    · rw [R2.out]; exact hsm
end Go.Proofs.YtkndgpjamijbbaaGreat

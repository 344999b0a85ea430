/-
  law22's play: the parts of an ask. law22's play: one ask. law22's play, walked.
-/
import Derived.Test.YtkndgpjamijbbaaGreatLawNumbers22Q39
namespace Go.Proofs.YtkndgpjamijbbaaGreat
set_option maxRecDepth 1000000
open Go Go.RowKit
noncomputable def plEc : Code := cAt [true, true, true, true, true, true, true, true, false, true, false, false, true, false, false, true, true, true, true, true, false, true] (Tryz.f6.body.getD .skip)
set_option maxHeartbeats 64000000 in
theorem plE_any (w0 we : World) (base g g8 bo g1 m c1 p n c3 q16 wh sd : Nat) (S : List UInt8) (ad : Addr) (qk qf qn : Int) (qb : Bool) (r3 : inR qf) (r4 : inR qn) (U : Nat → Prop) (s : MSt) (A3 A6 A7 : Option Addr) (c6 c7 : Nat) (wf : World) (g14 : Nat) (B P Q : Option Addr) (d d1 d2 : Nat)
    (k1 : w0.cell? (ad.add (p * 5)) = some (.int .i64 qk)) (k3 : w0.cell? ((ad.add (p * 5)).add 2) = some (.int .i64 qf)) (k4 : w0.cell? ((ad.add (p * 5)).add 3) = some (.int .i64 qn)) (k5 : w0.cell? ((ad.add (p * 5)).add 4) = some (.bool qb)) (hpm : p < m) (hroom : m ≤ c1) (hcap : c1 ≤ 2 ^ 63 - 1)
    (hb0 : w0.heap.size ≤ base) (hP : Pl we base U g g8 s s A6 c6 A7 c7) (hok : okS s) (hlog : s.log = ownP S) (hal : s.al.length ≤ p) (hp14 : p < 14) (hits : s.its.length ≤ 24) (hsm : ∀ a ∈ s.its, a.length ≤ 1000000) (hn : n ≤ 24) (hq16 : q16 < 16)
    (kO : Keep U (fun w => OwnR w bo g1 S) we) (kA : Keep U (fun w => RBB w A3 n c3 (its22 n wh)) we) (sg : Sgd we sd S (rootL ((its22 n wh).map leafH)) n q16 B d P d1 Q d2) (hbd : ∀ q, U q → q < sd) (hEa : Ext w0 we)
    (hE14 : Ext we wf) (hB14 : Blk wf g14 40 #[.int .i64 (n : Int), .slice B 32 d, .int .i64 (q16 : Int), .slice P 64 d1, .slice Q 4 d2]) (hgl : we.heap.size ≤ g14)
    (z1 z2 z5 z12 z15 z16 z17 z18 z19 z20 z21 z22 z23 z24 z25 z26 z27 z28 z29 z30 z31 z32 z33 z34 z35 z36 z37 z38 z39 z40 z41 z42 z43 z44 z45 z46 z47 z48 z49 z50 z51 z52 z53 z54 z55 z56 z57 z58 z59 z60 z61 z62 z63 z64 z65 z66 z67 z68 z69 z70 z71 z73 z74 z75 z76 z77 z78 z79 z80 z81 z82 z83 z84 z85 z86 z87 z88 z89 z90 z91 z92 z93 z94 z95 z96 z97 z98 z99 z100 z101 z102 z103 z104 z105 z106 z107 z108 z109 z110 z111 z112 z113 z114 z115 z116 z117 z118 z119 z120 z121 z122 z123 z124 z125 z126 z127 z128 z129 z130 z131 z132 z133 z134 z135 z136 z137 z138 z139 z140 z141 z142 z143 z144 z145 z146 z147 z148 z149 z150 z151 z152 z153 z154 z155 z156 z157 z158 z159 z160 z161 z162 z163 z164 z165 z166 z167 z168 z169 z170 z171 z172 z173 z174 z175 z176 z177 z178 z179 z180 z181 z182 z183 z184 z185 z186 z187 z188 z189 z190 z191 z192 z193 z194 z195 z196 z197 z198 z199 z200 z201 z202 z203 z204 z205 z206 z207 z208 z209 z210 z211 z212 z213 z214 z215 z216 z217 z218 z219 z220 z221 z222 z223 z224 z225 z226 z227 z228 z229 z230 z231 z232 z233 z234 z235 z236 z237 z238 z239 z240 z241 z242 z243 z244 z245 z246 z247 z248 z249 z250 z251 z252 z253 z254 z255 z256 z257 z258 z259 z260 z261 z262 z263 z264 z265 z266 z267 z268 z269 z270 z271 z272 z273 z274 z275 z276 : Value) (K : Exit → Act → World → Prop)
    (hQ : ∀ (x6 x7 x9 : Value) (v2 v15 v16 v17 v18 v19 v20 v21 v22 v23 v73 v74 v75 v76 v77 v78 v79 v80 v81 v82 v83 v84 v85 v86 v87 v88 v89 v90 v91 v92 v93 v94 v95 v96 v97 v98 v99 v100 v101 v102 v103 v104 v105 v106 v107 v108 v109 v110 v111 v112 v113 v114 v115 v116 v117 v118 v119 v120 v121 v122 v123 v124 v125 v126 v127 v128 v129 v130 v131 v132 v133 v134 v135 v136 v137 v138 v139 v140 v141 v142 v143 v144 v145 v146 v147 v148 v149 v150 v151 v152 v153 v154 v155 v156 v157 v158 v159 v160 v161 v162 v163 v164 v165 v166 v167 v168 v169 v170 v171 v172 v173 v174 v175 v176 v177 v178 v179 v180 v181 v182 v183 v184 v185 v186 v187 v188 v189 v190 v191 v192 v193 v194 v195 v196 v197 v198 v199 v200 v201 v202 v203 v204 v205 v206 v207 v208 v209 v210 v211 v212 v213 v214 v215 v216 v217 v218 v219 v220 v221 v222 v223 v224 v225 v226 v227 v228 v229 v230 v231 v232 v233 v234 v235 v236 v237 v238 : Value) (w' : World), PlB w0 base g g8 bo g1 S (p + 1) x6 x7 x9 w' → K .normal ⟨#[.slice (some ad) m c1, z1, v2, .pointer (some ⟨g1, 0, none⟩), .pointer (some ⟨g, 0, none⟩), z5, x6, x7, .pointer (some ⟨g8, 0, none⟩), x9, .int .i64 (p : Int), .int .i64 (n : Int), z12, .slice A3 n c3, .pointer (some ⟨g14, 0, none⟩), v15, v16, v17, v18, v19, v20, v21, v22, v23, z24, z25, z26, z27, z28, z29, z30, z31, z32, z33, z34, z35, z36, z37, z38, z39, z40, z41, z42, z43, z44, z45, z46, z47, z48, z49, z50, z51, z52, z53, z54, z55, z56, z57, z58, z59, z60, z61, z62, z63, z64, z65, z66, z67, z68, z69, z70, z71, .int .i64 qk, v73, v74, v75, v76, v77, v78, v79, v80, v81, v82, v83, v84, v85, v86, v87, v88, v89, v90, v91, v92, v93, v94, v95, v96, v97, v98, v99, v100, v101, v102, v103, v104, v105, v106, v107, v108, v109, v110, v111, v112, v113, v114, v115, v116, v117, v118, v119, v120, v121, v122, v123, v124, v125, v126, v127, v128, v129, v130, v131, v132, v133, v134, v135, v136, v137, v138, v139, v140, v141, v142, v143, v144, v145, v146, v147, v148, v149, v150, v151, v152, v153, v154, v155, v156, v157, v158, v159, v160, v161, v162, v163, v164, v165, v166, v167, v168, v169, v170, v171, v172, v173, v174, v175, v176, v177, v178, v179, v180, v181, v182, v183, v184, v185, v186, v187, v188, v189, v190, v191, v192, v193, v194, v195, v196, v197, v198, v199, v200, v201, v202, v203, v204, v205, v206, v207, v208, v209, v210, v211, v212, v213, v214, v215, v216, v217, v218, v219, v220, v221, v222, v223, v224, v225, v226, v227, v228, v229, v230, v231, v232, v233, v234, v235, v236, v237, v238, z239, z240, z241, z242, z243, z244, z245, z246, z247, z248, z249, z250, z251, z252, z253, z254, z255, z256, z257, z258, z259, z260, z261, z262, z263, z264, z265, z266, z267, z268, z269, z270, z271, z272, z273, z274, z275, z276], []⟩ w') :
    plEc.wp Tryz.prog K ⟨#[.slice (some ad) m c1, z1, z2, .pointer (some ⟨g1, 0, none⟩), .pointer (some ⟨g, 0, none⟩), z5, .slice A6 s.its.length c6, .slice A7 s.al.length c7, .pointer (some ⟨g8, 0, none⟩), .bool s.has, .int .i64 (p : Int), .int .i64 (n : Int), z12, .slice A3 n c3, .pointer (some ⟨g14, 0, none⟩), z15, z16, z17, z18, z19, z20, z21, z22, z23, z24, z25, z26, z27, z28, z29, z30, z31, z32, z33, z34, z35, z36, z37, z38, z39, z40, z41, z42, z43, z44, z45, z46, z47, z48, z49, z50, z51, z52, z53, z54, z55, z56, z57, z58, z59, z60, z61, z62, z63, z64, z65, z66, z67, z68, z69, z70, z71, .int .i64 qk, z73, z74, z75, z76, z77, z78, z79, z80, z81, z82, z83, z84, z85, z86, z87, z88, z89, z90, z91, z92, z93, z94, z95, z96, z97, z98, z99, z100, z101, z102, z103, z104, z105, z106, z107, z108, z109, z110, z111, z112, z113, z114, z115, z116, z117, z118, z119, z120, z121, z122, z123, z124, z125, z126, z127, z128, z129, z130, z131, z132, z133, z134, z135, z136, z137, z138, z139, z140, z141, z142, z143, z144, z145, z146, z147, z148, z149, z150, z151, z152, z153, z154, z155, z156, z157, z158, z159, z160, z161, z162, z163, z164, z165, z166, z167, z168, z169, z170, z171, z172, z173, z174, z175, z176, z177, z178, z179, z180, z181, z182, z183, z184, z185, z186, z187, z188, z189, z190, z191, z192, z193, z194, z195, z196, z197, z198, z199, z200, z201, z202, z203, z204, z205, z206, z207, z208, z209, z210, z211, z212, z213, z214, z215, z216, z217, z218, z219, z220, z221, z222, z223, z224, z225, z226, z227, z228, z229, z230, z231, z232, z233, z234, z235, z236, z237, z238, z239, z240, z241, z242, z243, z244, z245, z246, z247, z248, z249, z250, z251, z252, z253, z254, z255, z256, z257, z258, z259, z260, z261, z262, z263, z264, z265, z266, z267, z268, z269, z270, z271, z272, z273, z274, z275, z276], []⟩ wf := by
  conv => arg 2; whnf
  go_upto_if 73 with (fail)
  go_cut [72, 73] from 73 to 238 (fun t72 t73 w' => t72 = .int .i64 qk ∧ t73 = .bool (decide (qk = 1 ∨ qk = 2 ∨ qk = 4)) ∧ w' = wf)
  case first =>
    by_cases a1 : qk = 1
    · have d1 : (qk == 1) = true := by simp [a1]
      go_wp2_with fail
      go_meet
      case rel => exact ⟨by rw [a1], by simp [a1], rfl⟩
    · have d1 : (qk == 1) = false := by simp [a1]
      by_cases a2 : qk = 2
      · have d2 : (qk == 2) = true := by simp [a2]
        go_wp2_with fail
        go_meet
        case rel => exact ⟨by rw [a2], by simp [a2], rfl⟩
      · have d2 : (qk == 2) = false := by simp [a2]
        by_cases a4 : qk = 4
        · have d4 : (qk == 4) = true := by simp [a4]
          go_wp2_with fail
          go_meet
          case rel => exact ⟨by rw [a4], by simp [a4], rfl⟩
        · have d4 : (qk == 4) = false := by simp [a4]
          go_wp2_with fail
          go_meet
          case rel => exact ⟨rfl, by simp [a1, a2, a4], rfl⟩
  case rest =>
  obtain ⟨rfl, rfl, rfl⟩ := hcut
  go_upto_if 73 with (fail)
  by_cases hk : qk = 1 ∨ qk = 2 ∨ qk = 4
  · rw [decide_eq_true hk]
    refine wp_cond_true rfl ?_
    have kS : Keep U (fun w => RB w B 32 d (rootL ((its22 n wh).map leafH)) ∧ RBB w P 64 d1 (sigP S (bodyC checkL (n : Int) (rootL ((its22 n wh).map leafH))) q16) ∧ RBB w Q 4 d2 (pathL S q16)) we := fun w' u =>
      ⟨(sg.1.keepS hP.nob) w' u, (sg.2.1.rbb.keepS hP.nob (fun _ k hk hp => by have := (sg.2.1.lt hk).1; have := hbd k hp; omega)) w' u, (sg.2.2.rbb.keepS hP.nob (fun _ k hk hp => by have := (sg.2.2.lt hk).1; have := hbd k hp; omega)) w' u⟩
    refine plA_any w0 we base g g8 bo g1 m c1 p n c3 q16 S ad qk qf qb r3 U s A3 A6 A7 c6 c7 wc g14 B P Q d d1 d2 _ _ _ _ k1 k3 k5 hpm hroom hcap hb0 hP hok hlog hal hp14 hits hsm hn its22_small hq16 kO kA kS hEa hE14 hB14 hgl _ _ _ _ _ _ _ _ _ _ _ _ _ _ _ _ _ _ _ _ _ _ _ _ _ _ _ _ _ _ _ _ _ _ _ _ _ _ _ _ _ _ _ _ _ _ _ _ _ _ _ _ _ _ _ _ _ _ _ _ _ _ _ _ _ _ _ _ _ _ _ _ _ _ _ _ _ _ _ _ _ _ _ _ _ _ _ _ _ _ _ _ _ _ _ _ _ _ _ _ _ _ _ _ _ _ _ _ _ _ _ _ _ _ _ _ _ _ _ _ _ _ _ _ _ _ _ _ _ _ _ _ _ _ _ _ _ _ _ _ _ _ _ _ _ _ _ _ _ _ _ _ _ _ _ _ _ _ _ _ _ _ _ _ _ _ _ _ _ _ _ _ _ _ _ _ _ _ _ _ _ _ _ _ _ _ _ _ _ _ _ _ _ _ _ _ _ _ _ _ _ _ _ _ _ _ _ _ _ _ _ _ _ _ _ _ _ _ _ _ _ _ _ _ _ _ _ _ _ _ _ _ _ _ _ _ _ _ _ _ _ _ _ _ _ _ _ _ _ _ _ _ _ _ _ _ _ _ _ _ _ _ _ _ _ _ _ ?_
    intro x6 x7 x9 r2 r15 r16 r17 r18 r77 r78 r79 r80 r81 r82 r83 r84 r85 r86 r87 r88 r89 r90 r91 r92 r93 r94 r95 r96 r97 r98 r99 r100 r101 r102 r103 r104 r105 r106 r107 r108 r109 r110 r111 r112 r113 r114 r115 r116 r117 r118 r119 r120 r121 r122 r123 r124 r125 r126 r127 r128 r129 r130 r131 r132 r133 r134 r135 r136 r137 r138 r139 r140 r141 r142 r143 r144 r145 r146 r147 r148 r149 r150 r151 r152 r153 r154 r155 r156 r157 r158 r159 r160 r161 r162 r163 r164 r165 r166 r167 r168 r169 r170 r171 r172 r173 r174 r175 r176 r177 r178 r179 r180 r181 r182 wz hB
    go_wp2_with fail
    exact hB
  · rw [decide_eq_false hk]
    refine wp_cond_false rfl ?_
    by_cases a3 : qk = 3
    · have d3 : (qk == 3) = true := by simp [a3]
      go_upto_if 183 with (fail)
      refine wp_cond_true rfl ?_
      refine plB_any w0 base g g8 bo g1 m c1 p S ad qf qn r3 r4 U s A6 c6 A7 c7 wc k3 k4 hpm hroom hcap hb0 (hP.ext hE14) hok hlog hal hp14 hits hsm (kO.ext hE14) (hEa.trans hE14) _ _ _ _ _ _ _ _ _ _ _ _ _ _ _ _ _ _ _ _ _ _ _ _ _ _ _ _ _ _ _ _ _ _ _ _ _ _ _ _ _ _ _ _ _ _ _ _ _ _ _ _ _ _ _ _ _ _ _ _ _ _ _ _ _ _ _ _ _ _ _ _ _ _ _ _ _ _ _ _ _ _ _ _ _ _ _ _ _ _ _ _ _ _ _ _ _ _ _ _ _ _ _ _ _ _ _ _ _ _ _ _ _ _ _ _ _ _ _ _ _ _ _ _ _ _ _ _ _ _ _ _ _ _ _ _ _ _ _ _ _ _ _ _ _ _ _ _ _ _ _ _ _ _ _ _ _ _ _ _ _ _ _ _ _ _ _ _ _ _ _ _ _ _ _ _ _ _ _ _ _ _ _ _ _ _ _ _ _ _ _ _ _ _ _ _ _ _ _ _ _ _ _ _ _ _ _ _ _ _ _ _ _ _ _ _ _ _ _ _ _ _ _ _ _ _ _ _ _ _ _ _ _ _ _ _ _ _ _ _ _ _ _ _ _ _ _ _ _ _ _ _ _ _ _ _ _ _ _ _ _ _ _ _ _ _ _ _ _ _ ?_
      intro x7 r2 r19 r20 r21 r22 r23 r185 r186 r187 r188 r189 r190 r191 r192 r193 r194 r195 r196 r197 r198 r199 r200 r201 r202 r203 r204 r205 r206 r207 r208 r209 r210 r211 r212 r213 r214 r215 r216 r217 r218 r219 r220 r221 r222 r223 r224 r225 r226 r227 r228 r229 r230 r231 r232 r233 r234 r235 r236 r237 r238 wz hB
      go_wp2_with fail
      exact hB
    · have d3 : (qk == 3) = false := by simp [a3]
      go_wp2_with fail
      exact ⟨U, s, A6, c6, A7, c7, rfl, rfl, rfl, hP.ext hE14, hok, hlog, by omega, hits, hsm, kO.ext hE14, hEa.trans hE14⟩
end Go.Proofs.YtkndgpjamijbbaaGreat
namespace Go.Proofs.YtkndgpjamijbbaaGreat
set_option maxRecDepth 1000000
open Go Go.RowKit
noncomputable def plDc : Code := cAt [true, true, true, true, true, true, true, true, false, true, false, false, true, false] (Tryz.f6.body.getD .skip)
set_option maxHeartbeats 64000000 in
theorem plD_any (w0 : World) (base g g8 bo g1 m c1 p : Nat) (S : List UInt8) (ad : Addr) (U : Nat → Prop) (s : MSt) (A6 A7 : Option Addr) (c6 c7 : Nat) (wr : World)
    (hc : ∀ j, j < m → ∃ (k sz fr nn : Int) (bad : Bool), w0.cell? (ad.add (j * 5)) = some (.int .i64 k) ∧ w0.cell? ((ad.add (j * 5)).add 1) = some (.int .i64 sz) ∧ w0.cell? ((ad.add (j * 5)).add 2) = some (.int .i64 fr) ∧ w0.cell? ((ad.add (j * 5)).add 3) = some (.int .i64 nn) ∧ w0.cell? ((ad.add (j * 5)).add 4) = some (.bool bad) ∧ inR k ∧ inR sz ∧ inR fr ∧ inR nn)
    (hpm : p < m) (hp14 : p < 14) (hroom : m ≤ c1) (hcap : c1 ≤ 2 ^ 63 - 1) (hb0 : w0.heap.size ≤ base)
    (hP : Pl wr base U g g8 s s A6 c6 A7 c7) (hok : okS s) (hlog : s.log = ownP S) (hal : s.al.length ≤ p) (hits : s.its.length ≤ 24) (hsm : ∀ a ∈ s.its, a.length ≤ 1000000) (kO : Keep U (fun w => OwnR w bo g1 S) wr) (hEa : Ext w0 wr)
    (z1 z2 z5 z11 z12 z13 z14 z15 z16 z17 z18 z19 z20 z21 z22 z23 z24 z25 z26 z27 z28 z29 z30 z31 z32 z33 z34 z35 z36 z37 z38 z39 z40 z41 z42 z43 z44 z45 z46 z47 z48 z49 z50 z51 z52 z53 z54 z55 z56 z57 z58 z59 z60 z61 z62 z63 z64 z65 z66 z67 z68 z69 z70 z71 z72 z73 z74 z75 z76 z77 z78 z79 z80 z81 z82 z83 z84 z85 z86 z87 z88 z89 z90 z91 z92 z93 z94 z95 z96 z97 z98 z99 z100 z101 z102 z103 z104 z105 z106 z107 z108 z109 z110 z111 z112 z113 z114 z115 z116 z117 z118 z119 z120 z121 z122 z123 z124 z125 z126 z127 z128 z129 z130 z131 z132 z133 z134 z135 z136 z137 z138 z139 z140 z141 z142 z143 z144 z145 z146 z147 z148 z149 z150 z151 z152 z153 z154 z155 z156 z157 z158 z159 z160 z161 z162 z163 z164 z165 z166 z167 z168 z169 z170 z171 z172 z173 z174 z175 z176 z177 z178 z179 z180 z181 z182 z183 z184 z185 z186 z187 z188 z189 z190 z191 z192 z193 z194 z195 z196 z197 z198 z199 z200 z201 z202 z203 z204 z205 z206 z207 z208 z209 z210 z211 z212 z213 z214 z215 z216 z217 z218 z219 z220 z221 z222 z223 z224 z225 z226 z227 z228 z229 z230 z231 z232 z233 z234 z235 z236 z237 z238 z239 z240 z241 z242 z243 z244 z245 z246 z247 z248 z249 z250 z251 z252 z253 z254 z255 z256 z257 z258 z259 z260 z261 z262 z263 z264 z265 z266 z267 z268 z269 z270 z271 z272 z273 z274 z275 z276 : Value) (K : Exit → Act → World → Prop)
    (hQ : ∀ (x6 x7 x9 : Value) (v2 v11 v12 v13 v14 v15 v16 v17 v18 v19 v20 v21 v22 v23 v24 v25 v50 v51 v52 v53 v54 v55 v56 v57 v58 v59 v60 v61 v62 v63 v64 v65 v66 v67 v68 v69 v70 v71 v72 v73 v74 v75 v76 v77 v78 v79 v80 v81 v82 v83 v84 v85 v86 v87 v88 v89 v90 v91 v92 v93 v94 v95 v96 v97 v98 v99 v100 v101 v102 v103 v104 v105 v106 v107 v108 v109 v110 v111 v112 v113 v114 v115 v116 v117 v118 v119 v120 v121 v122 v123 v124 v125 v126 v127 v128 v129 v130 v131 v132 v133 v134 v135 v136 v137 v138 v139 v140 v141 v142 v143 v144 v145 v146 v147 v148 v149 v150 v151 v152 v153 v154 v155 v156 v157 v158 v159 v160 v161 v162 v163 v164 v165 v166 v167 v168 v169 v170 v171 v172 v173 v174 v175 v176 v177 v178 v179 v180 v181 v182 v183 v184 v185 v186 v187 v188 v189 v190 v191 v192 v193 v194 v195 v196 v197 v198 v199 v200 v201 v202 v203 v204 v205 v206 v207 v208 v209 v210 v211 v212 v213 v214 v215 v216 v217 v218 v219 v220 v221 v222 v223 v224 v225 v226 v227 v228 v229 v230 v231 v232 v233 v234 v235 v236 v237 v238 v239 v240 v241 v242 v243 v244 v245 v246 v247 v248 v249 v250 v251 v252 v253 v254 v255 v256 v257 v258 v259 v260 v261 v262 v263 v264 v265 v266 v267 v268 v269 v270 v271 v272 v273 v274 v275 v276 : Value) (w' : World), PlB w0 base g g8 bo g1 S (p + 1) x6 x7 x9 w' → K .normal ⟨#[.slice (some ad) m c1, z1, v2, .pointer (some ⟨g1, 0, none⟩), .pointer (some ⟨g, 0, none⟩), z5, x6, x7, .pointer (some ⟨g8, 0, none⟩), x9, .int .i64 (p : Int), v11, v12, v13, v14, v15, v16, v17, v18, v19, v20, v21, v22, v23, v24, v25, z26, z27, z28, z29, z30, z31, z32, z33, z34, z35, z36, z37, z38, z39, z40, z41, z42, z43, z44, z45, z46, z47, z48, z49, v50, v51, v52, v53, v54, v55, v56, v57, v58, v59, v60, v61, v62, v63, v64, v65, v66, v67, v68, v69, v70, v71, v72, v73, v74, v75, v76, v77, v78, v79, v80, v81, v82, v83, v84, v85, v86, v87, v88, v89, v90, v91, v92, v93, v94, v95, v96, v97, v98, v99, v100, v101, v102, v103, v104, v105, v106, v107, v108, v109, v110, v111, v112, v113, v114, v115, v116, v117, v118, v119, v120, v121, v122, v123, v124, v125, v126, v127, v128, v129, v130, v131, v132, v133, v134, v135, v136, v137, v138, v139, v140, v141, v142, v143, v144, v145, v146, v147, v148, v149, v150, v151, v152, v153, v154, v155, v156, v157, v158, v159, v160, v161, v162, v163, v164, v165, v166, v167, v168, v169, v170, v171, v172, v173, v174, v175, v176, v177, v178, v179, v180, v181, v182, v183, v184, v185, v186, v187, v188, v189, v190, v191, v192, v193, v194, v195, v196, v197, v198, v199, v200, v201, v202, v203, v204, v205, v206, v207, v208, v209, v210, v211, v212, v213, v214, v215, v216, v217, v218, v219, v220, v221, v222, v223, v224, v225, v226, v227, v228, v229, v230, v231, v232, v233, v234, v235, v236, v237, v238, v239, v240, v241, v242, v243, v244, v245, v246, v247, v248, v249, v250, v251, v252, v253, v254, v255, v256, v257, v258, v259, v260, v261, v262, v263, v264, v265, v266, v267, v268, v269, v270, v271, v272, v273, v274, v275, v276], []⟩ w') :
    plDc.wp Tryz.prog K ⟨#[.slice (some ad) m c1, z1, z2, .pointer (some ⟨g1, 0, none⟩), .pointer (some ⟨g, 0, none⟩), z5, .slice A6 s.its.length c6, .slice A7 s.al.length c7, .pointer (some ⟨g8, 0, none⟩), .bool s.has, .int .i64 (p : Int), z11, z12, z13, z14, z15, z16, z17, z18, z19, z20, z21, z22, z23, z24, z25, z26, z27, z28, z29, z30, z31, z32, z33, z34, z35, z36, z37, z38, z39, z40, z41, z42, z43, z44, z45, z46, z47, z48, z49, z50, z51, z52, z53, z54, z55, z56, z57, z58, z59, z60, z61, z62, z63, z64, z65, z66, z67, z68, z69, z70, z71, z72, z73, z74, z75, z76, z77, z78, z79, z80, z81, z82, z83, z84, z85, z86, z87, z88, z89, z90, z91, z92, z93, z94, z95, z96, z97, z98, z99, z100, z101, z102, z103, z104, z105, z106, z107, z108, z109, z110, z111, z112, z113, z114, z115, z116, z117, z118, z119, z120, z121, z122, z123, z124, z125, z126, z127, z128, z129, z130, z131, z132, z133, z134, z135, z136, z137, z138, z139, z140, z141, z142, z143, z144, z145, z146, z147, z148, z149, z150, z151, z152, z153, z154, z155, z156, z157, z158, z159, z160, z161, z162, z163, z164, z165, z166, z167, z168, z169, z170, z171, z172, z173, z174, z175, z176, z177, z178, z179, z180, z181, z182, z183, z184, z185, z186, z187, z188, z189, z190, z191, z192, z193, z194, z195, z196, z197, z198, z199, z200, z201, z202, z203, z204, z205, z206, z207, z208, z209, z210, z211, z212, z213, z214, z215, z216, z217, z218, z219, z220, z221, z222, z223, z224, z225, z226, z227, z228, z229, z230, z231, z232, z233, z234, z235, z236, z237, z238, z239, z240, z241, z242, z243, z244, z245, z246, z247, z248, z249, z250, z251, z252, z253, z254, z255, z256, z257, z258, z259, z260, z261, z262, z263, z264, z265, z266, z267, z268, z269, z270, z271, z272, z273, z274, z275, z276], []⟩ wr := by
  conv => arg 2; whnf
  have e1 : (p : Int) < (m : Int) := by omega
  obtain ⟨qk, qs, qf, qn, qb, k1, k2, k3, k4, k5, r1, r2, r3, r4⟩ := hc p hpm
  have y1 : wr.cell? ⟨(ad.add (p * 5)).block, (ad.add (p * 5)).off + 1, none⟩ = some (.int .i64 qs) := hEa.cell k2
  obtain ⟨n, hn, hn24⟩ := within_nat qs 24 (by omega)
  have hwn := within_any qs 0 24 wr r2.1 r2.2 (by omega) (by omega) (by omega)
  rw [hn] at hwn
  have Hwn := Lib.hid hwn
  clear hc hwn hn
  go_wp2_with fail
  refine Hwn.out.mono ?_
  rintro e _ ⟨rfl, rfl⟩
  dsimp only
  clear Hwn
  have y0 : wr.cell? (ad.add (p * 5)) = some (.int .i64 qk) := hEa.cell k1
  go_upto_if 61 with (fail)
  go_cut [12] from 50 to 276 (fun t12 w' => (∃ wh : Nat, wh ≤ 1 ∧ t12 = .int .i64 wh) ∧ w' = wr)
  case first =>
    by_cases hk2 : qk = 2
    · have d2 : (qk == 2) = true := by simp [hk2]
      go_wp2_with fail
      go_meet
      case rel => exact ⟨⟨1, Nat.le_refl _, rfl⟩, rfl⟩
    · have d2 : (qk == 2) = false := by simp [hk2]
      go_wp2_with fail
      go_meet
      case rel => exact ⟨⟨0, Nat.zero_le _, rfl⟩, rfl⟩
  case rest =>
  obtain ⟨⟨wh, hwh, rfl⟩, rfl⟩ := hcut
  have hit := items22_any n wh wc (by omega) (by omega)
  have Hit := Lib.hid hit
  clear hit y0 y1
  go_wp2_with fail
  refine Hit.out.mono ?_
  rintro e wd ⟨A3, c3, rfl, oA, hE⟩
  dsimp only
  have kA : Keep U (fun w => RBB w A3 n c3 (its22 n wh)) wd := oA.rbb.keepS (hP.nob.ext hE) (fun _ k hk hp => by have := (oA.lt hk).1; have := (hP.lt hp).2; omega)
  replace hP := hP.ext hE
  replace kO := kO.ext hE
  replace hEa := hEa.trans hE
  clear hE oA Hit
  obtain ⟨q16, hq⟩ : ∃ q, q = n % 16 := ⟨_, rfl⟩
  have hq16 : q16 < 16 := by rw [hq]; exact Nat.mod_lt _ (by omega)
  have hs := signed22_q q16 g1 _ S A3 n c3 _ hq wd kO.self kA.self (by omega) its22_small
  have Hs := Lib.hid hs
  clear hs hq
  go_wp2_with fail
  have hbd : ∀ q, U q → q < wd.heap.size := fun q hq => (hP.lt hq).2
  refine Hs.out.mono ?_
  rintro e we ⟨B, d, P, d1, Q, d2, rfl, sg, hE⟩
  dsimp only
  replace hP := hP.ext hE
  replace kO := kO.ext hE
  replace kA := kA.ext hE
  replace hEa := hEa.trans hE
  clear hE Hs
  have hE14 := Ext.new we (.cells #[.int .i64 (n : Int), .slice B 32 d, .int .i64 (q16 : Int), .slice P 64 d1, .slice Q 4 d2] 40)
  have hB14 := Blk.new we 40 #[.int .i64 (n : Int), .slice B 32 d, .int .i64 (q16 : Int), .slice P 64 d1, .slice Q 4 d2]
  have hlt14 : ∀ q, U q → q < we.heap.size := fun q hq => (hP.lt hq).2
  go_upto_region 18 with (fail)
  generalize we.alloc (.cells #[.int .i64 (n : Int), .slice B 32 d, .int .i64 (q16 : Int), .slice P 64 d1, .slice Q 4 d2] 40) = wf at *
  obtain ⟨g14, hg14⟩ : ∃ g14, g14 = we.heap.size := ⟨_, rfl⟩
  have hgl : we.heap.size ≤ g14 := by omega
  rw [← hg14] at hB14 hlt14 ⊢
  clear hg14
  have y0 : wf.cell? (ad.add (p * 5)) = some (.int .i64 qk) := (hEa.trans hE14).cell k1
  go_upto_block 2 with (fail)
  clear y0
  go_cut [6, 7, 9] from 50 to 276 (fun t6 t7 t9 w' => PlB w0 base g g8 bo g1 S (p + 1) t6 t7 t9 w')
  case first =>
    refine plE_any w0 we base g g8 bo g1 m c1 p n c3 q16 wh wd.heap.size S ad qk qf qn qb r3 r4 U s A3 A6 A7 c6 c7 wf g14 B P Q d d1 d2 k1 k3 k4 k5 hpm hroom hcap hb0 hP hok hlog hal hp14 hits hsm (by omega) hq16 kO kA sg hbd hEa hE14 hB14 hgl _ _ _ _ _ _ _ _ _ _ _ _ _ _ _ _ _ _ _ _ _ _ _ _ _ _ _ _ _ _ _ _ _ _ _ _ _ _ _ _ _ _ _ _ _ _ _ _ _ _ _ _ _ _ _ _ _ _ _ _ _ _ _ _ _ _ _ _ _ _ _ _ _ _ _ _ _ _ _ _ _ _ _ _ _ _ _ _ _ _ _ _ _ _ _ _ _ _ _ _ _ _ _ _ _ _ _ _ _ _ _ _ _ _ _ _ _ _ _ _ _ _ _ _ _ _ _ _ _ _ _ _ _ _ _ _ _ _ _ _ _ _ _ _ _ _ _ _ _ _ _ _ _ _ _ _ _ _ _ _ _ _ _ _ _ _ _ _ _ _ _ _ _ _ _ _ _ _ _ _ _ _ _ _ _ _ _ _ _ _ _ _ _ _ _ _ _ _ _ _ _ _ _ _ _ _ _ _ _ _ _ _ _ _ _ _ _ _ _ _ _ _ _ _ _ _ _ _ _ _ _ _ _ _ _ _ _ _ _ _ _ _ _ _ _ _ _ _ _ _ _ _ _ _ _ _ _ _ _ _ _ _ _ _ _ _ ?_
    intro x6 x7 x9 r2 r15 r16 r17 r18 r19 r20 r21 r22 r23 r73 r74 r75 r76 r77 r78 r79 r80 r81 r82 r83 r84 r85 r86 r87 r88 r89 r90 r91 r92 r93 r94 r95 r96 r97 r98 r99 r100 r101 r102 r103 r104 r105 r106 r107 r108 r109 r110 r111 r112 r113 r114 r115 r116 r117 r118 r119 r120 r121 r122 r123 r124 r125 r126 r127 r128 r129 r130 r131 r132 r133 r134 r135 r136 r137 r138 r139 r140 r141 r142 r143 r144 r145 r146 r147 r148 r149 r150 r151 r152 r153 r154 r155 r156 r157 r158 r159 r160 r161 r162 r163 r164 r165 r166 r167 r168 r169 r170 r171 r172 r173 r174 r175 r176 r177 r178 r179 r180 r181 r182 r183 r184 r185 r186 r187 r188 r189 r190 r191 r192 r193 r194 r195 r196 r197 r198 r199 r200 r201 r202 r203 r204 r205 r206 r207 r208 r209 r210 r211 r212 r213 r214 r215 r216 r217 r218 r219 r220 r221 r222 r223 r224 r225 r226 r227 r228 r229 r230 r231 r232 r233 r234 r235 r236 r237 r238 wz hB
    go_wp2_with fail
    go_meet
    case rel => exact hB
  case rest =>
  clear hP kO hEa hok hlog hal hits hsm kA sg hB14 hlt14
  obtain ⟨U, s, A6, c6, A7, c7, rfl, rfl, rfl, hP, hok, hlog, hal, hits, hsm, kO, hEa⟩ := hcut
  refine (‹∀ (a : Act) (w : World), Code.wp Tryz.prog _ _ a w → _›) _ _ ?_
  refine plR_any w0 base g g8 bo g1 m c1 p (p + 1) S ad U s A6 A7 c6 c7 wc hP hok hlog hal (by omega) hits hsm kO hEa _ _ _ _ _ _ _ _ _ _ _ _ _ _ _ _ _ _ _ _ _ _ _ _ _ _ _ _ _ _ _ _ _ _ _ _ _ _ _ _ _ _ _ _ _ _ _ _ _ _ _ _ _ _ _ _ _ _ _ _ _ _ _ _ _ _ _ _ _ _ _ _ _ _ _ _ _ _ _ _ _ _ _ _ _ _ _ _ _ _ _ _ _ _ _ _ _ _ _ _ _ _ _ _ _ _ _ _ _ _ _ _ _ _ _ _ _ _ _ _ _ _ _ _ _ _ _ _ _ _ _ _ _ _ _ _ _ _ _ _ _ _ _ _ _ _ _ _ _ _ _ _ _ _ _ _ _ _ _ _ _ _ _ _ _ _ _ _ _ _ _ _ _ _ _ _ _ _ _ _ _ _ _ _ _ _ _ _ _ _ _ _ _ _ _ _ _ _ _ _ _ _ _ _ _ _ _ _ _ _ _ _ _ _ _ _ _ _ _ _ _ _ _ _ _ _ _ _ _ _ _ _ _ _ _ _ _ _ _ _ _ _ _ _ _ _ _ _ _ _ _ _ _ _ _ _ _ _ _ _ _ _ _ _ _ _ _ _ _ _ ?_
  intro r2 r24 r25 r239 r240 r241 r242 r243 r244 r245 r246 r247 r248 r249 r250 r251 r252 r253 r254 r255 r256 r257 r258 r259 r260 r261 r262 r263 r264 r265 r266 r267 r268 r269 r270 r271 r272 r273 r274 r275 r276 wz hB
  exact hQ _ _ _ _ _ _ _ _ _ _ _ _ _ _ _ _ _ _ _ _ _ _ _ _ _ _ _ _ _ _ _ _ _ _ _ _ _ _ _ _ _ _ _ _ _ _ _ _ _ _ _ _ _ _ _ _ _ _ _ _ _ _ _ _ _ _ _ _ _ _ _ _ _ _ _ _ _ _ _ _ _ _ _ _ _ _ _ _ _ _ _ _ _ _ _ _ _ _ _ _ _ _ _ _ _ _ _ _ _ _ _ _ _ _ _ _ _ _ _ _ _ _ _ _ _ _ _ _ _ _ _ _ _ _ _ _ _ _ _ _ _ _ _ _ _ _ _ _ _ _ _ _ _ _ _ _ _ _ _ _ _ _ _ _ _ _ _ _ _ _ _ _ _ _ _ _ _ _ _ _ _ _ _ _ _ _ _ _ _ _ _ _ _ _ _ _ _ _ _ _ _ _ _ _ _ _ _ _ _ _ _ _ _ _ _ _ _ _ _ _ _ _ _ _ _ _ _ _ _ _ _ _ _ _ _ _ _ _ _ _ _ _ _ _ _ _ wz hB
end Go.Proofs.YtkndgpjamijbbaaGreat
namespace Go.Proofs.YtkndgpjamijbbaaGreat
set_option maxRecDepth 1000000
open Go Go.RowKit
set_option maxHeartbeats 64000000 in
theorem play22_any (A1 : Option Addr) (m c1 : Nat) (w : World) (rK : RAk w A1 m c1) :
    Calls Tryz.prog 6 #[.slice A1 m c1] w fun e w' => e = .returned (.bool true) ∧ Ext w w' := by
  have hroom := rK.room
  have hcap := rK.cap
  unfold maxLen at hcap
  go_enter Tryz.func6, Tryz.ntmps6
  go_wp2_with fail
  refine (seed_any 0 w (by omega) (by omega)).mono ?_
  rintro e w1 ⟨A1', c1', rfl, own1, hEa⟩
  obtain ⟨S, hS⟩ : ∃ S, S = seedL 0 := ⟨_, rfl⟩
  rw [← hS] at own1
  clear hS
  have rS := own1.rb
  clear own1
  go_wp2_with fail
  refine (rnew_any A1' c1' S w1 rS).mono ?_
  rintro e w2 ⟨g1, rfl, o1, hE⟩
  replace hEa := hEa.trans hE
  clear hE rS
  go_wp2_with fail
  refine (rpublic_any g1 _ S w2 o1).mono ?_
  rintro e w3 ⟨A2, c2, rfl, rX, hE⟩
  replace o1 := o1.ext hE
  replace hEa := hEa.trans hE
  clear hE
  go_wp2_with fail
  refine (mnew_yes A2 c2 _ w3 rX).mono ?_
  rintro e w4 ⟨g, φ, rfl, hM, hE⟩
  have hw3 : w.heap.size ≤ w3.heap.size := hEa.size
  obtain ⟨ρ, hD⟩ := hM.toD
  have hE8 := Ext.new w4 (.cells #[.int .i64 0, .slice none 0 0, .int .i64 0, .slice none 0 0, .slice none 0 0] 40)
  have hB8 := Blk.new w4 40 #[.int .i64 0, .slice none 0 0, .int .i64 0, .slice none 0 0, .slice none 0 0]
  have hP : Pl (w4.alloc (.cells #[.int .i64 0, .slice none 0 0, .int .i64 0, .slice none 0 0, .slice none 0 0] 40)) w3.heap.size (plU φ none w4.heap.size) g w4.heap.size (newM (ownP S)) (newM (ownP S)) none 0 none 0 :=
    ⟨⟨φ, ρ, rfl, hD.ext hE8, (fun k _ h => by cases h), fun k hk _ => hD.new_none hk⟩, OwP.none_ _ _, ⟨none, none, none, 0, 0, 0, 0, 0, 0, hB8, fun w' u => ⟨RB.nil_ _, RBB.nil_ _, RBB.nil_ _⟩⟩, fun w' u => RBB.nil_ _, hE.size⟩
  have kO : Keep (plU φ none w4.heap.size) (fun w => OwnR w w1.heap.size g1 S) (w4.alloc (.cells #[.int .i64 0, .slice none 0 0, .int .i64 0, .slice none 0 0, .slice none 0 0] 40)) := Keep.old (fun w' e => o1.ext e) (hE.trans hE8) (fun k hk => (hP.lt hk).1)
  replace hEa := (hEa.trans hE).trans hE8
  clear hE hE8 hB8 rX hM hD o1
  go_wp2_with fail
  generalize w4.alloc (.cells #[.int .i64 0, .slice none 0 0, .int .i64 0, .slice none 0 0, .slice none 0 0] 40) = w5 at *
  obtain ⟨g8, hg8⟩ : ∃ g8, g8 = w4.heap.size := ⟨_, rfl⟩
  rw [← hg8] at hP kO ⊢
  clear hg8
  generalize plU φ none g8 = U at *
  go_loopw [6, 7, 9, 10] (fun t6 t7 t9 i wr => PlI w w3.heap.size g g8 w1.heap.size g1 S m t6 t7 t9 i wr) (fun _ _ _ i _ => m - (intOf i).toNat)
  case atStart => exact ⟨0, U, newM (ownP S), none, 0, none, 0, by omega, rfl, rfl, rfl, rfl, hP, okS.new _, rfl, Nat.le_refl _, Nat.zero_le _, fun a h => by simp [newM] at h, kO, hEa⟩
  case round =>
    clear hP kO hEa
    obtain ⟨p, U, s, A6, c6, A7, c7, hp, rfl, rfl, rfl, rfl, hP, hok, hlog, hal, hits, hsm, kO, hEa⟩ := hrel
    by_cases hlt : p < m ∧ p < 14
    · have e1 : (p : Int) < (m : Int) := by omega
      have e2 : (p : Int) < 14 := by omega
      obtain ⟨ad, rfl, hc⟩ := rK.cells (by omega)
      go_upto_block 1 with (fail)
      refine plD_any w w3.heap.size g g8 w1.heap.size g1 m c1 p S ad U s A6 A7 c6 c7 wr hc hlt.1 hlt.2 hroom hcap hw3 hP hok hlog hal hits hsm kO hEa _ _ _ _ _ _ _ _ _ _ _ _ _ _ _ _ _ _ _ _ _ _ _ _ _ _ _ _ _ _ _ _ _ _ _ _ _ _ _ _ _ _ _ _ _ _ _ _ _ _ _ _ _ _ _ _ _ _ _ _ _ _ _ _ _ _ _ _ _ _ _ _ _ _ _ _ _ _ _ _ _ _ _ _ _ _ _ _ _ _ _ _ _ _ _ _ _ _ _ _ _ _ _ _ _ _ _ _ _ _ _ _ _ _ _ _ _ _ _ _ _ _ _ _ _ _ _ _ _ _ _ _ _ _ _ _ _ _ _ _ _ _ _ _ _ _ _ _ _ _ _ _ _ _ _ _ _ _ _ _ _ _ _ _ _ _ _ _ _ _ _ _ _ _ _ _ _ _ _ _ _ _ _ _ _ _ _ _ _ _ _ _ _ _ _ _ _ _ _ _ _ _ _ _ _ _ _ _ _ _ _ _ _ _ _ _ _ _ _ _ _ _ _ _ _ _ _ _ _ _ _ _ _ _ _ _ _ _ _ _ _ _ _ _ _ _ _ _ _ _ _ _ _ _ _ _ _ _ _ _ _ _ _ _ _ _ _ _ _ _ ?_
      intro x6 x7 x9 r2 r11 r12 r13 r14 r15 r16 r17 r18 r19 r20 r21 r22 r23 r24 r25 r50 r51 r52 r53 r54 r55 r56 r57 r58 r59 r60 r61 r62 r63 r64 r65 r66 r67 r68 r69 r70 r71 r72 r73 r74 r75 r76 r77 r78 r79 r80 r81 r82 r83 r84 r85 r86 r87 r88 r89 r90 r91 r92 r93 r94 r95 r96 r97 r98 r99 r100 r101 r102 r103 r104 r105 r106 r107 r108 r109 r110 r111 r112 r113 r114 r115 r116 r117 r118 r119 r120 r121 r122 r123 r124 r125 r126 r127 r128 r129 r130 r131 r132 r133 r134 r135 r136 r137 r138 r139 r140 r141 r142 r143 r144 r145 r146 r147 r148 r149 r150 r151 r152 r153 r154 r155 r156 r157 r158 r159 r160 r161 r162 r163 r164 r165 r166 r167 r168 r169 r170 r171 r172 r173 r174 r175 r176 r177 r178 r179 r180 r181 r182 r183 r184 r185 r186 r187 r188 r189 r190 r191 r192 r193 r194 r195 r196 r197 r198 r199 r200 r201 r202 r203 r204 r205 r206 r207 r208 r209 r210 r211 r212 r213 r214 r215 r216 r217 r218 r219 r220 r221 r222 r223 r224 r225 r226 r227 r228 r229 r230 r231 r232 r233 r234 r235 r236 r237 r238 r239 r240 r241 r242 r243 r244 r245 r246 r247 r248 r249 r250 r251 r252 r253 r254 r255 r256 r257 r258 r259 r260 r261 r262 r263 r264 r265 r266 r267 r268 r269 r270 r271 r272 r273 r274 r275 r276 wz hB
      obtain ⟨U', s', A6', c6', A7', c7', rfl, rfl, rfl, hP', hok', hlog', hal', hits', hsm', kO', hE'⟩ := hB
      clear hP kO hEa hc
      go_wp2_with fail
      go_roundw
      case rel => exact ⟨p + 1, U', s', A6', c6', A7', c7', by omega, by go_num, rfl, rfl, rfl, hP', hok', hlog', hal', hits', hsm', kO', hE'⟩
      case measure => simp [intOf]; omega
    · have hend : ¬ ((p : Int) < (m : Int)) ∨ ((p : Int) < (m : Int)) ∧ ¬ ((p : Int) < 14) := by omega
      rcases hend with e1 | ⟨e1, e2⟩
      all_goals
        go_wp2_with fail
        go_ret
        exact ⟨rfl, hEa⟩
end Go.Proofs.YtkndgpjamijbbaaGreat

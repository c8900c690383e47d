/- ConnsOrder's round at an event that gets keys. No condition but that it lies as the walk has it. -/
import Derived.Test.YtddifbimlmkcbaaGreatDoorConnOrd
import Derived.Test.YtddifbimlmkcbaaGreatDoorConnCuts
import Derived.Deep.RegionLaw
namespace Go.Proofs.YtddifbimlmkcbaaGreatDoor
open Go.RowKit Go.ChangeMaps Go.MapKept
def firstLoop : Code → Option Code
  | .loop c => some c
  | .seq a b => match firstLoop a with
    | some c => some c
    | none => firstLoop b
  | .block _ c => firstLoop c
  | .scope c => firstLoop c
  | .cond _ a b => match firstLoop a with
    | some c => some c
    | none => firstLoop b
  | _ => none
noncomputable def coBody : Code := ((Tryz.f3.body.bind firstLoop).getD .skip)
theorem ev_cverb {e : Ev} (h : EvOk e) (h0 : e.told = 0) : e.cmd.cverb = e.cmd.verb := by
  obtain ⟨s, hs⟩ := h.par h0
  by_cases hv : e.cmd.verb = 0
  · have ht := told_none (s := s) (by rw [hs]; exact hv)
    rw [hs] at ht
    exact absurd rfl ht.2
  · exact (line_back hs hv).cverb
set_option maxRecDepth 1000000 in
set_option maxHeartbeats 100000000 in
theorem connsOrder_gets {w W1 W2 wr : World} {bl : List UInt8} {A : List AnsD} {aa ba : Option Addr} {ac bc : Nat} {L : List (Value × Ev)} {p : Nat} {m : ConnM} {C : List Cmd} {S : Nat → Prop} {ca : Option Addr} {cc i n : Nat} {o : List UInt8} {ev : Ev} {g1 o1 b1 : Nat} {ka : Option Addr} {kc : Nat} {J : Act → World → Prop} {K0 : Act → World → Prop} {R0 : Ending → World → Prop}
    {c5 c7 c15 c16 c17 c18 c19 c20 c21 c22 c23 c24 c25 c26 c27 c28 c29 c30 c31 c32 c33 c34 c35 c36 c37 c38 c39 c40 c41 c42 c43 c44 c45 c46 c47 c200 c201 c202 c203 c204 c205 c206 c207 c208 c209 c210 c211 c212 c213 c214 c215 c216 c217 c218 : Value}
    {u4 u13 u14 u48 u49 u50 u51 u52 u53 u54 u55 u56 u57 u58 u59 u60 u61 u62 u63 u64 u65 u66 u67 u68 u69 u70 u71 u72 u73 u74 u75 u76 u77 u78 u79 u80 u81 u82 u83 u84 u85 u86 u87 u88 u89 u90 u91 u92 u93 u94 u95 u96 u97 u98 u99 u100 u101 u102 u103 u104 u105 u106 u107 u108 u109 u110 u111 u112 u113 u114 u115 u116 u117 u118 u119 u120 u121 u122 u123 u124 u125 u126 u127 u128 u129 u130 u131 u132 u133 u134 u135 u136 u137 u138 u139 u140 u141 u142 u143 u144 u145 u146 u147 u148 u149 u150 u151 u152 u153 u154 u155 u156 u157 u158 u159 u160 u161 u162 u163 u164 u165 u166 u167 u168 u169 u170 u171 u172 u173 u174 u175 u176 u177 u178 u179 u180 u181 u182 u183 u184 u185 u186 u187 u188 u189 u190 u191 u192 u193 u194 u195 u196 u197 u198 u199 : Value}
    (h2 : ¬ 40 < A.length) (hApos : 0 < A.length) (HA : Hid (AnsRow w (.slice aa A.length ac) A)) (HAS : Hid (AnsSmall A)) (hfew : C.length ≤ 4000) (HOK : Hid (RunOk W1 bl A p W2 (.slice ca C.length cc) m C S)) (HB2 : Hid (Below w.heap.size w W2)) (HE2 : Hid (EnvP w.heap.size W2)) (HLO : Hid (Below W2.heap.size W2 wr)) (hlt : i < L.length)
    (HOR : Hid (OrderI (ansF A) (L.map (·.2)) C m.out m.closed i n o false))
    (ix1 : ∀ W : World, (Instr.indexAt 28 (.slice (some ⟨g1, o1, none⟩) L.length L.length) (.int .i64 (i : Int))).run Tryz.prog W = .ok (.pointer (some ⟨g1, b1, none⟩)) W)
    (y0 : wr.cell? ⟨g1, b1, none⟩ = some (.int .u8 (ev.cmd.verb : Int)))
    (y1 : wr.cell? ⟨g1, b1 + 1, none⟩ = some (.slice ka ev.cmd.keys.length kc))
    (y2 : wr.cell? ⟨g1, b1 + 2, none⟩ = some (.int .u8 (ev.cmd.cverb : Int)))
    (y3 : wr.cell? ⟨g1, b1 + 3, none⟩ = some (sv ev.cmd.key))
    (y4 : wr.cell? ⟨g1, b1 + 4, none⟩ = some (sv ev.cmd.value))
    (y5 : wr.cell? ⟨g1, b1 + 5, none⟩ = some (.int .u32 (ev.cmd.flags : Int)))
    (y6 : wr.cell? ⟨g1, b1 + 6, none⟩ = some (.int .i64 ev.cmd.exp))
    (y7 : wr.cell? ⟨g1, b1 + 7, none⟩ = some (.int .u64 (ev.cmd.id : Int)))
    (y8 : wr.cell? ⟨g1, b1 + 8, none⟩ = some (.int .u64 (ev.cmd.by' : Int)))
    (y9 : wr.cell? ⟨g1, b1 + 9, none⟩ = some (.int .i64 ev.cmd.bytes))
    (y10 : wr.cell? ⟨g1, b1 + 10, none⟩ = some (.bool ev.cmd.quiet))
    (y11 : wr.cell? ⟨g1, b1 + 11, none⟩ = some (sv ev.data))
    (y12 : wr.cell? ⟨g1, b1 + 12, none⟩ = some (.int .u8 (ev.told : Int)))
    (HE : Hid ((L.map (·.2))[i]? = some ev)) (HEC : Hid (EvC ev)) (HK1 : Hid (KeysAt wr (.slice ka ev.cmd.keys.length kc) ev.cmd.keys)) (HKL : Hid (ev.told = 0 → ev.cmd.keys.length ≤ 2048)) (_hnl : n ≤ C.length) (hol2 : o.length ≤ 100000000000) (HBX : Hid (∀ o1 : Obj, Below wr.heap.size wr (wr.alloc o1))) (hg1l : g1 < wr.heap.size) (hLs : L.length ≤ 4000)
    (h0 : ev.told = 0) (_h12 : ¬ ev.cmd.verb = 12) (h13 : ¬ ev.cmd.verb = 13) (hg : ev.cmd.verb = 1 ∨ ev.cmd.verb = 2)
    (hJ : ∀ (v4 v13 v14 v48 v49 v50 v51 v52 v53 v54 v55 v56 v57 v58 v59 v60 v61 v62 v63 v64 v65 v66 v67 v68 v69 v70 v71 v72 v73 v74 v75 v76 v77 v78 v79 v80 v81 v82 v83 v84 v85 v86 v87 v88 v89 v90 v91 v92 v93 v94 v95 v96 v97 v98 v99 v100 v101 v102 v103 v104 v105 v106 v107 v108 v109 v110 v111 v112 v113 v114 v115 v116 v117 v118 v119 v120 v121 v122 v123 v124 v125 v126 v127 v128 v129 v130 v131 v132 v133 v134 v135 v136 v137 v138 v139 v140 v141 v142 v143 v144 v145 v146 v147 v148 v149 v150 v151 v152 v153 v154 v155 v156 v157 v158 v159 v160 v161 v162 v163 v164 v165 v166 v167 v168 v169 v170 v171 v172 v173 v174 v175 v176 v177 v178 v179 v180 v181 v182 v183 v184 v185 v186 v187 v188 v189 v190 v191 v192 v193 v194 v195 v196 v197 v198 v199 : Value) (o' : List UInt8) (n' : Nat) (W' : World), OrderI (ansF A) (L.map (·.2)) C m.out m.closed (i + 1) n' o' false → Below W2.heap.size W2 W' → J ⟨#[.slice ba bl.length bc, .slice aa A.length ac, undef, undef, v4, c5, .slice (some ⟨g1, o1, none⟩) L.length L.length, c7, .slice ca C.length cc, sv o', .int .i64 (n' : Int), .bool false, .int .i64 ((i : Int) + 1), v13, v14, c15, c16, c17, c18, c19, c20, c21, c22, c23, c24, c25, c26, c27, c28, c29, c30, c31, c32, c33, c34, c35, c36, c37, c38, c39, c40, c41, c42, c43, c44, c45, c46, c47, v48, v49, v50, v51, v52, v53, v54, v55, v56, v57, v58, v59, v60, v61, v62, v63, v64, v65, v66, v67, v68, v69, v70, v71, v72, v73, v74, v75, v76, v77, v78, v79, v80, v81, v82, v83, v84, v85, v86, v87, v88, v89, v90, v91, v92, v93, v94, v95, v96, v97, v98, v99, v100, v101, v102, v103, v104, v105, v106, v107, v108, v109, v110, v111, v112, v113, v114, v115, v116, v117, v118, v119, v120, v121, v122, v123, v124, v125, v126, v127, v128, v129, v130, v131, v132, v133, v134, v135, v136, v137, v138, v139, v140, v141, v142, v143, v144, v145, v146, v147, v148, v149, v150, v151, v152, v153, v154, v155, v156, v157, v158, v159, v160, v161, v162, v163, v164, v165, v166, v167, v168, v169, v170, v171, v172, v173, v174, v175, v176, v177, v178, v179, v180, v181, v182, v183, v184, v185, v186, v187, v188, v189, v190, v191, v192, v193, v194, v195, v196, v197, v198, v199, c200, c201, c202, c203, c204, c205, c206, c207, c208, c209, c210, c211, c212, c213, c214, c215, c216, c217, c218], []⟩ W') :
    Code.wp Tryz.prog coBody (Exit.then J (Exit.inBlock 0 (Exit.then K0 (bodyPost Tryz.prog Tryz.f3 R0)))) ⟨#[.slice ba bl.length bc, .slice aa A.length ac, undef, undef, u4, c5, .slice (some ⟨g1, o1, none⟩) L.length L.length, c7, .slice ca C.length cc, sv o, .int .i64 (n : Int), .bool false, .int .i64 (i : Int), u13, u14, c15, c16, c17, c18, c19, c20, c21, c22, c23, c24, c25, c26, c27, c28, c29, c30, c31, c32, c33, c34, c35, c36, c37, c38, c39, c40, c41, c42, c43, c44, c45, c46, c47, u48, u49, u50, u51, u52, u53, u54, u55, u56, u57, u58, u59, u60, u61, u62, u63, u64, u65, u66, u67, u68, u69, u70, u71, u72, u73, u74, u75, u76, u77, u78, u79, u80, u81, u82, u83, u84, u85, u86, u87, u88, u89, u90, u91, u92, u93, u94, u95, u96, u97, u98, u99, u100, u101, u102, u103, u104, u105, u106, u107, u108, u109, u110, u111, u112, u113, u114, u115, u116, u117, u118, u119, u120, u121, u122, u123, u124, u125, u126, u127, u128, u129, u130, u131, u132, u133, u134, u135, u136, u137, u138, u139, u140, u141, u142, u143, u144, u145, u146, u147, u148, u149, u150, u151, u152, u153, u154, u155, u156, u157, u158, u159, u160, u161, u162, u163, u164, u165, u166, u167, u168, u169, u170, u171, u172, u173, u174, u175, u176, u177, u178, u179, u180, u181, u182, u183, u184, u185, u186, u187, u188, u189, u190, u191, u192, u193, u194, u195, u196, u197, u198, u199, c200, c201, c202, c203, c204, c205, c206, c207, c208, c209, c210, c211, c212, c213, c214, c215, c216, c217, c218], []⟩ wr := by
  have HJ := Lib.hid (show ∀ (v4 v13 v14 v48 v49 v50 v51 v52 v53 v54 v55 v56 v57 v58 v59 v60 v61 v62 v63 v64 v65 v66 v67 v68 v69 v70 v71 v72 v73 v74 v75 v76 v77 v78 v79 v80 v81 v82 v83 v84 v85 v86 v87 v88 v89 v90 v91 v92 v93 v94 v95 v96 v97 v98 v99 v100 v101 v102 v103 v104 v105 v106 v107 v108 v109 v110 v111 v112 v113 v114 v115 v116 v117 v118 v119 v120 v121 v122 v123 v124 v125 v126 v127 v128 v129 v130 v131 v132 v133 v134 v135 v136 v137 v138 v139 v140 v141 v142 v143 v144 v145 v146 v147 v148 v149 v150 v151 v152 v153 v154 v155 v156 v157 v158 v159 v160 v161 v162 v163 v164 v165 v166 v167 v168 v169 v170 v171 v172 v173 v174 v175 v176 v177 v178 v179 v180 v181 v182 v183 v184 v185 v186 v187 v188 v189 v190 v191 v192 v193 v194 v195 v196 v197 v198 v199 : Value) (o' : List UInt8) (n' : Nat) (W' : World), OrderI (ansF A) (L.map (·.2)) C m.out m.closed (i + 1) n' o' false → Below W2.heap.size W2 W' → J ⟨#[.slice ba bl.length bc, .slice aa A.length ac, undef, undef, v4, c5, .slice (some ⟨g1, o1, none⟩) L.length L.length, c7, .slice ca C.length cc, sv o', .int .i64 (n' : Int), .bool false, .int .i64 ((i : Int) + 1), v13, v14, c15, c16, c17, c18, c19, c20, c21, c22, c23, c24, c25, c26, c27, c28, c29, c30, c31, c32, c33, c34, c35, c36, c37, c38, c39, c40, c41, c42, c43, c44, c45, c46, c47, v48, v49, v50, v51, v52, v53, v54, v55, v56, v57, v58, v59, v60, v61, v62, v63, v64, v65, v66, v67, v68, v69, v70, v71, v72, v73, v74, v75, v76, v77, v78, v79, v80, v81, v82, v83, v84, v85, v86, v87, v88, v89, v90, v91, v92, v93, v94, v95, v96, v97, v98, v99, v100, v101, v102, v103, v104, v105, v106, v107, v108, v109, v110, v111, v112, v113, v114, v115, v116, v117, v118, v119, v120, v121, v122, v123, v124, v125, v126, v127, v128, v129, v130, v131, v132, v133, v134, v135, v136, v137, v138, v139, v140, v141, v142, v143, v144, v145, v146, v147, v148, v149, v150, v151, v152, v153, v154, v155, v156, v157, v158, v159, v160, v161, v162, v163, v164, v165, v166, v167, v168, v169, v170, v171, v172, v173, v174, v175, v176, v177, v178, v179, v180, v181, v182, v183, v184, v185, v186, v187, v188, v189, v190, v191, v192, v193, v194, v195, v196, v197, v198, v199, c200, c201, c202, c203, c204, c205, c206, c207, c208, c209, c210, c211, c212, c213, c214, c215, c216, c217, c218], []⟩ W' from hJ)
  clear hJ
  conv => arg 2; whnf
  obtain ⟨WO, rfl⟩ : ∃ WO, WO = wr := ⟨_, rfl⟩
  have hne : ((ev.told : Int) != 0) = false := by rw [bne_eq_false_iff_eq]; omega
  have hne1 : ((ev.cmd.verb : Int) == 12) = false := by rw [beq_eq_false_iff_ne]; omega
  have hne2 : ((ev.cmd.verb : Int) == 13) = false := by rw [beq_eq_false_iff_ne]; omega
  have hce := callsE_gets h0 hg
  have hkn : ev.cmd.keys ≠ [] := ev_keys HEC.out.ok h0 hg
  obtain ⟨hcj, hor2⟩ := HOR.out.calls HE.out (fun h => h13 h.2) (by rw [hce]; exact fun e => hkn (List.map_eq_nil_iff.1 e))
  rw [hce, List.length_map] at hor2
  have hkl := HKL.out h0
  obtain ⟨K, hK⟩ : ∃ K, K = ev.cmd.keys.length := ⟨_, rfl⟩
  have hK0 : 0 < K := by rw [hK]; exact List.length_pos_iff.2 hkn
  have htg : tellsM ev.cmd (ansF A) n K = valsM ev.cmd (ansF A) n K ++ endL := by
    obtain ⟨k', rfl⟩ : ∃ k', K = k' + 1 := ⟨K - 1, by omega⟩
    exact tells_gets hg (ansF A) k' n
  rw [← hK, htg] at hor2
  have HOR2 := Lib.hid hor2
  have HCJ := Lib.hid hcj
  have HCE := Lib.hid hce
  have HG := Lib.hid hg
  have HCV := Lib.hid (ev_cverb HEC.out.ok h0)
  have HKK := Lib.hid hK
  rw [← hK] at y1 hkl HK1
  clear hce hcj hor2 hkn hg htg hK h0 _h12 h13
  go_upto_if 143 with fail
  go_cut [143] (fun s143 wx => s143 = .bool true ∧ wx.heap[WO.heap.size]? = some (.cells #[.int .u8 (ev.cmd.verb : Int), .slice ka K kc, .int .u8 (ev.cmd.cverb : Int), sv ev.cmd.key, sv ev.cmd.value, .int .u32 (ev.cmd.flags : Int), .int .i64 ev.cmd.exp, .int .u64 (ev.cmd.id : Int), .int .u64 (ev.cmd.by' : Int), .int .i64 ev.cmd.bytes, .bool ev.cmd.quiet] 41 (0, 0)) ∧ Below WO.heap.size WO wx)
  case first =>
    rcases HG.out with h1 | h1
    · have e1 : ((ev.cmd.verb : Int) == 1) = true := by rw [beq_iff_eq]; omega
      rw [e1]
      clear h1 e1
      go_wp2_with fail
      go_meet
      case rel => exact ⟨rfl, (by show (World.alloc WO _).heap[WO.heap.size]? = _; rw [heap_at, if_pos rfl]), HBX.out _⟩
    · have e1 : ((ev.cmd.verb : Int) == 1) = false := by rw [beq_eq_false_iff_ne]; omega
      have e2 : ((ev.cmd.verb : Int) == 2) = true := by rw [beq_iff_eq]; omega
      rw [e1]
      clear h1 e1
      go_wp2_with fail
      go_meet
      case rel => exact ⟨rfl, (by show (World.alloc WO _).heap[WO.heap.size]? = _; rw [heap_at, if_pos rfl]), HBX.out _⟩
  case rest =>
    obtain ⟨rfl, hbox, hbw⟩ := hcut
    obtain ⟨W3, rfl⟩ : ∃ W3, W3 = wc := ⟨_, rfl⟩
    have HBW := Lib.hid hbw
    obtain ⟨pb, hpb⟩ : ∃ pb, pb = WO.heap.size := ⟨_, rfl⟩
    have HPB := Lib.hid (show pb < W3.heap.size by rw [hpb]; exact (Array.getElem?_eq_some_iff.1 hbox).1)
    have HBOX := Lib.hid (show W3.heap[pb]? = some (.cells #[.int .u8 (ev.cmd.verb : Int), .slice ka K kc, .int .u8 (ev.cmd.cverb : Int), sv ev.cmd.key, sv ev.cmd.value, .int .u32 (ev.cmd.flags : Int), .int .i64 ev.cmd.exp, .int .u64 (ev.cmd.id : Int), .int .u64 (ev.cmd.by' : Int), .int .i64 ev.cmd.bytes, .bool ev.cmd.quiet] 41 (0, 0)) by rw [hpb]; exact hbox)
    rw [← hpb]
    clear hne hne1 hne2 hbox hbw hpb y0 y1 y2 y3 y4 y5 y6 y7 y8 y9 y10 y11 y12 ix1 HBX
    go_wp2_with fail
    go_loopw [9, 10, 14] (fun s9 s10 s14 wr => ∃ (j N : Nat) (V : List UInt8), s9 = sv V ∧ s10 = .int .i64 (N : Int) ∧ s14 = .int .i64 (j : Int) ∧ j ≤ K ∧ ValsJ ev.cmd (ansF A) n j N o V ∧ Below W3.heap.size W3 wr) (fun _ _ s14 _ => K - (intOf s14).toNat)
    case atStart => exact ⟨0, n, o, rfl, rfl, rfl, Nat.zero_le _, ValsJ.start _ _ _ _, Below.refl _ _⟩
    case round =>
      obtain ⟨j, N, V, rfl, rfl, rfl, hj, hvj, hlo2⟩ := hrel
      have HVJ := Lib.hid hvj
      have HLO2 := Lib.hid hlo2
      have hNn : N = n + j := hvj.num
      have hbx2 : wr.heap[pb]? = some (.cells #[.int .u8 (ev.cmd.verb : Int), .slice ka K kc, .int .u8 (ev.cmd.cverb : Int), sv ev.cmd.key, sv ev.cmd.value, .int .u32 (ev.cmd.flags : Int), .int .i64 ev.cmd.exp, .int .u64 (ev.cmd.id : Int), .int .u64 (ev.cmd.by' : Int), .int .i64 ev.cmd.bytes, .bool ev.cmd.quiet] 41 (0, 0)) := by rw [hlo2.block _ HPB.out]; exact HBOX.out
      have v0 : wr.cell? ⟨pb, 0, none⟩ = some (.int .u8 (ev.cmd.verb : Int)) := (block_cell hbx2 0).1
      have v1 : wr.cell? ⟨pb, 1, none⟩ = some (.slice ka K kc) := (block_cell hbx2 1).1
      have v2 : wr.cell? ⟨pb, 2, none⟩ = some (.int .u8 (ev.cmd.cverb : Int)) := (block_cell hbx2 2).1
      have v3 : wr.cell? ⟨pb, 3, none⟩ = some (sv ev.cmd.key) := (block_cell hbx2 3).1
      have v4 : wr.cell? ⟨pb, 4, none⟩ = some (sv ev.cmd.value) := (block_cell hbx2 4).1
      have v5 : wr.cell? ⟨pb, 5, none⟩ = some (.int .u32 (ev.cmd.flags : Int)) := (block_cell hbx2 5).1
      have v6 : wr.cell? ⟨pb, 6, none⟩ = some (.int .i64 ev.cmd.exp) := (block_cell hbx2 6).1
      have v7 : wr.cell? ⟨pb, 7, none⟩ = some (.int .u64 (ev.cmd.id : Int)) := (block_cell hbx2 7).1
      have v8 : wr.cell? ⟨pb, 8, none⟩ = some (.int .u64 (ev.cmd.by' : Int)) := (block_cell hbx2 8).1
      have v9 : wr.cell? ⟨pb, 9, none⟩ = some (.int .i64 ev.cmd.bytes) := (block_cell hbx2 9).1
      have v10 : wr.cell? ⟨pb, 10, none⟩ = some (.bool ev.cmd.quiet) := (block_cell hbx2 10).1
      have hb3 : Below WO.heap.size WO wr := HBW.out.trans (hlo2.mono HBW.out.size)
      have hb4 : Below W2.heap.size W2 wr := HLO.out.trans (hb3.mono HLO.out.size)
      have HB4 := Lib.hid hb4
      have hVl : V.length ≤ 200000000000 := by
        have h := hvj.len (fun k => ((HAS.out.at k).1.item)) (fun k => (HAS.out.at k).2)
        omega
      by_cases hlt2 : j < K
      · obtain ⟨x, hx⟩ : ∃ x, ev.cmd.keys[j]? = some x := ⟨_, List.getElem?_eq_getElem (by rw [← HKK.out]; exact hlt2)⟩
        obtain ⟨gk, ok, ck, hs2, -, hck, -⟩ := (HK1.out.below hb3).at (k := j) (x := sv x) (by rw [List.getElem?_map, hx]; rfl)
        obtain ⟨rfl, -, -⟩ := slice_inj hs2
        have hc0 := HCJ.out j { ev.cmd with key := x } (by rw [HCE.out, List.getElem?_map, hx]; rfl)
        rw [← hNn] at hc0
        have hnC : N < C.length := (List.getElem?_eq_some_iff.1 hc0).1
        obtain ⟨g2, rfl, z0, z1, z2, z3, z4, z5, z6⟩ := callRow_cells (row_below HOK.out.row hb4) hc0
        have ix2 := fun W => idx_callC (a := some ⟨g2, 0, none⟩) (c := cc) rfl hnC W
        have ix3 := fun W => idx_str' (a := some ⟨gk, ok, none⟩) (c := kc) rfl hlt2 W
        obtain ⟨b2, hb2⟩ : ∃ b, b = N * 7 := ⟨_, rfl⟩
        rw [← hb2] at z0 z1 z2 z3 z4 z5 z6 ix2
        have hcv2 : ((ev.cmd.cverb : Int) != (ev.cmd.verb : Int)) = false := by rw [HCV.out]; simp
        have hge : decide (C.length ≤ N) = false := by rw [decide_eq_false_iff_not]; omega
        obtain ⟨q, hq⟩ : ∃ q, q = N % A.length := ⟨_, rfl⟩
        have hqlt : q < A.length := by rw [hq]; exact Nat.mod_lt _ (by omega)
        have hmod : ((N : Int)).tmod (A.length : Int) = (q : Int) := by rw [hq]; rfl
        have hmod2 : ((N : Int)) % (A.length : Int) = (q : Int) := by rw [hq]; rfl
        have hApos2 : (0 : Int) < (A.length : Int) := by omega
        have hAnil : ¬ A = [] := by intro e; rw [e] at hqlt; exact absurd hqlt (Nat.not_lt_zero _)
        obtain ⟨y, hy⟩ : ∃ y, A[q]? = some y := ⟨_, List.getElem?_eq_getElem hqlt⟩
        obtain ⟨ga, oa, ba2, rfl, hga, hba, -, a0, a1, a2, a3, a4, a5, a6, a7⟩ := (HA.out.below (HB2.out.trans (hb4.mono HB2.out.size))).at hy
        have ixa := fun W => idx_ans (a := some ⟨ga, oa, none⟩) (c := ac) rfl hqlt W
        rw [← hba] at ixa
        have HYF := Lib.hid (show y = ansF A (N) from by unfold ansF; rw [← hq, List.getD_eq_getElem?_getD, hy]; rfl)
        have HYO := Lib.hid (HAS.out.at (N))
        rw [← HYF.out] at HYO
        clear hq hy hba
        have hvj2 := hvj.step
        rw [← hNn, ← HYF.out] at hvj2
        obtain ⟨X, hX⟩ : ∃ X, X = valueOf ev.cmd.verb y.kind y.item := ⟨_, rfl⟩
        have hXl : X.length ≤ 2200000 := by rw [hX]; exact valueOf_len _ _ _ HYO.out.1.item HYO.out.2
        rw [← hX] at hvj2
        have HVJ2 := Lib.hid hvj2
        have HVAL := Lib.hid (fun W (hb : Below wr.heap.size wr W) => (show Calls Tryz.prog 15 #[.agg #[.int .u8 (ev.cmd.verb : Int), .slice (some ⟨gk, ok, none⟩) K kc, .int .u8 (ev.cmd.cverb : Int), sv ev.cmd.key, sv ev.cmd.value, .int .u32 (ev.cmd.flags : Int), .int .i64 ev.cmd.exp, .int .u64 (ev.cmd.id : Int), .int .u64 (ev.cmd.by' : Int), .int .i64 ev.cmd.bytes, .bool ev.cmd.quiet], y.val] W fun e' w' => e' = .returned (sv X) ∧ Below W.heap.size W w' from by
          have h := value_any (toD (some ⟨gk, ok, none⟩) K kc ev.cmd) y W HYO.out.1 HYO.out.2 (HE2.out.chg (M := fun _ => False) (Chg.of_below (HB4.out.trans (hb.mono HB4.out.size))) (fun _ e => e.elim)).pow
          rw [hX]
          exact h))
        obtain ⟨T, hT⟩ : ∃ T, T = V ++ X := ⟨_, rfl⟩
        have hcat : (⟨V.toArray⟩ : ByteArray) ++ ⟨X.toArray⟩ = ⟨T.toArray⟩ := by rw [hT]; exact ByteArray.ext (by simp)
        have hcl : ¬ 9223372036854775807 < V.length + X.length := by omega
        have HTT := Lib.hid hT
        have hN4 : N ≤ 4000 := by omega
        have HBX2 := Lib.hid hbx2
        clear hT hX hvj2 hvj hlo2 hNn hbx2 hb3 hb4 hs2 hc0 hb2 hnC hx
        go_upto_region 29 with fail
        go_cut [183] (fun s183 wx => s183 = .bool false ∧ wx.heap[pb]? = some (.cells #[.int .u8 (ev.cmd.verb : Int), .slice (some ⟨gk, ok, none⟩) K kc, .int .u8 (ev.cmd.cverb : Int), sv ev.cmd.key, sv ev.cmd.value, .int .u32 (ev.cmd.flags : Int), .int .i64 ev.cmd.exp, .int .u64 (ev.cmd.id : Int), .int .u64 (ev.cmd.by' : Int), .int .i64 ev.cmd.bytes, .bool ev.cmd.quiet] 41 (0, 0)) ∧ Below wr.heap.size wr wx)
        case first =>
          go_quiet (fail)
          go_wp2_with fail
          go_meet
          case rel => exact ⟨rfl, HBX2.out, clow_drewN (Below.refl _ _) _⟩
        case rest =>
          obtain ⟨rfl, hbox, hb0⟩ := hcut
          clear v0 v1 v2 v3 v4 v5 v6 v7 v8 v9 v10 z0 z1 z2 z3 z4 z5 z6 HBX2
          have v0 : wc.cell? ⟨pb, 0, none⟩ = some (.int .u8 (ev.cmd.verb : Int)) := (block_cell hbox 0).1
          have v1 : wc.cell? ⟨pb, 1, none⟩ = some (.slice (some ⟨gk, ok, none⟩) K kc) := (block_cell hbox 1).1
          have v2 : wc.cell? ⟨pb, 2, none⟩ = some (.int .u8 (ev.cmd.cverb : Int)) := (block_cell hbox 2).1
          have v3 : wc.cell? ⟨pb, 3, none⟩ = some (sv ev.cmd.key) := (block_cell hbox 3).1
          have v4 : wc.cell? ⟨pb, 4, none⟩ = some (sv ev.cmd.value) := (block_cell hbox 4).1
          have v5 : wc.cell? ⟨pb, 5, none⟩ = some (.int .u32 (ev.cmd.flags : Int)) := (block_cell hbox 5).1
          have v6 : wc.cell? ⟨pb, 6, none⟩ = some (.int .i64 ev.cmd.exp) := (block_cell hbox 6).1
          have v7 : wc.cell? ⟨pb, 7, none⟩ = some (.int .u64 (ev.cmd.id : Int)) := (block_cell hbox 7).1
          have v8 : wc.cell? ⟨pb, 8, none⟩ = some (.int .u64 (ev.cmd.by' : Int)) := (block_cell hbox 8).1
          have v9 : wc.cell? ⟨pb, 9, none⟩ = some (.int .i64 ev.cmd.bytes) := (block_cell hbox 9).1
          have v10 : wc.cell? ⟨pb, 10, none⟩ = some (.bool ev.cmd.quiet) := (block_cell hbox 10).1
          have HB0 := Lib.hid hb0
          have c0 := (hb0.cell (p := ⟨ga, ba2, none⟩) hga).trans a0
          have c1 := (hb0.cell (p := ⟨ga, ba2 + 1, none⟩) hga).trans a1
          have c2 := (hb0.cell (p := ⟨ga, ba2 + 2, none⟩) hga).trans a2
          have c3 := (hb0.cell (p := ⟨ga, ba2 + 3, none⟩) hga).trans a3
          have c4 := (hb0.cell (p := ⟨ga, ba2 + 4, none⟩) hga).trans a4
          have c5 := (hb0.cell (p := ⟨ga, ba2 + 5, none⟩) hga).trans a5
          have c6 := (hb0.cell (p := ⟨ga, ba2 + 6, none⟩) hga).trans a6
          have c7 := (hb0.cell (p := ⟨ga, ba2 + 7, none⟩) hga).trans a7
          clear hb0 hbox a0 a1 a2 a3 a4 a5 a6 a7
          go_wp2_with fail
          go_region_law (first
            | (refine step_call (by rfl) 15 #[.agg #[.int .u8 (ev.cmd.verb : Int), .slice (some ⟨gk, ok, none⟩) K kc, .int .u8 (ev.cmd.cverb : Int), sv ev.cmd.key, sv ev.cmd.value, .int .u32 (ev.cmd.flags : Int), .int .i64 ev.cmd.exp, .int .u64 (ev.cmd.id : Int), .int .u64 (ev.cmd.by' : Int), .int .i64 ev.cmd.bytes, .bool ev.cmd.quiet], y.val] (by go_simp) (HVAL.out _ HB0.out.drew) ?_; rintro e V1 ⟨rfl, hb1⟩; refine ⟨_, rfl, ?_⟩; have HB1 := Lib.hid (HB0.out.drew.trans (hb1.mono HB0.out.drew.size)); clear hb1 HVAL)
            | fail)
          all_goals go_wp2_with fail
          all_goals go_roundw
          all_goals first | (case rel => exact ⟨j + 1, N + 1, T, rfl, by go_num, by go_num, by omega, by rw [HTT.out]; exact HVJ2.out, HLO2.out.trans (HB1.out.mono HLO2.out.size)⟩) | skip
          all_goals first | (case measure => simp [intOf]; omega) | skip
      · have hjK : j = K := by omega
        have hlt3 : decide ((j : Int) < (K : Int)) = false := by rw [decide_eq_false_iff_not]; omega
        have hV := hvj.all
        rw [hjK] at hV
        have HNK := Lib.hid (show N = n + K by omega)
        obtain ⟨X, hX⟩ : ∃ X, X = endL := ⟨_, rfl⟩
        have hXl : X.length ≤ 200 := by rw [hX]; decide
        have HOF := Lib.hid (fun W => end_any W)
        rw [← hX] at HOF
        obtain ⟨T, hT⟩ : ∃ T, T = V ++ X := ⟨_, rfl⟩
        have hcat : (⟨V.toArray⟩ : ByteArray) ++ ⟨X.toArray⟩ = ⟨T.toArray⟩ := by rw [hT]; exact ByteArray.ext (by simp)
        have hcl : ¬ 9223372036854775807 < V.length + X.length := by omega
        have HTT := Lib.hid (show T = o ++ (valsM ev.cmd (ansF A) n K ++ endL) by rw [hT, hX, hV, List.append_assoc])
        clear hT hX hV hvj hlo2 hNn hbx2 hb3 hb4 hjK
        go_wp2_with fail
        refine (HOF.out _).mono ?_
        rintro e V1 ⟨rfl, hb1⟩
        have HB1 := Lib.hid (HB4.out.trans (hb1.mono HB4.out.size))
        clear hb1 HOF
        go_wp2_with fail
        exact HJ.out _ _ _ _ _ _ _ _ _ _ _ _ _ _ _ _ _ _ _ _ _ _ _ _ _ _ _ _ _ _ _ _ _ _ _ _ _ _ _ _ _ _ _ _ _ _ _ _ _ _ _ _ _ _ _ _ _ _ _ _ _ _ _ _ _ _ _ _ _ _ _ _ _ _ _ _ _ _ _ _ _ _ _ _ _ _ _ _ _ _ _ _ _ _ _ _ _ _ _ _ _ _ _ _ _ _ _ _ _ _ _ _ _ _ _ _ _ _ _ _ _ _ _ _ _ _ _ _ _ _ _ _ _ _ _ _ _ _ _ _ _ _ _ _ _ _ _ _ _ _ _ _ _ _ _ _ _ _ (by rw [HTT.out, HNK.out]; exact HOR2.out) HB1.out
end Go.Proofs.YtddifbimlmkcbaaGreatDoor

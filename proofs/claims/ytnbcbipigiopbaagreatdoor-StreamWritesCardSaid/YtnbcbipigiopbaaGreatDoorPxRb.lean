/-
  The reference's ext: its walk, part 2. No conditions but the arguments' bounds.
-/
import Derived.Test.YtnbcbipigiopbaaGreatDoorPxRc
namespace Go.Proofs.YtnbcbipigiopbaaGreatDoor
open Go.RowKit Go.WideShapes

/-- What is left behind the records' list. -/
def ExtTail (e : Ent) (w : World) (L : List (ByteArray × ByteArray)) (ui gi ts : Int) (nmv ck RV : ByteArray) (RE : Int) : Prop :=
  ∀ (W : World) (oa : Option Addr) (cp : Nat), ExS e w W (.slice oa L.length cp) L ui gi (e.dt.size : Int) ts → ∀ (c : Code), Tryz.f36.body.bind (partN 10) = some c → ∀ (v0 v1 v5 v6 v7 v9 v10 v12 v13 v14 v15 v16 v17 v18 v19 v20 v21 v22 v23 v24 v25 v26 v27 v28 v29 v30 v31 v32 v33 v34 v35 v36 v37 v38 v39 v40 v41 v42 v43 v44 v45 v46 v47 v48 v49 v50 v51 v52 v53 v54 v55 v56 v57 v58 v59 v60 v61 v62 v63 v64 v65 v66 v67 v68 v69 v70 v71 v72 v73 v74 v75 v76 v77 v78 v79 v80 v81 v82 v83 v84 v85 v86 v87 v88 v89 v90 v91 v92 v93 v94 v95 v96 v97 v98 v99 v100 v101 v102 v103 v104 v105 v106 v107 v108 v109 v110 v111 v112 v113 v114 v115 v116 v117 v118 v119 v120 v121 v122 v123 v124 v125 v126 v127 v128 v129 v130 v131 v132 v133 v134 v135 v136 v137 v138 v139 v140 v141 v142 v143 v144 v145 v146 v147 v148 v149 v150 v151 v152 v153 v154 v155 v156 v157 v158 v159 v160 v161 v162 v163 v164 v165 v166 v167 v168 v169 v170 v171 v172 v173 v174 v175 v176 v177 v178 v179 v180 v181 v182 v183 v184 v185 v186 v187 v188 v189 v190 v191 : Value),
    Code.wp Tryz.prog c (bodyPost Tryz.prog Tryz.f36 (fun x w' => x = .returned (.tuple #[.string RV, .int .i64 RE]) ∧ Ext w w')) { tmps := #[v0, v1, .string nmv, .pointer (some ⟨w.heap.size, 0, none⟩), .pointer (some ⟨w.heap.size + 1, 0, none⟩), v5, v6, v7, .slice oa L.length cp, v9, v10, .string ck, v12, v13, v14, v15, v16, v17, v18, v19, v20, v21, v22, v23, v24, v25, v26, v27, v28, v29, v30, v31, v32, v33, v34, v35, v36, v37, v38, v39, v40, v41, v42, v43, v44, v45, v46, v47, v48, v49, v50, v51, v52, v53, v54, v55, v56, v57, v58, v59, v60, v61, v62, v63, v64, v65, v66, v67, v68, v69, v70, v71, v72, v73, v74, v75, v76, v77, v78, v79, v80, v81, v82, v83, v84, v85, v86, v87, v88, v89, v90, v91, v92, v93, v94, v95, v96, v97, v98, v99, v100, v101, v102, v103, v104, v105, v106, v107, v108, v109, v110, v111, v112, v113, v114, v115, v116, v117, v118, v119, v120, v121, v122, v123, v124, v125, v126, v127, v128, v129, v130, v131, v132, v133, v134, v135, v136, v137, v138, v139, v140, v141, v142, v143, v144, v145, v146, v147, v148, v149, v150, v151, v152, v153, v154, v155, v156, v157, v158, v159, v160, v161, v162, v163, v164, v165, v166, v167, v168, v169, v170, v171, v172, v173, v174, v175, v176, v177, v178, v179, v180, v181, v182, v183, v184, v185, v186, v187, v188, v189, v190, v191], defers := [] } W
set_option maxHeartbeats 8000000 in
set_option maxRecDepth 100000 in
theorem refPax_b (e : Ent) (ok : e.Ok) (A S : Nat → Int) (w : World) (hp : IsPieces w (.slice e.pa e.pn e.pc) e.pn A S) (mo : MemOk e A S) (hdt : e.dt.size ≤ 4009) (fits : Bool) (na nb : ByteArray) (hv : splitV (namB e.kd e.nm) = .tuple #[.string na, .string nb, .bool fits])
    (sp : Bool) (hsp : spB e.sz e.dt e.pn = sp) (L : List (ByteArray × ByteArray)) (hL : recsL sp fits e.sz e.gi e.ui e.ts e.tn e.lk (namB e.kd e.nm) = L) (dat : ByteArray) (hdat : datV sp A S e.pn e.dt = dat) (h1 h2 : ByteArray) (k1 k2 : Int)
    (H1 : Wrn 4 ⟨#[]⟩ ⟨#[]⟩ 120 0 0 0 ((wrV L.length (keyF L) (valF L)).size : Int) 0 0 0 paxHd ⟨#[]⟩ h1 k1)
    (H2 : Wrn 4 e.us e.gr e.kd e.md (idV e.ui) (idV e.gi) (dat.size : Int) (tmV e.ts) e.ma e.mi (nmV fits (namB e.kd e.nm)) (cutB e.lk) h2 k2) (hm : HasMax w) (ht : HasPow w)
    {W : World} {oa : Option Addr} {cp : Nat} (LK : List (ByteArray × ByteArray)) (hLK : LK = addL (decide (100 < (e.lk.size : Int))) kLink e.lk (addL (decide (2097151 < e.gi)) kGid (itB e.gi) (addL sp kReal (itB e.sz) (addL sp kMin vZero (addL sp kMaj vOne []))))) (s5 : ExS e w W (.slice oa LK.length cp) LK e.ui (idV e.gi) (e.dt.size : Int) e.ts) (c : Code) (hc : Tryz.f36.body.bind (partN 7) = some c) {v0 v1 v5 v6 v7 v12 v13 v14 v15 v16 v17 v18 v19 v20 v21 v22 v23 v24 v25 v26 v27 v28 v29 v30 v31 v32 v33 v34 v35 v36 v37 v38 v39 v40 v41 v42 v43 v44 v45 v46 v47 v48 v49 v50 v51 v52 v53 v54 v55 v56 v57 v58 v59 v60 v61 v62 v63 v64 v65 v66 v67 v68 v69 v70 v71 v72 v73 v74 v75 v76 v77 v78 v79 v80 v81 v82 v83 v84 v85 v86 v87 v88 v89 v90 v91 v92 v93 v94 v95 v96 v97 v98 v99 v100 v101 v102 v103 v104 v105 v106 v107 v108 v109 v110 v111 v112 v113 v114 v115 v116 v117 v118 v119 v120 v121 v122 v123 v124 v125 v126 v127 v128 v129 v130 v131 v132 v133 v134 v135 v136 v137 v138 v139 v140 v141 v142 v143 v144 v145 v146 v147 v148 v149 v150 v151 v152 v153 v154 v155 v156 v157 v158 v159 v160 v161 v162 v163 v164 v165 v166 v167 v168 v169 v170 v171 v172 v173 v174 v175 v176 v177 v178 v179 v180 v181 v182 v183 v184 v185 v186 v187 v188 v189 v190 v191 : Value} :
    Code.wp Tryz.prog c (bodyPost Tryz.prog Tryz.f36 (fun x w' => x = .returned (.tuple #[.string (paxV L k1 k2 h1 h2 dat), .int .i64 (paxE L k1 k2)]) ∧ Ext w w')) { tmps := #[v0, v1, .string (namB e.kd e.nm), .pointer (some ⟨w.heap.size, 0, none⟩), .pointer (some ⟨w.heap.size + 1, 0, none⟩), v5, v6, v7, .slice oa LK.length cp, .int .i64 2097151, .int .i64 8589934591, .string (cutB e.lk), v12, v13, v14, v15, v16, v17, v18, v19, v20, v21, v22, v23, v24, v25, v26, v27, v28, v29, v30, v31, v32, v33, v34, v35, v36, v37, v38, v39, v40, v41, v42, v43, v44, v45, v46, v47, v48, v49, v50, v51, v52, v53, v54, v55, v56, v57, v58, v59, v60, v61, v62, v63, v64, v65, v66, v67, v68, v69, v70, v71, v72, v73, v74, v75, v76, v77, v78, v79, v80, v81, v82, v83, v84, v85, v86, v87, v88, v89, v90, v91, v92, v93, v94, v95, v96, v97, v98, v99, v100, v101, v102, v103, v104, v105, v106, v107, v108, v109, v110, v111, v112, v113, v114, v115, v116, v117, v118, v119, v120, v121, v122, v123, v124, v125, v126, v127, v128, v129, v130, v131, v132, v133, v134, v135, v136, v137, v138, v139, v140, v141, v142, v143, v144, v145, v146, v147, v148, v149, v150, v151, v152, v153, v154, v155, v156, v157, v158, v159, v160, v161, v162, v163, v164, v165, v166, v167, v168, v169, v170, v171, v172, v173, v174, v175, v176, v177, v178, v179, v180, v181, v182, v183, v184, v185, v186, v187, v188, v189, v190, v191], defers := [] } W := by
  have TL : ExtTail e w L (idV e.ui) (idV e.gi) (tmV e.ts) (nmV fits (namB e.kd e.nm)) (cutB e.lk) (paxV L k1 k2 h1 h2 dat) (paxE L k1 k2) := fun W oa cp s9 c hc v0 v1 v5 v6 v7 v9 v10 v12 v13 v14 v15 v16 v17 v18 v19 v20 v21 v22 v23 v24 v25 v26 v27 v28 v29 v30 v31 v32 v33 v34 v35 v36 v37 v38 v39 v40 v41 v42 v43 v44 v45 v46 v47 v48 v49 v50 v51 v52 v53 v54 v55 v56 v57 v58 v59 v60 v61 v62 v63 v64 v65 v66 v67 v68 v69 v70 v71 v72 v73 v74 v75 v76 v77 v78 v79 v80 v81 v82 v83 v84 v85 v86 v87 v88 v89 v90 v91 v92 v93 v94 v95 v96 v97 v98 v99 v100 v101 v102 v103 v104 v105 v106 v107 v108 v109 v110 v111 v112 v113 v114 v115 v116 v117 v118 v119 v120 v121 v122 v123 v124 v125 v126 v127 v128 v129 v130 v131 v132 v133 v134 v135 v136 v137 v138 v139 v140 v141 v142 v143 v144 v145 v146 v147 v148 v149 v150 v151 v152 v153 v154 v155 v156 v157 v158 v159 v160 v161 v162 v163 v164 v165 v166 v167 v168 v169 v170 v171 v172 v173 v174 v175 v176 v177 v178 v179 v180 v181 v182 v183 v184 v185 v186 v187 v188 v189 v190 v191 => refPax_c e ok A S w hp mo hdt fits na nb hv sp hsp L hL dat hdat h1 h2 k1 k2 H1 H2 hm ht s9 c hc
  have h6 := ok.pn
  have hns := namB_size e.kd e.nm
  have hnm := mo.nm
  have hlk := mo.lk
  have ht0 := mo.tn0
  have hls : ShortL L := by rw [← hL]; exact recsL_short mo.sz0 mo.sz1 mo.gi0 mo.gi1 mo.ui0 mo.ui1 (by omega) (by omega)
  have hll : L.length ≤ 8 := by rw [← hL]; exact recsL_len _ _ _ _ _ _ _ _ _
  have hwz := wrV_size hll
  have CW := Lib.hid (fun W v (h : IsPrs W v L) hp => refRecords_any W v L.length (keyF L) (valF L) (h.pairs hls (by omega)) (short_of hls) hp)
  obtain ⟨i0, hi, hz0, hz1, hz2⟩ := info_parts infoPair
  have c3 := fun w => refSparse_any e ok w
  rw [hsp] at c3
  have C3 := Lib.hid c3
  have c8 := fun w => refMost_any 8 w
  have c9 := fun w => refMost_any 12 w
  rw [mostE.1] at c8
  rw [mostE.2] at c9
  have CM8 := Lib.hid c8
  have CM9 := Lib.hid c9
  have c7 := fun w => within_rng e.ts 0 8589934591 w
  have c4 := fun w => refSplit_any (namB e.kd e.nm) (by omega) w
  rw [hv] at c4
  have C4 := Lib.hid c4
  have CT := Lib.hid (fun w ht => refText_any e.ts e.tn w ht)
  have IS := Lib.hid (fun w ht => itoa_any e.sz (by have := mo.sz0; omega) (by have := mo.sz1; omega) w ht)
  have IG := Lib.hid (fun w ht => itoa_any e.gi (by have := mo.gi0; omega) (by have := mo.gi1; omega) w ht)
  have IU := Lib.hid (fun w ht => itoa_any e.ui (by have := mo.ui0; omega) (by have := mo.ui1; omega) w ht)
  have IN := Lib.hid (fun w ht => itoa_any (e.pn : Int) (by omega) (by have := mo.n20; omega) w ht)
  have CI := Lib.hid (fun w => faultIs_any (wrE L.length (keyF L) (valF L)) (wrP L.length (keyF L) (valF L)) w)
  have Hz := Lib.hid (fun k hk => lnsB_size mo.n20 mo.pc k hk)
  have CF := Lib.hid (fun w => refFill_any (lnsB A S e.pn e.pn) (by have := mo.n20; have := lnsB_size mo.n20 mo.pc e.pn (Nat.le_refl _); omega) w)
  have hpd := padB_size (lnsB A S e.pn e.pn).size
  have hl00 : Hid (lnsB A S e.pn 0 = itB e.pn ++ ⟨#[10]⟩) := Lib.hid rfl
  have hi0 := itB_size e.pn (by omega) (by have := mo.n20; omega)
  have Hb := Lib.hid mo.pc
  have hn20 := mo.n20
  have hlz := linB_size mo.n20 mo.pc
  have hdz : dat.size ≤ 5300 := by rw [← hdat]; have := datV_size (sp := sp) (dt := e.dt) mo.n20 mo.pc; omega
  have c5 := (H2.2 dat (by omega)).2
  have c6 := (H1.2 (wrV L.length (keyF L) (valF L)) (by omega)).2
  have hz5 := wrnV_size (k := k2) (h := h2) (bs := dat) H2.1
  have hz6 := wrnV_size (k := k1) (h := h1) (bs := wrV L.length (keyF L) (valF L)) H1.1
  obtain ⟨uu, huu⟩ : ∃ u, u = idV e.ui := ⟨_, rfl⟩
  obtain ⟨ii, hii⟩ : ∃ u, u = idV e.gi := ⟨_, rfl⟩
  obtain ⟨tt, htt⟩ : ∃ u, u = tmV e.ts := ⟨_, rfl⟩
  rw [← huu, ← hii, ← htt] at c5 TL
  have hs5 := s5
  rw [← hii] at hs5
  clear s5
  have uuY : Hid (2097151 < e.ui → uu = 0) := Lib.hid (fun h => by rw [huu]; exact if_pos h)
  have uuN : Hid (¬ 2097151 < e.ui → uu = e.ui) := Lib.hid (fun h => by rw [huu]; exact if_neg h)
  have iiY : Hid (2097151 < e.gi → ii = 0) := Lib.hid (fun h => by rw [hii]; exact if_pos h)
  have iiN : Hid (¬ 2097151 < e.gi → ii = e.gi) := Lib.hid (fun h => by rw [hii]; exact if_neg h)
  obtain ⟨LS, hLS⟩ : ∃ l, l = addL sp kReal (itB e.sz) (addL sp kMin vZero (addL sp kMaj vOne [])) := ⟨_, rfl⟩
  obtain ⟨LG, hLG⟩ : ∃ l, l = addL (decide (2097151 < e.gi)) kGid (itB e.gi) LS := ⟨_, rfl⟩
  rw [← hLS, ← hLG] at hLK
  obtain ⟨LM, hLM⟩ : ∃ l, l = addL (mtB e.ts e.tn) kMtime (textV e.ts e.tn) LK := ⟨_, rfl⟩
  obtain ⟨LP, hLP⟩ : ∃ l, l = addL (!fits) kPath (namB e.kd e.nm) LM := ⟨_, rfl⟩
  have hLU : L = addL (decide (2097151 < e.ui)) kUid (itB e.ui) LP := by rw [← hL, hLP, hLM, hLK, hLG, hLS]; rfl
  have zS : LS.length ≤ 3 := by rw [hLS]; cases sp <;> simp [addL]
  have zG : LG.length ≤ 4 := by rw [hLG]; have := addL_len (decide (2097151 < e.gi)) kGid (itB e.gi) LS; omega
  have zK : LK.length ≤ 5 := by rw [hLK]; have := addL_len (decide (100 < (e.lk.size : Int))) kLink e.lk LG; omega
  have zM : LM.length ≤ 6 := by rw [hLM]; have := addL_len (mtB e.ts e.tn) kMtime (textV e.ts e.tn) LK; omega
  have zP : LP.length ≤ 7 := by rw [hLP]; have := addL_len (!fits) kPath (namB e.kd e.nm) LM; omega
  have AS : Hid ((sp = true → LS = [] ++ [(kMaj, vOne), (kMin, vZero), (kReal, itB e.sz)]) ∧ (sp = false → LS = [])) := Lib.hid ⟨fun h => by rw [hLS, h]; rfl, fun h => by rw [hLS, h]; rfl⟩
  have AG := Lib.hid (addL_is hLG)
  have AK := Lib.hid (addL_is hLK)
  have AM' := addL_is hLM
  have AP := Lib.hid (addL_is hLP)
  have AU := Lib.hid (addL_is hLU)
  have hmtT : e.tn = 0 → mtB e.ts e.tn = !(rngB e.ts 0 8589934591) := fun h => by unfold mtB; rw [h]; rfl
  have hmtF : 0 < e.tn → mtB e.ts e.tn = true := fun h => by
    have : (e.tn == 0) = false := by rw [beq_eq_false_iff_ne]; omega
    unfold mtB; rw [this]; rfl
  generalize hmt : mtB e.ts e.tn = mt at *
  have httv : tt = if rngB e.ts 0 8589934591 = true then e.ts else 0 := htt
  generalize hrg : rngB e.ts 0 8589934591 = rg at *
  have ttY : Hid (rg = false → tt = 0) := Lib.hid (fun h => by rw [httv, h]; rfl)
  have ttN : Hid (rg = true → tt = e.ts) := Lib.hid (fun h => by rw [httv, h]; rfl)
  have HmT := Lib.hid hmtT
  have HmF := Lib.hid hmtF
  have AM := Lib.hid AM'
  have C7 := Lib.hid c7
  clear huu hii htt httv hmt hrg hLS hLG hLK hLM hLP hLU hmtT hmtF AM' c7
  have hdT : sp = true → dat = linB A S e.pn ++ e.dt := fun h => by rw [← hdat, h]; rfl
  have hdF : sp = false → dat = e.dt := fun h => by rw [← hdat, h]; rfl
  have HdT := Lib.hid hdT
  have HdF := Lib.hid hdF
  have hnT : fits = true → nmV fits (namB e.kd e.nm) = namB e.kd e.nm := fun h => by rw [h]; rfl
  have hnF : fits = false → nmV fits (namB e.kd e.nm) = paxNm := fun h => by rw [h]; rfl
  have f1 : L.length ≠ 0 → wrE L.length (keyF L) (valF L) ≠ 0 → paxV L k1 k2 h1 h2 dat = ⟨#[]⟩ ∧ paxE L k1 k2 = 2 := fun a b => by
    have h : paxE1 L k1 = 2 := by unfold paxE1; rw [if_neg a, if_neg b]
    constructor
    · unfold paxV; rw [h, if_neg (by decide)]
    · unfold paxE; rw [h, if_neg (by decide)]
  have f2 : L.length ≠ 0 → wrE L.length (keyF L) (valF L) = 0 → k1 ≠ 0 → paxV L k1 k2 h1 h2 dat = ⟨#[]⟩ ∧ paxE L k1 k2 = k1 := fun a b c => by
    have h : paxE1 L k1 = k1 := by unfold paxE1; rw [if_neg a, if_pos b]
    constructor
    · unfold paxV; rw [h, if_neg c]
    · unfold paxE; rw [h, if_neg c]
  have f3 : L.length = 0 → paxO L k1 h1 = ⟨#[]⟩ ∧ paxE1 L k1 = 0 := fun a => ⟨by unfold paxO; rw [if_pos a], by unfold paxE1; rw [if_pos a]⟩
  have f4 : L.length ≠ 0 → wrE L.length (keyF L) (valF L) = 0 → k1 = 0 → paxO L k1 h1 = wrnV k1 h1 (wrV L.length (keyF L) (valF L)) ∧ paxE1 L k1 = 0 := fun a b c => ⟨by unfold paxO; rw [if_neg a], by unfold paxE1; rw [if_neg a, if_pos b, c]⟩
  have f5 : paxE1 L k1 = 0 → k2 = 0 → paxV L k1 k2 h1 h2 dat = paxO L k1 h1 ++ wrnV k2 h2 dat ∧ paxE L k1 k2 = 0 := fun a b => ⟨by unfold paxV; rw [if_pos a, if_pos b], by unfold paxE; rw [if_pos a, b]⟩
  have f6 : paxE1 L k1 = 0 → k2 ≠ 0 → paxV L k1 k2 h1 h2 dat = ⟨#[]⟩ ∧ paxE L k1 k2 = k2 := fun a b => ⟨by unfold paxV; rw [if_pos a, if_neg b], by unfold paxE; rw [if_pos a]⟩
  have hoz : (paxO L k1 h1).size ≤ 4000 := by
    unfold paxO
    split
    · show 0 ≤ _
      omega
    · omega
  have F1 := Lib.hid f1
  have F2 := Lib.hid f2
  have F3 := Lib.hid f3
  have F4 := Lib.hid f4
  have F5 := Lib.hid f5
  have F6 := Lib.hid f6
  clear f1 f2 f3 f4 f5 f6 hdT hdF
  generalize paxV L k1 k2 h1 h2 dat = RV at *
  generalize paxE L k1 k2 = RE at *
  generalize paxE1 L k1 = E1 at *
  generalize paxO L k1 h1 = RO at *
  generalize wrV L.length (keyF L) (valF L) = WV at *
  generalize wrE L.length (keyF L) (valF L) = WE at *
  generalize wrP L.length (keyF L) (valF L) = WP at *
  generalize nmV fits (namB e.kd e.nm) = nmv at *
  generalize namB e.kd e.nm = NM at *
  have HnT := Lib.hid hnT
  have HnF := Lib.hid hnF
  have hcS : e.lk.size ≤ 100 → cutB e.lk = e.lk := fun h => cutB_short h
  have hcL : ¬ e.lk.size ≤ 100 → cutB e.lk = e.lk.extract 0 100 := fun h => cutB_long h
  have HcS := Lib.hid hcS
  have HcL := Lib.hid hcL
  generalize cutB e.lk = ck at *
  have C6 := Lib.hid c6
  generalize hll0 : L.length = ln at *
  have HLL := Lib.hid hll0
  have HP := Lib.hid hp
  generalize wrnV k2 h2 dat = V2 at *
  generalize wrnV k1 h1 WV = V1 at *
  have HlN : Hid (linB A S e.pn = lnsB A S e.pn e.pn ++ padB (lnsB A S e.pn e.pn).size) := Lib.hid rfl
  generalize linB A S e.pn = LN at *
  generalize padB (lnsB A S e.pn e.pn).size = PD at *
  generalize textV e.ts e.tn = TX at *
  unfold itB at *
  clear hcS hcL hnT hnF c3 c4 c6 c8 c9 H1 H2 hdat hL hsp hv hls hp hll0 mo
  have s5 := hs5
  clear hs5
  cases hc
  try dsimp only
  have cts : _ = some (Value.int .i64 e.ts) := row_cell s5.ent (i := 6) rfl
  have ctn : _ = some (Value.int .i64 e.tn) := row_cell s5.ent (i := 7) rfl
  have clt := lt_of_block s5.ent
  go_upto_region 12 with fail
  go_cut [76] (fun s wx => s = .bool mt ∧ wx = W)
  case first =>
    by_cases hg : 0 < e.tn
    · have q : decide (0 < e.tn) = true := decide_eq_true hg
      go_wp2_with fail
      go_meet
      exact ⟨by rw [HmF.out hg], rfl⟩
    · have q : decide (0 < e.tn) = false := decide_eq_false hg
      go_wp2_with ((with_reducible refine (C7.out _).mono ?_); rintro x w0 ⟨rfl, rfl⟩)
      go_meet
      exact ⟨by rw [HmT.out (by omega)], rfl⟩
  case rest =>
    obtain ⟨rfl, hw9⟩ := hcut
    rw [hw9]
    clear hw9
    go_upto_if 76 with fail
    go_cut [8] (fun v wx => ExS e w wx v LM e.ui ii (e.dt.size : Int) tt)
    case first =>
      cases hmv : mt with
      | true =>
        go_wp2_with fail
        refine (CT.out _ (ht.ext s5.ext)).mono ?_; rintro x wi ⟨rfl, hxi⟩
        have s2 := s5.go hxi
        clear cts ctn clt
        have hlA := lt_of_block s2.ent
        go_wp2_with (at_builtin; refine wpList_append_own _ rfl _ _ 29 rfl (w.heap.size + 2) 53 i0 (.agg #[.string ByteArray.empty, .string ByteArray.empty]) 2 32 Tryz.underlying29 hi hz0 hz1 hz2 rfl (by decide) _ _ _ rfl (s2.own.alloc _) ⟨wi.heap.size, 0, none⟩ 1 1 [.string kMtime, .string TX] rfl rfl ?c1 ?c2 ?c3 ?c4 ?c5 ?_)
        case c1 =>
          intro j u hj
          match j, hj with
          | 0, hj => simp at hj; subst hj; first | (simp [Addr.add]; done) | (simp [Addr.add]; rfl)
          | 1, hj => simp at hj; subst hj; first | (simp [Addr.add]; done) | (simp [Addr.add]; rfl)
        case c2 => intro u hu; simp at hu; rcases hu with rfl | rfl <;> rfl
        case c3 => first | (unfold maxLen; omega) | simp [maxLen]
        case c4 => first | omega | simp
        case c5 => simp; omega
        intro v' w3 hown3 hgrow _
        have hN := s2.grow _ hgrow (len_app LK [(kMtime, TX)] rfl rfl) hown3
        clear hown3 hgrow hlA
        rw [← AM.out.1 hmv] at hN
        obtain ⟨oa', cp', rfl⟩ := ownP_open hN.own
        have cts : _ = some (Value.int .i64 e.ts) := row_cell hN.ent (i := 6) rfl
        have clt := lt_of_block hN.ent
        have cr : _ = some (Value.int .i64 e.ts) := row_cell hN.raw (i := 10) rfl
        have fr := row_free hN.raw (i := 10)
        have clr := lt_of_block hN.raw
        cases hr : rg with
        | true =>
          rw [hr] at C7
          go_wp2_with ((with_reducible refine (C7.out _).mono ?_); rintro x w0 ⟨rfl, rfl⟩)
          go_meet
          exact by rw [ttN.out hr]; exact hN
        | false =>
          rw [hr] at C7
          go_wp2_with ((with_reducible refine (C7.out _).mono ?_); rintro x w0 ⟨rfl, rfl⟩)
          go_meet
          exact by
            rw [ttY.out hr]
            exact hN.set 10 _ rfl
      | false =>
        have hr : rg = true := by
          by_cases hg : 0 < e.tn
          · have := HmF.out hg
            rw [hmv] at this
            cases this
          · have := HmT.out (by omega)
            rw [hmv] at this
            cases rg
            · cases this
            · rfl
        go_wp2_with fail
        go_meet
        exact by rw [AM.out.2 hmv, ttN.out hr]; exact s5
    case rest =>
      clear s5 cts ctn clt
      obtain ⟨oa, cp, rfl⟩ := ownP_open hcut.own
      have s6 := hcut
      clear hcut
      go_wp2_with fail
      refine (C4.out _).mono ?_; rintro x wp ⟨rfl, hxp⟩
      have s7 := s6.go hxp
      clear s6 hxp
      go_upto_if 102 with fail
      go_cut [8, 2, 16] (fun v n _ wx => n = .string nmv ∧ ExS e w wx v LP e.ui ii (e.dt.size : Int) tt)
      case first =>
        cases hf : fits with
        | true =>
          go_wp2_with fail
          go_meet
          exact ⟨by rw [HnT.out hf], by rw [AP.out.2 (by rw [hf]; rfl)]; exact s7⟩
        | false =>
          have hlA := lt_of_block s7.ent
          go_wp2_with (at_builtin; refine wpList_append_own _ rfl _ _ 29 rfl (w.heap.size + 2) 53 i0 (.agg #[.string ByteArray.empty, .string ByteArray.empty]) 2 32 Tryz.underlying29 hi hz0 hz1 hz2 rfl (by decide) _ _ _ rfl (s7.own.alloc _) ⟨wp.heap.size, 0, none⟩ 1 1 [.string kPath, .string NM] rfl rfl ?c1 ?c2 ?c3 ?c4 ?c5 ?_)
          case c1 =>
            intro j u hj
            match j, hj with
            | 0, hj => simp at hj; subst hj; first | (simp [Addr.add]; done) | (simp [Addr.add]; rfl)
            | 1, hj => simp at hj; subst hj; first | (simp [Addr.add]; done) | (simp [Addr.add]; rfl)
          case c2 => intro u hu; simp at hu; rcases hu with rfl | rfl <;> rfl
          case c3 => first | (unfold maxLen; omega) | simp [maxLen]
          case c4 => first | omega | simp
          case c5 => simp; omega
          intro v' w3 hown3 hgrow _
          have hN := s7.grow _ hgrow (len_app LM [(kPath, NM)] rfl rfl) hown3
          clear hown3 hgrow hlA
          rw [← AP.out.1 (by rw [hf]; rfl)] at hN
          obtain ⟨oa', cp', rfl⟩ := ownP_open hN.own
          go_wp2_with fail
          go_meet
          exact ⟨by rw [HnF.out hf]; rfl, hN⟩
      case rest =>
        clear s7
        obtain ⟨rfl, s8⟩ := hcut
        obtain ⟨oa, cp, rfl⟩ := ownP_open s8.own
        have cg : _ = some (Value.int .i64 e.ui) := row_cell s8.ent (i := 3) rfl
        have clg := lt_of_block s8.ent
        go_upto_if 111 with fail
        go_cut [8] (fun v wx => ExS e w wx v L uu ii (e.dt.size : Int) tt)
        case first =>
          by_cases hg : 2097151 < e.ui
          · have q : decide (2097151 < e.ui) = true := decide_eq_true hg
            go_wp2_with fail
            refine (IU.out _ (ht.ext s8.ext)).mono ?_; rintro x wi ⟨rfl, hxi⟩
            have s2 := s8.go hxi
            clear cg clg
            have hlA := lt_of_block s2.ent
            go_wp2_with (at_builtin; refine wpList_append_own _ rfl _ _ 29 rfl (w.heap.size + 2) 53 i0 (.agg #[.string ByteArray.empty, .string ByteArray.empty]) 2 32 Tryz.underlying29 hi hz0 hz1 hz2 rfl (by decide) _ _ _ rfl (s2.own.alloc _) ⟨wi.heap.size, 0, none⟩ 1 1 [.string kUid, .string ⟨(Lib.itoa e.ui).toArray⟩] rfl rfl ?c1 ?c2 ?c3 ?c4 ?c5 ?_)
            case c1 =>
              intro j u hj
              match j, hj with
              | 0, hj => simp at hj; subst hj; first | (simp [Addr.add]; done) | (simp [Addr.add]; rfl)
              | 1, hj => simp at hj; subst hj; first | (simp [Addr.add]; done) | (simp [Addr.add]; rfl)
            case c2 => intro u hu; simp at hu; rcases hu with rfl | rfl <;> rfl
            case c3 => first | (unfold maxLen; omega) | simp [maxLen]
            case c4 => first | omega | simp
            case c5 => simp; omega
            intro v' w3 hown3 hgrow _
            have hN := s2.grow _ hgrow (len_app LP [(kUid, ⟨(Lib.itoa e.ui).toArray⟩)] rfl rfl) hown3
            clear hown3 hgrow hlA
            rw [← AU.out.1 q] at hN
            obtain ⟨oa', cp', rfl⟩ := ownP_open hN.own
            have cr : _ = some (Value.int .i64 e.ui) := row_cell hN.raw (i := 7) rfl
            have fr := row_free hN.raw (i := 7)
            have clr := lt_of_block hN.raw
            go_wp2_with fail
            go_meet
            exact by
              rw [uuY.out hg]
              exact hN.set 7 _ rfl
          · have q : decide (2097151 < e.ui) = false := decide_eq_false hg
            go_wp2_with fail
            go_meet
            exact by rw [AU.out.2 q, uuN.out hg]; exact s8
        case rest =>
          clear s8 cg clg
          obtain ⟨oa, cp, rfl⟩ := ownP_open hcut.own
          have s9 := hcut
          clear hcut
          go_step
          refine TL _ _ _ s9 _ rfl _ _ _ _ _ _ _ _ _ _ _ _ _ _ _ _ _ _ _ _ _ _ _ _ _ _ _ _ _ _ _ _ _ _ _ _ _ _ _ _ _ _ _ _ _ _ _ _ _ _ _ _ _ _ _ _ _ _ _ _ _ _ _ _ _ _ _ _ _ _ _ _ _ _ _ _ _ _ _ _ _ _ _ _ _ _ _ _ _ _ _ _ _ _ _ _ _ _ _ _ _ _ _ _ _ _ _ _ _ _ _ _ _ _ _ _ _ _ _ _ _ _ _ _ _ _ _ _ _ _ _ _ _ _ _ _ _ _ _ _ _ _ _ _ _ _ _ _ _ _ _ _ _ _ _ _ _ _ _ _ _ _ _ _ _ _ _ _ _ _ _ _ _ _ _ _ _ _ _ _ _ _ _ _ _ _ _
end Go.Proofs.YtnbcbipigiopbaaGreatDoor

/-
  The reference's ext: its walk, part 3. No conditions but the arguments' bounds.
-/
import Derived.Test.YtnbcbipigiopbaaGreatDoorPxV
import Derived.Test.YtnbcbipigiopbaaGreatDoorPkN
import Derived.Test.YtnbcbipigiopbaaGreatDoorTextRef
import Derived.Test.YtnbcbipigiopbaaGreatDoorFis
namespace Go.Proofs.YtnbcbipigiopbaaGreatDoor
open Go.RowKit Go.WideShapes

/-- What stands meanwhile: the header's fields and the member in blocks of their own, the records a list of the call's own. -/
structure ExS (e : Ent) (w W : World) (v : Value) (L : List (ByteArray × ByteArray)) (ui gi sz ts : Int) : Prop where
  ext : Ext w W
  raw : W.heap[w.heap.size]? = some (.cells (rawA ⟨#[]⟩ ⟨#[]⟩ e.us e.gr ⟨#[]⟩ e.kd e.md ui gi sz ts e.ma e.mi) 59 (0, 0))
  ent : W.heap[w.heap.size + 1]? = some (.cells #[.string e.nm, .int .u8 e.kd, .int .i64 e.md, .int .i64 e.ui, .int .i64 e.gi, .int .i64 e.sz, .int .i64 e.ts, .int .i64 e.tn, .string e.lk, .string e.us, .string e.gr, .int .i64 e.ma, .int .i64 e.mi, .string e.dt, .slice e.pa e.pn e.pc] 26 (0, 0))
  own : W.ownsRow (w.heap.size + 2) 53 2 v L.length (cellsB L)
variable {e : Ent} {w W W' : World} {v v' : Value} {L L' : List (ByteArray × ByteArray)} {ui gi sz ts : Int}
theorem ExS.go (h : ExS e w W v L ui gi sz ts) (hE : Ext W W') : ExS e w W' v L ui gi sz ts :=
  ⟨h.ext.trans hE, (hE.block _ (lt_of_block h.raw)).trans h.raw, (hE.block _ (lt_of_block h.ent)).trans h.ent, ownP_ext h.own hE⟩
theorem ExS.grow (h : ExS e w W v L ui gi sz ts) (o : Obj) (hg : (W.alloc o).grownBy W' v.ownBlock) {n : Nat} {xs : List Value} (hL : L'.length = n ∧ cellsB L' = xs) (ho : W'.ownsRow (w.heap.size + 2) 53 2 v' n xs) : ExS e w W' v' L' ui gi sz ts := by
  have hl := lt_of_block h.ent
  have h1 : Below (w.heap.size + 2) W (W.alloc o) := below_le (by omega) ((Ext.refl W).alloc o)
  have hb : Below (w.heap.size + 2) W W' := Below.grown h1 hg (by simp; omega) (fun j hj => ownP_ge h.own (Nat.le_refl _) j hj)
  refine ⟨Below.trans h.ext (below_le (by omega) hb), (hb.block _ (by omega)).trans h.raw, (hb.block _ (by omega)).trans h.ent, ?_⟩
  rw [hL.1, hL.2]
  exact ho
theorem len_app (L l : List (ByteArray × ByteArray)) {n : Nat} {xs : List Value} (h1 : l.length = n) (h2 : cellsB l = xs) : (L ++ l).length = L.length + n ∧ cellsB (L ++ l) = cellsB L ++ xs := ⟨by rw [List.length_append, h1], by rw [cellsB_append, h2]⟩
theorem ExS.set (h : ExS e w W v L ui gi sz ts) (i : Nat) (u : Value) {ui' gi' sz' ts' : Int} (hr : (rawA ⟨#[]⟩ ⟨#[]⟩ e.us e.gr ⟨#[]⟩ e.kd e.md ui gi sz ts e.ma e.mi).setIfInBounds i u = rawA ⟨#[]⟩ ⟨#[]⟩ e.us e.gr ⟨#[]⟩ e.kd e.md ui' gi' sz' ts' e.ma e.mi) : ExS e w (W.setCell ⟨w.heap.size, i, none⟩ u) v L ui' gi' sz' ts' :=
  ⟨h.ext.setCell (Nat.le_refl _) _, (cells_setCell h.raw).trans (by rw [hr]), by rw [heap_setCell_other _ _ _ _ (by simp)]; exact h.ent, ownsRow_setCell_below h.own (by show w.heap.size < w.heap.size + 2; omega) _⟩
theorem ExS.start (e : Ent) (w : World) : ExS e w ((w.alloc (.cells #[.string ⟨#[]⟩, .string ⟨#[]⟩, .string e.us, .string e.gr, .string ⟨#[]⟩, .int .u8 e.kd, .int .i64 e.md, .int .i64 e.ui, .int .i64 e.gi, .int .i64 (e.dt.size : Int), .int .i64 e.ts, .int .i64 e.ma, .int .i64 e.mi] 59)).alloc (.cells #[.string e.nm, .int .u8 e.kd, .int .i64 e.md, .int .i64 e.ui, .int .i64 e.gi, .int .i64 e.sz, .int .i64 e.ts, .int .i64 e.tn, .string e.lk, .string e.us, .string e.gr, .int .i64 e.ma, .int .i64 e.mi, .string e.dt, .slice e.pa e.pn e.pc] 26)) (.slice none 0 0) [] e.ui e.gi (e.dt.size : Int) e.ts := by
  refine ⟨((Ext.refl w).alloc _).alloc _, ?_, ?_, ?_⟩
  · exact (((Ext.refl _).alloc _).block _ (by simp)).trans (World.alloc_heap_new w _)
  · have := World.alloc_heap_new (w.alloc (.cells #[.string ⟨#[]⟩, .string ⟨#[]⟩, .string e.us, .string e.gr, .string ⟨#[]⟩, .int .u8 e.kd, .int .i64 e.md, .int .i64 e.ui, .int .i64 e.gi, .int .i64 (e.dt.size : Int), .int .i64 e.ts, .int .i64 e.ma, .int .i64 e.mi] 59)) (.cells #[.string e.nm, .int .u8 e.kd, .int .i64 e.md, .int .i64 e.ui, .int .i64 e.gi, .int .i64 e.sz, .int .i64 e.ts, .int .i64 e.tn, .string e.lk, .string e.us, .string e.gr, .int .i64 e.ma, .int .i64 e.mi, .string e.dt, .slice e.pa e.pn e.pc] 26)
    rw [World.size_alloc] at this
    exact this
  · exact World.ownsRow_nil _ _ _ _
theorem ent_at {b : Nat} (h : W.heap[b]? = some (.cells #[.string e.nm, .int .u8 e.kd, .int .i64 e.md, .int .i64 e.ui, .int .i64 e.gi, .int .i64 e.sz, .int .i64 e.ts, .int .i64 e.tn, .string e.lk, .string e.us, .string e.gr, .int .i64 e.ma, .int .i64 e.mi, .string e.dt, .slice e.pa e.pn e.pc] 26 (0, 0))) :
    (W.cell? ⟨b, 0, none⟩ = some (.string e.nm) ∧ W.cell? ⟨b, 1, none⟩ = some (.int .u8 e.kd) ∧ W.cell? ⟨b, 2, none⟩ = some (.int .i64 e.md) ∧ W.cell? ⟨b, 3, none⟩ = some (.int .i64 e.ui) ∧ W.cell? ⟨b, 4, none⟩ = some (.int .i64 e.gi) ∧ W.cell? ⟨b, 5, none⟩ = some (.int .i64 e.sz) ∧ W.cell? ⟨b, 6, none⟩ = some (.int .i64 e.ts) ∧ W.cell? ⟨b, 7, none⟩ = some (.int .i64 e.tn) ∧ W.cell? ⟨b, 8, none⟩ = some (.string e.lk) ∧ W.cell? ⟨b, 9, none⟩ = some (.string e.us) ∧ W.cell? ⟨b, 10, none⟩ = some (.string e.gr) ∧ W.cell? ⟨b, 11, none⟩ = some (.int .i64 e.ma) ∧ W.cell? ⟨b, 12, none⟩ = some (.int .i64 e.mi) ∧ W.cell? ⟨b, 13, none⟩ = some (.string e.dt) ∧ W.cell? ⟨b, 14, none⟩ = some (.slice e.pa e.pn e.pc)) ∧ b < W.heap.size :=
  ⟨⟨row_cell h rfl, row_cell h rfl, row_cell h rfl, row_cell h rfl, row_cell h rfl, row_cell h rfl, row_cell h rfl, row_cell h rfl, row_cell h rfl, row_cell h rfl, row_cell h rfl, row_cell h rfl, row_cell h rfl, row_cell h rfl, row_cell h rfl⟩, lt_of_block h⟩
theorem addL_is {b : Bool} {k v : ByteArray} {l l' : List (ByteArray × ByteArray)} (h : l' = addL b k v l) : (b = true → l' = l ++ [(k, v)]) ∧ (b = false → l' = l) := by
  subst h
  exact ⟨fun hb => by rw [hb]; rfl, fun hb => by rw [hb]; rfl⟩
/-- What is left of a sequence behind its first n. -/
def partN : Nat → Code → Option Code
  | 0, c => some c
  | n + 1, .seq _ b => partN n b
  | _ + 1, _ => none

set_option maxHeartbeats 8000000 in
set_option maxRecDepth 100000 in
theorem refPax_c (e : Ent) (ok : e.Ok) (A S : Nat → Int) (w : World) (hp : IsPieces w (.slice e.pa e.pn e.pc) e.pn A S) (mo : MemOk e A S) (hdt : e.dt.size ≤ 4009) (fits : Bool) (na nb : ByteArray) (hv : splitV (namB e.kd e.nm) = .tuple #[.string na, .string nb, .bool fits])
    (sp : Bool) (hsp : spB e.sz e.dt e.pn = sp) (L : List (ByteArray × ByteArray)) (hL : recsL sp fits e.sz e.gi e.ui e.ts e.tn e.lk (namB e.kd e.nm) = L) (dat : ByteArray) (hdat : datV sp A S e.pn e.dt = dat) (h1 h2 : ByteArray) (k1 k2 : Int)
    (H1 : Wrn 4 ⟨#[]⟩ ⟨#[]⟩ 120 0 0 0 ((wrV L.length (keyF L) (valF L)).size : Int) 0 0 0 paxHd ⟨#[]⟩ h1 k1)
    (H2 : Wrn 4 e.us e.gr e.kd e.md (idV e.ui) (idV e.gi) (dat.size : Int) (tmV e.ts) e.ma e.mi (nmV fits (namB e.kd e.nm)) (cutB e.lk) h2 k2) (hm : HasMax w) (ht : HasPow w)
    {W : World} {oa : Option Addr} {cp : Nat} (s9 : ExS e w W (.slice oa L.length cp) L (idV e.ui) (idV e.gi) (e.dt.size : Int) (tmV e.ts)) (c : Code) (hc : Tryz.f36.body.bind (partN 10) = some c) {v0 v1 v5 v6 v7 v9 v10 v12 v13 v14 v15 v16 v17 v18 v19 v20 v21 v22 v23 v24 v25 v26 v27 v28 v29 v30 v31 v32 v33 v34 v35 v36 v37 v38 v39 v40 v41 v42 v43 v44 v45 v46 v47 v48 v49 v50 v51 v52 v53 v54 v55 v56 v57 v58 v59 v60 v61 v62 v63 v64 v65 v66 v67 v68 v69 v70 v71 v72 v73 v74 v75 v76 v77 v78 v79 v80 v81 v82 v83 v84 v85 v86 v87 v88 v89 v90 v91 v92 v93 v94 v95 v96 v97 v98 v99 v100 v101 v102 v103 v104 v105 v106 v107 v108 v109 v110 v111 v112 v113 v114 v115 v116 v117 v118 v119 v120 v121 v122 v123 v124 v125 v126 v127 v128 v129 v130 v131 v132 v133 v134 v135 v136 v137 v138 v139 v140 v141 v142 v143 v144 v145 v146 v147 v148 v149 v150 v151 v152 v153 v154 v155 v156 v157 v158 v159 v160 v161 v162 v163 v164 v165 v166 v167 v168 v169 v170 v171 v172 v173 v174 v175 v176 v177 v178 v179 v180 v181 v182 v183 v184 v185 v186 v187 v188 v189 v190 v191 : Value} :
    Code.wp Tryz.prog c (bodyPost Tryz.prog Tryz.f36 (fun x w' => x = .returned (.tuple #[.string (paxV L k1 k2 h1 h2 dat), .int .i64 (paxE L k1 k2)]) ∧ Ext w w')) { tmps := #[v0, v1, .string (nmV fits (namB e.kd e.nm)), .pointer (some ⟨w.heap.size, 0, none⟩), .pointer (some ⟨w.heap.size + 1, 0, none⟩), v5, v6, v7, .slice oa L.length cp, v9, v10, .string (cutB e.lk), v12, v13, v14, v15, v16, v17, v18, v19, v20, v21, v22, v23, v24, v25, v26, v27, v28, v29, v30, v31, v32, v33, v34, v35, v36, v37, v38, v39, v40, v41, v42, v43, v44, v45, v46, v47, v48, v49, v50, v51, v52, v53, v54, v55, v56, v57, v58, v59, v60, v61, v62, v63, v64, v65, v66, v67, v68, v69, v70, v71, v72, v73, v74, v75, v76, v77, v78, v79, v80, v81, v82, v83, v84, v85, v86, v87, v88, v89, v90, v91, v92, v93, v94, v95, v96, v97, v98, v99, v100, v101, v102, v103, v104, v105, v106, v107, v108, v109, v110, v111, v112, v113, v114, v115, v116, v117, v118, v119, v120, v121, v122, v123, v124, v125, v126, v127, v128, v129, v130, v131, v132, v133, v134, v135, v136, v137, v138, v139, v140, v141, v142, v143, v144, v145, v146, v147, v148, v149, v150, v151, v152, v153, v154, v155, v156, v157, v158, v159, v160, v161, v162, v163, v164, v165, v166, v167, v168, v169, v170, v171, v172, v173, v174, v175, v176, v177, v178, v179, v180, v181, v182, v183, v184, v185, v186, v187, v188, v189, v190, v191], defers := [] } W := by
  have h6 := ok.pn
  have hns := namB_size e.kd e.nm
  have hnm := mo.nm
  have hlk := mo.lk
  have ht0 := mo.tn0
  have hls : ShortL L := by rw [← hL]; exact recsL_short mo.sz0 mo.sz1 mo.gi0 mo.gi1 mo.ui0 mo.ui1 (by omega) (by omega)
  have hll : L.length ≤ 8 := by rw [← hL]; exact recsL_len _ _ _ _ _ _ _ _ _
  have hwz := wrV_size hll
  have CW := Lib.hid (fun W v (h : IsPrs W v L) hp => refRecords_any W v L.length (keyF L) (valF L) (h.pairs hls (by omega)) (short_of hls) hp)
  obtain ⟨i0, hi, hz0, hz1, hz2⟩ := info_parts infoPair
  have c3 := fun w => refSparse_any e ok w
  rw [hsp] at c3
  have C3 := Lib.hid c3
  have c8 := fun w => refMost_any 8 w
  have c9 := fun w => refMost_any 12 w
  rw [mostE.1] at c8
  rw [mostE.2] at c9
  have CM8 := Lib.hid c8
  have CM9 := Lib.hid c9
  have c7 := fun w => within_rng e.ts 0 8589934591 w
  have c4 := fun w => refSplit_any (namB e.kd e.nm) (by omega) w
  rw [hv] at c4
  have C4 := Lib.hid c4
  have CT := Lib.hid (fun w ht => refText_any e.ts e.tn w ht)
  have IS := Lib.hid (fun w ht => itoa_any e.sz (by have := mo.sz0; omega) (by have := mo.sz1; omega) w ht)
  have IG := Lib.hid (fun w ht => itoa_any e.gi (by have := mo.gi0; omega) (by have := mo.gi1; omega) w ht)
  have IU := Lib.hid (fun w ht => itoa_any e.ui (by have := mo.ui0; omega) (by have := mo.ui1; omega) w ht)
  have IN := Lib.hid (fun w ht => itoa_any (e.pn : Int) (by omega) (by have := mo.n20; omega) w ht)
  have CI := Lib.hid (fun w => faultIs_any (wrE L.length (keyF L) (valF L)) (wrP L.length (keyF L) (valF L)) w)
  have Hz := Lib.hid (fun k hk => lnsB_size mo.n20 mo.pc k hk)
  have CF := Lib.hid (fun w => refFill_any (lnsB A S e.pn e.pn) (by have := mo.n20; have := lnsB_size mo.n20 mo.pc e.pn (Nat.le_refl _); omega) w)
  have hpd := padB_size (lnsB A S e.pn e.pn).size
  have hl00 : Hid (lnsB A S e.pn 0 = itB e.pn ++ ⟨#[10]⟩) := Lib.hid rfl
  have hi0 := itB_size e.pn (by omega) (by have := mo.n20; omega)
  have Hb := Lib.hid mo.pc
  have hn20 := mo.n20
  have hlz := linB_size mo.n20 mo.pc
  have hdz : dat.size ≤ 5300 := by rw [← hdat]; have := datV_size (sp := sp) (dt := e.dt) mo.n20 mo.pc; omega
  have c5 := (H2.2 dat (by omega)).2
  have c6 := (H1.2 (wrV L.length (keyF L) (valF L)) (by omega)).2
  have hz5 := wrnV_size (k := k2) (h := h2) (bs := dat) H2.1
  have hz6 := wrnV_size (k := k1) (h := h1) (bs := wrV L.length (keyF L) (valF L)) H1.1
  obtain ⟨uu, huu⟩ : ∃ u, u = idV e.ui := ⟨_, rfl⟩
  obtain ⟨ii, hii⟩ : ∃ u, u = idV e.gi := ⟨_, rfl⟩
  obtain ⟨tt, htt⟩ : ∃ u, u = tmV e.ts := ⟨_, rfl⟩
  rw [← huu, ← hii, ← htt] at c5 s9
  have uuY : Hid (2097151 < e.ui → uu = 0) := Lib.hid (fun h => by rw [huu]; exact if_pos h)
  have uuN : Hid (¬ 2097151 < e.ui → uu = e.ui) := Lib.hid (fun h => by rw [huu]; exact if_neg h)
  have iiY : Hid (2097151 < e.gi → ii = 0) := Lib.hid (fun h => by rw [hii]; exact if_pos h)
  have iiN : Hid (¬ 2097151 < e.gi → ii = e.gi) := Lib.hid (fun h => by rw [hii]; exact if_neg h)
  obtain ⟨LS, hLS⟩ : ∃ l, l = addL sp kReal (itB e.sz) (addL sp kMin vZero (addL sp kMaj vOne [])) := ⟨_, rfl⟩
  obtain ⟨LG, hLG⟩ : ∃ l, l = addL (decide (2097151 < e.gi)) kGid (itB e.gi) LS := ⟨_, rfl⟩
  obtain ⟨LK, hLK⟩ : ∃ l, l = addL (decide (100 < (e.lk.size : Int))) kLink e.lk LG := ⟨_, rfl⟩
  obtain ⟨LM, hLM⟩ : ∃ l, l = addL (mtB e.ts e.tn) kMtime (textV e.ts e.tn) LK := ⟨_, rfl⟩
  obtain ⟨LP, hLP⟩ : ∃ l, l = addL (!fits) kPath (namB e.kd e.nm) LM := ⟨_, rfl⟩
  have hLU : L = addL (decide (2097151 < e.ui)) kUid (itB e.ui) LP := by rw [← hL, hLP, hLM, hLK, hLG, hLS]; rfl
  have zS : LS.length ≤ 3 := by rw [hLS]; cases sp <;> simp [addL]
  have zG : LG.length ≤ 4 := by rw [hLG]; have := addL_len (decide (2097151 < e.gi)) kGid (itB e.gi) LS; omega
  have zK : LK.length ≤ 5 := by rw [hLK]; have := addL_len (decide (100 < (e.lk.size : Int))) kLink e.lk LG; omega
  have zM : LM.length ≤ 6 := by rw [hLM]; have := addL_len (mtB e.ts e.tn) kMtime (textV e.ts e.tn) LK; omega
  have zP : LP.length ≤ 7 := by rw [hLP]; have := addL_len (!fits) kPath (namB e.kd e.nm) LM; omega
  have AS : Hid ((sp = true → LS = [] ++ [(kMaj, vOne), (kMin, vZero), (kReal, itB e.sz)]) ∧ (sp = false → LS = [])) := Lib.hid ⟨fun h => by rw [hLS, h]; rfl, fun h => by rw [hLS, h]; rfl⟩
  have AG := Lib.hid (addL_is hLG)
  have AK := Lib.hid (addL_is hLK)
  have AM' := addL_is hLM
  have AP := Lib.hid (addL_is hLP)
  have AU := Lib.hid (addL_is hLU)
  have hmtT : e.tn = 0 → mtB e.ts e.tn = !(rngB e.ts 0 8589934591) := fun h => by unfold mtB; rw [h]; rfl
  have hmtF : 0 < e.tn → mtB e.ts e.tn = true := fun h => by
    have : (e.tn == 0) = false := by rw [beq_eq_false_iff_ne]; omega
    unfold mtB; rw [this]; rfl
  generalize hmt : mtB e.ts e.tn = mt at *
  have httv : tt = if rngB e.ts 0 8589934591 = true then e.ts else 0 := htt
  generalize hrg : rngB e.ts 0 8589934591 = rg at *
  have ttY : Hid (rg = false → tt = 0) := Lib.hid (fun h => by rw [httv, h]; rfl)
  have ttN : Hid (rg = true → tt = e.ts) := Lib.hid (fun h => by rw [httv, h]; rfl)
  have HmT := Lib.hid hmtT
  have HmF := Lib.hid hmtF
  have AM := Lib.hid AM'
  have C7 := Lib.hid c7
  clear huu hii htt httv hmt hrg hLS hLG hLK hLM hLP hLU hmtT hmtF AM' c7
  have hdT : sp = true → dat = linB A S e.pn ++ e.dt := fun h => by rw [← hdat, h]; rfl
  have hdF : sp = false → dat = e.dt := fun h => by rw [← hdat, h]; rfl
  have HdT := Lib.hid hdT
  have HdF := Lib.hid hdF
  have hnT : fits = true → nmV fits (namB e.kd e.nm) = namB e.kd e.nm := fun h => by rw [h]; rfl
  have hnF : fits = false → nmV fits (namB e.kd e.nm) = paxNm := fun h => by rw [h]; rfl
  have f1 : L.length ≠ 0 → wrE L.length (keyF L) (valF L) ≠ 0 → paxV L k1 k2 h1 h2 dat = ⟨#[]⟩ ∧ paxE L k1 k2 = 2 := fun a b => by
    have h : paxE1 L k1 = 2 := by unfold paxE1; rw [if_neg a, if_neg b]
    constructor
    · unfold paxV; rw [h, if_neg (by decide)]
    · unfold paxE; rw [h, if_neg (by decide)]
  have f2 : L.length ≠ 0 → wrE L.length (keyF L) (valF L) = 0 → k1 ≠ 0 → paxV L k1 k2 h1 h2 dat = ⟨#[]⟩ ∧ paxE L k1 k2 = k1 := fun a b c => by
    have h : paxE1 L k1 = k1 := by unfold paxE1; rw [if_neg a, if_pos b]
    constructor
    · unfold paxV; rw [h, if_neg c]
    · unfold paxE; rw [h, if_neg c]
  have f3 : L.length = 0 → paxO L k1 h1 = ⟨#[]⟩ ∧ paxE1 L k1 = 0 := fun a => ⟨by unfold paxO; rw [if_pos a], by unfold paxE1; rw [if_pos a]⟩
  have f4 : L.length ≠ 0 → wrE L.length (keyF L) (valF L) = 0 → k1 = 0 → paxO L k1 h1 = wrnV k1 h1 (wrV L.length (keyF L) (valF L)) ∧ paxE1 L k1 = 0 := fun a b c => ⟨by unfold paxO; rw [if_neg a], by unfold paxE1; rw [if_neg a, if_pos b, c]⟩
  have f5 : paxE1 L k1 = 0 → k2 = 0 → paxV L k1 k2 h1 h2 dat = paxO L k1 h1 ++ wrnV k2 h2 dat ∧ paxE L k1 k2 = 0 := fun a b => ⟨by unfold paxV; rw [if_pos a, if_pos b], by unfold paxE; rw [if_pos a, b]⟩
  have f6 : paxE1 L k1 = 0 → k2 ≠ 0 → paxV L k1 k2 h1 h2 dat = ⟨#[]⟩ ∧ paxE L k1 k2 = k2 := fun a b => ⟨by unfold paxV; rw [if_pos a, if_neg b], by unfold paxE; rw [if_pos a]⟩
  have hoz : (paxO L k1 h1).size ≤ 4000 := by
    unfold paxO
    split
    · show 0 ≤ _
      omega
    · omega
  have F1 := Lib.hid f1
  have F2 := Lib.hid f2
  have F3 := Lib.hid f3
  have F4 := Lib.hid f4
  have F5 := Lib.hid f5
  have F6 := Lib.hid f6
  clear f1 f2 f3 f4 f5 f6 hdT hdF
  generalize paxV L k1 k2 h1 h2 dat = RV at *
  generalize paxE L k1 k2 = RE at *
  generalize paxE1 L k1 = E1 at *
  generalize paxO L k1 h1 = RO at *
  generalize wrV L.length (keyF L) (valF L) = WV at *
  generalize wrE L.length (keyF L) (valF L) = WE at *
  generalize wrP L.length (keyF L) (valF L) = WP at *
  generalize nmV fits (namB e.kd e.nm) = nmv at *
  generalize namB e.kd e.nm = NM at *
  have HnT := Lib.hid hnT
  have HnF := Lib.hid hnF
  have hcS : e.lk.size ≤ 100 → cutB e.lk = e.lk := fun h => cutB_short h
  have hcL : ¬ e.lk.size ≤ 100 → cutB e.lk = e.lk.extract 0 100 := fun h => cutB_long h
  have HcS := Lib.hid hcS
  have HcL := Lib.hid hcL
  generalize cutB e.lk = ck at *
  have C6 := Lib.hid c6
  generalize hll0 : L.length = ln at *
  have HLL := Lib.hid hll0
  have HP := Lib.hid hp
  generalize wrnV k2 h2 dat = V2 at *
  generalize wrnV k1 h1 WV = V1 at *
  have HlN : Hid (linB A S e.pn = lnsB A S e.pn e.pn ++ padB (lnsB A S e.pn e.pn).size) := Lib.hid rfl
  generalize linB A S e.pn = LN at *
  generalize padB (lnsB A S e.pn e.pn).size = PD at *
  generalize textV e.ts e.tn = TX at *
  unfold itB at *
  clear hcS hcL hnT hnF c3 c4 c6 c8 c9 H1 H2 hdat hL hsp hv hls hp hll0 mo
  generalize (⟨(Lib.itoa (e.pn : Int)).toArray⟩ : ByteArray) = ib at *
  cases hc
  have HPr := Lib.hid (IsPrs.ofOwns s9.own)
  go_upto_if 122 with fail
  go_cut [17] (fun s wx => s = .string RO ∧ Hid (E1 = 0) ∧ ExS e w wx (.slice oa ln cp) L uu ii (e.dt.size : Int) tt)
  case first =>
    by_cases hl0 : ln = 0
    · have q0 : decide ((0 : Int) < (ln : Int)) = false := decide_eq_false (by omega)
      obtain ⟨o1, o2⟩ := F3.out hl0
      have q0n : decide (0 < ln) = false := decide_eq_false (by omega)
      have q0p : ¬ 0 < ln := by omega
      clear hl0
      go_wp2_with fail
      go_meet
      exact ⟨by rw [o1], Lib.hid o2, s9⟩
    · have q0 : decide ((0 : Int) < (ln : Int)) = true := decide_eq_true (by omega)
      have hcw := fun hp => CW.out _ _ HPr.out hp
      try rw [HLL.out] at hcw
      go_wp2_with fail
      refine (hcw (ht.ext s9.ext)).mono ?_; rintro x wB ⟨rfl, hxB⟩
      clear hcw
      by_cases hw : WE = 0
      · have HF4 := Lib.hid (F4.out hl0 hw)
        have HF2 := Lib.hid (F2.out hl0 hw)
        have qw : (WE == 0) = true := by rw [hw]; rfl
        rw [qw] at CI
        clear F1 F2 F3 F4 F5 F6 hw
        go_wp2_with fail
        refine (CI.out _).mono ?_; rintro x wI ⟨rfl, hxI⟩
        have hxx := (hxB.alloc _).trans hxI
        go_wp2_with fail
        refine (C6.out _ (hm.ext (s9.ext.trans hxx))).mono ?_; rintro x wC ⟨rfl, hxC⟩
        have s10 := s9.go (hxx.trans hxC)
        by_cases hk : k1 = 0
        · obtain ⟨o1, o2⟩ := HF4.out hk
          rw [hk]
          clear HF2 HF4
          go_wp2_with fail
          go_meet
          exact ⟨by rw [o1], Lib.hid o2, s10⟩
        · have HO := Lib.hid (HF2.out hk)
          have qk : (k1 == 0) = false := by simpa using hk
          clear HF2 HF4 hk
          go_wp2_with fail
          go_ret2
          exact ⟨by rw [HO.out.1, HO.out.2]; rfl, s10.ext⟩
      · have HO := Lib.hid (F1.out hl0 hw)
        have qw : (WE == 0) = false := by simpa using hw
        rw [qw] at CI
        clear F1 F2 F3 F4 F5 F6 hw
        go_wp2_with fail
        refine (CI.out _).mono ?_; rintro x wI ⟨rfl, hxI⟩
        go_wp2_with fail
        go_ret2
        exact ⟨by rw [HO.out.1, HO.out.2]; rfl, s9.ext.trans ((hxB.alloc _).trans hxI)⟩
  case rest =>
    obtain ⟨rfl, hE1z, s10⟩ := hcut
    clear F1 F2 F3 F4 CW HPr s9
    obtain ⟨⟨g0, g1, g2, g3, g4, g5, g6, g7, g8, g9, g10, g11, g12, g13, g14⟩, gl⟩ := ent_at s10.ent
    go_wp2_with fail
    refine (C3.out _).mono ?_; rintro x wT ⟨rfl, hxT⟩
    clear g0 g1 g2 g3 g4 g5 g6 g7 g8 g9 g10 g11 g12 g13 g14 gl
    have s11 := s10.go hxT
    clear s10 hxT
    go_upto_if 146 with fail
    go_cut [22] (fun s wx => s = .string dat ∧ ExS e w wx (.slice oa ln cp) L uu ii (dat.size : Int) tt)
    case first =>
      cases hs : sp with
      | true =>
        have cpp : _ = some (Value.slice e.pa e.pn e.pc) := row_cell s11.ent (i := 14) rfl
        have clp := lt_of_block s11.ent
        go_wp2_with fail
        refine (IN.out _ (ht.ext s11.ext)).mono ?_; rintro x wi ⟨rfl, hxi⟩
        have s12 := s11.go hxi
        clear s11 cpp clp
        have cpp : _ = some (Value.slice e.pa e.pn e.pc) := row_cell s12.ent (i := 14) rfl
        have clp := lt_of_block s12.ent
        go_wp2_with fail
        go_loopw [23, 155] (fun s i wr => ∃ j : Nat, j ≤ e.pn ∧ s = .string (lnsB A S e.pn j) ∧ i = .int .i64 (j : Int) ∧ ExS e w wr (.slice oa ln cp) L uu ii (e.dt.size : Int) tt) (fun _ i _ => e.pn - (intOf i).toNat)
        case atStart => exact ⟨0, Nat.zero_le _, by rw [hl00.out], rfl, s12⟩
        case round =>
          obtain ⟨j, hj, rfl, rfl, sj⟩ := hrel
          have hz := Hz.out j hj
          have hE := sj.ext
          clear cpp clp
          by_cases hlt : j < e.pn
          · have hb := Hb.out j hlt
            have C1 := Lib.hid (fun w ht => itoa_any (A j) (by omega) (by omega) w ht)
            have C2 := Lib.hid (fun w ht => itoa_any (S j) (by omega) (by omega) w ht)
            have z1 := itB_size (A j) (by omega) (by omega)
            have z2 := itB_size (S j) (by omega) (by omega)
            have hst : Hid (lnsB A S e.pn (j + 1) = lnsB A S e.pn j ++ (itB (A j) ++ ⟨#[10]⟩ ++ itB (S j) ++ ⟨#[10]⟩)) := Lib.hid rfl
            have hzz : (lnsB A S e.pn j).size ≤ 1000 := by omega
            rcases HP.out.ext hE with ⟨_, h0⟩ | ⟨b, off, cap', hv, _, hcells⟩
            · omega
            · simp only [Value.slice.injEq] at hv
              obtain ⟨hpa, _, hpc⟩ := hv
              rw [hpa, hpc]
              obtain ⟨g1, g2⟩ := hcells j hlt
              have sa := sj.go ((Ext.refl _).alloc (.cells #[.int .i64 (A j), .int .i64 (S j)] 141))
              clear hcells HP CF hz Hz Hb hb
              unfold itB at hst z1 z2
              generalize lnsB A S e.pn j = R at *
              generalize (⟨(Lib.itoa (A j)).toArray⟩ : ByteArray) = d1 at *
              generalize (⟨(Lib.itoa (S j)).toArray⟩ : ByteArray) = d2 at *
              generalize A j = aj at *
              generalize S j = sj' at *
              go_wp2_with fail
              refine wp_region_det (Stood _) (by kernel_rfl) (by kernel_rfl) (Stood.start _) ?_
              repeat (first
                | (refine det_skip (by rfl) ?_; simp only [Act.put, List.setIfInBounds_toArray, List.set_cons_zero, List.set_cons_succ])
                | (refine det_op (v := ?_) rfl (by rfl) (fun w' hS => ?_) ?_; rotate_left; (focus (obtain ⟨hcl, hxt⟩ := hS; go_wp2_with (first | ((with_reducible refine (C1.out _ (ht.ext (sa.ext.trans hxt))).mono ?_); rintro e w1 ⟨rfl, hx1⟩) | ((with_reducible refine (C2.out _ (ht.ext (sa.ext.trans hxt))).mono ?_); rintro e w1 ⟨rfl, hx1⟩)); (first | refine ⟨?_, rfl, hcl, hxt⟩ | refine ⟨?_, rfl, Stood.of (hxt.trans (by assumption))⟩); (first | (simp only [List.getElem?_toArray, List.getElem?_cons_succ, List.getElem?_cons_zero]; rfl) | rfl))); simp only [Act.put, List.setIfInBounds_toArray, List.set_cons_zero, List.set_cons_succ]))
              refine det_end ?_
              intro w4 hS
              have hx4 := hS.2
              clear hS
              go_wp2_with fail
              go_roundw
              case rel => exact ⟨j + 1, hlt, by rw [hst.out], by go_num, sa.go hx4⟩
              case measure => simp [intOf]; omega
          · obtain rfl : j = e.pn := by omega
            clear Hb Hz
            have hd9 := HdT.out hs
            have hln := HlN.out
            rw [hln] at hd9
            generalize lnsB A S e.pn e.pn = R at *
            go_wp2_with fail
            refine (CF.out _).mono ?_; rintro x w2 ⟨rfl, hx2⟩
            have s13 := sj.go hx2
            have cr : _ = some (Value.int .i64 (e.dt.size : Int)) := row_cell s13.raw (i := 9) rfl
            have fr := row_free s13.raw (i := 9)
            have clr := lt_of_block s13.raw
            have cd : _ = some (Value.string e.dt) := row_cell s13.ent (i := 13) rfl
            have hz9 : (R ++ PD).size + e.dt.size ≤ 5300 := by rw [hd9, ByteArray.size_append] at hdz; exact hdz
            have Hd9 := Lib.hid hd9
            clear hd9 hln
            go_wp2_with fail
            go_meet
            exact ⟨by rw [Hd9.out], s13.set 9 _ (by rw [Hd9.out, ByteArray.size_append, ByteArray.size_append]; first | rfl | (simp only [Int.natCast_add]; rfl))⟩
      | false =>
        have cd : _ = some (Value.string e.dt) := row_cell s11.ent (i := 13) rfl
        go_wp2_with fail
        go_meet
        exact ⟨by rw [HdF.out hs], by rw [HdF.out hs]; exact s11⟩
    case rest =>
      clear s11
      obtain ⟨rfl, s14⟩ := hcut
      obtain ⟨⟨r0, r1, r2, r3, r4, r5, r6, r7, r8, r9, r10, r11, r12⟩, rl⟩ := rawA_box s14.raw
      by_cases hk2 : k2 = 0
      · have HO := Lib.hid (F5.out hE1z.out hk2)
        rw [hk2] at c5
        have C5 := Lib.hid c5
        clear F5 F6 c5
        go_wp2_with fail
        refine (C5.out _ (hm.ext s14.ext)).mono ?_; rintro x wC ⟨rfl, hxC⟩
        go_wp2_with fail
        go_ret2
        exact ⟨by rw [HO.out.1, HO.out.2]; rfl, s14.ext.trans hxC⟩
      · have HO := Lib.hid (F6.out hE1z.out hk2)
        have C5 := Lib.hid c5
        have qk : (k2 == 0) = false := by simpa using hk2
        clear F5 F6 c5 hk2
        go_wp2_with fail
        refine (C5.out _ (hm.ext s14.ext)).mono ?_; rintro x wC ⟨rfl, hxC⟩
        go_wp2_with fail
        go_ret2
        exact ⟨by rw [HO.out.1, HO.out.2]; rfl, s14.ext.trans hxC⟩
end Go.Proofs.YtnbcbipigiopbaaGreatDoor

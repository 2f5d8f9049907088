/-
  A header's bytes: fields put into a block of zeros and fields set one behind the other seal to the same header. Plain; no conditions but the fields' lengths.
-/
import Derived.Test.YtbofobakphlpbaaGreatDoorHeadV
import Derived.Test.YtbofobakphlpbaaGreatDoorHeadP
namespace Go.Proofs.YtbofobakphlpbaaGreatDoor
open Go.RowKit Go.PlainAid

def z16V : ByteArray := ⟨(List.replicate 16 (0 : UInt8)).toArray⟩
def z12V : ByteArray := ⟨(List.replicate 12 (0 : UInt8)).toArray⟩
/-- The fields one behind the other. -/
def headS (kd : Int) (z16 : ByteArray) (v7 : Bool) (p0 p1 p2 p3 p4 t0 t1 t2 t3 t4 t5 t6 mg : ByteArray) : ByteArray :=
  p0 ++ t0 ++ t1 ++ t2 ++ t3 ++ t4 ++ ⟨#[32, 32, 32, 32, 32, 32, 32, 32]⟩ ++ ⟨#[UInt8.ofNat kd.toNat]⟩ ++ p1 ++ mg ++ p2 ++ p3 ++ (if v7 then z16 else t5 ++ t6) ++ (p4 ++ z12V)

/-- The same as lists. -/
def hSegs (nm lk us gr fr mg t0 t1 t2 t3 t4 t5 t6 : List UInt8) (kd : UInt8) : List (List UInt8) :=
  [padL nm 100, t0, t1, t2, t3, t4, List.replicate 8 32, [kd], padL lk 100, mg, padL us 32, padL gr 32, t5, t6, padL fr 155, List.replicate 12 0]
/-- Every field has its length. -/
def HFit (nm lk us gr fr mg t0 t1 t2 t3 t4 t5 t6 : List UInt8) : Prop :=
  nm.length ≤ 100 ∧ lk.length ≤ 100 ∧ us.length ≤ 32 ∧ gr.length ≤ 32 ∧ fr.length ≤ 155 ∧ mg.length = 8 ∧ t0.length = 8 ∧ t1.length = 8 ∧ t2.length = 8 ∧ t3.length = 12 ∧ t4.length = 12 ∧ t5.length = 8 ∧ t6.length = 8
/-- The texts put into a block of zeros. -/
def rowT (nm lk us gr fr : List UInt8) : List UInt8 := splice (splice (splice (splice (splice (List.replicate 512 0) 0 nm) 157 lk) 265 us) 297 gr) 345 fr
def rowN5 (L t0 t1 t2 t3 t4 : List UInt8) : List UInt8 := splice (splice (splice (splice (splice L 100 t0) 108 t1) 116 t2) 124 t3) 136 t4
def rowN7 (L t0 t1 t2 t3 t4 t5 t6 : List UInt8) : List UInt8 := splice (splice (rowN5 L t0 t1 t2 t3 t4) 329 t5) 337 t6

section
variable {nm lk us gr fr mg t0 t1 t2 t3 t4 t5 t6 : List UInt8} {kd : UInt8}
theorem hseg_len (h : HFit nm lk us gr fr mg t0 t1 t2 t3 t4 t5 t6) : (hSegs nm lk us gr fr mg t0 t1 t2 t3 t4 t5 t6 kd).flatten.length = 512 := by
  obtain ⟨h1, h2, h3, h4, h5, h6, h7, h8, h9, ha, hb, hc, hd⟩ := h
  simp [hSegs, padL_len h1, padL_len h2, padL_len h3, padL_len h4, padL_len h5, h6, h7, h8, h9, ha, hb, hc, hd]
theorem hseg_at (h : HFit nm lk us gr fr mg t0 t1 t2 t3 t4 t5 t6) (i off j : Nat) (F : List UInt8) (h1 : (hSegs nm lk us gr fr mg t0 t1 t2 t3 t4 t5 t6 kd)[i]? = some F)
    (h2 : (([100, 8, 8, 8, 12, 12, 8, 1, 100, 8, 32, 32, 8, 8, 155, 12] : List Nat).take i).sum = off) (hj : j < F.length) :
    (hSegs nm lk us gr fr mg t0 t1 t2 t3 t4 t5 t6 kd).flatten.getD (off + j) 0 = F.getD j 0 := by
  refine flat_at _ i off j F h1 ?_ hj
  rw [← h2, List.map_take]
  congr 2
  obtain ⟨h1, h2, h3, h4, h5, h6, h7, h8, h9, ha, hb, hc, hd⟩ := h
  simp [hSegs, padL_len h1, padL_len h2, padL_len h3, padL_len h4, padL_len h5, h6, h7, h8, h9, ha, hb, hc, hd]
theorem hseg_pad (h : HFit nm lk us gr fr mg t0 t1 t2 t3 t4 t5 t6) (i off n : Nat) (s : List UInt8) (h1 : (hSegs nm lk us gr fr mg t0 t1 t2 t3 t4 t5 t6 kd)[i]? = some (padL s n)) (hs : s.length ≤ n)
    (h2 : (([100, 8, 8, 8, 12, 12, 8, 1, 100, 8, 32, 32, 8, 8, 155, 12] : List Nat).take i).sum = off) :
    ∀ j, j < n → (hSegs nm lk us gr fr mg t0 t1 t2 t3 t4 t5 t6 kd).flatten.getD (off + j) 0 = s.getD j 0 := fun j hj => by
  rw [hseg_at h i off j _ h1 h2 (by rw [padL_len hs]; exact hj), padL_get]

/-- The fields that every dialect has. -/
def fs5 : List (Nat × Nat) := [(136, 12), (124, 12), (116, 8), (108, 8), (100, 8), (345, 155), (297, 32), (265, 32), (157, 100), (0, 100)]
theorem fill5 (h : HFit nm lk us gr fr mg t0 t1 t2 t3 t4 t5 t6) : Filled (fun o => (hSegs nm lk us gr fr mg t0 t1 t2 t3 t4 t5 t6 kd).flatten.getD o 0) fs5 (rowN5 (rowT nm lk us gr fr) t0 t1 t2 t3 t4) := by
  have H := h
  obtain ⟨h1, h2, h3, h4, h5, h6, h7, h8, h9, ha, hb, hc, hd⟩ := h
  have F0 := filled_start (fun o => (hSegs nm lk us gr fr mg t0 t1 t2 t3 t4 t5 t6 kd).flatten.getD o 0)
  have F1 := filled_step 0 100 nm F0 h1 (by omega) (hseg_pad H 0 0 100 nm rfl h1 rfl) (fun o _ _ => rfl)
  have F2 := filled_step 157 100 lk F1 h2 (by omega) (hseg_pad H 8 157 100 lk rfl h2 rfl) (fun o x y => by simp [inF]; omega)
  have F3 := filled_step 265 32 us F2 h3 (by omega) (hseg_pad H 10 265 32 us rfl h3 rfl) (fun o x y => by simp [inF]; omega)
  have F4 := filled_step 297 32 gr F3 h4 (by omega) (hseg_pad H 11 297 32 gr rfl h4 rfl) (fun o x y => by simp [inF]; omega)
  have F5 := filled_step 345 155 fr F4 h5 (by omega) (hseg_pad H 14 345 155 fr rfl h5 rfl) (fun o x y => by simp [inF]; omega)
  have F6 := filled_step 100 8 t0 F5 (by omega) (by omega) (fun j hj => hseg_at H 1 100 j t0 rfl rfl (by omega)) (fun o x y => by simp [inF]; omega)
  have F7 := filled_step 108 8 t1 F6 (by omega) (by omega) (fun j hj => hseg_at H 2 108 j t1 rfl rfl (by omega)) (fun o x y => by simp [inF]; omega)
  have F8 := filled_step 116 8 t2 F7 (by omega) (by omega) (fun j hj => hseg_at H 3 116 j t2 rfl rfl (by omega)) (fun o x y => by simp [inF]; omega)
  have F9 := filled_step 124 12 t3 F8 (by omega) (by omega) (fun j hj => hseg_at H 4 124 j t3 rfl rfl (by omega)) (fun o x y => by simp [inF]; omega)
  exact filled_step 136 12 t4 F9 (by omega) (by omega) (fun j hj => hseg_at H 5 136 j t4 rfl rfl (by omega)) (fun o x y => by simp [inF]; omega)

theorem seal_v7 (h : HFit nm lk us gr fr mg t0 t1 t2 t3 t4 t5 t6) (hm : mg = List.replicate 8 0) (h5 : t5 = List.replicate 8 0) (h6 : t6 = List.replicate 8 0) :
    sealS ⟨(splice (rowN5 (rowT nm lk us gr fr) t0 t1 t2 t3 t4) 156 [kd]).toArray⟩ = sealS ⟨(hSegs nm lk us gr fr mg t0 t1 t2 t3 t4 t5 t6 kd).flatten.toArray⟩ := by
  have F := filled_step 156 1 [kd] (fill5 (kd := kd) h) (by simp) (by omega) (fun j hj => hseg_at h 7 156 j [kd] rfl rfl (by simpa using hj)) (fun o x y => by simp [inF, fs5]; omega)
  refine filled_seal (T := ⟨(hSegs nm lk us gr fr mg t0 t1 t2 t3 t4 t5 t6 kd).flatten.toArray⟩) (by simpa using F) (by show Array.size _ = 512; simpa using hseg_len h) fun o ho ho2 hf => ?_
  have hf' : ¬ (156 ≤ o ∧ o < 157) ∧ ¬ (136 ≤ o ∧ o < 148) ∧ ¬ (124 ≤ o ∧ o < 136) ∧ ¬ (116 ≤ o ∧ o < 124) ∧ ¬ (108 ≤ o ∧ o < 116) ∧ ¬ (100 ≤ o ∧ o < 108) ∧ ¬ (345 ≤ o ∧ o < 500) ∧ ¬ (297 ≤ o ∧ o < 329) ∧ ¬ (265 ≤ o ∧ o < 297) ∧ ¬ (157 ≤ o ∧ o < 257) ∧ ¬ (o < 100) := by
    simp [inF, fs5] at hf
    omega
  show (hSegs nm lk us gr fr mg t0 t1 t2 t3 t4 t5 t6 kd).flatten.toArray.toList.getD o 0 = 0
  rw [List.toList_toArray]
  have z8 : ∀ n j : Nat, (List.replicate n (0 : UInt8)).getD j 0 = 0 := fun n j => by
    rw [List.getD_eq_getElem?_getD, List.getElem?_replicate]
    split <;> rfl
  by_cases c1 : o < 265
  · have := hseg_at (kd := kd) h 9 257 (o - 257) mg rfl rfl (by rw [h.2.2.2.2.2.1]; omega)
    rw [show 257 + (o - 257) = o by omega, hm, z8] at this
    rw [hm, this]
  · by_cases c2 : o < 337
    · have := hseg_at (kd := kd) h 12 329 (o - 329) t5 rfl rfl (by rw [h5]; simp; omega)
      rw [show 329 + (o - 329) = o by omega, h5, z8] at this
      rw [h5, this]
    · by_cases c3 : o < 345
      · have := hseg_at (kd := kd) h 13 337 (o - 337) t6 rfl rfl (by rw [h6]; simp; omega)
        rw [show 337 + (o - 337) = o by omega, h6, z8] at this
        rw [h6, this]
      · have := hseg_at (kd := kd) h 15 500 (o - 500) _ rfl rfl (by simp; omega)
        rw [show 500 + (o - 500) = o by omega, z8] at this
        exact this
theorem seal_mg (h : HFit nm lk us gr fr mg t0 t1 t2 t3 t4 t5 t6) :
    sealS ⟨(splice (splice (rowN7 (rowT nm lk us gr fr) t0 t1 t2 t3 t4 t5 t6) 156 [kd]) 257 mg).toArray⟩ = sealS ⟨(hSegs nm lk us gr fr mg t0 t1 t2 t3 t4 t5 t6 kd).flatten.toArray⟩ := by
  have H := h
  obtain ⟨h1, h2, h3, h4, h5, h6, h7, h8, h9, ha, hb, hc, hd⟩ := h
  have F1 := filled_step 329 8 t5 (fill5 (kd := kd) H) (by omega) (by omega) (fun j hj => hseg_at H 12 329 j t5 rfl rfl (by omega)) (fun o x y => by simp [inF, fs5]; omega)
  have F2 := filled_step 337 8 t6 F1 (by omega) (by omega) (fun j hj => hseg_at H 13 337 j t6 rfl rfl (by omega)) (fun o x y => by simp [inF, fs5]; omega)
  have F3 := filled_step 156 1 [kd] F2 (by simp) (by omega) (fun j hj => hseg_at H 7 156 j [kd] rfl rfl (by simpa using hj)) (fun o x y => by simp [inF, fs5]; omega)
  have F := filled_step 257 8 mg F3 (by omega) (by omega) (fun j hj => hseg_at H 9 257 j mg rfl rfl (by omega)) (fun o x y => by simp [inF, fs5]; omega)
  refine filled_seal (T := ⟨(hSegs nm lk us gr fr mg t0 t1 t2 t3 t4 t5 t6 kd).flatten.toArray⟩) (by simpa [rowN7] using F) (by show Array.size _ = 512; simpa using hseg_len H) fun o ho ho2 hf => ?_
  have hf' : 500 ≤ o := by
    simp [inF, fs5] at hf
    omega
  show (hSegs nm lk us gr fr mg t0 t1 t2 t3 t4 t5 t6 kd).flatten.toArray.toList.getD o 0 = 0
  rw [List.toList_toArray]
  have := hseg_at (kd := kd) H 15 500 (o - 500) _ rfl rfl (by simp; omega)
  rw [show 500 + (o - 500) = o by omega] at this
  rw [this, List.getD_eq_getElem?_getD, List.getElem?_replicate]
  split <;> rfl
end

theorem padV_list (s : ByteArray) (n : Nat) : (padV s n).data.toList = padL s.data.toList n := by
  unfold padV padL
  simp only [ByteArray.data_append, Array.toList_append]
  rfl
/-- The fields one behind the other, as lists. -/
theorem headS_list (kd : Int) (nm lk us gr fr t0 t1 t2 t3 t4 t5 t6 mg : ByteArray) :
    headS kd z16V false (padV nm 100) (padV lk 100) (padV us 32) (padV gr 32) (padV fr 155) t0 t1 t2 t3 t4 t5 t6 mg =
      ⟨(hSegs nm.data.toList lk.data.toList us.data.toList gr.data.toList fr.data.toList mg.data.toList t0.data.toList t1.data.toList t2.data.toList t3.data.toList t4.data.toList t5.data.toList t6.data.toList (UInt8.ofNat kd.toNat)).flatten.toArray⟩ := by
  apply ByteArray.ext
  apply Array.toList_inj.1
  unfold headS hSegs z12V
  simp only [ByteArray.data_append, Array.toList_append, padV_list, Bool.false_eq_true, if_false, List.flatten_cons, List.flatten_nil, List.append_nil, List.append_assoc]
  rfl
theorem headS_list7 (kd : Int) (nm lk us gr fr t0 t1 t2 t3 t4 t5 t6 mg : ByteArray) :
    headS kd z16V true (padV nm 100) (padV lk 100) (padV us 32) (padV gr 32) (padV fr 155) t0 t1 t2 t3 t4 t5 t6 mg =
      ⟨(hSegs nm.data.toList lk.data.toList us.data.toList gr.data.toList fr.data.toList mg.data.toList t0.data.toList t1.data.toList t2.data.toList t3.data.toList t4.data.toList (List.replicate 8 0) (List.replicate 8 0) (UInt8.ofNat kd.toNat)).flatten.toArray⟩ := by
  apply ByteArray.ext
  apply Array.toList_inj.1
  unfold headS hSegs z12V z16V
  simp only [ByteArray.data_append, Array.toList_append, padV_list, if_true, List.flatten_cons, List.flatten_nil, List.append_nil, List.append_assoc]
  rfl
theorem sumE_512 {s : ByteArray} (h : s.size = 512) : sumE s = 0 := by unfold sumE; rw [if_pos h]
theorem row_len5 {nm lk us gr fr mg t0 t1 t2 t3 t4 t5 t6 : List UInt8} (h : HFit nm lk us gr fr mg t0 t1 t2 t3 t4 t5 t6) : (rowN5 (rowT nm lk us gr fr) t0 t1 t2 t3 t4).length = 512 := (fill5 (kd := 0) h).1
end Go.Proofs.YtbofobakphlpbaaGreatDoor

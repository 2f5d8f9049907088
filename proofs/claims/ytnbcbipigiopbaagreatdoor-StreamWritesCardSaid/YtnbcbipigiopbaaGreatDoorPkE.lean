/-
  A header's bytes: fields put into a block of zeros and fields set one behind the other seal to the same header. Plain; no conditions but the fields' lengths.
-/
import Derived.Test.YtnbcbipigiopbaaGreatDoorPkD
import Derived.Test.YtnbcbipigiopbaaGreatDoorHeadWr
import Derived.Test.YtnbcbipigiopbaaGreatDoorPkA
import Derived.Test.YtnbcbipigiopbaaGreatDoorPkC
namespace Go.Proofs.YtnbcbipigiopbaaGreatDoor
open Go.RowKit Go.PlainAid

def z16V : ByteArray := ⟨(List.replicate 16 (0 : UInt8)).toArray⟩
def z12V : ByteArray := ⟨(List.replicate 12 (0 : UInt8)).toArray⟩
/-- The fields one behind the other. -/
def headS (kd : Int) (z16 : ByteArray) (v7 : Bool) (p0 p1 p2 p3 p4 t0 t1 t2 t3 t4 t5 t6 mg : ByteArray) : ByteArray :=
  p0 ++ t0 ++ t1 ++ t2 ++ t3 ++ t4 ++ ⟨#[32, 32, 32, 32, 32, 32, 32, 32]⟩ ++ ⟨#[UInt8.ofNat kd.toNat]⟩ ++ p1 ++ mg ++ p2 ++ p3 ++ (if v7 then z16 else t5 ++ t6) ++ (p4 ++ z12V)

/-- The same as lists. -/
def hSegs (nm lk us gr fr mg t0 t1 t2 t3 t4 t5 t6 : List UInt8) (kd : UInt8) : List (List UInt8) :=
  [padL nm 100, t0, t1, t2, t3, t4, List.replicate 8 32, [kd], padL lk 100, mg, padL us 32, padL gr 32, t5, t6, padL fr 155, List.replicate 12 0]
/-- Every field has its length. -/
def HFit (nm lk us gr fr mg t0 t1 t2 t3 t4 t5 t6 : List UInt8) : Prop :=
  nm.length ≤ 100 ∧ lk.length ≤ 100 ∧ us.length ≤ 32 ∧ gr.length ≤ 32 ∧ fr.length ≤ 155 ∧ mg.length = 8 ∧ t0.length = 8 ∧ t1.length = 8 ∧ t2.length = 8 ∧ t3.length = 12 ∧ t4.length = 12 ∧ t5.length = 8 ∧ t6.length = 8
/-- The texts put into a block of zeros. -/
def rowT (nm lk us gr fr : List UInt8) : List UInt8 := splice (splice (splice (splice (splice (List.replicate 512 0) 0 nm) 157 lk) 265 us) 297 gr) 345 fr
def rowN5 (L t0 t1 t2 t3 t4 : List UInt8) : List UInt8 := splice (splice (splice (splice (splice L 100 t0) 108 t1) 116 t2) 124 t3) 136 t4
def rowN7 (L t0 t1 t2 t3 t4 t5 t6 : List UInt8) : List UInt8 := splice (splice (rowN5 L t0 t1 t2 t3 t4) 329 t5) 337 t6

section
variable {nm lk us gr fr mg t0 t1 t2 t3 t4 t5 t6 : List UInt8} {kd : UInt8}
theorem hseg_len (h : HFit nm lk us gr fr mg t0 t1 t2 t3 t4 t5 t6) : (hSegs nm lk us gr fr mg t0 t1 t2 t3 t4 t5 t6 kd).flatten.length = 512 := by
  obtain ⟨h1, h2, h3, h4, h5, h6, h7, h8, h9, ha, hb, hc, hd⟩ := h
  simp [hSegs, padL_len h1, padL_len h2, padL_len h3, padL_len h4, padL_len h5, h6, h7, h8, h9, ha, hb, hc, hd]
theorem hseg_at (h : HFit nm lk us gr fr mg t0 t1 t2 t3 t4 t5 t6) (i off j : Nat) (F : List UInt8) (h1 : (hSegs nm lk us gr fr mg t0 t1 t2 t3 t4 t5 t6 kd)[i]? = some F)
    (h2 : (([100, 8, 8, 8, 12, 12, 8, 1, 100, 8, 32, 32, 8, 8, 155, 12] : List Nat).take i).sum = off) (hj : j < F.length) :
    (hSegs nm lk us gr fr mg t0 t1 t2 t3 t4 t5 t6 kd).flatten.getD (off + j) 0 = F.getD j 0 := by
  refine flat_at _ i off j F h1 ?_ hj
  rw [← h2, List.map_take]
  congr 2
  obtain ⟨h1, h2, h3, h4, h5, h6, h7, h8, h9, ha, hb, hc, hd⟩ := h
  simp [hSegs, padL_len h1, padL_len h2, padL_len h3, padL_len h4, padL_len h5, h6, h7, h8, h9, ha, hb, hc, hd]
theorem hseg_pad (h : HFit nm lk us gr fr mg t0 t1 t2 t3 t4 t5 t6) (i off n : Nat) (s : List UInt8) (h1 : (hSegs nm lk us gr fr mg t0 t1 t2 t3 t4 t5 t6 kd)[i]? = some (padL s n)) (hs : s.length ≤ n)
    (h2 : (([100, 8, 8, 8, 12, 12, 8, 1, 100, 8, 32, 32, 8, 8, 155, 12] : List Nat).take i).sum = off) :
    ∀ j, j < n → (hSegs nm lk us gr fr mg t0 t1 t2 t3 t4 t5 t6 kd).flatten.getD (off + j) 0 = s.getD j 0 := fun j hj => by
  rw [hseg_at h i off j _ h1 h2 (by rw [padL_len hs]; exact hj), padL_get]

/-- The fields that every dialect has. -/
def fs5 : List (Nat × Nat) := [(136, 12), (124, 12), (116, 8), (108, 8), (100, 8), (345, 155), (297, 32), (265, 32), (157, 100), (0, 100)]
theorem fill5 (h : HFit nm lk us gr fr mg t0 t1 t2 t3 t4 t5 t6) : Filled (fun o => (hSegs nm lk us gr fr mg t0 t1 t2 t3 t4 t5 t6 kd).flatten.getD o 0) fs5 (rowN5 (rowT nm lk us gr fr) t0 t1 t2 t3 t4) := by
  have H := h
  obtain ⟨h1, h2, h3, h4, h5, h6, h7, h8, h9, ha, hb, hc, hd⟩ := h
  have F0 := filled_start (fun o => (hSegs nm lk us gr fr mg t0 t1 t2 t3 t4 t5 t6 kd).flatten.getD o 0)
  have F1 := filled_step 0 100 nm F0 h1 (by omega) (hseg_pad H 0 0 100 nm rfl h1 rfl) (fun o _ _ => rfl)
  have F2 := filled_step 157 100 lk F1 h2 (by omega) (hseg_pad H 8 157 100 lk rfl h2 rfl) (fun o x y => by simp [inF]; omega)
  have F3 := filled_step 265 32 us F2 h3 (by omega) (hseg_pad H 10 265 32 us rfl h3 rfl) (fun o x y => by simp [inF]; omega)
  have F4 := filled_step 297 32 gr F3 h4 (by omega) (hseg_pad H 11 297 32 gr rfl h4 rfl) (fun o x y => by simp [inF]; omega)
  have F5 := filled_step 345 155 fr F4 h5 (by omega) (hseg_pad H 14 345 155 fr rfl h5 rfl) (fun o x y => by simp [inF]; omega)
  have F6 := filled_step 100 8 t0 F5 (by omega) (by omega) (fun j hj => hseg_at H 1 100 j t0 rfl rfl (by omega)) (fun o x y => by simp [inF]; omega)
  have F7 := filled_step 108 8 t1 F6 (by omega) (by omega) (fun j hj => hseg_at H 2 108 j t1 rfl rfl (by omega)) (fun o x y => by simp [inF]; omega)
  have F8 := filled_step 116 8 t2 F7 (by omega) (by omega) (fun j hj => hseg_at H 3 116 j t2 rfl rfl (by omega)) (fun o x y => by simp [inF]; omega)
  have F9 := filled_step 124 12 t3 F8 (by omega) (by omega) (fun j hj => hseg_at H 4 124 j t3 rfl rfl (by omega)) (fun o x y => by simp [inF]; omega)
  exact filled_step 136 12 t4 F9 (by omega) (by omega) (fun j hj => hseg_at H 5 136 j t4 rfl rfl (by omega)) (fun o x y => by simp [inF]; omega)

theorem seal_v7 (h : HFit nm lk us gr fr mg t0 t1 t2 t3 t4 t5 t6) (hm : mg = List.replicate 8 0) (h5 : t5 = List.replicate 8 0) (h6 : t6 = List.replicate 8 0) :
    sealS ⟨(splice (rowN5 (rowT nm lk us gr fr) t0 t1 t2 t3 t4) 156 [kd]).toArray⟩ = sealS ⟨(hSegs nm lk us gr fr mg t0 t1 t2 t3 t4 t5 t6 kd).flatten.toArray⟩ := by
  have F := filled_step 156 1 [kd] (fill5 (kd := kd) h) (by simp) (by omega) (fun j hj => hseg_at h 7 156 j [kd] rfl rfl (by simpa using hj)) (fun o x y => by simp [inF, fs5]; omega)
  refine filled_seal (T := ⟨(hSegs nm lk us gr fr mg t0 t1 t2 t3 t4 t5 t6 kd).flatten.toArray⟩) (by simpa using F) (by show Array.size _ = 512; simpa using hseg_len h) fun o ho ho2 hf => ?_
  have hf' : ¬ (156 ≤ o ∧ o < 157) ∧ ¬ (136 ≤ o ∧ o < 148) ∧ ¬ (124 ≤ o ∧ o < 136) ∧ ¬ (116 ≤ o ∧ o < 124) ∧ ¬ (108 ≤ o ∧ o < 116) ∧ ¬ (100 ≤ o ∧ o < 108) ∧ ¬ (345 ≤ o ∧ o < 500) ∧ ¬ (297 ≤ o ∧ o < 329) ∧ ¬ (265 ≤ o ∧ o < 297) ∧ ¬ (157 ≤ o ∧ o < 257) ∧ ¬ (o < 100) := by
    simp [inF, fs5] at hf
    omega
  show (hSegs nm lk us gr fr mg t0 t1 t2 t3 t4 t5 t6 kd).flatten.toArray.toList.getD o 0 = 0
  rw [List.toList_toArray]
  have z8 : ∀ n j : Nat, (List.replicate n (0 : UInt8)).getD j 0 = 0 := fun n j => by
    rw [List.getD_eq_getElem?_getD, List.getElem?_replicate]
    split <;> rfl
  by_cases c1 : o < 265
  · have := hseg_at (kd := kd) h 9 257 (o - 257) mg rfl rfl (by rw [h.2.2.2.2.2.1]; omega)
    rw [show 257 + (o - 257) = o by omega, hm, z8] at this
    rw [hm, this]
  · by_cases c2 : o < 337
    · have := hseg_at (kd := kd) h 12 329 (o - 329) t5 rfl rfl (by rw [h5]; simp; omega)
      rw [show 329 + (o - 329) = o by omega, h5, z8] at this
      rw [h5, this]
    · by_cases c3 : o < 345
      · have := hseg_at (kd := kd) h 13 337 (o - 337) t6 rfl rfl (by rw [h6]; simp; omega)
        rw [show 337 + (o - 337) = o by omega, h6, z8] at this
        rw [h6, this]
      · have := hseg_at (kd := kd) h 15 500 (o - 500) _ rfl rfl (by simp; omega)
        rw [show 500 + (o - 500) = o by omega, z8] at this
        exact this
theorem seal_mg (h : HFit nm lk us gr fr mg t0 t1 t2 t3 t4 t5 t6) :
    sealS ⟨(splice (splice (rowN7 (rowT nm lk us gr fr) t0 t1 t2 t3 t4 t5 t6) 156 [kd]) 257 mg).toArray⟩ = sealS ⟨(hSegs nm lk us gr fr mg t0 t1 t2 t3 t4 t5 t6 kd).flatten.toArray⟩ := by
  have H := h
  obtain ⟨h1, h2, h3, h4, h5, h6, h7, h8, h9, ha, hb, hc, hd⟩ := h
  have F1 := filled_step 329 8 t5 (fill5 (kd := kd) H) (by omega) (by omega) (fun j hj => hseg_at H 12 329 j t5 rfl rfl (by omega)) (fun o x y => by simp [inF, fs5]; omega)
  have F2 := filled_step 337 8 t6 F1 (by omega) (by omega) (fun j hj => hseg_at H 13 337 j t6 rfl rfl (by omega)) (fun o x y => by simp [inF, fs5]; omega)
  have F3 := filled_step 156 1 [kd] F2 (by simp) (by omega) (fun j hj => hseg_at H 7 156 j [kd] rfl rfl (by simpa using hj)) (fun o x y => by simp [inF, fs5]; omega)
  have F := filled_step 257 8 mg F3 (by omega) (by omega) (fun j hj => hseg_at H 9 257 j mg rfl rfl (by omega)) (fun o x y => by simp [inF, fs5]; omega)
  refine filled_seal (T := ⟨(hSegs nm lk us gr fr mg t0 t1 t2 t3 t4 t5 t6 kd).flatten.toArray⟩) (by simpa [rowN7] using F) (by show Array.size _ = 512; simpa using hseg_len H) fun o ho ho2 hf => ?_
  have hf' : 500 ≤ o := by
    simp [inF, fs5] at hf
    omega
  show (hSegs nm lk us gr fr mg t0 t1 t2 t3 t4 t5 t6 kd).flatten.toArray.toList.getD o 0 = 0
  rw [List.toList_toArray]
  have := hseg_at (kd := kd) H 15 500 (o - 500) _ rfl rfl (by simp; omega)
  rw [show 500 + (o - 500) = o by omega] at this
  rw [this, List.getD_eq_getElem?_getD, List.getElem?_replicate]
  split <;> rfl
end

theorem padV_list (s : ByteArray) (n : Nat) : (padV s n).data.toList = padL s.data.toList n := by
  unfold padV padL
  simp only [ByteArray.data_append, Array.toList_append]
  rfl
/-- The fields one behind the other, as lists. -/
theorem headS_list (kd : Int) (nm lk us gr fr t0 t1 t2 t3 t4 t5 t6 mg : ByteArray) :
    headS kd z16V false (padV nm 100) (padV lk 100) (padV us 32) (padV gr 32) (padV fr 155) t0 t1 t2 t3 t4 t5 t6 mg =
      ⟨(hSegs nm.data.toList lk.data.toList us.data.toList gr.data.toList fr.data.toList mg.data.toList t0.data.toList t1.data.toList t2.data.toList t3.data.toList t4.data.toList t5.data.toList t6.data.toList (UInt8.ofNat kd.toNat)).flatten.toArray⟩ := by
  apply ByteArray.ext
  apply Array.toList_inj.1
  unfold headS hSegs z12V
  simp only [ByteArray.data_append, Array.toList_append, padV_list, Bool.false_eq_true, if_false, List.flatten_cons, List.flatten_nil, List.append_nil, List.append_assoc]
  rfl
theorem headS_list7 (kd : Int) (nm lk us gr fr t0 t1 t2 t3 t4 t5 t6 mg : ByteArray) :
    headS kd z16V true (padV nm 100) (padV lk 100) (padV us 32) (padV gr 32) (padV fr 155) t0 t1 t2 t3 t4 t5 t6 mg =
      ⟨(hSegs nm.data.toList lk.data.toList us.data.toList gr.data.toList fr.data.toList mg.data.toList t0.data.toList t1.data.toList t2.data.toList t3.data.toList t4.data.toList (List.replicate 8 0) (List.replicate 8 0) (UInt8.ofNat kd.toNat)).flatten.toArray⟩ := by
  apply ByteArray.ext
  apply Array.toList_inj.1
  unfold headS hSegs z12V z16V
  simp only [ByteArray.data_append, Array.toList_append, padV_list, if_true, List.flatten_cons, List.flatten_nil, List.append_nil, List.append_assoc]
  rfl
theorem sumE_512 {s : ByteArray} (h : s.size = 512) : sumE s = 0 := by unfold sumE; rw [if_pos h]
theorem row_len5 {nm lk us gr fr mg t0 t1 t2 t3 t4 t5 t6 : List UInt8} (h : HFit nm lk us gr fr mg t0 t1 t2 t3 t4 t5 t6) : (rowN5 (rowT nm lk us gr fr) t0 t1 t2 t3 t4).length = 512 := (fill5 (kd := 0) h).1
end Go.Proofs.YtnbcbipigiopbaaGreatDoor
/-
  A header's two rows seal alike: head.Write's and the reference's. Plain; no conditions but the fields' lengths.
-/
namespace Go.Proofs.YtnbcbipigiopbaaGreatDoor
open Go.RowKit Go.PlainAid

def X5 (a b c d e : ByteArray) : Nat → ByteArray
  | 0 => a
  | 1 => b
  | 2 => c
  | 3 => d
  | _ => e
def N7 (a b c d e f g : Int) : Nat → Int
  | 0 => a
  | 1 => b
  | 2 => c
  | 3 => d
  | 4 => e
  | 5 => f
  | _ => g
def T7 (a b c d e f g : ByteArray) : Nat → ByteArray
  | 0 => a
  | 1 => b
  | 2 => c
  | 3 => d
  | 4 => e
  | 5 => f
  | _ => g

theorem rowZ_v7 (nm lk s0 s1 s2 s3 s4 a b : ByteArray) (kd : Int) (h0 : fitS nm 100 = true) (h1 : fitS lk 100 = true) (z0 : s0.size = 8) (z1 : s1.size = 8) (z2 : s2.size = 8) (z3 : s3.size = 12) (z4 : s4.size = 12) :
    sealS (rowZ (X5 nm lk ⟨#[]⟩ ⟨#[]⟩ ⟨#[]⟩) (T7 s0 s1 s2 s3 s4 a b) 1 kd 5) = sealS (headS kd z16V true (padV nm 100) (padV lk 100) (padV ⟨#[]⟩ 32) (padV ⟨#[]⟩ 32) (padV ⟨#[]⟩ 155) s0 s1 s2 s3 s4 ⟨#[]⟩ ⟨#[]⟩ (magicV 1)) ∧
    sumE (rowZ (X5 nm lk ⟨#[]⟩ ⟨#[]⟩ ⟨#[]⟩) (T7 s0 s1 s2 s3 s4 a b) 1 kd 5) = 0 ∧ sumE (headS kd z16V true (padV nm 100) (padV lk 100) (padV ⟨#[]⟩ 32) (padV ⟨#[]⟩ 32) (padV ⟨#[]⟩ 155) s0 s1 s2 s3 s4 ⟨#[]⟩ ⟨#[]⟩ (magicV 1)) = 0 := by
  have hmg : (magicV 1).data.toList = List.replicate 8 0 := by
    unfold magicV
    rw [if_pos rfl]
  have F : HFit nm.data.toList lk.data.toList [] [] [] (magicV 1).data.toList s0.data.toList s1.data.toList s2.data.toList s3.data.toList s4.data.toList (List.replicate 8 0) (List.replicate 8 0) :=
    ⟨fit_size h0, fit_size h1, Nat.zero_le _, Nat.zero_le _, Nat.zero_le _, by rw [hmg, List.length_replicate], z0, z1, z2, z3, z4, List.length_replicate, List.length_replicate⟩
  have e : rowZ (X5 nm lk ⟨#[]⟩ ⟨#[]⟩ ⟨#[]⟩) (T7 s0 s1 s2 s3 s4 a b) 1 kd 5 = ⟨(splice (rowN5 (rowT nm.data.toList lk.data.toList [] [] []) s0.data.toList s1.data.toList s2.data.toList s3.data.toList s4.data.toList) 156 [UInt8.ofNat kd.toNat]).toArray⟩ := by
    unfold rowZ rowZL
    rw [if_pos rfl]
    rfl
  rw [headS_list7, e]
  refine ⟨seal_v7 F hmg rfl rfl, sumE_512 ?_, sumE_512 ?_⟩
  · show Array.size _ = 512
    rw [List.size_toArray, splice_len (by rw [row_len5 F]; simp), row_len5 F]
  · show Array.size _ = 512
    rw [List.size_toArray]
    exact hseg_len F
theorem rowZ_mg (nm lk us gr fr s0 s1 s2 s3 s4 s5 s6 : ByteArray) (f kd : Int) (hf : f ≠ 1) (h0 : fitS nm 100 = true) (h1 : fitS lk 100 = true) (h2 : fitS us 32 = true) (h3 : fitS gr 32 = true) (h4 : fitS fr 155 = true)
    (z0 : s0.size = 8) (z1 : s1.size = 8) (z2 : s2.size = 8) (z3 : s3.size = 12) (z4 : s4.size = 12) (z5 : s5.size = 8) (z6 : s6.size = 8) :
    sealS (rowZ (X5 nm lk us gr fr) (T7 s0 s1 s2 s3 s4 s5 s6) f kd 7) = sealS (headS kd z16V false (padV nm 100) (padV lk 100) (padV us 32) (padV gr 32) (padV fr 155) s0 s1 s2 s3 s4 s5 s6 (magicV f)) ∧
    sumE (rowZ (X5 nm lk us gr fr) (T7 s0 s1 s2 s3 s4 s5 s6) f kd 7) = 0 ∧ sumE (headS kd z16V false (padV nm 100) (padV lk 100) (padV us 32) (padV gr 32) (padV fr 155) s0 s1 s2 s3 s4 s5 s6 (magicV f)) = 0 := by
  have hmg : (magicV f).data.toList.length = 8 := by
    unfold magicV
    rw [if_neg hf]
    split <;> rfl
  have F : HFit nm.data.toList lk.data.toList us.data.toList gr.data.toList fr.data.toList (magicV f).data.toList s0.data.toList s1.data.toList s2.data.toList s3.data.toList s4.data.toList s5.data.toList s6.data.toList :=
    ⟨fit_size h0, fit_size h1, fit_size h2, fit_size h3, fit_size h4, hmg, z0, z1, z2, z3, z4, z5, z6⟩
  have e : rowZ (X5 nm lk us gr fr) (T7 s0 s1 s2 s3 s4 s5 s6) f kd 7 =
      ⟨(splice (splice (rowN7 (rowT nm.data.toList lk.data.toList us.data.toList gr.data.toList fr.data.toList) s0.data.toList s1.data.toList s2.data.toList s3.data.toList s4.data.toList s5.data.toList s6.data.toList) 156 [UInt8.ofNat kd.toNat]) 257 (magicV f).data.toList).toArray⟩ := by
    unfold rowZ rowZL
    rw [if_neg hf]
    rfl
  rw [headS_list, e]
  refine ⟨seal_mg F, sumE_512 ?_, sumE_512 ?_⟩
  · have l5 := row_len5 F
    have l6 : (rowN7 (rowT nm.data.toList lk.data.toList us.data.toList gr.data.toList fr.data.toList) s0.data.toList s1.data.toList s2.data.toList s3.data.toList s4.data.toList s5.data.toList s6.data.toList).length = 512 := by
      unfold rowN7
      have a1 : s5.data.toList.length = 8 := z5
      have a2 : s6.data.toList.length = 8 := z6
      rw [splice_len (by rw [splice_len (by rw [l5, a1]; decide), l5, a2]; decide), splice_len (by rw [l5, a1]; decide), l5]
    show Array.size _ = 512
    rw [List.size_toArray, splice_len (by rw [splice_len (by rw [l6]; simp), l6, hmg]; decide), splice_len (by rw [l6]; simp), l6]
  · show Array.size _ = 512
    rw [List.size_toArray]
    exact hseg_len F
end Go.Proofs.YtnbcbipigiopbaaGreatDoor
/-
  A region that draws its order, whose operations each leave a value that does not hang on the order and may turn one flag: the flag's end is the disjunction of all.
  No conditions.
-/
namespace Go.Proofs.YtnbcbipigiopbaaGreatDoor
open Go.RowKit

section
variable {P : Program} {ops : Array Oper} {S : Bool → World → Prop} {md : Region.Mode}

/-- In state a, in every world that meets S b, operation o leaves v, and S (b || h) holds behind it. -/
def SettlesF (P : Program) (ops : Array Oper) (S : Bool → World → Prop) (h : Bool) (o : Oper) (v : Value) (a : Act) : Prop :=
  (Region.wanted o (yielded ops a.tmps) = true ∧ ∀ b w, S b w → leaves P (S (b || h)) v ((execOp a.eval o).run P w)) ∨
  (Region.wanted o (yielded ops a.tmps) = false ∧ v = undef ∧ h = false)

theorem SettlesF.wpOp {i : Nat} {o : Oper} {v : Value} {a : Act} {h b : Bool} {Q : Exit → Act → World → Prop} (hi : ops[i]? = some o) (hy : SettlesF P ops S h o v a)
    {K : Act → World → Prop} {w : World} (hS : S b w) (hk : ∀ w', S (b || h) w' → K (a.put o.dst v) w') : wpOp P ops Q i K a w := by
  unfold Go.wpOp
  simp only [hi]
  rcases hy with ⟨hw, hv⟩ | ⟨hw, rfl, rfl⟩
  · simp only [hw, if_true]
    refine .inl ?_
    have hl := hv b w hS
    unfold Oper.wp
    generalize (execOp a.eval o).run P w = r at *
    cases r with
    | ok n w' =>
      cases n <;> simp only [leaves, Oper.upon] at hl ⊢
      case value u => rw [hl.1]; exact hk w' hl.2
      case skip => rw [hl.1]; exact hk w' hl.2
      case enter f args =>
        refine hl.mono fun e w'' ⟨he, hS'⟩ => ?_
        subst he
        exact hk w'' hS'
      case row row args =>
        refine hl.mono fun u w'' ⟨he, hS'⟩ => ?_
        subst he
        exact hk w'' hS'
    | halt x w' => exact hl.elim
  · simp only [hw, Bool.false_eq_true, if_false]
    rw [Bool.or_false] at hk
    exact hk w hS

theorem SettlesF.of_same {h : Bool} {o : Oper} {v : Value} {a a' : Act} (hy : SettlesF P ops S h o v a) (he : execOp a'.eval o = execOp a.eval o)
    (hw : Region.wanted o (yielded ops a'.tmps) = Region.wanted o (yielded ops a.tmps)) : SettlesF P ops S h o v a' := by
  unfold SettlesF at *
  rw [he, hw]
  exact hy

/-- Whatever order is picked from here on, every operation leaves a value and a turn of the flag that do not hang on it. -/
def wpAnyF (P : Program) (md : Region.Mode) (ops : Array Oper) (S : Bool → World → Prop) (K : Bool → Act → Prop) : Nat → Array Bool → Bool → Act → Prop
  | 0, listed, b, a => Region.ready md ops listed = [] ∧ K b a
  | fuel + 1, listed, b, a =>
    (Region.ready md ops listed = [] → K b a) ∧
    ∀ j ∈ Region.ready md ops listed, ∃ o v h, ops[j]? = some o ∧ SettlesF P ops S h o v a ∧ wpAnyF P md ops S K fuel (listed.setIfInBounds j true) (b || h) (a.put o.dst v)

theorem wpAny_of_detF {Q : Exit → Act → World → Prop} {K : Bool → Act → Prop} (hK : ∀ b a, K b a → ∀ w, S b w → Q .normal a w) :
    ∀ (fuel : Nat) (listed : Array Bool) (b : Bool) (a : Act), wpAnyF P md ops S K fuel listed b a → ∀ w, S b w → wpAny P md ops Q fuel listed a w
  | 0, _, b, a, h, w, hS => ⟨h.1, hK b a h.2 w hS⟩
  | fuel + 1, _, b, a, h, w, hS => ⟨fun h0 => hK b a (h.1 h0) w hS, fun j hj => by
      obtain ⟨o, v, t, ho, hy, hn⟩ := h.2 j hj
      exact hy.wpOp ho hS fun w' hS' => wpAny_of_detF hK fuel _ _ _ hn w' hS'⟩

theorem wpAnyF_first {K : Bool → Act → Prop} {i : Nat} {oi : Oper} {v : Value} {h : Bool} (hi : ops[i]? = some oi) (hsel : ∀ (j : Nat) (o : Oper) cs b, ops[j]? = some o → o.op ≠ .select cs b) :
    ∀ (fuel : Nat) (listed : Array Bool) (b : Bool) (a : Act),
      (∀ j oj, ops[j]? = some oj → j ≠ i → listed.getD j true = false → (∀ e ∈ oj.after, Region.binds md e = true → e.on ≠ i) → oi.apart ops oj = true) →
      i ∈ Region.ready md ops listed → SettlesF P ops S h oi v a →
      wpAnyF P md ops S K fuel (listed.setIfInBounds i true) (b || h) (a.put oi.dst v) → wpAnyF P md ops S K (fuel + 1) listed b a := by
  intro fuel
  induction fuel with
  | zero =>
    intro listed b a _ hr hy H
    refine ⟨fun h => (by rw [h] at hr; cases hr), fun j hj => ?_⟩
    by_cases hji : j = i
    · subst hji; exact ⟨oi, v, h, hi, hy, H⟩
    · have := ready_mono hj hji
      rw [H.1] at this
      cases this
  | succ fuel ih =>
    intro listed b a hfree hr hy H
    refine ⟨fun h => (by rw [h] at hr; cases hr), fun j hj => ?_⟩
    by_cases hji : j = i
    · subst hji; exact ⟨oi, v, h, hi, hy, H⟩
    · obtain ⟨oj', u, t, hoj', hyj, hn⟩ := H.2 j (ready_mono hj hji)
      obtain ⟨hjun, oj, hoj, hall⟩ := mem_ready.1 hj
      obtain rfl : oj' = oj := Option.some.inj (hoj'.symm.trans hoj)
      have hnot : ∀ e ∈ oj'.after, Region.binds md e = true → e.on ≠ i := fun e he hb heq => by
        have h1 := hall e he hb
        have h0 := (mem_ready.1 hr).1
        rw [heq] at h1
        rcases Nat.lt_or_ge i listed.size with h' | h'
        · simp [h'] at h0 h1; rw [h0] at h1; cases h1
        · simp [Array.getElem?_eq_none h'] at h1
      obtain ⟨h1, h2, h3⟩ := Oper.apart_spec (hfree j oj' hoj hji hjun hnot)
      have hyj' : SettlesF P ops S t oj' u a := hyj.of_same (execOp_put oj' (fun cs b => hsel j oj' cs b hoj) a oi.dst v h1).symm (wanted_put oj' a oi.dst v h1).symm
      have hyi' : SettlesF P ops S h oi v (a.put oj'.dst u) := hy.of_same (execOp_put oi (fun cs b => hsel i oi cs b hi) a oj'.dst u h3) (wanted_put oi a oj'.dst u h3)
      have hfree' : ∀ k ok, ops[k]? = some ok → k ≠ i → (listed.setIfInBounds j true).getD k true = false →
          (∀ e ∈ ok.after, Region.binds md e = true → e.on ≠ i) → oi.apart ops ok = true := fun k ok hk hki hun hno => by
        refine hfree k ok hk hki ?_ hno
        by_cases hjk : j = k
        · subst hjk; exact hjun
        · rw [getD_set_ne true hjk] at hun; exact hun
      refine ⟨oj', u, t, hoj, hyj', ih (listed.setIfInBounds j true) _ _ hfree' (ready_mono hr (Ne.symm hji)) hyi' ?_⟩
      rw [Array.setIfInBounds_comm _ _ hji, ← Act.put_comm a v u h2, Bool.or_assoc, Bool.or_comm t h, ← Bool.or_assoc]
      exact hn

/-- The operations in the order of the text, each with the value that it leaves and its turn of the flag; behind the last one K holds of the frame. -/
def detGoF (P : Program) (ops : Array Oper) (S : Bool → World → Prop) (K : Bool → Act → Prop) : List Oper → Bool → Act → Prop
  | [], b, a => K b a
  | o :: os, b, a => ∃ v h, SettlesF P ops S h o v a ∧ detGoF P ops S K os (b || h) (a.put o.dst v)

theorem detF_sound {K : Bool → Act → Prop} (hs : Region.noSelect ops = true) : ∀ (os : List Oper) (i : Nat) (listed : Array Bool) (b : Bool) (a : Act),
    (∀ k, os[k]? = ops[i + k]?) → tidyGo md ops os.length i listed = true → detGoF P ops S K os b a → wpAnyF P md ops S K os.length listed b a
  | [], i, listed, b, a, _, ht, h => by
    simp only [tidyGo, List.length_nil, List.isEmpty_iff] at ht
    exact ⟨ht, h⟩
  | o :: os, i, listed, b, a, hops, ht, ⟨v, t, hy, h⟩ => by
    simp only [List.length_cons, tidyGo, Bool.and_eq_true] at ht
    obtain ⟨⟨hf, hr⟩, ht⟩ := ht
    have ho : ops[i]? = some o := by have := hops 0; simpa using this.symm
    refine wpAnyF_first ho (Region.noSelect_spec hs) os.length listed b a (Region.free_spec ho hf) (by simpa using hr) hy ?_
    exact detF_sound hs os (i + 1) _ _ _ (fun k => by have := hops (k + 1); simpa [Nat.add_assoc, Nat.add_comm 1 k] using this) ht h

/-- THE LAW. -/
theorem wp_region_detF (S : Bool → World → Prop) (b0 : Bool) {id : Nat} {l : List Oper} {Q : Exit → Act → World → Prop} {a : Act} {w : World} (hm : P.follows .mixedOrders = true)
    (hs : (Region.noSelect l.toArray && tidyGo .any l.toArray l.length 0 (Array.replicate l.length false)) = true)
    (hS : S b0 w.drew) (h : detGoF P l.toArray S (fun b a' => ∀ w', S b w' → Q .normal a' w') l b0 a) : (Code.region id l.toArray true).wp P Q a w := by
  rw [Bool.and_eq_true] at hs
  refine wp_region_any hm ?_
  have := wpAny_of_detF (Q := Q) (fun b a' hK w' hS' => hK w' hS') _ _ _ _ (detF_sound (md := .any) hs.1 l 0 _ b0 a (fun k => by simp) hs.2 h) _ hS
  simpa using this

section
variable {K : Bool → Act → Prop} {o : Oper} {os : List Oper} {a : Act} {b : Bool}
theorem detF_end (h : K b a) : detGoF P ops S K [] b a := h

theorem detF_op {d : Tmp} (v : Value) (t : Bool) (hd : o.dst = some d) (hw : Region.wanted o (yielded ops a.tmps) = true) (h : ∀ b w, S b w → wpList P ops (detPost d v (S (b || t)) a.defers) [o] a w)
    (hn : detGoF P ops S K os (b || t) (a.put o.dst v)) : detGoF P ops S K (o :: os) b a := by
  refine ⟨v, t, .inl ⟨hw, fun b w hS => ?_⟩, hn⟩
  have hl := h b w hS
  unfold wpList at hl
  rw [if_pos hw] at hl
  rcases hl with hl | ⟨_, hl⟩
  · unfold Oper.wp at hl
    generalize (execOp a.eval o).run P w = r at *
    cases r with
    | ok n w' =>
      cases n <;> simp only [leaves, Oper.upon, hd] at hl ⊢
      case value u => exact ⟨put_at hl.1, hl.2.2⟩
      case skip => exact ⟨put_at hl.1, hl.2.2⟩
      case defer x =>
        have := congrArg List.length hl.2.1
        simp [Act.put] at this
      case enter f args =>
        refine hl.mono fun e w'' he => ?_
        cases e with
        | returned u => exact ⟨by rw [put_at he.1], he.2.2⟩
        | panicked c => exact he.elim
        | outgrown => exact (detPost_out he).elim
      case row row args => exact hl.mono fun u w'' he => ⟨put_at he.1, he.2.2⟩
    | halt x w' =>
      cases x <;> simp only [leaves, Oper.upon] at hl ⊢
      case panic u => exact hl
  · exact (detPost_out hl).elim
/-- An operation that does not touch the flag. -/
theorem detF_plain {d : Tmp} {v : Value} (hd : o.dst = some d) (hw : Region.wanted o (yielded ops a.tmps) = true) (h : ∀ b w, S b w → wpList P ops (detPost d v (S b) a.defers) [o] a w)
    (hn : detGoF P ops S K os b (a.put o.dst v)) : detGoF P ops S K (o :: os) b a :=
  detF_op v false hd hw (fun b w hS => by rw [Bool.or_false]; exact h b w hS) (by rw [Bool.or_false]; exact hn)
/-- An operation that does not come up. -/
theorem detF_skip (hw : Region.wanted o (yielded ops a.tmps) = false) (hn : detGoF P ops S K os b (a.put o.dst undef)) : detGoF P ops S K (o :: os) b a :=
  ⟨undef, false, .inr ⟨hw, rfl, rfl⟩, by rw [Bool.or_false]; exact hn⟩
end
end
end Go.Proofs.YtnbcbipigiopbaaGreatDoor
/-
  The reference's HeadWrite: its walk, over what its closures give (written by headref.py).
-/
namespace Go.Proofs.YtnbcbipigiopbaaGreatDoor
open Go.RowKit Go.WideShapes Go.PlainAid

theorem HasMax.below {w w' : World} {B : Nat} (h : HasMax w) (hE : Below B w w') (hB : w.heap.size ≤ B) : HasMax w' := by
  obtain ⟨m, hm⟩ := h
  have hl := World.block_lt_of_cell? w _ hm
  have hl' : (⟨1, 0, none⟩ : Addr).block < w.heap.size := hl
  exact ⟨m, (Below.cell (p := ⟨1, 0, none⟩) hE (Nat.lt_of_lt_of_le hl' hB)).trans hm⟩

/-- In a region of the reference's HeadWrite: the flag, and nothing below it has turned. -/
def HS (W0 : World) (B : Nat) (b : Bool) (W : World) : Prop := Boxed W B 4 (.bool (!b)) ∧ Below B W0 W
/-- What the text closure gives. -/
abbrev TextC (W0 : World) (B : Nat) (s : ByteArray) (n : Int) (p : ByteArray) (h : Bool) : Prop :=
  ∀ b W, HS W0 B b W → Calls Tryz.prog 100 #[.string s, .int .i64 n, .pointer (some ⟨B, 0, none⟩)] W fun e W' => e = .returned (.string p) ∧ HS W0 B (b || h) W'
abbrev NumC (W0 : World) (A B : Nat) (v : Int) (n : Int) (p : ByteArray) (h : Bool) : Prop :=
  ∀ b W, HS W0 B b W → Calls Tryz.prog 102 #[.int .i64 v, .int .i64 n, .pointer (some ⟨A, 0, none⟩), .pointer (some ⟨B, 0, none⟩)] W fun e W' => e = .returned (.string p) ∧ HS W0 B (b || h) W'
theorem textC (W0 : World) (B : Nat) (s : ByteArray) (n : Nat) (hs : s.size ≤ 100000) (hn : n ≤ 1000) (hB : ∀ w', Below B W0 w' → HasMax w') :
    TextC W0 B s (n : Int) (if fitS s n then padV s n else ⟨#[]⟩) (!fitS s n) := fun b W h =>
  (pad_any s n B (!b) W hs hn (hB W h.2) h.1).mono fun e W' ⟨h1, h2, h3⟩ => ⟨h1, by rw [show (!(b || !fitS s n)) = (!b && fitS s n) by simp]; exact h2, h.2.trans h3⟩
theorem numC (W0 : World) (A B : Nat) (v n f k : Int) (t : ByteArray) (hA : A < B) (ha : W0.heap[A]? = some (.cells #[.int .i64 f] 3 (0, 0)))
    (C1 : ∀ w, Calls Tryz.prog 103 #[.int .i64 v, .int .i64 n, .bool (f == 3)] w fun e w' => e = .returned (.tuple #[.string t, .int .i64 k]) ∧ Ext w w') :
    NumC W0 A B v n t (!(k == 0)) := fun b W h =>
  (num_any v n f k t A B (!b) W ((h.2.block A hA).trans ha) h.1 C1).mono fun e W' ⟨h1, h2, h3⟩ => ⟨h1, by rw [show (!(b || !(k == 0))) = (!b && (k == 0)) by simp]; exact h2, h.2.trans h3⟩
theorem HS.drew {W0 W : World} {B : Nat} {b : Bool} (h : HS W0 B b W) : HS W0 B b W.drew := ⟨h.1, h.2.drew⟩
theorem HS.ext {W0 W W' : World} {B : Nat} {b : Bool} (h : HS W0 B b W) (hE : Ext W W') : HS W0 B b W' := ⟨(hE.block B h.1.lt).trans h.1, h.2.trans (below_le (Nat.le_of_lt h.1.lt) hE)⟩
theorem three (w : World) (a b c : Obj) : (((w.alloc a).alloc b).alloc c).heap[w.heap.size]? = some a ∧ (((w.alloc a).alloc b).alloc c).heap[w.heap.size + 1]? = some b ∧ (((w.alloc a).alloc b).alloc c).heap[w.heap.size + 1 + 1]? = some c := by
  have s1 : (w.alloc a).heap.size = w.heap.size + 1 := by simp
  have s2 : ((w.alloc a).alloc b).heap.size = w.heap.size + 1 + 1 := by simp
  have h0 := heap_alloc_new w a
  have h1 := heap_alloc_new (w.alloc a) b
  have h2 := heap_alloc_new ((w.alloc a).alloc b) c
  have x1 : Ext (w.alloc a) ((w.alloc a).alloc b) := (Ext.refl _).alloc _
  have x2 : Ext ((w.alloc a).alloc b) (((w.alloc a).alloc b).alloc c) := (Ext.refl _).alloc _
  rw [s1] at h1
  rw [s2] at h2
  exact ⟨(x2.block _ (by omega)).trans ((x1.block _ (by omega)).trans h0), (x2.block _ (by omega)).trans h1, h2⟩

theorem rep16 (w : World) : Calls Tryz.prog 24 #[.string ⟨#[0]⟩, .int .i64 16] w fun e w' => e = .returned (.string z16V) ∧ Ext w w' :=
  (Tryz.strings_Repeat ⟨#[0]⟩ 16 w (by omega) (by show 1 * _ ≤ _; omega)).mono fun e w' h => h
theorem rep12 (w : World) : Calls Tryz.prog 24 #[.string ⟨#[0]⟩, .int .i64 12] w fun e w' => e = .returned (.string z12V) ∧ Ext w w' :=
  (Tryz.strings_Repeat ⟨#[0]⟩ 12 w (by omega) (by show 1 * _ ≤ _; omega)).mono fun e w' h => h
theorem cell_at {w : World} {b o : Nat} {a : Array Value} {t : TypeId} {v : Value} (h : w.heap[b]? = some (.cells a t (0, 0))) (hv : a[o]? = some v) : w.cell? ⟨b, o, none⟩ = some v := by
  simp [World.cell?, h, hv]
end Go.Proofs.YtnbcbipigiopbaaGreatDoor

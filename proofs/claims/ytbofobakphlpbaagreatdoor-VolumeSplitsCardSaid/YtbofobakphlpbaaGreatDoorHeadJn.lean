/-
  A header's two rows seal alike: head.Write's and the reference's. Plain; no conditions but the fields' lengths.
-/
import Derived.Test.YtbofobakphlpbaaGreatDoorHeadWr
import Derived.Test.YtbofobakphlpbaaGreatDoorHeadJ
namespace Go.Proofs.YtbofobakphlpbaaGreatDoor
open Go.RowKit Go.PlainAid

def X5 (a b c d e : ByteArray) : Nat → ByteArray
  | 0 => a
  | 1 => b
  | 2 => c
  | 3 => d
  | _ => e
def N7 (a b c d e f g : Int) : Nat → Int
  | 0 => a
  | 1 => b
  | 2 => c
  | 3 => d
  | 4 => e
  | 5 => f
  | _ => g
def T7 (a b c d e f g : ByteArray) : Nat → ByteArray
  | 0 => a
  | 1 => b
  | 2 => c
  | 3 => d
  | 4 => e
  | 5 => f
  | _ => g

theorem rowZ_v7 (nm lk s0 s1 s2 s3 s4 a b : ByteArray) (kd : Int) (h0 : fitS nm 100 = true) (h1 : fitS lk 100 = true) (z0 : s0.size = 8) (z1 : s1.size = 8) (z2 : s2.size = 8) (z3 : s3.size = 12) (z4 : s4.size = 12) :
    sealS (rowZ (X5 nm lk ⟨#[]⟩ ⟨#[]⟩ ⟨#[]⟩) (T7 s0 s1 s2 s3 s4 a b) 1 kd 5) = sealS (headS kd z16V true (padV nm 100) (padV lk 100) (padV ⟨#[]⟩ 32) (padV ⟨#[]⟩ 32) (padV ⟨#[]⟩ 155) s0 s1 s2 s3 s4 ⟨#[]⟩ ⟨#[]⟩ (magicV 1)) ∧
    sumE (rowZ (X5 nm lk ⟨#[]⟩ ⟨#[]⟩ ⟨#[]⟩) (T7 s0 s1 s2 s3 s4 a b) 1 kd 5) = 0 ∧ sumE (headS kd z16V true (padV nm 100) (padV lk 100) (padV ⟨#[]⟩ 32) (padV ⟨#[]⟩ 32) (padV ⟨#[]⟩ 155) s0 s1 s2 s3 s4 ⟨#[]⟩ ⟨#[]⟩ (magicV 1)) = 0 := by
  have hmg : (magicV 1).data.toList = List.replicate 8 0 := by
    unfold magicV
    rw [if_pos rfl]
  have F : HFit nm.data.toList lk.data.toList [] [] [] (magicV 1).data.toList s0.data.toList s1.data.toList s2.data.toList s3.data.toList s4.data.toList (List.replicate 8 0) (List.replicate 8 0) :=
    ⟨fit_size h0, fit_size h1, Nat.zero_le _, Nat.zero_le _, Nat.zero_le _, by rw [hmg, List.length_replicate], z0, z1, z2, z3, z4, List.length_replicate, List.length_replicate⟩
  have e : rowZ (X5 nm lk ⟨#[]⟩ ⟨#[]⟩ ⟨#[]⟩) (T7 s0 s1 s2 s3 s4 a b) 1 kd 5 = ⟨(splice (rowN5 (rowT nm.data.toList lk.data.toList [] [] []) s0.data.toList s1.data.toList s2.data.toList s3.data.toList s4.data.toList) 156 [UInt8.ofNat kd.toNat]).toArray⟩ := by
    unfold rowZ rowZL
    rw [if_pos rfl]
    rfl
  rw [headS_list7, e]
  refine ⟨seal_v7 F hmg rfl rfl, sumE_512 ?_, sumE_512 ?_⟩
  · show Array.size _ = 512
    rw [List.size_toArray, splice_len (by rw [row_len5 F]; simp), row_len5 F]
  · show Array.size _ = 512
    rw [List.size_toArray]
    exact hseg_len F
theorem rowZ_mg (nm lk us gr fr s0 s1 s2 s3 s4 s5 s6 : ByteArray) (f kd : Int) (hf : f ≠ 1) (h0 : fitS nm 100 = true) (h1 : fitS lk 100 = true) (h2 : fitS us 32 = true) (h3 : fitS gr 32 = true) (h4 : fitS fr 155 = true)
    (z0 : s0.size = 8) (z1 : s1.size = 8) (z2 : s2.size = 8) (z3 : s3.size = 12) (z4 : s4.size = 12) (z5 : s5.size = 8) (z6 : s6.size = 8) :
    sealS (rowZ (X5 nm lk us gr fr) (T7 s0 s1 s2 s3 s4 s5 s6) f kd 7) = sealS (headS kd z16V false (padV nm 100) (padV lk 100) (padV us 32) (padV gr 32) (padV fr 155) s0 s1 s2 s3 s4 s5 s6 (magicV f)) ∧
    sumE (rowZ (X5 nm lk us gr fr) (T7 s0 s1 s2 s3 s4 s5 s6) f kd 7) = 0 ∧ sumE (headS kd z16V false (padV nm 100) (padV lk 100) (padV us 32) (padV gr 32) (padV fr 155) s0 s1 s2 s3 s4 s5 s6 (magicV f)) = 0 := by
  have hmg : (magicV f).data.toList.length = 8 := by
    unfold magicV
    rw [if_neg hf]
    split <;> rfl
  have F : HFit nm.data.toList lk.data.toList us.data.toList gr.data.toList fr.data.toList (magicV f).data.toList s0.data.toList s1.data.toList s2.data.toList s3.data.toList s4.data.toList s5.data.toList s6.data.toList :=
    ⟨fit_size h0, fit_size h1, fit_size h2, fit_size h3, fit_size h4, hmg, z0, z1, z2, z3, z4, z5, z6⟩
  have e : rowZ (X5 nm lk us gr fr) (T7 s0 s1 s2 s3 s4 s5 s6) f kd 7 =
      ⟨(splice (splice (rowN7 (rowT nm.data.toList lk.data.toList us.data.toList gr.data.toList fr.data.toList) s0.data.toList s1.data.toList s2.data.toList s3.data.toList s4.data.toList s5.data.toList s6.data.toList) 156 [UInt8.ofNat kd.toNat]) 257 (magicV f).data.toList).toArray⟩ := by
    unfold rowZ rowZL
    rw [if_neg hf]
    rfl
  rw [headS_list, e]
  refine ⟨seal_mg F, sumE_512 ?_, sumE_512 ?_⟩
  · have l5 := row_len5 F
    have l6 : (rowN7 (rowT nm.data.toList lk.data.toList us.data.toList gr.data.toList fr.data.toList) s0.data.toList s1.data.toList s2.data.toList s3.data.toList s4.data.toList s5.data.toList s6.data.toList).length = 512 := by
      unfold rowN7
      have a1 : s5.data.toList.length = 8 := z5
      have a2 : s6.data.toList.length = 8 := z6
      rw [splice_len (by rw [splice_len (by rw [l5, a1]; decide), l5, a2]; decide), splice_len (by rw [l5, a1]; decide), l5]
    show Array.size _ = 512
    rw [List.size_toArray, splice_len (by rw [splice_len (by rw [l6]; simp), l6, hmg]; decide), splice_len (by rw [l6]; simp), l6]
  · show Array.size _ = 512
    rw [List.size_toArray]
    exact hseg_len F
end Go.Proofs.YtbofobakphlpbaaGreatDoor

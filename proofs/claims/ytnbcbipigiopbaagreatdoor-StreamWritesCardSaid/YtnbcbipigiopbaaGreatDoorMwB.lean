/-
  A member of any dialect is the same on both sides. No conditions but the arguments' bounds.
-/
import Derived.Test.YtnbcbipigiopbaaGreatDoorMwBp
import Derived.Test.YtnbcbipigiopbaaGreatDoorMwGr
import Derived.Test.YtnbcbipigiopbaaGreatDoorMwOr
namespace Go.Proofs.YtnbcbipigiopbaaGreatDoor
open Go.RowKit

theorem oldV_size {d : Int} {e : Ent} {k : Int} {h : ByteArray} (z : k = 0 → h.size = 512) (hd : e.dt.size ≤ 4009) : (oldV d e k h).size ≤ 20000 := by
  have a := wrnV_size (k := k) (h := h) (bs := e.dt) z
  unfold oldV
  split
  · show 0 ≤ _
    omega
  · omega
theorem gnuV_size {e : Ent} {A S : Nat → Int} (mo : MemOk e A S) {hK hL h : ByteArray} {k : Int} (zK : hK.size = 512) (zL : hL.size = 512) (z : k = 0 → h.size = 512) (hd : e.dt.size ≤ 4009) : (gnuV e A S hK hL h k).size ≤ 20000 := by
  have a := longB_size (s := e.lk) zK
  have b := longB_size (s := namB e.kd e.nm) zL
  have c := namB_size e.kd e.nm
  have h2 := mo.nm
  have h3 := mo.lk
  have o : (outB e hK hL).size ≤ 3000 := by
    unfold outB
    rw [ByteArray.size_append, ByteArray.size_append]
    show 0 + _ + _ ≤ _
    omega
  have p := padB_size e.dt.size
  have q := blkB_size (A := fun k => A (4 + k)) (S := fun k => S (4 + k)) (n := e.pn - 4) (fun k hk => mo.fits (4 + k) (by omega))
  unfold gnuV
  split
  · split
    · rename_i hk
      split
      · have r := sealS_size _ (hhB_size (z hk) mo)
        rw [ByteArray.size_append, ByteArray.size_append, ByteArray.size_append, ByteArray.size_append, r]
        omega
      · rw [ByteArray.size_append, ByteArray.size_append, ByteArray.size_append, z hk]
        omega
    · show 0 ≤ _
      omega
  · show 0 ≤ _
    omega
/-- V7 and Ustar on both sides. -/
theorem old_both (d : Int) (hd : d = 1 ∨ d = 2) (e : Ent) (ok : e.Ok) (A S : Nat → Int) (w : World) (hp : IsPieces w (.slice e.pa e.pn e.pc) e.pn A S) (hm : HasMax w) (hl : largeB e = false) :
    ∃ (s : ByteArray) (k : Int), s.size ≤ 20000 ∧ (∀ W, Ext w W → Calls Tryz.prog 17 #[.int .i64 d, .agg #[.string e.nm, .int .u8 e.kd, .int .i64 e.md, .int .i64 e.ui, .int .i64 e.gi, .int .i64 e.sz, .int .i64 e.ts, .int .i64 e.tn, .string e.lk, .string e.us, .string e.gr, .int .i64 e.ma, .int .i64 e.mi, .string e.dt, .slice e.pa e.pn e.pc]] W fun x w' => x = .returned (.tuple #[.string s, .int .i64 k]) ∧ Ext W w') ∧ (∀ W, Ext w W → Calls Tryz.prog 18 #[.int .i64 d, .agg #[.string e.nm, .int .u8 e.kd, .int .i64 e.md, .int .i64 e.ui, .int .i64 e.gi, .int .i64 e.sz, .int .i64 e.ts, .int .i64 e.tn, .string e.lk, .string e.us, .string e.gr, .int .i64 e.ma, .int .i64 e.mi, .string e.dt, .slice e.pa e.pn e.pc]] W fun x w' => x = .returned (.tuple #[.string s, errOf k]) ∧ Ext W w') := by
  obtain ⟨hn, hdz⟩ := large_not hl
  cases hmem : memB e.kd e.md e.ui e.gi e.sz e.ts e.tn e.ma e.mi e.nm e.lk e.us e.gr e.dt e.pn A S with
  | false => exact ⟨⟨#[]⟩, 1, by decide, fun W hW => refArg_any e ok A S W (hp.ext hW) d (.inr (.inr hmem)), fun W hW => writeArg_any e ok A S W (hp.ext hW) d (.inr (.inr hmem))⟩
  | true =>
    have mo := memOk hmem
    have h1 := namB_size e.kd e.nm
    have h2 := mo.nm
    have h3 := mo.lk
    have h4 := mo.us
    have h5 := mo.gr
    have hk : 0 ≤ kdO d e.kd ∧ kdO d e.kd < 256 := by
      unfold kdO
      have := mo.kd0
      have := mo.kd1
      split <;> omega
    obtain ⟨h, k, HW⟩ := wrn_ways d e.us e.gr (kdO d e.kd) e.md e.ui e.gi e.dt.size e.ts e.ma e.mi (namB e.kd e.nm) e.lk (by omega) (by omega) (by omega) (by omega) hk.1 hk.2
      (by have := mo.md0; omega) (by have := mo.md1; omega) (by have := mo.ui0; omega) (by have := mo.ui1; omega) (by have := mo.gi0; omega) (by have := mo.gi1; omega) (by omega) (by omega) (by have := mo.ts0; omega) (by have := mo.ts1; omega)
      (by have := mo.ma0; omega) (by have := mo.ma1; omega) (by have := mo.mi0; omega) (by have := mo.mi1; omega)
    exact ⟨oldV d e k h, oldE d e k, oldV_size HW.1 (by omega), fun W hW => refOld_any e ok A S W (hp.ext hW) d hd hmem (by omega) h k HW (hm.ext hW), fun W hW => writeOld_any e ok A S W (hp.ext hW) d hd hmem (by omega) h k HW (hm.ext hW)⟩
/-- Gnu on both sides. -/
theorem gnu_both (e : Ent) (ok : e.Ok) (A S : Nat → Int) (w : World) (hp : IsPieces w (.slice e.pa e.pn e.pc) e.pn A S) (hcap : e.pn ≤ e.pc) (hm : HasMax w) (hl : largeB e = false) :
    ∃ (s : ByteArray) (k : Int), s.size ≤ 20000 ∧ (∀ W, Ext w W → Calls Tryz.prog 17 #[.int .i64 3, .agg #[.string e.nm, .int .u8 e.kd, .int .i64 e.md, .int .i64 e.ui, .int .i64 e.gi, .int .i64 e.sz, .int .i64 e.ts, .int .i64 e.tn, .string e.lk, .string e.us, .string e.gr, .int .i64 e.ma, .int .i64 e.mi, .string e.dt, .slice e.pa e.pn e.pc]] W fun x w' => x = .returned (.tuple #[.string s, .int .i64 k]) ∧ Ext W w') ∧ (∀ W, Ext w W → Calls Tryz.prog 18 #[.int .i64 3, .agg #[.string e.nm, .int .u8 e.kd, .int .i64 e.md, .int .i64 e.ui, .int .i64 e.gi, .int .i64 e.sz, .int .i64 e.ts, .int .i64 e.tn, .string e.lk, .string e.us, .string e.gr, .int .i64 e.ma, .int .i64 e.mi, .string e.dt, .slice e.pa e.pn e.pc]] W fun x w' => x = .returned (.tuple #[.string s, errOf k]) ∧ Ext W w') := by
  obtain ⟨hn, hd⟩ := large_not hl
  cases hmem : memB e.kd e.md e.ui e.gi e.sz e.ts e.tn e.ma e.mi e.nm e.lk e.us e.gr e.dt e.pn A S with
  | false => exact ⟨⟨#[]⟩, 1, by decide, fun W hW => refArg_any e ok A S W (hp.ext hW) 3 (.inr (.inr hmem)), fun W hW => writeArg_any e ok A S W (hp.ext hW) 3 (.inr (.inr hmem))⟩
  | true =>
    have mo := memOk hmem
    have h1 := namB_size e.kd e.nm
    have h2 := mo.nm
    have h3 := mo.lk
    have h4 := mo.us
    have h5 := mo.gr
    have hc1 := cutB_size (namB e.kd e.nm)
    have hc2 := cutB_size e.lk
    have hk : 0 ≤ kdS e ∧ kdS e < 256 := by
      unfold kdS
      have := mo.kd0
      have := mo.kd1
      split <;> omega
    obtain ⟨hK, HK⟩ := long_any e.lk 75 (by omega) (by decide) (by decide)
    obtain ⟨hL, HL⟩ := long_any (namB e.kd e.nm) 76 (by omega) (by decide) (by decide)
    obtain ⟨h, k, HW⟩ := wrn_ways 3 e.us e.gr (kdS e) e.md e.ui e.gi e.dt.size e.ts e.ma e.mi (cutB (namB e.kd e.nm)) (cutB e.lk) (by omega) (by omega) (by omega) (by omega) hk.1 hk.2
      (by have := mo.md0; omega) (by have := mo.md1; omega) (by have := mo.ui0; omega) (by have := mo.ui1; omega) (by have := mo.gi0; omega) (by have := mo.gi1; omega) (by omega) (by omega) (by have := mo.ts0; omega) (by have := mo.ts1; omega)
      (by have := mo.ma0; omega) (by have := mo.ma1; omega) (by have := mo.mi0; omega) (by have := mo.mi1; omega)
    exact ⟨gnuV e A S hK hL h k, gnuE e k, gnuV_size mo (HK.1 rfl) (HL.1 rfl) HW.1 (by omega), fun W hW => refGnu_sw e ok A S W (hp.ext hW) hmem (by omega) _ _ (fun W2 hW2 => refGnu_any e ok A S W2 ((hp.ext hW).ext hW2) mo (by omega) hK hL h k HK HL HW (hm.ext (hW.trans hW2))),
      fun W hW => writeGnu_sw e ok A S W (hp.ext hW) hmem _ _ (fun W2 hW2 => writeGnu_any e ok A S W2 ((hp.ext hW).ext hW2) hcap mo (by omega) hK hL h k HK HL HW (hm.ext (hW.trans hW2)))⟩
/-- Every dialect. -/
theorem any_both (d : Int) (e : Ent) (ok : e.Ok) (A S : Nat → Int) (w : World) (hp : IsPieces w (.slice e.pa e.pn e.pc) e.pn A S) (hcap : e.pn ≤ e.pc) (hm : HasMax w) (ht : HasPow w) (hl : largeB e = false) :
    ∃ (s : ByteArray) (k : Int), s.size ≤ 20000 ∧ (∀ W, Ext w W → Calls Tryz.prog 17 #[.int .i64 d, .agg #[.string e.nm, .int .u8 e.kd, .int .i64 e.md, .int .i64 e.ui, .int .i64 e.gi, .int .i64 e.sz, .int .i64 e.ts, .int .i64 e.tn, .string e.lk, .string e.us, .string e.gr, .int .i64 e.ma, .int .i64 e.mi, .string e.dt, .slice e.pa e.pn e.pc]] W fun x w' => x = .returned (.tuple #[.string s, .int .i64 k]) ∧ Ext W w') ∧ (∀ W, Ext w W → Calls Tryz.prog 18 #[.int .i64 d, .agg #[.string e.nm, .int .u8 e.kd, .int .i64 e.md, .int .i64 e.ui, .int .i64 e.gi, .int .i64 e.sz, .int .i64 e.ts, .int .i64 e.tn, .string e.lk, .string e.us, .string e.gr, .int .i64 e.ma, .int .i64 e.mi, .string e.dt, .slice e.pa e.pn e.pc]] W fun x w' => x = .returned (.tuple #[.string s, errOf k]) ∧ Ext W w') := by
  by_cases h12 : d = 1 ∨ d = 2
  · exact old_both d h12 e ok A S w hp hm hl
  · by_cases h3 : d = 3
    · subst h3; exact gnu_both e ok A S w hp hcap hm hl
    · by_cases h4 : d = 4
      · subst h4; exact pax_both e ok A S w hp hm ht hl
      · have hd : d < 1 ∨ 4 < d := by omega
        exact ⟨⟨#[]⟩, 1, by decide, fun W hW => refArg_any e ok A S W (hp.ext hW) d (hd.imp id .inl), fun W hW => writeArg_any e ok A S W (hp.ext hW) d (hd.imp id .inl)⟩
end Go.Proofs.YtnbcbipigiopbaaGreatDoor

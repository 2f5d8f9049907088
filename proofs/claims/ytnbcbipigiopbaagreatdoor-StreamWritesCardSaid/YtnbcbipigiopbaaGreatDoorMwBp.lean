/-
  A member of Pax is the same on both sides. No conditions but the arguments' bounds.
-/
import Derived.Test.YtnbcbipigiopbaaGreatDoorPxR
import Derived.Test.YtnbcbipigiopbaaGreatDoorPxP
import Derived.Test.YtnbcbipigiopbaaGreatDoorMwSw
namespace Go.Proofs.YtnbcbipigiopbaaGreatDoor
open Go.RowKit

theorem paxV_size {L : List (ByteArray × ByteArray)} {k1 k2 : Int} {h1 h2 dat : ByteArray} (z1 : k1 = 0 → h1.size = 512) (z2 : k2 = 0 → h2.size = 512) (hz : (wrV L.length (keyF L) (valF L)).size + dat.size ≤ 10000) : (paxV L k1 k2 h1 h2 dat).size ≤ 20000 := by
  have a := wrnV_size (k := k1) (h := h1) (bs := wrV L.length (keyF L) (valF L)) z1
  have b := wrnV_size (k := k2) (h := h2) (bs := dat) z2
  have c : (paxO L k1 h1).size ≤ 1023 + (wrV L.length (keyF L) (valF L)).size := by
    unfold paxO
    split
    · show 0 ≤ _
      omega
    · exact a
  unfold paxV
  split
  · split
    · rw [ByteArray.size_append]
      omega
    · show 0 ≤ _
      omega
  · show 0 ≤ _
    omega
/-- Pax on both sides. -/
theorem pax_both (e : Ent) (ok : e.Ok) (A S : Nat → Int) (w : World) (hp : IsPieces w (.slice e.pa e.pn e.pc) e.pn A S) (hm : HasMax w) (ht : HasPow w) (hl : largeB e = false) :
    ∃ (s : ByteArray) (k : Int), s.size ≤ 20000 ∧ (∀ W, Ext w W → Calls Tryz.prog 17 #[.int .i64 4, .agg #[.string e.nm, .int .u8 e.kd, .int .i64 e.md, .int .i64 e.ui, .int .i64 e.gi, .int .i64 e.sz, .int .i64 e.ts, .int .i64 e.tn, .string e.lk, .string e.us, .string e.gr, .int .i64 e.ma, .int .i64 e.mi, .string e.dt, .slice e.pa e.pn e.pc]] W fun x w' => x = .returned (.tuple #[.string s, .int .i64 k]) ∧ Ext W w') ∧ (∀ W, Ext w W → Calls Tryz.prog 18 #[.int .i64 4, .agg #[.string e.nm, .int .u8 e.kd, .int .i64 e.md, .int .i64 e.ui, .int .i64 e.gi, .int .i64 e.sz, .int .i64 e.ts, .int .i64 e.tn, .string e.lk, .string e.us, .string e.gr, .int .i64 e.ma, .int .i64 e.mi, .string e.dt, .slice e.pa e.pn e.pc]] W fun x w' => x = .returned (.tuple #[.string s, errOf k]) ∧ Ext W w') := by
  obtain ⟨hn, hd⟩ := large_not hl
  cases hmem : memB e.kd e.md e.ui e.gi e.sz e.ts e.tn e.ma e.mi e.nm e.lk e.us e.gr e.dt e.pn A S with
  | false => exact ⟨⟨#[]⟩, 1, by decide, fun W hW => refArg_any e ok A S W (hp.ext hW) 4 (.inr (.inr hmem)), fun W hW => writeArg_any e ok A S W (hp.ext hW) 4 (.inr (.inr hmem))⟩
  | true =>
    have mo := memOk hmem
    have h1 := namB_size e.kd e.nm
    have h2 := mo.nm
    have h3 := mo.lk
    have h4 := mo.us
    have h5 := mo.gr
    have h7 := cutB_size e.lk
    obtain ⟨na, nb, fits, hv, _⟩ := splitV_parts (namB e.kd e.nm)
    obtain ⟨sp, hsp⟩ : ∃ b, spB e.sz e.dt e.pn = b := ⟨_, rfl⟩
    obtain ⟨L, hL⟩ : ∃ L, recsL sp fits e.sz e.gi e.ui e.ts e.tn e.lk (namB e.kd e.nm) = L := ⟨_, rfl⟩
    obtain ⟨dat, hdat⟩ : ∃ d, datV sp A S e.pn e.dt = d := ⟨_, rfl⟩
    have hdt : e.dt.size ≤ 4009 := by omega
    have hdz : dat.size ≤ 1200 + e.dt.size := by rw [← hdat]; exact datV_size mo.n20 mo.pc
    have hnz : (nmV fits (namB e.kd e.nm)).size ≤ 1000 := by
      unfold nmV
      split
      · omega
      · decide
    have hwz := wrV_size (L := L) (by rw [← hL]; exact recsL_len _ _ _ _ _ _ _ _ _)
    have r1 := idV_rng mo.ui0
    have r2 := idV_rng mo.gi0
    have r3 := tmV_rng e.ts
    obtain ⟨g1, k1, H1⟩ := wrn_ways 4 ⟨#[]⟩ ⟨#[]⟩ 120 0 0 0 ((wrV L.length (keyF L) (valF L)).size : Int) 0 0 0 paxHd ⟨#[]⟩ (by decide) (by decide) (by decide) (by decide) (by decide) (by decide)
      (by decide) (by decide) (by decide) (by decide) (by decide) (by decide) (by omega) (by omega) (by decide) (by decide) (by decide) (by decide) (by decide) (by decide)
    obtain ⟨g2, k2, H2⟩ := wrn_ways 4 e.us e.gr e.kd e.md (idV e.ui) (idV e.gi) (dat.size : Int) (tmV e.ts) e.ma e.mi (nmV fits (namB e.kd e.nm)) (cutB e.lk) (by omega) (by omega) (by omega) (by omega) (by have := mo.kd0; omega) (by have := mo.kd1; omega)
      (by have := mo.md0; omega) (by have := mo.md1; omega) (by omega) (by omega) (by omega) (by omega) (by omega) (by omega) (by omega) (by omega)
      (by have := mo.ma0; omega) (by have := mo.ma1; omega) (by have := mo.mi0; omega) (by have := mo.mi1; omega)
    exact ⟨paxV L k1 k2 g1 g2 dat, paxE L k1 k2, paxV_size H1.1 H2.1 (by omega), fun W hW => refPax_sw e ok A S W (hp.ext hW) hmem hdt _ _ (fun W2 hW2 => refPax_any e ok A S W2 ((hp.ext hW).ext hW2) mo hdt fits na nb hv sp hsp L hL dat hdat g1 g2 k1 k2 H1 H2 (hm.ext (hW.trans hW2)) (ht.ext (hW.trans hW2))),
      fun W hW => writePax_sw e ok A S W (hp.ext hW) hmem _ _ (fun W2 hW2 => writePax_any e ok A S W2 ((hp.ext hW).ext hW2) mo hdt fits na nb hv sp hsp L hL dat hdat g1 g2 k1 k2 H1 H2 (hm.ext (hW.trans hW2)) (ht.ext (hW.trans hW2)))⟩
end Go.Proofs.YtnbcbipigiopbaaGreatDoor

/-
  The law StreamWrites holds: Write returns what the reference returns for any dialect, records and members. No conditions.
-/
import Derived.Test.YtnbcbipigiopbaaGreatDoorMwB
import Derived.Test.YtnbcbipigiopbaaGreatDoorPkR
import Derived.Test.YtnbcbipigiopbaaGreatDoorPkP
import Derived.Test.YtnbcbipigiopbaaGreatDoorPowL
import Derived.Test.YtnbcbipigiopbaaGreatDoorPkL
import Derived.Test.YtnbcbipigiopbaaGreatDoorSwF
namespace Go.Proofs.YtnbcbipigiopbaaGreatDoor.streamWrites
open Go.ChangeShapes Go.WideShapes Go.ChangeAt Go.RowKit Go.Joins

theorem lots_no {n : Nat} {E : Nat → Ent} (h : lotsB n E 45 = false) : n ≤ 45 ∧ ∀ k, k < n → largeB (E k) = false := by
  unfold lotsB at h
  rw [Bool.or_eq_false_iff] at h
  obtain ⟨h1, h2⟩ := h
  refine ⟨by have := of_decide_eq_false h1; omega, fun k hk => ?_⟩
  rw [List.any_eq_false] at h2
  have h3 := h2 k (by simpa using hk)
  simpa using h3
/-- Both sides give one thing. -/
theorem both (d : Int) (w : World) (v1 v2 : Value) (n m : Nat) (E : Nat → Ent) (K X : Nat → ByteArray) (A S : Nat → Nat → Int) (hE : IsEnts w v2 n E) (hp : ∀ k, k < n → IsPieces w (.slice (E k).pa (E k).pn (E k).pc) (E k).pn (A k) (S k) ∧ (E k).pn ≤ (E k).pc) (hok : ∀ k, k < n → (E k).Ok)
    (hP : IsPairs w v1 m K X) (hg : HasHandle w) (hm : HasMax w) (ht : HasPow w) (hv : heavyB m K X = false) (hl : lotsB n E 45 = false) :
    ∃ R : Tep, (∀ W, Ext w W → Calls Tryz.prog 11 #[.int .i64 d, v1, v2] W fun x w' => x = .returned (.tuple #[.string R.v, .agg #[.int .i64 R.e, .int .i64 R.p]]) ∧ Ext W w') ∧ ∀ W, Ext w W → Calls Tryz.prog 12 #[.int .i64 d, v1, v2] W (GivesTep R W) := by
  obtain ⟨hn, hlk⟩ := lots_no hl
  obtain ⟨hm30, hS⟩ := heavy_short hv
  have hq : ∀ i : Nat, ∃ q : ByteArray × Int, i < n → q.1.size ≤ 20000 ∧ (∀ W, Ext w W → Calls Tryz.prog 17 #[.int .i64 d, .agg #[.string (E i).nm, .int .u8 (E i).kd, .int .i64 (E i).md, .int .i64 (E i).ui, .int .i64 (E i).gi, .int .i64 (E i).sz, .int .i64 (E i).ts, .int .i64 (E i).tn, .string (E i).lk, .string (E i).us, .string (E i).gr, .int .i64 (E i).ma, .int .i64 (E i).mi, .string (E i).dt, .slice (E i).pa (E i).pn (E i).pc]] W fun x w' => x = .returned (.tuple #[.string q.1, .int .i64 q.2]) ∧ Ext W w') ∧ (∀ W, Ext w W → Calls Tryz.prog 18 #[.int .i64 d, .agg #[.string (E i).nm, .int .u8 (E i).kd, .int .i64 (E i).md, .int .i64 (E i).ui, .int .i64 (E i).gi, .int .i64 (E i).sz, .int .i64 (E i).ts, .int .i64 (E i).tn, .string (E i).lk, .string (E i).us, .string (E i).gr, .int .i64 (E i).ma, .int .i64 (E i).mi, .string (E i).dt, .slice (E i).pa (E i).pn (E i).pc]] W fun x w' => x = .returned (.tuple #[.string q.1, errOf q.2]) ∧ Ext W w') := fun i => by
    by_cases hi : i < n
    · obtain ⟨s, k, a, b, c⟩ := any_both d (E i) (hok i hi) (A i) (S i) w (hp i hi).1 (hp i hi).2 hm ht (hlk i hi)
      exact ⟨(s, k), fun _ => ⟨a, b, c⟩⟩
    · exact ⟨(⟨#[]⟩, 0), fun h => absurd h hi⟩
  obtain ⟨f, hf⟩ := Classical.axiomOfChoice hq
  obtain ⟨h, hh, G1, G2⟩ := glob_both (wrV m K X) (by have := wrV_le m K X; omega)
  exact ⟨streamV d n m (wrE m K X) (wrnV 0 h (wrV m K X)) (fun k => (f k).1) (fun k => (f k).2),
    fun W hW => refStream_any d W v1 v2 n m E K X (fun k => (f k).1) (fun k => (f k).2) (hE.ext hW) hn (hP.ext hW) hS hm30 (fun k hk => (hf k hk).1) (fun k hk W2 hW2 => (hf k hk).2.1 W2 (hW.trans hW2)) h hh G2 (hg.ext hW) (hm.ext hW) (ht.ext hW),
    fun W hW => streamWrite_any d W v1 v2 n m E K X (fun k => (f k).1) (fun k => (f k).2) (hE.ext hW) hn (hP.ext hW) hS hm30 (fun k hk => (hf k hk).1) (fun k hk W2 hW2 => (hf k hk).2.2 W2 (hW.trans hW2)) h hh G1 (hg.ext hW) (hm.ext hW) (ht.ext hW)⟩

set_option maxHeartbeats 4000000 in
set_option maxRecDepth 100000 in
theorem law (d : Int) (w : World) (v1 v2 : Value) (n m : Nat) (E : Nat → Ent) (K X : Nat → ByteArray) (A S : Nat → Nat → Int) (hE : IsEnts w v2 n E) (hp : ∀ k, k < n → IsPieces w (.slice (E k).pa (E k).pn (E k).pc) (E k).pn (A k) (S k) ∧ (E k).pn ≤ (E k).pc) (hok : ∀ k, k < n → (E k).Ok)
    (hP : IsPairs w v1 m K X) (hg : HasHandle w) (hm : HasMax w) (ht : HasPow w) :
    Calls Tryz.prog 6 #[.int .i64 d, v1, v2] w fun x w' => x = .returned (.bool true) ∧ Ext w w' := by
  have C1 := Lib.hid (fun W (hW : Ext w W) => heavy_any W v1 m K X (hP.ext hW))
  have C2 := Lib.hid (fun W (hW : Ext w W) => lots_any W v2 n E 45 (hE.ext hW))
  have hO1 := isPairs_open hP
  have hO2 := isEnts_open hE
  cases hv : heavyB m K X with
  | true =>
    rw [hv] at C1
    obtain ⟨a1, c1, rfl⟩ := hO1
    obtain ⟨a2, c2, rfl⟩ := hO2
    clear hE hp hok hP hg hm ht C2
    go_enter Tryz.func6, Tryz.ntmps6
    go_wp2_with fail
    refine (C1.out _ (Ext.refl _)).mono ?_; rintro x w1 ⟨rfl, hx1⟩
    go_wp2_with fail
    go_ret
    exact ⟨rfl, hx1⟩
  | false =>
    rw [hv] at C1
    cases hl : lotsB n E 45 with
    | true =>
      rw [hl] at C2
      obtain ⟨a1, c1, rfl⟩ := hO1
      obtain ⟨a2, c2, rfl⟩ := hO2
      clear hE hp hok hP hg hm ht
      go_enter Tryz.func6, Tryz.ntmps6
      go_wp2_with fail
      refine (C1.out _ (Ext.refl _)).mono ?_; rintro x w1 ⟨rfl, hx1⟩
      go_wp2_with fail
      refine (C2.out _ hx1).mono ?_; rintro x w2 ⟨rfl, hx2⟩
      go_wp2_with fail
      go_ret
      exact ⟨rfl, hx1.trans hx2⟩
    | false =>
      rw [hl] at C2
      obtain ⟨R, r3, r4⟩ := both d w v1 v2 n m E K X A S hE hp hok hP hg hm ht hv hl
      obtain ⟨s, k, pl⟩ := R
      have C3 := Lib.hid r3
      have C4 := Lib.hid r4
      obtain ⟨a1, c1, rfl⟩ := hO1
      obtain ⟨a2, c2, rfl⟩ := hO2
      clear hE hp hok hP hm ht hv hl r3 r4
      go_enter Tryz.func6, Tryz.ntmps6
      go_wp2_with fail
      refine (C1.out _ (Ext.refl _)).mono ?_; rintro x w1 ⟨rfl, hx1⟩
      go_wp2_with fail
      refine (C2.out _ hx1).mono ?_; rintro x w2 ⟨rfl, hx2⟩
      have hy2 := hx1.trans hx2
      go_wp2_with fail
      refine (C3.out _ hy2).mono ?_; rintro x w3 ⟨rfl, hx3⟩
      have hy3 := hy2.trans hx3
      go_wp2_with fail
      have hx4 : Ext w3 (w3.alloc (.cells #[.int .i64 k, .int .i64 pl] 35)) := (Ext.refl _).alloc _
      refine (C4.out _ (hy3.trans hx4)).mono ?_; rintro x w5 ⟨ev, rfl, hI, hx5⟩
      obtain ⟨r1, r2, _, _, r5⟩ := res_box hx5
      have hy5 := (hy3.trans hx4).trans hx5
      have C5 := Lib.hid (placed_same ev k pl w5 (hg.ext hy5) hI)
      clear hI
      go_wp2_with fail
      refine C5.out.mono ?_; rintro x w6 ⟨rfl, hx6⟩
      go_wp2_with fail
      go_ret
      exact ⟨ret_bool (by simp), hy5.trans hx6⟩

set_option maxRecDepth 100000 in
theorem walk : Frame.WalksP Rows.streamWritesRow.laid 6 Tryz.f6 := by
  intro H enc W base args ds p hL hSh hval hA hsz
  have hg := Frame.handle_of_laidB rfl hL
  have hm := HasMax.ofShaped hSh
  have ht := pow_of_laidB (Frame.data_of_laidB rfl hL)
  rw [Tryz.params6] at hA hval hsz
  obtain ⟨v0, v1, v2, d0, d1, d2, p0, p1, p2, rfl, rfl, rfl, h0, h1, h2⟩ := trodAll_three hA
  obtain ⟨d, rfl, rfl, rfl, wd⟩ := open_int Tryz.underlying3 (hval 0 3 v0 rfl rfl) h0
  obtain ⟨m, K, X, hP⟩ := arg_pairs (hval 1 29 v1 rfl rfl) h1 hsz (j := 1) rfl rfl
  obtain ⟨n, E, A, S, hE, hp⟩ := arg_entsC (hval 2 30 v2 rfl rfl) h2 hsz (j := 2) rfl rfl
  have hok : ∀ k, k < n → (E k).Ok := fun k hk => by
    rcases hE with ⟨_, rfl⟩ | ⟨b, off, cap, _, _, hc⟩
    · omega
    · exact (hc k hk).1
  exact law d W v1 v2 n m E K X A S hE hp hok hP hg hm ht

/-! ### The row and the card -/
theorem plain : Frame.Plain Rows.streamWritesSpec Tryz.f6 := by
  refine ⟨rfl, fun H ds h => ?_⟩
  rw [Tryz.params6] at h
  match ds, h with
  | [_, _, _], _ => rfl
theorem read : ∀ t ∈ Tryz.f6.params.toList, Tryz.prog.readableRec t = true ∧ t < Tryz.prog.types.size := by
  rw [Tryz.params6]
  intro t ht
  simp at ht
  rcases ht with rfl | rfl | rfl
  all_goals exact ⟨by kernel_rfl, of_decide_eq_true (by kernel_rfl)⟩
theorem reads (os : Os) {H : Type} (enc : TypeId × Value → H) : ∃ places, DataW.whole enc Tryz.prog ((Frame.bothWorld os Rows.streamWritesRow.laid).forCall (fun _ _ => 0) ⟨#[], #[.int .i64 0, .slice none 0 0, .slice none 0 0], []⟩).memory Tryz.f6.params.toList Rows.streamWritesSpec.vars false (#[.int .i64 0, .slice none 0 0, .slice none 0 0] : Array Value).toList 8 = some ([.lit (.int .i64 0), .nil, .nil], [], places) :=
  ⟨[], by kernel_rfl⟩
set_option maxRecDepth 100000 in
theorem lifted (os : Os) (started : os.Started) (H : Type) (enc : TypeId × Value → H) (Fi : Stop.Interp) :
    ReturnsInHanded {} Tryz.checked os 6 .any ((OpenSpec.ofChange Rows.streamWritesSpec).preRow enc Tryz.prog Tryz.f6 Rows.streamWritesRow.domain false Rows.streamWritesRow.laid) (((OpenSpec.ofChange Rows.streamWritesSpec).at Fi).post enc Tryz.prog Tryz.f6 false true false false) := by
  obtain ⟨places, hx⟩ := reads os enc
  exact Frame.liftedP Tryz.func6 (by kernel_rfl) plain (by kernel_rfl) read walk os started H enc Fi
    (Frame.witness_zip (enc := enc) (C := Tryz.checked) false (Frame.bothWorld os Rows.streamWritesRow.laid) #[.int .i64 0, .slice none 0 0, .slice none 0 0] rfl (by kernel_rfl) (by kernel_rfl) (by kernel_rfl)
      (OpenSpec.preRow_of_cond 8 hx (by kernel_rfl) (fun k hk => by cases hk) (by kernel_rfl) (Frame.bothWorld_met _ (by kernel_rfl) (by kernel_rfl) (by kernel_rfl))))
theorem instd : Tryz.f6.isInstance Tryz.pinned.checked.prog Rows.streamWritesRow.origin Rows.streamWritesRow.targs := of_decide_eq_true (by kernel_rfl)
theorem wrapped : Tryz.f6.isWrapper Tryz.pinned.checked.prog Rows.streamWritesRow.wrapper Rows.streamWritesRow.mainSum := by unfold Func.isWrapper; first | (rw [if_pos (by decide +kernel)]; kernel_rfl) | (rw [if_neg (by decide +kernel)]; exact ⟨rfl, rfl⟩)
theorem called : Tryz.pinned.checked.prog.funcNamed Rows.streamWritesRow.func = some 6 := by kernel_rfl
set_option maxRecDepth 100000 in
theorem said : Rows.StreamWritesSaid :=
  OpenClaim.holds_of_cond 6 Tryz.f6 rfl rfl rfl rfl rfl rfl rfl ⟨rfl, rfl, rfl, rfl, rfl⟩ rfl rfl rfl rfl rfl called Tryz.func6 joined instd wrapped
    (fun os started H enc _ F => by rw [OpenClaim.pre_eq_preRow]; exact lifted os started H enc F)
theorem byText : Rows.streamWritesRow.wfByText (OpenSpec.ofChange Rows.streamWritesSpec) = true := by kernel_rfl
theorem goes : false = Rows.streamWritesRow.goesBy Tryz.pinned.checked.prog := by kernel_rfl
theorem looks (f : FuncId) (fn : Func) (hf : Tryz.pinned.checked.prog.funcNamed "revetment/revetmentlaw.StreamWrites" = some f) (hfn : Tryz.pinned.checked.prog.funcs[f]? = some fn) :
    Rows.streamWritesCard.stood.looks = Tryz.pinned.checked.prog.looks [] ∧ ∀ (j : Nat) t, fn.params[j]? = some t → Tryz.pinned.checked.prog.wantsStandIn t = false := by
  obtain rfl : f = 6 := Option.some.inj ((show Tryz.prog.funcNamed "revetment/revetmentlaw.StreamWrites" = some 6 by kernel_rfl).symm.trans hf) |>.symm
  obtain rfl : fn = Tryz.f6 := (Option.some.inj (Tryz.func6.symm.trans hfn)).symm
  refine ⟨by kernel_rfl, fun j t ht => ?_⟩
  rw [Tryz.params6] at ht
  have ht' := Array.mem_of_getElem? ht
  simp at ht'
  rcases ht' with rfl | rfl | rfl
  · exact (show Tryz.prog.wantsStandIn 3 = false by kernel_rfl)
  · exact (show Tryz.prog.wantsStandIn 29 = false by kernel_rfl)
  · exact (show Tryz.prog.wantsStandIn 30 = false by kernel_rfl)
set_option maxRecDepth 100000 in
theorem streamWrites_holds : Rows.StreamWritesCardSaid :=
  Claim7.holds_tied_plain_at .later [] _ _ _ _ said (fun _ h => by cases h) byText (fun _ h => by cases h) streamWrites_row_tie rfl ⟨rfl, rfl⟩ (by kernel_rfl) rfl looks goes
#print axioms streamWrites_holds
end Go.Proofs.YtnbcbipigiopbaaGreatDoor.streamWrites

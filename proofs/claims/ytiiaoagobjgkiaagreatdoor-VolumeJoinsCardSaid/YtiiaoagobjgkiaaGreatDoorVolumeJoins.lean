/-
  The law VolumeJoins holds: Join returns what the reference returns for any volumes. No conditions.
-/
import Derived.Test.YtiiaoagobjgkiaaGreatDoorVjQ
import Derived.Test.YtiiaoagobjgkiaaGreatDoorVjW
import Derived.Test.YtiiaoagobjgkiaaGreatDoorPkS
import Derived.Test.YtiiaoagobjgkiaaGreatDoorPlV
namespace Go.Proofs.YtiiaoagobjgkiaaGreatDoor.volumeJoins
open Go.ChangeShapes Go.WideShapes Go.ChangeAt Go.RowKit Go.Joins

/-- The bytes of the first texts. -/
def sumT (T : Nat → ByteArray) : Nat → Nat
  | 0 => 0
  | k + 1 => sumT T k + (T k).size
theorem sumT_le {T : Nat → ByteArray} {n B : Nat} (h : ∀ k, k < n → (T k).size ≤ B) : ∀ k, k ≤ n → sumT T k ≤ k * B
  | 0, _ => Nat.zero_le _
  | k + 1, hk => by
    have h1 := sumT_le h k (by omega)
    have h2 := h k (by omega)
    show sumT T k + (T k).size ≤ _
    rw [Nat.succ_mul]
    omega
theorem sumT_ge (T : Nat → ByteArray) {k : Nat} : ∀ n, k < n → (T k).size ≤ sumT T n
  | 0, h => absurd h (Nat.not_lt_zero _)
  | n + 1, h => by
    show _ ≤ sumT T n + (T n).size
    by_cases hk : k < n
    · have := sumT_ge T n hk
      omega
    · have : k = n := by omega
      rw [this]
      omega
/-- Both sides give one thing. -/
theorem both (w : World) (oa : Option Addr) (n cap : Nat) (T : Nat → ByteArray) (hn : n ≤ 30) (hat : ∀ k, k < n → ∃ b off, oa = some ⟨b, off, none⟩ ∧ w.cell? ⟨b, off + k, none⟩ = some (.string (T k))) (hs : sumT T n ≤ 30000) (hg : HasHandle w) (hm : HasMax w) :
    ∃ R : Tep, (∀ W, Ext w W → Calls Tryz.prog 11 #[.slice oa n cap] W fun x w' => x = .returned (.tuple #[.string R.v, .agg #[.int .i64 R.e, .int .i64 R.p]]) ∧ Ext W w') ∧ ∀ W, Ext w W → Calls Tryz.prog 12 #[.slice oa n cap] W (GivesVj R W) := by
  have hT : ∀ i, i < n → (T i).size ≤ 40000 := fun i hi => by
    have := sumT_ge T n hi
    omega
  have hq : ∀ i : Nat, ∃ q : (Nat → ByteArray) × Int × (Nat → Int) × ByteArray × Int, i < n →
      (∀ W, Ext w W → Calls Tryz.prog 41 #[.string (T i)] W fun x w' => x = .returned (.tuple #[.agg (rowRaw q.1 q.2.1 q.2.2.1), .string q.2.2.2.1, errOf q.2.2.2.2]) ∧ Ext W w') ∧ RefV w (T i) q.1 q.2.1 q.2.2.1 q.2.2.2.1 q.2.2.2.2 ∧ q.2.2.2.1.size ≤ 40000 ∧ (q.2.2.2.2 = 0 → 0 ≤ q.2.2.1 0 ∧ q.2.2.1 0 < q.2.2.1 1 ∧ q.2.2.1 1 ≤ 20) ∧ (q.2.2.2.2 ≠ 0 → q.2.2.1 0 = 0) := fun i => by
    by_cases hi : i < n
    · obtain ⟨X, kd, N, D, E, h⟩ := vol_both (T i) (hT i hi) w hm
      exact ⟨(X, kd, N, D, E), fun _ => h⟩
    · exact ⟨(noX, 0, noN, ⟨#[]⟩, 0), fun h => absurd h hi⟩
  obtain ⟨f, hf⟩ := Classical.axiomOfChoice hq
  have hat' : ∀ W, Ext w W → ∀ k, k < n → ∃ b off, oa = some ⟨b, off, none⟩ ∧ W.cell? ⟨b, off + k, none⟩ = some (.string (T k)) := fun W hW k hk => by
    obtain ⟨b, off, h1, h2⟩ := hat k hk
    exact ⟨b, off, h1, hW.cell h2⟩
  exact ⟨_, fun W hW => refVolJoin_any W oa n cap T hn (hat' W hW) hT (fun i => (f i).1) (fun i => (f i).2.1) (fun i => (f i).2.2.1) (fun i => (f i).2.2.2.1) (fun i => (f i).2.2.2.2) (fun i hi => (hf i hi).2.1.ext hW) (fun i hi => (hf i hi).2.2.2.1),
    fun W hW => volJoin_any W oa n cap T hn (hat' W hW) (fun i => (f i).1) (fun i => (f i).2.1) (fun i => (f i).2.2.1) (fun i => (f i).2.2.2.1) (fun i => (f i).2.2.2.2) (fun i hi V hV => (hf i hi).1 V (hW.trans hV)) (fun i hi => (hf i hi).2.2.1) (fun i hi => (hf i hi).2.2.2.1) (fun i hi => (hf i hi).2.2.2.2) (hg.ext hW)⟩

set_option maxHeartbeats 4000000 in
set_option maxRecDepth 100000 in
theorem law (w : World) (oa : Option Addr) (n cap : Nat) (T : Nat → ByteArray) (hnb : n ≤ 8796093022200) (hT : ∀ k, k < n → (T k).size ≤ 140737488351232) (hat : ∀ k, k < n → ∃ b off, oa = some ⟨b, off, none⟩ ∧ w.cell? ⟨b, off + k, none⟩ = some (.string (T k))) (hg : HasHandle w) (hm : HasMax w) :
    Calls Tryz.prog 3 #[.slice oa n cap] w fun x w' => x = .returned (.bool true) ∧ Ext w w' := by
  by_cases hn : 30 < n
  · have q : decide ((30 : Int) < (n : Int)) = true := decide_eq_true (by omega)
    clear hn hT hat hg hm hnb
    go_enter Tryz.func3, Tryz.ntmps3
    go_wp2_with fail
    go_ret
    exact ⟨rfl, Ext.refl _⟩
  · have q : decide ((30 : Int) < (n : Int)) = false := decide_eq_false (by omega)
    have hsl := Lib.hid (fun k (hk : k ≤ n) => sumT_le hT k hk)
    have HB := Lib.hid (fun hs => both w oa n cap T (by omega) hat hs hg hm)
    have Hat := Lib.hid hat
    have HT := Lib.hid hT
    clear hat hT
    go_enter Tryz.func3, Tryz.ntmps3
    go_wp2_with fail
    go_loopw [3, 4] (fun s i wr => ∃ j : Nat, j ≤ n ∧ s = .int .i64 (sumT T j : Int) ∧ i = .int .i64 (j : Int) ∧ wr = w) (fun _ i _ => n - (intOf i).toNat)
    case atStart => exact ⟨0, Nat.zero_le _, rfl, rfl, rfl⟩
    case round =>
      obtain ⟨j, hj, rfl, rfl, rfl⟩ := hrel
      have hsj := hsl.out j hj
      have hj3 : j * 140737488351232 ≤ 30 * 140737488351232 := Nat.mul_le_mul (by omega) (Nat.le_refl _)
      by_cases hlt : j < n
      · obtain ⟨b, off, hoa, hc⟩ := Hat.out j hlt
        have hcl := World.block_lt_of_cell? _ _ hc
        have hTj := HT.out j hlt
        have hst : Hid (sumT T (j + 1) = sumT T j + (T j).size) := Lib.hid rfl
        subst hoa
        generalize hS : sumT T j = S at *
        clear hS
        go_wp2_with fail
        go_roundw
        case rel => exact ⟨j + 1, hlt, by rw [hst.out]; go_num, by go_num, by first | rfl | trivial⟩
        case measure => simp [intOf]; omega
      · obtain rfl : j = n := by omega
        by_cases hz : sumT T j ≤ 30000
        · have q2 : decide ((30000 : Int) < (sumT T j : Int)) = false := decide_eq_false (by omega)
          obtain ⟨R, r3, r4⟩ := HB.out hz
          obtain ⟨s, k, pl⟩ := R
          have C3 := Lib.hid r3
          have C4 := Lib.hid r4
          clear HB hm hz r3 r4
          go_wp2_with fail
          refine (C3.out _ (Ext.refl _)).mono ?_; rintro x w3 ⟨rfl, hx3⟩
          go_wp2_with fail
          have hx4 : Ext w3 (w3.alloc (.cells #[.int .i64 k, .int .i64 pl] 25)) := (Ext.refl _).alloc _
          refine (C4.out _ (hx3.trans hx4)).mono ?_; rintro x w5 ⟨ev, rfl, hI, hx5⟩
          obtain ⟨r1, r2, _, _, r5⟩ := res_boxQ hx5
          have hy5 := (hx3.trans hx4).trans hx5
          have C5 := Lib.hid (placed_same ev k pl w5 (hg.ext hy5) hI)
          clear hI
          go_wp2_with fail
          refine C5.out.mono ?_; rintro x w6 ⟨rfl, hx6⟩
          go_wp2_with fail
          go_ret
          exact ⟨ret_bool (by simp), hy5.trans hx6⟩
        · have q2 : decide ((30000 : Int) < (sumT T j : Int)) = true := decide_eq_true (by omega)
          clear HB hm hz
          go_wp2_with fail
          go_ret
          exact ⟨rfl, Ext.refl _⟩

set_option maxRecDepth 100000 in
theorem walk : Frame.WalksP Rows.volumeJoinsRow.laid 3 Tryz.f3 := by
  intro H enc W base args ds p hL hSh hval hA hsz
  have hg := Frame.handle_of_laidB rfl hL
  have hm := HasMax.ofShaped hSh
  rw [Tryz.params3] at hA hval hsz
  obtain ⟨v0, d0, rfl, rfl, h0⟩ := trodAll_one hA
  obtain ⟨n, T, oa, cap, rfl, hnb, hT⟩ := arg_txs (hval 0 22 v0 rfl rfl) h0 hsz (j := 0) rfl rfl
  exact law W oa n cap T hnb (fun k hk => (hT k hk).1) (fun k hk => (hT k hk).2) hg hm

/-! ### The row and the card -/
theorem plain : Frame.Plain Rows.volumeJoinsSpec Tryz.f3 := by
  refine ⟨rfl, fun H ds h => ?_⟩
  rw [Tryz.params3] at h
  match ds, h with
  | [_], _ => rfl
theorem read : ∀ t ∈ Tryz.f3.params.toList, Tryz.prog.readableRec t = true ∧ t < Tryz.prog.types.size := by
  rw [Tryz.params3]
  intro t ht
  simp at ht
  subst ht
  all_goals exact ⟨by kernel_rfl, of_decide_eq_true (by kernel_rfl)⟩
theorem reads (os : Os) {H : Type} (enc : TypeId × Value → H) : ∃ places, DataW.whole enc Tryz.prog ((Frame.bothWorld os Rows.volumeJoinsRow.laid).forCall (fun _ _ => 0) ⟨#[], #[.slice none 0 0], []⟩).memory Tryz.f3.params.toList Rows.volumeJoinsSpec.vars false (#[.slice none 0 0] : Array Value).toList 8 = some ([.nil], [], places) :=
  ⟨[], by kernel_rfl⟩
set_option maxRecDepth 100000 in
theorem lifted (os : Os) (started : os.Started) (H : Type) (enc : TypeId × Value → H) (Fi : Stop.Interp) :
    ReturnsInHanded {} Tryz.checked os 3 .any ((OpenSpec.ofChange Rows.volumeJoinsSpec).preRow enc Tryz.prog Tryz.f3 Rows.volumeJoinsRow.domain false Rows.volumeJoinsRow.laid) (((OpenSpec.ofChange Rows.volumeJoinsSpec).at Fi).post enc Tryz.prog Tryz.f3 false true false false) := by
  obtain ⟨places, hx⟩ := reads os enc
  exact Frame.liftedP Tryz.func3 (by kernel_rfl) plain (by kernel_rfl) read walk os started H enc Fi
    (Frame.witness_zip (enc := enc) (C := Tryz.checked) false (Frame.bothWorld os Rows.volumeJoinsRow.laid) #[.slice none 0 0] rfl (by kernel_rfl) (by kernel_rfl) (by kernel_rfl)
      (OpenSpec.preRow_of_cond 8 hx (by kernel_rfl) (fun k hk => by cases hk) (by kernel_rfl) (Frame.bothWorld_met _ (by kernel_rfl) (by kernel_rfl) (by kernel_rfl))))
theorem instd : Tryz.f3.isInstance Tryz.pinned.checked.prog Rows.volumeJoinsRow.origin Rows.volumeJoinsRow.targs := of_decide_eq_true (by kernel_rfl)
theorem wrapped : Tryz.f3.isWrapper Tryz.pinned.checked.prog Rows.volumeJoinsRow.wrapper Rows.volumeJoinsRow.mainSum := by unfold Func.isWrapper; first | (rw [if_pos (by decide +kernel)]; kernel_rfl) | (rw [if_neg (by decide +kernel)]; exact ⟨rfl, rfl⟩)
theorem called : Tryz.pinned.checked.prog.funcNamed Rows.volumeJoinsRow.func = some 3 := by kernel_rfl
set_option maxRecDepth 100000 in
theorem said : Rows.VolumeJoinsSaid :=
  OpenClaim.holds_of_cond 3 Tryz.f3 rfl rfl rfl rfl rfl rfl rfl ⟨rfl, rfl, rfl, rfl, rfl⟩ rfl rfl rfl rfl rfl called Tryz.func3 joined instd wrapped
    (fun os started H enc _ F => by rw [OpenClaim.pre_eq_preRow]; exact lifted os started H enc F)
theorem byText : Rows.volumeJoinsRow.wfByText (OpenSpec.ofChange Rows.volumeJoinsSpec) = true := by kernel_rfl
theorem goes : false = Rows.volumeJoinsRow.goesBy Tryz.pinned.checked.prog := by kernel_rfl
theorem looks (f : FuncId) (fn : Func) (hf : Tryz.pinned.checked.prog.funcNamed "revetment/revetmentlaw.VolumeJoins" = some f) (hfn : Tryz.pinned.checked.prog.funcs[f]? = some fn) :
    Rows.volumeJoinsCard.stood.looks = Tryz.pinned.checked.prog.looks [] ∧ ∀ (j : Nat) t, fn.params[j]? = some t → Tryz.pinned.checked.prog.wantsStandIn t = false := by
  obtain rfl : f = 3 := Option.some.inj ((show Tryz.prog.funcNamed "revetment/revetmentlaw.VolumeJoins" = some 3 by kernel_rfl).symm.trans hf) |>.symm
  obtain rfl : fn = Tryz.f3 := (Option.some.inj (Tryz.func3.symm.trans hfn)).symm
  refine ⟨by kernel_rfl, fun j t ht => ?_⟩
  rw [Tryz.params3] at ht
  have ht' := Array.mem_of_getElem? ht
  simp at ht'
  subst ht'
  · exact (show Tryz.prog.wantsStandIn 22 = false by kernel_rfl)
set_option maxRecDepth 100000 in
theorem volumeJoins_holds : Rows.VolumeJoinsCardSaid :=
  Claim7.holds_tied_plain_at .later [] _ _ _ _ said (fun _ h => by cases h) byText (fun _ h => by cases h) volumeJoins_row_tie rfl ⟨rfl, rfl⟩ (by kernel_rfl) rfl looks goes
#print axioms volumeJoins_holds
end Go.Proofs.YtiiaoagobjgkiaaGreatDoor.volumeJoins

/-
  The law HoleRights holds: hole.Right and hole.Size return what the reference returns for any pieces. No conditions.
-/
import Derived.Test.YtahibbijekfjiaaHoleMap
namespace Go.Proofs.Ytahibbijekfjiaa.holeRights
open Go.ChangeShapes Go.WideShapes Go.ChangeAt Go.RowKit

theorem law (w : World) (v : Value) (n : Nat) (A S : Nat → Int) (size : Int) (hs : size ≤ 9223372036854775807) (h : IsPieces w v n A S) :
    Calls Try.prog 14 #[v, .int .i64 size] w fun e w' => e = .returned (.bool true) ∧ Ext w w' := by
  have c1 := fun (w' : World) (hE : Ext w w') => holeRight_any w' v n A S size hs (h.ext hE)
  have c2 := fun (w' : World) (hE : Ext w w') => mapRight_any w' v n A S size hs (h.ext hE)
  have c3 := fun (w' : World) (hE : Ext w w') => holeSize_any w' v n A S (h.ext hE)
  have c4 := fun (w' : World) (hE : Ext w w') => mapSize_any w' v n A S (h.ext hE)
  have C1 := Lib.hid c1
  have C2 := Lib.hid c2
  have C3 := Lib.hid c3
  have C4 := Lib.hid c4
  clear c1 c2 c3 c4
  have hl : ∃ a cap, v = .slice a n cap ∧ n ≤ 8796093022200 := by
    rcases h with ⟨⟨a0, c0, rfl⟩, rfl⟩ | ⟨b, off, cap, rfl, hn, _⟩
    · exact ⟨_, _, rfl, by omega⟩
    · exact ⟨_, _, rfl, hn⟩
  obtain ⟨a, cap, rfl, hn⟩ := hl
  clear h
  by_cases h30 : (30 : Int) < (n : Int)
  · go_enter Try.func14, Try.ntmps14
    go_wp2_with fail
    go_ret
    exact ⟨ret_bool (by simp), (by show Below _ _ _; repeat' (first | (with_reducible exact Below.refl _ _) | (with_reducible assumption) | (with_reducible refine below_drewN ?_ _) | (with_reducible refine Below.alloc ?_ ?_ _) | (with_reducible refine Below.drew ?_) | (with_reducible refine Below.setCell ?_ ?_ _) | go_size))⟩
  · have h30' : (n : Int) ≤ 30 := by omega
    clear h30
    go_enter Try.func14, Try.ntmps14
    go_wp2_with fail
    refine (C1.out _ (Ext.refl _)).mono ?_; rintro e w1 ⟨rfl, hx1⟩
    go_wp2_with fail
    refine (C2.out _ hx1).mono ?_; rintro e w2 ⟨rfl, hx2⟩
    have hy2 := hx1.trans hx2
    go_wp2_with fail
    refine (C3.out _ hy2).mono ?_; rintro e w3 ⟨rfl, hx3⟩
    have hy3 := hy2.trans hx3
    go_wp2_with fail
    refine (C4.out _ hy3).mono ?_; rintro e w4 ⟨rfl, hx4⟩
    have hy4 := hy3.trans hx4
    go_wp2_with fail
    go_ret
    exact ⟨ret_bool (by simp), hy4⟩

theorem cells_piece : Try.prog.cellsOf 72 = 2 := by kernel_rfl
theorem bytes_piece : Try.prog.bytesOf 72 = 16 := by kernel_rfl
theorem cells_int : Try.prog.cellsOf 3 = 1 := by kernel_rfl

theorem add_plain (b off i : Nat) : (⟨b, off, none⟩ : Addr).add i = ⟨b, off + i, none⟩ := by
  unfold Addr.add
  split <;> simp_all

theorem rd_piece {W : World} {cs : List Value} (h : Rd W 72 cs) : ∃ a s : Int, cs = [.int .i64 a, .int .i64 s] := by
  obtain ⟨hl, hg⟩ := h.struct Try.underlying72
  rw [cells_piece] at hl
  match cs, hl with
  | [c0, c1], _ =>
    have g0 := hg 0 _ rfl
    have g1 := hg 1 _ rfl
    simp [cells_int] at g0 g1
    obtain ⟨n0, e0, _⟩ := g0.int Try.underlying3
    obtain ⟨n1, e1, _⟩ := g1.int Try.underlying3
    simp at e0 e1
    subst e0 e1
    exact ⟨_, _, rfl⟩

theorem arg_pieces {H : Type} {enc : TypeId × Value → H} {W : World} {base : Nat} {v : Value} {d : DataW H} {p : List MemPlace} {ts : List TypeId} {ds : List (DataW H)} {j : Nat}
    (hv : Value.okWide Try.prog W .any base 42 v) (h : DataW.Trod enc Try.prog W 0 (fun _ => true) true 42 v d p)
    (hsz : (DataW.weightsEach Try.prog ts ds).all (· ≤ reachBytes) = true) (ht : ts[j]? = some 42) (hd : ds[j]? = some d) :
    ∃ (n : Nat) (A S : Nat → Int), IsPieces W v n A S := by
  obtain ⟨a, len, cap, rfl⟩ := okWide_slice Try.underlying42 hv
  rcases (Rd.ofArg h hsz ht hd).slice Try.underlying42 with h0 | ⟨x, l, c, hcs, hlc, hc, hb, hi⟩
  · simp [Value.cells] at h0
    obtain ⟨rfl, rfl, rfl⟩ := h0
    exact ⟨0, fun _ => 0, fun _ => 0, .inl ⟨⟨_, _, rfl⟩, rfl⟩⟩
  · simp [Value.cells] at hcs
    obtain ⟨rfl, rfl, rfl⟩ := hcs
    rw [cells_piece] at hi
    rw [bytes_piece] at hb
    have hq : ∀ i : Nat, ∃ q : Int × Int, i < len → W.cell? (x.add (i * 2)) = some (.int .i64 q.1) ∧ W.cell? (x.add (i * 2 + 1)) = some (.int .i64 q.2) := fun i => by
      by_cases hil : i < len
      · obtain ⟨ecs, _, hat, hr⟩ := hi i hil
        obtain ⟨a, s, rfl⟩ := rd_piece hr
        exact ⟨(a, s), fun _ => ⟨by simpa using hat 0 (by omega), by simpa using hat 1 (by omega)⟩⟩
      · exact ⟨(0, 0), fun h => absurd h hil⟩
    obtain ⟨f, hf⟩ := Classical.axiomOfChoice hq
    obtain ⟨b, off, spot⟩ := x
    by_cases hl0 : len = 0
    · subst hl0
      exact ⟨0, fun _ => 0, fun _ => 0, .inl ⟨⟨_, _, rfl⟩, rfl⟩⟩
    · have hspot : spot = none := by simpa [Addr.add] using World.cell?_spot (hf 0 (by omega)).1
      subst hspot
      exact ⟨len, fun i => (f i).1, fun i => (f i).2, .inr ⟨b, off, cap, rfl, by omega, fun k hk => by
        have := hf k hk
        rw [add_plain, add_plain, ← Nat.add_assoc] at this
        exact this⟩⟩

theorem walk : Frame.Walks 14 Try.f14 := by
  intro H enc W base args ds p hval hA hsz
  rw [Try.params14] at hA hval hsz
  obtain ⟨v0, v1, d0, d1, p0, p1, rfl, rfl, rfl, h0, h1⟩ := trodAll_two hA
  obtain ⟨n, A, S, hp⟩ := arg_pieces (hval 0 42 v0 rfl rfl) h0 hsz (j := 0) rfl rfl
  obtain ⟨size, rfl, rfl, rfl, wa⟩ := open_int Try.underlying3 (hval 1 3 v1 rfl rfl) h1
  exact law W v0 n A S size ((bounds_i64 wa).2) hp

/-! ### The row -/
theorem plain : Frame.Plain Rows.holeRightsSpec Try.f14 := by
  refine ⟨rfl, fun H ds h => ?_⟩
  rw [Try.params14] at h
  match ds, h with
  | [_, _], _ => rfl
theorem read : ∀ t ∈ Try.f14.params.toList, Try.prog.readableRec t = true ∧ t < Try.prog.types.size := by
  rw [Try.params14]
  intro t ht
  simp at ht
  rcases ht with rfl | rfl
  all_goals exact ⟨by kernel_rfl, of_decide_eq_true (by kernel_rfl)⟩
set_option maxRecDepth 100000 in
theorem over : Rows.holeRightsRow.holds Try.pinned (OpenSpec.ofChange Rows.holeRightsSpec) :=
  OpenClaim.holds_of_wide 14 Try.f14 rfl rfl rfl rfl rfl rfl rfl ⟨rfl, rfl, rfl, rfl, rfl⟩ rfl rfl rfl rfl rfl (by kernel_rfl) Try.func14 (by kernel_rfl)
    (of_decide_eq_true (by kernel_rfl)) (by unfold Func.isWrapper; first | (rw [if_pos (by decide +kernel)]; kernel_rfl) | (rw [if_neg (by decide +kernel)]; exact ⟨rfl, rfl⟩))
    (fun os started H enc _ => Frame.lifted Try.func14 (by kernel_rfl) plain (by kernel_rfl) read walk os started H enc
      (ChangeSpec.witness6 (enc := enc) (C := Try.checked) false ⟨#[], #[.slice none 0 0, .int .i64 0], []⟩ 8 (by kernel_rfl) (by kernel_rfl) (by kernel_rfl) (by kernel_rfl)))

theorem holeRights_holds : Rows.HoleRightsSaid := over
#print axioms holeRights_holds
end Go.Proofs.Ytahibbijekfjiaa.holeRights

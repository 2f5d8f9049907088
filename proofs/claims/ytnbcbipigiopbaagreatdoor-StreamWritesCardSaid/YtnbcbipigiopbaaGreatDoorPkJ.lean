/-
  The reference's EntryRight for every member. No conditions but the argument's bounds.
-/
import Derived.Test.YtnbcbipigiopbaaGreatDoorPkI
import Derived.Test.YtnbcbipigiopbaaGreatDoorMemRFile
import Derived.Test.YtnbcbipigiopbaaGreatDoorPkC
import Derived.Test.YtnbcbipigiopbaaGreatDoorWrn
import Derived.Test.YtnbcbipigiopbaaGreatDoorMemP
import Derived.StillTail
import Derived.Test.YtnbcbipigiopbaaGreatDoorPkE
namespace Go.Proofs.YtnbcbipigiopbaaGreatDoor
open Go.RowKit Go.WideShapes

theorem entRight_any (e : Ent) (ok : e.Ok) (A S : Nat → Int) (w : World) (hp : IsPieces w (.slice e.pa e.pn e.pc) e.pn A S) :
    Calls Tryz.prog 34 #[.agg #[.string e.nm, .int .u8 e.kd, .int .i64 e.md, .int .i64 e.ui, .int .i64 e.gi, .int .i64 e.sz, .int .i64 e.ts, .int .i64 e.tn, .string e.lk, .string e.us, .string e.gr, .int .i64 e.ma, .int .i64 e.mi, .string e.dt, .slice e.pa e.pn e.pc]] w fun x w' => x = .returned (.bool (memB e.kd e.md e.ui e.gi e.sz e.ts e.tn e.ma e.mi e.nm e.lk e.us e.gr e.dt e.pn A S)) ∧ Ext w w' := by
  have t : ∀ k : Int, e.kd = k → (e.kd == k) = true := fun k h => by simp [h]
  have f : ∀ k : Int, e.kd ≠ k → (e.kd == k) = false := fun k h => by simp [h]
  by_cases h48 : e.kd = 48
  · exact entRight_file e ok A S w hp (t _ h48) (f _ (by omega)) (f _ (by omega)) (f _ (by omega)) (f _ (by omega))
  · by_cases h49 : e.kd = 49
    · exact entRight_hard e ok A S w hp (f _ h48) (t _ h49) (f _ (by omega)) (f _ (by omega)) (f _ (by omega))
    · by_cases h50 : e.kd = 50
      · exact entRight_soft e ok A S w hp (f _ h48) (f _ h49) (t _ h50) (f _ (by omega)) (f _ (by omega))
      · by_cases h51 : e.kd = 51
        · exact entRight_chr e ok A S w hp (f _ h48) (f _ h49) (f _ h50) (t _ h51) (f _ (by omega))
        · by_cases h52 : e.kd = 52
          · exact entRight_blk e ok A S w hp (f _ h48) (f _ h49) (f _ h50) (f _ h51) (t _ h52)
          · exact entRight_other e ok A S w hp (f _ h48) (f _ h49) (f _ h50) (f _ h51) (f _ h52)
end Go.Proofs.YtnbcbipigiopbaaGreatDoor
/-
  Pieces as rows of 24 bytes, in plain words. No program, no conditions.
-/
namespace Go.Proofs.YtnbcbipigiopbaaGreatDoor
open Go.RowKit

theorem mostE : mostI 8 = 2097151 ∧ mostI 12 = 8589934591 := by decide +kernel
theorem octM8 {n : Int} (h0 : 0 ≤ n) (h1 : n ≤ 2097151) : octE n 8 = 0 := by
  unfold octE
  rw [if_neg (by omega), if_neg (by rw [mostE.1]; omega)]
theorem octM12 {n : Int} (h0 : 0 ≤ n) (h1 : n ≤ 8589934591) : octE n 12 = 0 := by
  unfold octE
  rw [if_neg (by omega), if_neg (by rw [mostE.2]; omega)]
/-- One piece. -/
def pcB (A S : Nat → Int) (k : Nat) : ByteArray := octS (A k) 12 ++ octS (S k) 12
def z24 : ByteArray := ⟨(List.replicate 24 (0 : UInt8)).toArray⟩
/-- m rows; the first c of them have pieces. -/
def rowQ (A S : Nat → Int) (c : Nat) : Nat → ByteArray
  | 0 => ⟨#[]⟩
  | j + 1 => rowQ A S c j ++ (if j < c then pcB A S j else z24)
/-- The first k pieces. -/
def catP (A S : Nat → Int) : Nat → List UInt8
  | 0 => []
  | k + 1 => catP A S k ++ (pcB A S k).data.toList
/-- m rows, of which k are filled by now. -/
def rowL (A S : Nat → Int) (m k : Nat) : List UInt8 := catP A S k ++ List.replicate (24 * (m - k)) 0

/-- All numbers of the first n pieces have twelve bytes. -/
def Fits12 (A S : Nat → Int) (n : Nat) : Prop := ∀ k, k < n → octE (A k) 12 = 0 ∧ octE (S k) 12 = 0
theorem pcB_size {A S : Nat → Int} {k : Nat} (h : octE (A k) 12 = 0 ∧ octE (S k) 12 = 0) : (pcB A S k).size = 24 := by
  have h1 := octS_size (A k) 12 h.1
  have h2 := octS_size (S k) 12 h.2
  unfold pcB
  rw [ByteArray.size_append]
  omega
theorem len_data (s : ByteArray) : s.data.toList.length = s.size := rfl
theorem catP_len {A S : Nat → Int} {n : Nat} (h : Fits12 A S n) : ∀ k, k ≤ n → (catP A S k).length = 24 * k
  | 0, _ => rfl
  | k + 1, hk => by
    have h1 := catP_len h k (by omega)
    have h2 := pcB_size (h k (by omega))
    rw [← len_data] at h2
    simp only [catP, List.length_append]
    omega
theorem rowL_len {A S : Nat → Int} {n m k : Nat} (h : Fits12 A S n) (hk : k ≤ n) (hm : k ≤ m) : (rowL A S m k).length = 24 * m := by
  have h1 := catP_len h k hk
  simp only [rowL, List.length_append, List.length_replicate]
  omega
theorem rowL_zero (A S : Nat → Int) (m : Nat) : rowL A S m 0 = List.replicate (24 * m) 0 := by simp [rowL, catP]
theorem rowL_step {A S : Nat → Int} {n m k : Nat} (h : Fits12 A S n) (hk : k < n) (hm : k < m) : splice (rowL A S m k) (24 * k) (pcB A S k).data.toList = rowL A S m (k + 1) := by
  have h1 := catP_len h k (by omega)
  have h2 := pcB_size (h k hk)
  rw [← len_data] at h2
  have h3 : 24 * k + 24 = (catP A S k).length + 24 := by omega
  unfold splice rowL
  rw [h2, List.take_left' h1, h3, List.drop_length_add_append, List.drop_replicate]
  simp only [catP]
  rw [show 24 * (m - k) - 24 = 24 * (m - (k + 1)) by omega, List.append_assoc]
theorem rowQ_toList (A S : Nat → Int) (c : Nat) : ∀ m, (rowQ A S c m).data.toList = catP A S (min c m) ++ List.replicate (24 * (m - c)) 0
  | 0 => by simp [rowQ, catP]
  | m + 1 => by
    have ih := rowQ_toList A S c m
    simp only [rowQ]
    have e : (rowQ A S c m ++ (if m < c then pcB A S m else z24)).data.toList = (rowQ A S c m).data.toList ++ (if m < c then pcB A S m else z24).data.toList := by simp
    rw [e, ih]
    by_cases hm : m < c
    · rw [if_pos hm, show min c m = m by omega, show min c (m + 1) = m + 1 by omega, show m - c = 0 by omega, show m + 1 - c = 0 by omega]
      simp [catP]
    · rw [if_neg hm, show min c m = c by omega, show min c (m + 1) = c by omega, List.append_assoc, show (m + 1 - c) = (m - c) + 1 by omega, Nat.mul_succ]
      congr 1
      show _ ++ (z24).data.toList = _
      rw [show (z24).data.toList = List.replicate 24 0 from rfl, List.replicate_append_replicate]
/-- The rows when all pieces that fit are laid. -/
theorem rowQ_done (A S : Nat → Int) (n m : Nat) : (⟨(rowL A S m (min m n)).toArray⟩ : ByteArray) = rowQ A S n m := by
  have h := rowQ_toList A S n m
  have e : rowQ A S n m = ⟨(rowQ A S n m).data.toList.toArray⟩ := by simp
  rw [e, h]
  unfold rowL
  rw [show min n m = min m n from Nat.min_comm _ _, show m - min m n = m - n by omega]
theorem rowQ_size {A S : Nat → Int} {n : Nat} (h : Fits12 A S n) (m : Nat) : (rowQ A S n m).size = 24 * m := by
  have e := congrArg List.length (rowQ_toList A S n m)
  rw [List.length_append, List.length_replicate, catP_len h (min n m) (Nat.min_le_left _ _), len_data] at e
  omega
theorem rowQ_congr {A S A' S' : Nat → Int} {c : Nat} (h : ∀ k, k < c → A k = A' k ∧ S k = S' k) : ∀ m, rowQ A S c m = rowQ A' S' c m
  | 0 => rfl
  | m + 1 => by
    simp only [rowQ, rowQ_congr h m]
    by_cases hm : m < c
    · rw [if_pos hm, if_pos hm, pcB, pcB, (h m hm).1, (h m hm).2]
    · rw [if_neg hm, if_neg hm]
end Go.Proofs.YtnbcbipigiopbaaGreatDoor
/-
  Members as they are written: the small functions, and V7 and Ustar. No conditions but the arguments' bounds.
-/
namespace Go.Proofs.YtnbcbipigiopbaaGreatDoor
open Go.RowKit Go.WideShapes

/-- The name as it is written. -/
def namB (kd : Int) (nm : ByteArray) : ByteArray := if kd = 53 then nm ++ ⟨#[47]⟩ else nm
theorem namB_dir (nm : ByteArray) : namB 53 nm = nm ++ ⟨#[47]⟩ := if_pos rfl
theorem namB_else {kd : Int} (nm : ByteArray) (h : kd ≠ 53) : namB kd nm = nm := if_neg h
theorem namB_size (kd : Int) (nm : ByteArray) : (namB kd nm).size ≤ nm.size + 1 := by
  unfold namB
  split
  · rw [ByteArray.size_append]; exact Nat.le_refl _
  · omega

set_option maxRecDepth 100000 in
theorem memPlain_any (e : Ent) (ok : e.Ok) (w : World) : Calls Tryz.prog 42 #[.agg #[.string e.nm, .int .u8 e.kd, .int .i64 e.md, .int .i64 e.ui, .int .i64 e.gi, .int .i64 e.sz, .int .i64 e.ts, .int .i64 e.tn, .string e.lk, .string e.us, .string e.gr, .int .i64 e.ma, .int .i64 e.mi, .string e.dt, .slice e.pa e.pn e.pc]] w fun x w' => x = .returned (.agg #[.string ⟨#[]⟩, .string ⟨#[]⟩, .string e.us, .string e.gr, .string ⟨#[]⟩, .int .u8 e.kd, .int .i64 e.md, .int .i64 e.ui, .int .i64 e.gi, .int .i64 (e.dt.size : Int), .int .i64 e.ts, .int .i64 e.ma, .int .i64 e.mi]) ∧ Ext w w' := by
  have h5 := ok.dt
  go_enter Tryz.func42, Tryz.ntmps42
  go_wp2_with fail
  go_returns
  exact ⟨rfl, (by show Below _ _ _; repeat' (first | (with_reducible exact Below.refl _ _) | (with_reducible assumption) | (with_reducible refine belowDrewN ?_ _) | (with_reducible refine Below.alloc ?_ ?_ _) | (with_reducible refine Below.drew ?_) | (with_reducible refine Below.setCell ?_ ?_ _) | go_size))⟩
set_option maxRecDepth 100000 in
theorem memNamed_any (e : Ent) (ok : e.Ok) (w : World) : Calls Tryz.prog 46 #[.agg #[.string e.nm, .int .u8 e.kd, .int .i64 e.md, .int .i64 e.ui, .int .i64 e.gi, .int .i64 e.sz, .int .i64 e.ts, .int .i64 e.tn, .string e.lk, .string e.us, .string e.gr, .int .i64 e.ma, .int .i64 e.mi, .string e.dt, .slice e.pa e.pn e.pc]] w fun x w' => x = .returned (.string (namB e.kd e.nm)) ∧ Ext w w' := by
  have h1 := ok.nm
  by_cases h : e.kd = 53
  · have q : (e.kd == 53) = true := by simp [h]
    have er : Hid (namB e.kd e.nm = e.nm ++ ⟨#[47]⟩) := Lib.hid (by rw [h, namB_dir])
    clear h
    go_enter Tryz.func46, Tryz.ntmps46
    go_wp2_with fail
    go_ret
    exact ⟨ret_val (by rw [er.out]; rfl), (by show Below _ _ _; repeat' (first | (with_reducible exact Below.refl _ _) | (with_reducible assumption) | (with_reducible refine belowDrewN ?_ _) | (with_reducible refine Below.alloc ?_ ?_ _) | (with_reducible refine Below.drew ?_) | (with_reducible refine Below.setCell ?_ ?_ _) | go_size))⟩
  · have q : (e.kd == 53) = false := by simp [h]
    have er : Hid (namB e.kd e.nm = e.nm) := Lib.hid (namB_else _ h)
    clear h
    go_enter Tryz.func46, Tryz.ntmps46
    go_wp2_with fail
    go_ret
    exact ⟨ret_val (by rw [er.out]; rfl), (by show Below _ _ _; repeat' (first | (with_reducible exact Below.refl _ _) | (with_reducible assumption) | (with_reducible refine belowDrewN ?_ _) | (with_reducible refine Below.alloc ?_ ?_ _) | (with_reducible refine Below.drew ?_) | (with_reducible refine Below.setCell ?_ ?_ _) | go_size))⟩
theorem digits_any (n : Int) (hn : n ≤ 9223372036854775807) (w : World) : Calls Tryz.prog 135 #[.int .i64 n] w fun x w' => x = .returned (.string (octS n 12)) ∧ Ext w w' := by
  have C1 := Lib.hid (fun w => octal_any n 12 hn w)
  generalize octS n 12 = s at *
  generalize octE n 12 = k at *
  go_enter Tryz.func135, Tryz.ntmps135
  go_wp2_with fail
  refine (C1.out _).mono ?_; rintro e w1 ⟨rfl, hx1⟩
  go_wp2_with fail
  go_ret
  exact ⟨rfl, hx1⟩
end Go.Proofs.YtnbcbipigiopbaaGreatDoor
/-
  A region that draws its order and ends in operations that come one behind the other: the operations of its head each leave a value that does not hang on the order and may turn one flag;
  one of them, the head's last one, may leave a value that hangs on the order (a new block). No conditions.
-/
namespace Go.Proofs.YtnbcbipigiopbaaGreatDoor
open Go.RowKit

section
variable {P : Program} {ops : Array Oper} {S : Bool → Option Value → World → Prop} {md : Region.Mode}

/-- In state a, in every world that meets S b p, operation o leaves v, and S (b || h) p holds behind it. -/
def SettlesT (P : Program) (ops : Array Oper) (S : Bool → Option Value → World → Prop) (h : Bool) (o : Oper) (v : Value) (a : Act) : Prop :=
  (Region.wanted o (yielded ops a.tmps) = true ∧ ∀ b p w, S b p w → leaves P (S (b || h) p) v ((execOp a.eval o).run P w)) ∨
  (Region.wanted o (yielded ops a.tmps) = false ∧ v = undef ∧ h = false)
/-- In state a, in every world that meets S b none, operation o leaves some u, and S b (some u) holds behind it. -/
def MakesT (P : Program) (ops : Array Oper) (S : Bool → Option Value → World → Prop) (o : Oper) (a : Act) : Prop :=
  Region.wanted o (yielded ops a.tmps) = true ∧ ∀ b w, S b none w → ∃ u, leaves P (S b (some u)) u ((execOp a.eval o).run P w)

theorem wpOp_leaves {i : Nat} {o : Oper} {v : Value} {a : Act} {Q : Exit → Act → World → Prop} {T : World → Prop} (hi : ops[i]? = some o) (hw : Region.wanted o (yielded ops a.tmps) = true)
    {K : Act → World → Prop} {w : World} (hl : leaves P T v ((execOp a.eval o).run P w)) (hk : ∀ w', T w' → K (a.put o.dst v) w') : wpOp P ops Q i K a w := by
  unfold Go.wpOp
  simp only [hi, hw, if_true]
  refine .inl ?_
  unfold Oper.wp
  generalize (execOp a.eval o).run P w = r at *
  cases r with
  | ok n w' =>
    cases n <;> simp only [leaves, Oper.upon] at hl ⊢
    case value u => rw [hl.1]; exact hk w' hl.2
    case skip => rw [hl.1]; exact hk w' hl.2
    case enter f args =>
      refine hl.mono fun e w'' ⟨he, hS'⟩ => ?_
      subst he
      exact hk w'' hS'
    case row row args =>
      refine hl.mono fun u w'' ⟨he, hS'⟩ => ?_
      subst he
      exact hk w'' hS'
  | halt x w' => exact hl.elim

theorem SettlesT.wpOp {i : Nat} {o : Oper} {v : Value} {a : Act} {h b : Bool} {p : Option Value} {Q : Exit → Act → World → Prop} (hi : ops[i]? = some o) (hy : SettlesT P ops S h o v a)
    {K : Act → World → Prop} {w : World} (hS : S b p w) (hk : ∀ w', S (b || h) p w' → K (a.put o.dst v) w') : wpOp P ops Q i K a w := by
  rcases hy with ⟨hw, hv⟩ | ⟨hw, rfl, rfl⟩
  · exact wpOp_leaves hi hw (hv b p w hS) hk
  · unfold Go.wpOp
    simp only [hi, hw, Bool.false_eq_true, if_false]
    rw [Bool.or_false] at hk
    exact hk w hS

theorem SettlesT.of_same {h : Bool} {o : Oper} {v : Value} {a a' : Act} (hy : SettlesT P ops S h o v a) (he : execOp a'.eval o = execOp a.eval o)
    (hw : Region.wanted o (yielded ops a'.tmps) = Region.wanted o (yielded ops a.tmps)) : SettlesT P ops S h o v a' := by
  unfold SettlesT at *
  rw [he, hw]
  exact hy
theorem MakesT.of_same {o : Oper} {a a' : Act} (hy : MakesT P ops S o a) (he : execOp a'.eval o = execOp a.eval o)
    (hw : Region.wanted o (yielded ops a'.tmps) = Region.wanted o (yielded ops a.tmps)) : MakesT P ops S o a' := by
  unfold MakesT at *
  rw [he, hw]
  exact hy

/-- The head in whatever order. -/
def wpAnyT (P : Program) (md : Region.Mode) (ops : Array Oper) (S : Bool → Option Value → World → Prop) (n : Nat) (L : Array Bool → Bool → Option Value → Act → Prop) : Nat → Array Bool → Bool → Option Value → Act → Prop
  | 0, listed, b, p, a => L listed b p a
  | f + 1, listed, b, p, a => Region.ready md ops listed ≠ [] ∧ ∀ i ∈ Region.ready md ops listed, i < n ∧
      ((∃ o v h, ops[i]? = some o ∧ SettlesT P ops S h o v a ∧ wpAnyT P md ops S n L f (listed.setIfInBounds i true) (b || h) p (a.put o.dst v)) ∨
       (∃ o, ops[i]? = some o ∧ p = none ∧ MakesT P ops S o a ∧ ∀ u, wpAnyT P md ops S n L f (listed.setIfInBounds i true) b (some u) (a.put o.dst u)))

theorem wpAny_of_headT {n g : Nat} {L : Array Bool → Bool → Option Value → Act → Prop} {Q : Exit → Act → World → Prop} (hL : ∀ listed b p a, L listed b p a → ∀ w, S b p w → wpAny P md ops Q g listed a w) :
    ∀ (f : Nat) (listed : Array Bool) (b : Bool) (p : Option Value) (a : Act), wpAnyT P md ops S n L f listed b p a → ∀ w, S b p w → wpAny P md ops Q (f + g) listed a w
  | 0, listed, b, p, a, h, w, hS => by rw [Nat.zero_add]; exact hL _ _ _ _ h w hS
  | f + 1, listed, b, p, a, h, w, hS => by
    rw [show f + 1 + g = (f + g) + 1 by omega]
    refine ⟨fun h0 => absurd h0 h.1, fun i hi => ?_⟩
    rcases (h.2 i hi).2 with ⟨o, v, t, ho, hy, hn⟩ | ⟨o, ho, rfl, hm, hn⟩
    · exact hy.wpOp ho hS fun w' hS' => wpAny_of_headT hL f _ _ _ _ hn w' hS'
    · obtain ⟨u, hu⟩ := hm.2 b w hS
      exact wpOp_leaves ho hm.1 hu fun w' hS' => wpAny_of_headT hL f _ _ _ _ (hn u) w' hS'

theorem wpAnyT_first {n i : Nat} {oi : Oper} {v : Value} {h : Bool} {L : Array Bool → Bool → Option Value → Act → Prop} (hi : ops[i]? = some oi) (hsel : ∀ (j : Nat) (o : Oper) cs b, ops[j]? = some o → o.op ≠ .select cs b)
    (hs : Region.sinkB md ops n = true) (hc : Region.chainB md ops n = true) (hn : n < ops.size) (hin : i < n)
    (hdone : ∀ listed b p a, L listed b p a → ∀ j ∈ Region.ready md ops listed, n ≤ j) :
    ∀ (f : Nat) (listed : Array Bool) (b : Bool) (p : Option Value) (a : Act), HeadInv md ops n listed →
      (∀ j oj, ops[j]? = some oj → j ≠ i → listed.getD j true = false → (∀ e ∈ oj.after, Region.binds md e = true → e.on ≠ i) → oi.apart ops oj = true) →
      i ∈ Region.ready md ops listed → SettlesT P ops S h oi v a →
      wpAnyT P md ops S n L f (listed.setIfInBounds i true) (b || h) p (a.put oi.dst v) → wpAnyT P md ops S n L (f + 1) listed b p a := by
  intro f
  induction f with
  | zero =>
    intro listed b p a inv _ hr hy H
    have hun := (mem_ready.1 hr).1
    refine ⟨fun h => (by rw [h] at hr; cases hr), fun j hj => ?_⟩
    have hjn : j < n := by
      rcases Nat.lt_or_ge j n with h | h
      · exact h
      · exact absurd hj (tail_waits hs hc hn inv _ i rfl hin hun j h)
    refine ⟨hjn, ?_⟩
    by_cases hji : j = i
    · subst hji; exact .inl ⟨oi, v, h, hi, hy, H⟩
    · have := hdone _ _ _ _ H j (ready_mono hj hji)
      omega
  | succ f ih =>
    intro listed b p a inv hfree hr hy H
    have hun := (mem_ready.1 hr).1
    refine ⟨fun h => (by rw [h] at hr; cases hr), fun j hj => ?_⟩
    have hjn : j < n := by
      rcases Nat.lt_or_ge j n with h | h
      · exact h
      · exact absurd hj (tail_waits hs hc hn inv _ i rfl hin hun j h)
    refine ⟨hjn, ?_⟩
    by_cases hji : j = i
    · subst hji; exact .inl ⟨oi, v, h, hi, hy, H⟩
    · obtain ⟨hjun, oj, hoj, hall⟩ := mem_ready.1 hj
      have hnot : ∀ e ∈ oj.after, Region.binds md e = true → e.on ≠ i := fun e he hb heq => by
        have h1 := hall e he hb
        rw [heq, getD_both hun] at h1
        cases h1
      obtain ⟨h1, h2, h3⟩ := Oper.apart_spec (hfree j oj hoj hji hjun hnot)
      have hfree' : ∀ k ok, ops[k]? = some ok → k ≠ i → (listed.setIfInBounds j true).getD k true = false →
          (∀ e ∈ ok.after, Region.binds md e = true → e.on ≠ i) → oi.apart ops ok = true := fun k ok hk hki hun hno => by
        refine hfree k ok hk hki ?_ hno
        by_cases hjk : j = k
        · subst hjk; exact hjun
        · rw [getD_set_ne true hjk] at hun; exact hun
      have hsame : ∀ u, SettlesT P ops S h oi v (a.put oj.dst u) := fun u => hy.of_same (execOp_put oi (fun cs b => hsel i oi cs b hi) a oj.dst u h3) (wanted_put oi a oj.dst u h3)
      rcases (H.2 j (ready_mono hj hji)).2 with ⟨oj', u, t, hoj', hyj, hnx⟩ | ⟨oj', hoj', hp, hmj, hnx⟩
      · obtain rfl : oj' = oj := Option.some.inj (hoj'.symm.trans hoj)
        have hyj' : SettlesT P ops S t oj' u a := hyj.of_same (execOp_put oj' (fun cs b => hsel j oj' cs b hoj) a oi.dst v h1).symm (wanted_put oj' a oi.dst v h1).symm
        refine .inl ⟨oj', u, t, hoj, hyj', ih (listed.setIfInBounds j true) _ _ _ (inv.set hj hjn) hfree' (ready_mono hr (Ne.symm hji)) (hsame u) ?_⟩
        rw [Array.setIfInBounds_comm _ _ hji, ← Act.put_comm a v u h2, Bool.or_assoc, Bool.or_comm t h, ← Bool.or_assoc]
        exact hnx
      · obtain rfl : oj' = oj := Option.some.inj (hoj'.symm.trans hoj)
        have hmj' : MakesT P ops S oj' a := hmj.of_same (execOp_put oj' (fun cs b => hsel j oj' cs b hoj) a oi.dst v h1).symm (wanted_put oj' a oi.dst v h1).symm
        refine .inr ⟨oj', hoj, hp, hmj', fun u => ih (listed.setIfInBounds j true) _ _ _ (inv.set hj hjn) hfree' (ready_mono hr (Ne.symm hji)) (hsame u) ?_⟩
        rw [Array.setIfInBounds_comm _ _ hji, ← Act.put_comm a v u h2]
        exact hnx u

/-- The head in the order of the text, the operation ka (if there is one) when it alone is ready. -/
def lexHeadT (md : Region.Mode) (ops : Array Oper) (g ka : Nat) : Nat → Nat → Array Bool → Bool
  | 0, k, listed => Region.seqB md ops g k listed
  | f + 1, k, listed => (if k = ka then decide (Region.ready md ops listed = [k]) else ((Region.ready md ops listed).contains k && Region.free md ops listed k)) && lexHeadT md ops g ka f (k + 1) (listed.setIfInBounds k true)
def lexTailT (md : Region.Mode) (ops : Array Oper) (n ka : Nat) : Bool :=
  Region.noSelect ops && decide (n < ops.size) && Region.sinkB md ops n && Region.chainB md ops n && lexHeadT md ops (ops.size - n) ka n 0 (Array.replicate ops.size false)

def detGoT (P : Program) (ops : Array Oper) (S : Bool → Option Value → World → Prop) (ka : Nat) (K : Bool → Option Value → Act → Prop) : List Oper → Nat → Bool → Option Value → Act → Prop
  | [], _, b, p, a => K b p a
  | o :: os, k, b, p, a => (k ≠ ka ∧ ∃ v h, SettlesT P ops S h o v a ∧ detGoT P ops S ka K os (k + 1) (b || h) p (a.put o.dst v)) ∨
      (k = ka ∧ p = none ∧ MakesT P ops S o a ∧ ∀ u, detGoT P ops S ka K os (k + 1) b (some u) (a.put o.dst u))

theorem wpAnyT_lex {n g ka : Nat} {Lq : Bool → Option Value → Act → Prop} (hsel : Region.noSelect ops = true) (hs : Region.sinkB md ops n = true) (hc : Region.chainB md ops n = true) (hn : n < ops.size) :
    ∀ (l : List Oper) (k : Nat) (listed : Array Bool) (b : Bool) (p : Option Value) (a : Act), (∀ j, j < l.length → l[j]? = ops[k + j]?) → k + l.length = n → HeadInv md ops n listed →
    lexHeadT md ops g ka l.length k listed = true → detGoT P ops S ka Lq l k b p a →
    wpAnyT P md ops S n (fun listed' b' p' a' => Region.seqB md ops g n listed' = true ∧ Lq b' p' a') l.length listed b p a
  | [], k, listed, b, p, a, _, hk, _, hB, h => by
    have : k = n := by simpa using hk
    subst this
    exact ⟨by simpa [lexHeadT] using hB, h⟩
  | o :: l, k, listed, b, p, a, hl, hk, inv, hB, h => by
    have h0 : ops[k]? = some o := by simpa using (hl 0 (by simp)).symm
    have hl' : ∀ j, j < l.length → l[j]? = ops[k + 1 + j]? := fun j hj => by have := hl (j + 1) (by simp; omega); simpa [Nat.add_assoc, Nat.add_comm 1 j] using this
    have hk' : k + 1 + l.length = n := by simp only [List.length_cons] at hk; omega
    have hkn : k < n := by omega
    simp only [List.length_cons, lexHeadT, Bool.and_eq_true] at hB
    obtain ⟨hx, hB'⟩ := hB
    rcases h with ⟨hne, v, t, hy, hK⟩ | ⟨rfl, rfl, hm, hK⟩
    · rw [if_neg hne, Bool.and_eq_true] at hx
      have hr' : k ∈ Region.ready md ops listed := by simpa using hx.1
      exact wpAnyT_first h0 (Region.noSelect_spec hsel) hs hc hn hkn (fun listed' b' p' a' hL => seqB_ready hL.1) l.length listed b p a inv (Region.free_spec h0 hx.2) hr' hy
        (wpAnyT_lex hsel hs hc hn l (k + 1) _ _ _ _ hl' hk' (inv.set hr' hkn) hB' hK)
    · rw [if_pos rfl] at hx
      have hr : Region.ready md ops listed = [k] := of_decide_eq_true hx
      have hr' : k ∈ Region.ready md ops listed := by rw [hr]; simp
      refine ⟨by rw [hr]; simp, fun j hj => ?_⟩
      obtain rfl : j = k := by rw [hr] at hj; simpa using hj
      exact ⟨hkn, .inr ⟨o, h0, rfl, hm, fun u => wpAnyT_lex hsel hs hc hn l (j + 1) _ _ _ _ hl' hk' (inv.set hr' hkn) hB' (hK u)⟩⟩

/-- THE LAW. -/
theorem wp_region_detT (S : Bool → Option Value → World → Prop) (b0 : Bool) (n ka : Nat) {id : Nat} {l : List Oper} {Q : Exit → Act → World → Prop} {a : Act} {w : World} (hm : P.follows .mixedOrders = true)
    (hB : lexTailT .any l.toArray n ka = true) (hS : S b0 none w.drew)
    (h : detGoT P l.toArray S ka (fun b p a' => ∀ w', S b p w' → wpList P l.toArray Q (l.drop n) a' w') (l.take n) 0 b0 none a) : (Code.region id l.toArray true).wp P Q a w := by
  simp only [lexTailT, Bool.and_eq_true, decide_eq_true_eq] at hB
  obtain ⟨⟨⟨⟨hsel, hn⟩, hs⟩, hc⟩, hlex⟩ := hB
  have hn' : n < l.length := by simpa using hn
  have htl : (l.take n).length = n := by simp; omega
  have hdl : (l.drop n).length = l.toArray.size - n := by simp
  have inv0 : HeadInv .any l.toArray n (Array.replicate l.toArray.size false) :=
    ⟨by simp, fun j oj _ hl => (by rw [getD_replicate_false] at hl; cases hl), fun t _ ht => getD_in (by simpa using ht) (getD_replicate_false _ _)⟩
  have H := wpAnyT_lex (md := .any) (g := l.toArray.size - n) hsel hs hc hn (l.take n) 0 _ b0 none a (fun j hj => by
    have hj' : j < n := by rw [htl] at hj; exact hj
    simp [hj']) (by simpa using htl) inv0 (by rw [htl]; exact hlex) h
  refine wp_region_any hm ?_
  have := wpAny_of_headT (Q := Q) (g := l.toArray.size - n) (fun listed b p a' hL w' hS' => by
    have := wpAny_of_seq (md := .any) (Q' := Q) (l.drop n) n listed a' w' (fun j => by simp [List.getElem?_drop]) (by rw [hdl]; exact hL.1) (hL.2 w' hS')
    rwa [hdl] at this) _ _ _ _ _ H _ hS
  rw [htl, show n + (l.toArray.size - n) = l.toArray.size by omega] at this
  exact this

section
variable {K : Bool → Option Value → Act → Prop} {o : Oper} {os : List Oper} {a : Act} {b : Bool} {p : Option Value} {k ka : Nat}
theorem detT_end (h : K b p a) : detGoT P ops S ka K [] k b p a := h
theorem detT_op {d : Tmp} (v : Value) (t : Bool) (hka : k ≠ ka) (hd : o.dst = some d) (hw : Region.wanted o (yielded ops a.tmps) = true) (h : ∀ b p w, S b p w → wpList P ops (detPost d v (S (b || t) p) a.defers) [o] a w)
    (hn : detGoT P ops S ka K os (k + 1) (b || t) p (a.put o.dst v)) : detGoT P ops S ka K (o :: os) k b p a := by
  refine .inl ⟨hka, v, t, .inl ⟨hw, fun b p w hS => ?_⟩, hn⟩
  have hl := h b p w hS
  unfold wpList at hl
  rw [if_pos hw] at hl
  rcases hl with hl | ⟨_, hl⟩
  · unfold Oper.wp at hl
    generalize (execOp a.eval o).run P w = r at *
    cases r with
    | ok n w' =>
      cases n <;> simp only [leaves, Oper.upon, hd] at hl ⊢
      case value u => exact ⟨put_at hl.1, hl.2.2⟩
      case skip => exact ⟨put_at hl.1, hl.2.2⟩
      case defer x =>
        have := congrArg List.length hl.2.1
        simp [Act.put] at this
      case enter f args =>
        refine hl.mono fun e w'' he => ?_
        cases e with
        | returned u => exact ⟨by rw [put_at he.1], he.2.2⟩
        | panicked c => exact he.elim
        | outgrown => exact (detPost_out he).elim
      case row row args => exact hl.mono fun u w'' he => ⟨put_at he.1, he.2.2⟩
    | halt x w' =>
      cases x <;> simp only [leaves, Oper.upon] at hl ⊢
      case panic u => exact hl
  · exact (detPost_out hl).elim
/-- An operation that does not touch the flag. -/
theorem detT_plain {d : Tmp} {v : Value} (hka : k ≠ ka) (hd : o.dst = some d) (hw : Region.wanted o (yielded ops a.tmps) = true) (h : ∀ b p w, S b p w → wpList P ops (detPost d v (S b p) a.defers) [o] a w)
    (hn : detGoT P ops S ka K os (k + 1) b p (a.put o.dst v)) : detGoT P ops S ka K (o :: os) k b p a :=
  detT_op v false hka hd hw (fun b p w hS => by rw [Bool.or_false]; exact h b p w hS) (by rw [Bool.or_false]; exact hn)
/-- An operation that does not come up. -/
theorem detT_skip (hka : k ≠ ka) (hw : Region.wanted o (yielded ops a.tmps) = false) (hn : detGoT P ops S ka K os (k + 1) b p (a.put o.dst undef)) : detGoT P ops S ka K (o :: os) k b p a :=
  .inl ⟨hka, undef, false, .inr ⟨hw, rfl, rfl⟩, by rw [Bool.or_false]; exact hn⟩
/-- The new block. -/
theorem detT_alloc {t : TypeId} {cs : Array Value} (hka : k = ka) (hw : Region.wanted o (yielded ops a.tmps) = true) (hz : ∀ w, (execOp a.eval o).run P w = .ok (.value (.pointer (some ⟨w.heap.size, 0, none⟩))) (w.alloc (.cells cs t)))
    (hS : ∀ b w, S b none w → S b (some (.pointer (some ⟨w.heap.size, 0, none⟩))) (w.alloc (.cells cs t)))
    (hn : ∀ u, detGoT P ops S ka K os (k + 1) b (some u) (a.put o.dst u)) : detGoT P ops S ka K (o :: os) k b none a :=
  .inr ⟨hka, rfl, ⟨hw, fun b w h => ⟨_, by rw [hz w]; exact ⟨rfl, hS b w h⟩⟩⟩, hn⟩
end
end
end Go.Proofs.YtnbcbipigiopbaaGreatDoor

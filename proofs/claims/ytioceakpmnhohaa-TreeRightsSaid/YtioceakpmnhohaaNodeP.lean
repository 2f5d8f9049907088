/-
  Contract of tree.Right: one theorem for each class of kinds.
-/
import Derived.Test.YtioceakpmnhohaaNode
namespace Go.Proofs.Ytioceakpmnhohaa
open Go.RowKit
variable (kd md ui gi ts tn ma mi : Int) (dt lk : ByteArray) (w : World)

set_option maxHeartbeats 4000000 in
set_option maxRecDepth 100000 in
theorem treeRight_other (hk0 : 0 ≤ kd) (hk1 : kd ≤ 255) (h1 : rngB kd 48 54 = true) (h48 : (kd == 48) = false) (h49 : (kd == 49) = false) (h50 : (kd == 50) = false) (h51 : (kd == 51) = false) (h52 : (kd == 52) = false) :
    Calls Try.prog 16 #[.agg #[.int .u8 kd, .int .i64 md, .int .i64 ui, .int .i64 gi, .int .i64 ts, .int .i64 tn, .string dt, .string lk, .int .i64 ma, .int .i64 mi]] w fun e w' => e = .returned (.bool (nodeB kd md ui gi ts tn ma mi dt lk)) ∧ Ext w w' := by
  have hk48 : ¬ kd = 48 := by simpa using h48
  have n48 : (kd != 48) = true := by simp [hk48]
  have hd : Hid (nodeB kd md ui gi ts tn ma mi dt lk = (rngB md 0 4095 && rngB ui 0 1099511627775 && rngB gi 0 1099511627775 && timeB ts tn && lk.toList.isEmpty && decide ((lk.size : Int) ≤ 120) && decide (zi lk < 0) && rngB ma 0 2097151 && rngB mi 0 2097151 && (ma == 0) && (mi == 0) && dt.toList.isEmpty)) := Lib.hid (by
    unfold nodeB
    rw [h1, h49, h50, h51, h52, if_neg hk48]
    simp [Bool.and_assoc])
  have c1 := fun w => Try.strings_IndexByte lk 0 w
  rw [show Lib.indexByte lk.data.toList (Int.toNat 0).toUInt8 = zi lk from rfl] at c1
  have c3 := fun w => treeWithin_same w md 0 4095
  have c4 := fun w => treeWithin_same w ui 0 1099511627775
  have c5 := fun w => treeWithin_same w gi 0 1099511627775
  have c6 := fun w => stampRight_box ts tn w
  have c10 := fun w => treeWithin_same w ma 0 2097151
  have c11 := fun w => treeWithin_same w mi 0 2097151
  have c0 := fun w => treeWithin_same w kd 48 54
  rw [h1] at c0
  clear h1 hk48
  generalize rngB md 0 4095 = r3 at *
  generalize rngB ui 0 1099511627775 = r4 at *
  generalize rngB gi 0 1099511627775 = r5 at *
  generalize timeB ts tn = r6 at *
  generalize rngB ma 0 2097151 = r10 at *
  generalize rngB mi 0 2097151 = r11 at *
  generalize zi lk = z at *
  have C0 := Lib.hid c0
  have C1 := Lib.hid c1
  have C3 := Lib.hid c3
  have C4 := Lib.hid c4
  have C5 := Lib.hid c5
  have C6 := Lib.hid c6
  have C10 := Lib.hid c10
  have C11 := Lib.hid c11
  clear c0 c1 c3 c4 c5 c6 c10 c11
  cases r3 with
  | false =>
    go_enter Try.func16, Try.ntmps16
    go_wp2_with (first | ((with_reducible refine (C0.out _).mono ?_); rintro e w1 ⟨rfl, rfl⟩) | ((with_reducible refine (C3.out _).mono ?_); rintro e w1 ⟨rfl, rfl⟩) | ((with_reducible refine (C4.out _).mono ?_); rintro e w1 ⟨rfl, rfl⟩) | ((with_reducible refine (C5.out _).mono ?_); rintro e w1 ⟨rfl, rfl⟩) | ((with_reducible refine (C6.out _).mono ?_); rintro e w1 ⟨rfl, rfl⟩) | ((with_reducible refine (C1.out _).mono ?_); rintro e w1 ⟨rfl, rfl⟩) | ((with_reducible refine (C10.out _).mono ?_); rintro e w1 ⟨rfl, rfl⟩) | ((with_reducible refine (C11.out _).mono ?_); rintro e w1 ⟨rfl, rfl⟩))
    go_ret
    exact ⟨ret_bool (by rw [hd.out]; simp), (by show Below _ _ _; repeat' (first | (with_reducible exact Below.refl _ _) | (with_reducible assumption) | (with_reducible refine belowDrewN ?_ _) | (with_reducible refine Below.alloc ?_ ?_ _) | (with_reducible refine Below.drew ?_) | (with_reducible refine Below.setCell ?_ ?_ _) | go_size))⟩
  | true =>
    cases r4 with
    | false =>
      go_enter Try.func16, Try.ntmps16
      go_wp2_with (first | ((with_reducible refine (C0.out _).mono ?_); rintro e w1 ⟨rfl, rfl⟩) | ((with_reducible refine (C3.out _).mono ?_); rintro e w1 ⟨rfl, rfl⟩) | ((with_reducible refine (C4.out _).mono ?_); rintro e w1 ⟨rfl, rfl⟩) | ((with_reducible refine (C5.out _).mono ?_); rintro e w1 ⟨rfl, rfl⟩) | ((with_reducible refine (C6.out _).mono ?_); rintro e w1 ⟨rfl, rfl⟩) | ((with_reducible refine (C1.out _).mono ?_); rintro e w1 ⟨rfl, rfl⟩) | ((with_reducible refine (C10.out _).mono ?_); rintro e w1 ⟨rfl, rfl⟩) | ((with_reducible refine (C11.out _).mono ?_); rintro e w1 ⟨rfl, rfl⟩))
      go_ret
      exact ⟨ret_bool (by rw [hd.out]; simp), (by show Below _ _ _; repeat' (first | (with_reducible exact Below.refl _ _) | (with_reducible assumption) | (with_reducible refine belowDrewN ?_ _) | (with_reducible refine Below.alloc ?_ ?_ _) | (with_reducible refine Below.drew ?_) | (with_reducible refine Below.setCell ?_ ?_ _) | go_size))⟩
    | true =>
      cases r5 with
      | false =>
        go_enter Try.func16, Try.ntmps16
        go_wp2_with (first | ((with_reducible refine (C0.out _).mono ?_); rintro e w1 ⟨rfl, rfl⟩) | ((with_reducible refine (C3.out _).mono ?_); rintro e w1 ⟨rfl, rfl⟩) | ((with_reducible refine (C4.out _).mono ?_); rintro e w1 ⟨rfl, rfl⟩) | ((with_reducible refine (C5.out _).mono ?_); rintro e w1 ⟨rfl, rfl⟩) | ((with_reducible refine (C6.out _).mono ?_); rintro e w1 ⟨rfl, rfl⟩) | ((with_reducible refine (C1.out _).mono ?_); rintro e w1 ⟨rfl, rfl⟩) | ((with_reducible refine (C10.out _).mono ?_); rintro e w1 ⟨rfl, rfl⟩) | ((with_reducible refine (C11.out _).mono ?_); rintro e w1 ⟨rfl, rfl⟩))
        go_ret
        exact ⟨ret_bool (by rw [hd.out]; simp), (by show Below _ _ _; repeat' (first | (with_reducible exact Below.refl _ _) | (with_reducible assumption) | (with_reducible refine belowDrewN ?_ _) | (with_reducible refine Below.alloc ?_ ?_ _) | (with_reducible refine Below.drew ?_) | (with_reducible refine Below.setCell ?_ ?_ _) | go_size))⟩
      | true =>
        cases r6 with
        | false =>
          go_enter Try.func16, Try.ntmps16
          go_wp2_with (first | ((with_reducible refine (C0.out _).mono ?_); rintro e w1 ⟨rfl, rfl⟩) | ((with_reducible refine (C3.out _).mono ?_); rintro e w1 ⟨rfl, rfl⟩) | ((with_reducible refine (C4.out _).mono ?_); rintro e w1 ⟨rfl, rfl⟩) | ((with_reducible refine (C5.out _).mono ?_); rintro e w1 ⟨rfl, rfl⟩) | ((with_reducible refine (C6.out _).mono ?_); rintro e w1 ⟨rfl, rfl⟩) | ((with_reducible refine (C1.out _).mono ?_); rintro e w1 ⟨rfl, rfl⟩) | ((with_reducible refine (C10.out _).mono ?_); rintro e w1 ⟨rfl, rfl⟩) | ((with_reducible refine (C11.out _).mono ?_); rintro e w1 ⟨rfl, rfl⟩))
          go_ret
          exact ⟨ret_bool (by rw [hd.out]; simp), (by show Below _ _ _; repeat' (first | (with_reducible exact Below.refl _ _) | (with_reducible assumption) | (with_reducible refine belowDrewN ?_ _) | (with_reducible refine Below.alloc ?_ ?_ _) | (with_reducible refine Below.drew ?_) | (with_reducible refine Below.setCell ?_ ?_ _) | go_size))⟩
        | true =>
          cases he : lk.toList.isEmpty with
          | false =>
            go_enter Try.func16, Try.ntmps16
            go_wp2_with (first | ((with_reducible refine (C0.out _).mono ?_); rintro e w1 ⟨rfl, rfl⟩) | ((with_reducible refine (C3.out _).mono ?_); rintro e w1 ⟨rfl, rfl⟩) | ((with_reducible refine (C4.out _).mono ?_); rintro e w1 ⟨rfl, rfl⟩) | ((with_reducible refine (C5.out _).mono ?_); rintro e w1 ⟨rfl, rfl⟩) | ((with_reducible refine (C6.out _).mono ?_); rintro e w1 ⟨rfl, rfl⟩) | ((with_reducible refine (C1.out _).mono ?_); rintro e w1 ⟨rfl, rfl⟩) | ((with_reducible refine (C10.out _).mono ?_); rintro e w1 ⟨rfl, rfl⟩) | ((with_reducible refine (C11.out _).mono ?_); rintro e w1 ⟨rfl, rfl⟩))
            go_ret
            exact ⟨ret_bool (by rw [hd.out]; simp [he]), (by show Below _ _ _; repeat' (first | (with_reducible exact Below.refl _ _) | (with_reducible assumption) | (with_reducible refine belowDrewN ?_ _) | (with_reducible refine Below.alloc ?_ ?_ _) | (with_reducible refine Below.drew ?_) | (with_reducible refine Below.setCell ?_ ?_ _) | go_size))⟩
          | true =>
            by_cases h8 : 120 < (lk.size : Int)
            · go_enter Try.func16, Try.ntmps16
              go_wp2_with (first | ((with_reducible refine (C0.out _).mono ?_); rintro e w1 ⟨rfl, rfl⟩) | ((with_reducible refine (C3.out _).mono ?_); rintro e w1 ⟨rfl, rfl⟩) | ((with_reducible refine (C4.out _).mono ?_); rintro e w1 ⟨rfl, rfl⟩) | ((with_reducible refine (C5.out _).mono ?_); rintro e w1 ⟨rfl, rfl⟩) | ((with_reducible refine (C6.out _).mono ?_); rintro e w1 ⟨rfl, rfl⟩) | ((with_reducible refine (C1.out _).mono ?_); rintro e w1 ⟨rfl, rfl⟩) | ((with_reducible refine (C10.out _).mono ?_); rintro e w1 ⟨rfl, rfl⟩) | ((with_reducible refine (C11.out _).mono ?_); rintro e w1 ⟨rfl, rfl⟩))
              go_ret
              exact ⟨ret_bool (by rw [hd.out]; simp [he]; omega), (by show Below _ _ _; repeat' (first | (with_reducible exact Below.refl _ _) | (with_reducible assumption) | (with_reducible refine belowDrewN ?_ _) | (with_reducible refine Below.alloc ?_ ?_ _) | (with_reducible refine Below.drew ?_) | (with_reducible refine Below.setCell ?_ ?_ _) | go_size))⟩
            · have h8' : (lk.size : Int) ≤ 120 := by omega
              by_cases h9 : 0 ≤ z
              · go_enter Try.func16, Try.ntmps16
                go_wp2_with (first | ((with_reducible refine (C0.out _).mono ?_); rintro e w1 ⟨rfl, rfl⟩) | ((with_reducible refine (C3.out _).mono ?_); rintro e w1 ⟨rfl, rfl⟩) | ((with_reducible refine (C4.out _).mono ?_); rintro e w1 ⟨rfl, rfl⟩) | ((with_reducible refine (C5.out _).mono ?_); rintro e w1 ⟨rfl, rfl⟩) | ((with_reducible refine (C6.out _).mono ?_); rintro e w1 ⟨rfl, rfl⟩) | ((with_reducible refine (C1.out _).mono ?_); rintro e w1 ⟨rfl, rfl⟩) | ((with_reducible refine (C10.out _).mono ?_); rintro e w1 ⟨rfl, rfl⟩) | ((with_reducible refine (C11.out _).mono ?_); rintro e w1 ⟨rfl, rfl⟩))
                go_ret
                exact ⟨ret_bool (by rw [hd.out]; simp [he]; omega), (by show Below _ _ _; repeat' (first | (with_reducible exact Below.refl _ _) | (with_reducible assumption) | (with_reducible refine belowDrewN ?_ _) | (with_reducible refine Below.alloc ?_ ?_ _) | (with_reducible refine Below.drew ?_) | (with_reducible refine Below.setCell ?_ ?_ _) | go_size))⟩
              · have h9' : z < 0 := by omega
                cases r10 with
                | false =>
                  go_enter Try.func16, Try.ntmps16
                  go_wp2_with (first | ((with_reducible refine (C0.out _).mono ?_); rintro e w1 ⟨rfl, rfl⟩) | ((with_reducible refine (C3.out _).mono ?_); rintro e w1 ⟨rfl, rfl⟩) | ((with_reducible refine (C4.out _).mono ?_); rintro e w1 ⟨rfl, rfl⟩) | ((with_reducible refine (C5.out _).mono ?_); rintro e w1 ⟨rfl, rfl⟩) | ((with_reducible refine (C6.out _).mono ?_); rintro e w1 ⟨rfl, rfl⟩) | ((with_reducible refine (C1.out _).mono ?_); rintro e w1 ⟨rfl, rfl⟩) | ((with_reducible refine (C10.out _).mono ?_); rintro e w1 ⟨rfl, rfl⟩) | ((with_reducible refine (C11.out _).mono ?_); rintro e w1 ⟨rfl, rfl⟩))
                  go_ret
                  exact ⟨ret_bool (by rw [hd.out]; simp), (by show Below _ _ _; repeat' (first | (with_reducible exact Below.refl _ _) | (with_reducible assumption) | (with_reducible refine belowDrewN ?_ _) | (with_reducible refine Below.alloc ?_ ?_ _) | (with_reducible refine Below.drew ?_) | (with_reducible refine Below.setCell ?_ ?_ _) | go_size))⟩
                | true =>
                  cases r11 with
                  | false =>
                    go_enter Try.func16, Try.ntmps16
                    go_wp2_with (first | ((with_reducible refine (C0.out _).mono ?_); rintro e w1 ⟨rfl, rfl⟩) | ((with_reducible refine (C3.out _).mono ?_); rintro e w1 ⟨rfl, rfl⟩) | ((with_reducible refine (C4.out _).mono ?_); rintro e w1 ⟨rfl, rfl⟩) | ((with_reducible refine (C5.out _).mono ?_); rintro e w1 ⟨rfl, rfl⟩) | ((with_reducible refine (C6.out _).mono ?_); rintro e w1 ⟨rfl, rfl⟩) | ((with_reducible refine (C1.out _).mono ?_); rintro e w1 ⟨rfl, rfl⟩) | ((with_reducible refine (C10.out _).mono ?_); rintro e w1 ⟨rfl, rfl⟩) | ((with_reducible refine (C11.out _).mono ?_); rintro e w1 ⟨rfl, rfl⟩))
                    go_ret
                    exact ⟨ret_bool (by rw [hd.out]; simp), (by show Below _ _ _; repeat' (first | (with_reducible exact Below.refl _ _) | (with_reducible assumption) | (with_reducible refine belowDrewN ?_ _) | (with_reducible refine Below.alloc ?_ ?_ _) | (with_reducible refine Below.drew ?_) | (with_reducible refine Below.setCell ?_ ?_ _) | go_size))⟩
                  | true =>
                    by_cases hma : ma = 0
                    · have qma : (ma != 0) = false := by simp [hma]
                      have Hma := Lib.hid hma
                      clear hma
                      by_cases hmi : mi = 0
                      · have qmi : (mi != 0) = false := by simp [hmi]
                        have Hmi := Lib.hid hmi
                        clear hmi
                        go_enter Try.func16, Try.ntmps16
                        go_wp2_with (first | ((with_reducible refine (C0.out _).mono ?_); rintro e w1 ⟨rfl, rfl⟩) | ((with_reducible refine (C3.out _).mono ?_); rintro e w1 ⟨rfl, rfl⟩) | ((with_reducible refine (C4.out _).mono ?_); rintro e w1 ⟨rfl, rfl⟩) | ((with_reducible refine (C5.out _).mono ?_); rintro e w1 ⟨rfl, rfl⟩) | ((with_reducible refine (C6.out _).mono ?_); rintro e w1 ⟨rfl, rfl⟩) | ((with_reducible refine (C1.out _).mono ?_); rintro e w1 ⟨rfl, rfl⟩) | ((with_reducible refine (C10.out _).mono ?_); rintro e w1 ⟨rfl, rfl⟩) | ((with_reducible refine (C11.out _).mono ?_); rintro e w1 ⟨rfl, rfl⟩))
                        go_ret
                        exact ⟨ret_bool (by rw [hd.out]; simp [he, h8', h9', Hma.out, Hmi.out]), (by show Below _ _ _; repeat' (first | (with_reducible exact Below.refl _ _) | (with_reducible assumption) | (with_reducible refine belowDrewN ?_ _) | (with_reducible refine Below.alloc ?_ ?_ _) | (with_reducible refine Below.drew ?_) | (with_reducible refine Below.setCell ?_ ?_ _) | go_size))⟩
                      · have qmi : (mi != 0) = true := by simp [hmi]
                        have Hmi := Lib.hid hmi
                        clear hmi
                        go_enter Try.func16, Try.ntmps16
                        go_wp2_with (first | ((with_reducible refine (C0.out _).mono ?_); rintro e w1 ⟨rfl, rfl⟩) | ((with_reducible refine (C3.out _).mono ?_); rintro e w1 ⟨rfl, rfl⟩) | ((with_reducible refine (C4.out _).mono ?_); rintro e w1 ⟨rfl, rfl⟩) | ((with_reducible refine (C5.out _).mono ?_); rintro e w1 ⟨rfl, rfl⟩) | ((with_reducible refine (C6.out _).mono ?_); rintro e w1 ⟨rfl, rfl⟩) | ((with_reducible refine (C1.out _).mono ?_); rintro e w1 ⟨rfl, rfl⟩) | ((with_reducible refine (C10.out _).mono ?_); rintro e w1 ⟨rfl, rfl⟩) | ((with_reducible refine (C11.out _).mono ?_); rintro e w1 ⟨rfl, rfl⟩))
                        go_ret
                        exact ⟨ret_bool (by rw [hd.out]; simp [Hmi.out]), (by show Below _ _ _; repeat' (first | (with_reducible exact Below.refl _ _) | (with_reducible assumption) | (with_reducible refine belowDrewN ?_ _) | (with_reducible refine Below.alloc ?_ ?_ _) | (with_reducible refine Below.drew ?_) | (with_reducible refine Below.setCell ?_ ?_ _) | go_size))⟩
                    · have qma : (ma != 0) = true := by simp [hma]
                      have Hma := Lib.hid hma
                      clear hma
                      go_enter Try.func16, Try.ntmps16
                      go_wp2_with (first | ((with_reducible refine (C0.out _).mono ?_); rintro e w1 ⟨rfl, rfl⟩) | ((with_reducible refine (C3.out _).mono ?_); rintro e w1 ⟨rfl, rfl⟩) | ((with_reducible refine (C4.out _).mono ?_); rintro e w1 ⟨rfl, rfl⟩) | ((with_reducible refine (C5.out _).mono ?_); rintro e w1 ⟨rfl, rfl⟩) | ((with_reducible refine (C6.out _).mono ?_); rintro e w1 ⟨rfl, rfl⟩) | ((with_reducible refine (C1.out _).mono ?_); rintro e w1 ⟨rfl, rfl⟩) | ((with_reducible refine (C10.out _).mono ?_); rintro e w1 ⟨rfl, rfl⟩) | ((with_reducible refine (C11.out _).mono ?_); rintro e w1 ⟨rfl, rfl⟩))
                      go_ret
                      exact ⟨ret_bool (by rw [hd.out]; simp [Hma.out]), (by show Below _ _ _; repeat' (first | (with_reducible exact Below.refl _ _) | (with_reducible assumption) | (with_reducible refine belowDrewN ?_ _) | (with_reducible refine Below.alloc ?_ ?_ _) | (with_reducible refine Below.drew ?_) | (with_reducible refine Below.setCell ?_ ?_ _) | go_size))⟩

set_option maxHeartbeats 4000000 in
set_option maxRecDepth 100000 in
theorem treeRight_file (hk0 : 0 ≤ kd) (hk1 : kd ≤ 255) (h1 : rngB kd 48 54 = true) (h48 : (kd == 48) = true) (h49 : (kd == 49) = false) (h50 : (kd == 50) = false) (h51 : (kd == 51) = false) (h52 : (kd == 52) = false) :
    Calls Try.prog 16 #[.agg #[.int .u8 kd, .int .i64 md, .int .i64 ui, .int .i64 gi, .int .i64 ts, .int .i64 tn, .string dt, .string lk, .int .i64 ma, .int .i64 mi]] w fun e w' => e = .returned (.bool (nodeB kd md ui gi ts tn ma mi dt lk)) ∧ Ext w w' := by
  have hk48 : kd = 48 := by simpa using h48
  have n48 : (kd != 48) = false := by simp [hk48]
  have hd : Hid (nodeB kd md ui gi ts tn ma mi dt lk = (rngB md 0 4095 && rngB ui 0 1099511627775 && rngB gi 0 1099511627775 && timeB ts tn && lk.toList.isEmpty && decide ((lk.size : Int) ≤ 120) && decide (zi lk < 0) && rngB ma 0 2097151 && rngB mi 0 2097151 && (ma == 0) && (mi == 0) && decide ((dt.size : Int) ≤ 4000))) := Lib.hid (by
    unfold nodeB
    rw [h1, h49, h50, h51, h52, if_pos hk48]
    simp [Bool.and_assoc])
  have c1 := fun w => Try.strings_IndexByte lk 0 w
  rw [show Lib.indexByte lk.data.toList (Int.toNat 0).toUInt8 = zi lk from rfl] at c1
  have c3 := fun w => treeWithin_same w md 0 4095
  have c4 := fun w => treeWithin_same w ui 0 1099511627775
  have c5 := fun w => treeWithin_same w gi 0 1099511627775
  have c6 := fun w => stampRight_box ts tn w
  have c10 := fun w => treeWithin_same w ma 0 2097151
  have c11 := fun w => treeWithin_same w mi 0 2097151
  have c0 := fun w => treeWithin_same w kd 48 54
  rw [h1] at c0
  clear h1 hk48
  generalize rngB md 0 4095 = r3 at *
  generalize rngB ui 0 1099511627775 = r4 at *
  generalize rngB gi 0 1099511627775 = r5 at *
  generalize timeB ts tn = r6 at *
  generalize rngB ma 0 2097151 = r10 at *
  generalize rngB mi 0 2097151 = r11 at *
  generalize zi lk = z at *
  have C0 := Lib.hid c0
  have C1 := Lib.hid c1
  have C3 := Lib.hid c3
  have C4 := Lib.hid c4
  have C5 := Lib.hid c5
  have C6 := Lib.hid c6
  have C10 := Lib.hid c10
  have C11 := Lib.hid c11
  clear c0 c1 c3 c4 c5 c6 c10 c11
  cases r3 with
  | false =>
    go_enter Try.func16, Try.ntmps16
    go_wp2_with (first | ((with_reducible refine (C0.out _).mono ?_); rintro e w1 ⟨rfl, rfl⟩) | ((with_reducible refine (C3.out _).mono ?_); rintro e w1 ⟨rfl, rfl⟩) | ((with_reducible refine (C4.out _).mono ?_); rintro e w1 ⟨rfl, rfl⟩) | ((with_reducible refine (C5.out _).mono ?_); rintro e w1 ⟨rfl, rfl⟩) | ((with_reducible refine (C6.out _).mono ?_); rintro e w1 ⟨rfl, rfl⟩) | ((with_reducible refine (C1.out _).mono ?_); rintro e w1 ⟨rfl, rfl⟩) | ((with_reducible refine (C10.out _).mono ?_); rintro e w1 ⟨rfl, rfl⟩) | ((with_reducible refine (C11.out _).mono ?_); rintro e w1 ⟨rfl, rfl⟩))
    go_ret
    exact ⟨ret_bool (by rw [hd.out]; simp), (by show Below _ _ _; repeat' (first | (with_reducible exact Below.refl _ _) | (with_reducible assumption) | (with_reducible refine belowDrewN ?_ _) | (with_reducible refine Below.alloc ?_ ?_ _) | (with_reducible refine Below.drew ?_) | (with_reducible refine Below.setCell ?_ ?_ _) | go_size))⟩
  | true =>
    cases r4 with
    | false =>
      go_enter Try.func16, Try.ntmps16
      go_wp2_with (first | ((with_reducible refine (C0.out _).mono ?_); rintro e w1 ⟨rfl, rfl⟩) | ((with_reducible refine (C3.out _).mono ?_); rintro e w1 ⟨rfl, rfl⟩) | ((with_reducible refine (C4.out _).mono ?_); rintro e w1 ⟨rfl, rfl⟩) | ((with_reducible refine (C5.out _).mono ?_); rintro e w1 ⟨rfl, rfl⟩) | ((with_reducible refine (C6.out _).mono ?_); rintro e w1 ⟨rfl, rfl⟩) | ((with_reducible refine (C1.out _).mono ?_); rintro e w1 ⟨rfl, rfl⟩) | ((with_reducible refine (C10.out _).mono ?_); rintro e w1 ⟨rfl, rfl⟩) | ((with_reducible refine (C11.out _).mono ?_); rintro e w1 ⟨rfl, rfl⟩))
      go_ret
      exact ⟨ret_bool (by rw [hd.out]; simp), (by show Below _ _ _; repeat' (first | (with_reducible exact Below.refl _ _) | (with_reducible assumption) | (with_reducible refine belowDrewN ?_ _) | (with_reducible refine Below.alloc ?_ ?_ _) | (with_reducible refine Below.drew ?_) | (with_reducible refine Below.setCell ?_ ?_ _) | go_size))⟩
    | true =>
      cases r5 with
      | false =>
        go_enter Try.func16, Try.ntmps16
        go_wp2_with (first | ((with_reducible refine (C0.out _).mono ?_); rintro e w1 ⟨rfl, rfl⟩) | ((with_reducible refine (C3.out _).mono ?_); rintro e w1 ⟨rfl, rfl⟩) | ((with_reducible refine (C4.out _).mono ?_); rintro e w1 ⟨rfl, rfl⟩) | ((with_reducible refine (C5.out _).mono ?_); rintro e w1 ⟨rfl, rfl⟩) | ((with_reducible refine (C6.out _).mono ?_); rintro e w1 ⟨rfl, rfl⟩) | ((with_reducible refine (C1.out _).mono ?_); rintro e w1 ⟨rfl, rfl⟩) | ((with_reducible refine (C10.out _).mono ?_); rintro e w1 ⟨rfl, rfl⟩) | ((with_reducible refine (C11.out _).mono ?_); rintro e w1 ⟨rfl, rfl⟩))
        go_ret
        exact ⟨ret_bool (by rw [hd.out]; simp), (by show Below _ _ _; repeat' (first | (with_reducible exact Below.refl _ _) | (with_reducible assumption) | (with_reducible refine belowDrewN ?_ _) | (with_reducible refine Below.alloc ?_ ?_ _) | (with_reducible refine Below.drew ?_) | (with_reducible refine Below.setCell ?_ ?_ _) | go_size))⟩
      | true =>
        cases r6 with
        | false =>
          go_enter Try.func16, Try.ntmps16
          go_wp2_with (first | ((with_reducible refine (C0.out _).mono ?_); rintro e w1 ⟨rfl, rfl⟩) | ((with_reducible refine (C3.out _).mono ?_); rintro e w1 ⟨rfl, rfl⟩) | ((with_reducible refine (C4.out _).mono ?_); rintro e w1 ⟨rfl, rfl⟩) | ((with_reducible refine (C5.out _).mono ?_); rintro e w1 ⟨rfl, rfl⟩) | ((with_reducible refine (C6.out _).mono ?_); rintro e w1 ⟨rfl, rfl⟩) | ((with_reducible refine (C1.out _).mono ?_); rintro e w1 ⟨rfl, rfl⟩) | ((with_reducible refine (C10.out _).mono ?_); rintro e w1 ⟨rfl, rfl⟩) | ((with_reducible refine (C11.out _).mono ?_); rintro e w1 ⟨rfl, rfl⟩))
          go_ret
          exact ⟨ret_bool (by rw [hd.out]; simp), (by show Below _ _ _; repeat' (first | (with_reducible exact Below.refl _ _) | (with_reducible assumption) | (with_reducible refine belowDrewN ?_ _) | (with_reducible refine Below.alloc ?_ ?_ _) | (with_reducible refine Below.drew ?_) | (with_reducible refine Below.setCell ?_ ?_ _) | go_size))⟩
        | true =>
          cases he : lk.toList.isEmpty with
          | false =>
            go_enter Try.func16, Try.ntmps16
            go_wp2_with (first | ((with_reducible refine (C0.out _).mono ?_); rintro e w1 ⟨rfl, rfl⟩) | ((with_reducible refine (C3.out _).mono ?_); rintro e w1 ⟨rfl, rfl⟩) | ((with_reducible refine (C4.out _).mono ?_); rintro e w1 ⟨rfl, rfl⟩) | ((with_reducible refine (C5.out _).mono ?_); rintro e w1 ⟨rfl, rfl⟩) | ((with_reducible refine (C6.out _).mono ?_); rintro e w1 ⟨rfl, rfl⟩) | ((with_reducible refine (C1.out _).mono ?_); rintro e w1 ⟨rfl, rfl⟩) | ((with_reducible refine (C10.out _).mono ?_); rintro e w1 ⟨rfl, rfl⟩) | ((with_reducible refine (C11.out _).mono ?_); rintro e w1 ⟨rfl, rfl⟩))
            go_ret
            exact ⟨ret_bool (by rw [hd.out]; simp [he]), (by show Below _ _ _; repeat' (first | (with_reducible exact Below.refl _ _) | (with_reducible assumption) | (with_reducible refine belowDrewN ?_ _) | (with_reducible refine Below.alloc ?_ ?_ _) | (with_reducible refine Below.drew ?_) | (with_reducible refine Below.setCell ?_ ?_ _) | go_size))⟩
          | true =>
            by_cases h8 : 120 < (lk.size : Int)
            · go_enter Try.func16, Try.ntmps16
              go_wp2_with (first | ((with_reducible refine (C0.out _).mono ?_); rintro e w1 ⟨rfl, rfl⟩) | ((with_reducible refine (C3.out _).mono ?_); rintro e w1 ⟨rfl, rfl⟩) | ((with_reducible refine (C4.out _).mono ?_); rintro e w1 ⟨rfl, rfl⟩) | ((with_reducible refine (C5.out _).mono ?_); rintro e w1 ⟨rfl, rfl⟩) | ((with_reducible refine (C6.out _).mono ?_); rintro e w1 ⟨rfl, rfl⟩) | ((with_reducible refine (C1.out _).mono ?_); rintro e w1 ⟨rfl, rfl⟩) | ((with_reducible refine (C10.out _).mono ?_); rintro e w1 ⟨rfl, rfl⟩) | ((with_reducible refine (C11.out _).mono ?_); rintro e w1 ⟨rfl, rfl⟩))
              go_ret
              exact ⟨ret_bool (by rw [hd.out]; simp [he]; omega), (by show Below _ _ _; repeat' (first | (with_reducible exact Below.refl _ _) | (with_reducible assumption) | (with_reducible refine belowDrewN ?_ _) | (with_reducible refine Below.alloc ?_ ?_ _) | (with_reducible refine Below.drew ?_) | (with_reducible refine Below.setCell ?_ ?_ _) | go_size))⟩
            · have h8' : (lk.size : Int) ≤ 120 := by omega
              by_cases h9 : 0 ≤ z
              · go_enter Try.func16, Try.ntmps16
                go_wp2_with (first | ((with_reducible refine (C0.out _).mono ?_); rintro e w1 ⟨rfl, rfl⟩) | ((with_reducible refine (C3.out _).mono ?_); rintro e w1 ⟨rfl, rfl⟩) | ((with_reducible refine (C4.out _).mono ?_); rintro e w1 ⟨rfl, rfl⟩) | ((with_reducible refine (C5.out _).mono ?_); rintro e w1 ⟨rfl, rfl⟩) | ((with_reducible refine (C6.out _).mono ?_); rintro e w1 ⟨rfl, rfl⟩) | ((with_reducible refine (C1.out _).mono ?_); rintro e w1 ⟨rfl, rfl⟩) | ((with_reducible refine (C10.out _).mono ?_); rintro e w1 ⟨rfl, rfl⟩) | ((with_reducible refine (C11.out _).mono ?_); rintro e w1 ⟨rfl, rfl⟩))
                go_ret
                exact ⟨ret_bool (by rw [hd.out]; simp [he]; omega), (by show Below _ _ _; repeat' (first | (with_reducible exact Below.refl _ _) | (with_reducible assumption) | (with_reducible refine belowDrewN ?_ _) | (with_reducible refine Below.alloc ?_ ?_ _) | (with_reducible refine Below.drew ?_) | (with_reducible refine Below.setCell ?_ ?_ _) | go_size))⟩
              · have h9' : z < 0 := by omega
                cases r10 with
                | false =>
                  go_enter Try.func16, Try.ntmps16
                  go_wp2_with (first | ((with_reducible refine (C0.out _).mono ?_); rintro e w1 ⟨rfl, rfl⟩) | ((with_reducible refine (C3.out _).mono ?_); rintro e w1 ⟨rfl, rfl⟩) | ((with_reducible refine (C4.out _).mono ?_); rintro e w1 ⟨rfl, rfl⟩) | ((with_reducible refine (C5.out _).mono ?_); rintro e w1 ⟨rfl, rfl⟩) | ((with_reducible refine (C6.out _).mono ?_); rintro e w1 ⟨rfl, rfl⟩) | ((with_reducible refine (C1.out _).mono ?_); rintro e w1 ⟨rfl, rfl⟩) | ((with_reducible refine (C10.out _).mono ?_); rintro e w1 ⟨rfl, rfl⟩) | ((with_reducible refine (C11.out _).mono ?_); rintro e w1 ⟨rfl, rfl⟩))
                  go_ret
                  exact ⟨ret_bool (by rw [hd.out]; simp), (by show Below _ _ _; repeat' (first | (with_reducible exact Below.refl _ _) | (with_reducible assumption) | (with_reducible refine belowDrewN ?_ _) | (with_reducible refine Below.alloc ?_ ?_ _) | (with_reducible refine Below.drew ?_) | (with_reducible refine Below.setCell ?_ ?_ _) | go_size))⟩
                | true =>
                  cases r11 with
                  | false =>
                    go_enter Try.func16, Try.ntmps16
                    go_wp2_with (first | ((with_reducible refine (C0.out _).mono ?_); rintro e w1 ⟨rfl, rfl⟩) | ((with_reducible refine (C3.out _).mono ?_); rintro e w1 ⟨rfl, rfl⟩) | ((with_reducible refine (C4.out _).mono ?_); rintro e w1 ⟨rfl, rfl⟩) | ((with_reducible refine (C5.out _).mono ?_); rintro e w1 ⟨rfl, rfl⟩) | ((with_reducible refine (C6.out _).mono ?_); rintro e w1 ⟨rfl, rfl⟩) | ((with_reducible refine (C1.out _).mono ?_); rintro e w1 ⟨rfl, rfl⟩) | ((with_reducible refine (C10.out _).mono ?_); rintro e w1 ⟨rfl, rfl⟩) | ((with_reducible refine (C11.out _).mono ?_); rintro e w1 ⟨rfl, rfl⟩))
                    go_ret
                    exact ⟨ret_bool (by rw [hd.out]; simp), (by show Below _ _ _; repeat' (first | (with_reducible exact Below.refl _ _) | (with_reducible assumption) | (with_reducible refine belowDrewN ?_ _) | (with_reducible refine Below.alloc ?_ ?_ _) | (with_reducible refine Below.drew ?_) | (with_reducible refine Below.setCell ?_ ?_ _) | go_size))⟩
                  | true =>
                    by_cases hma : ma = 0
                    · have qma : (ma != 0) = false := by simp [hma]
                      have Hma := Lib.hid hma
                      clear hma
                      by_cases hmi : mi = 0
                      · have qmi : (mi != 0) = false := by simp [hmi]
                        have Hmi := Lib.hid hmi
                        clear hmi
                        go_enter Try.func16, Try.ntmps16
                        go_wp2_with (first | ((with_reducible refine (C0.out _).mono ?_); rintro e w1 ⟨rfl, rfl⟩) | ((with_reducible refine (C3.out _).mono ?_); rintro e w1 ⟨rfl, rfl⟩) | ((with_reducible refine (C4.out _).mono ?_); rintro e w1 ⟨rfl, rfl⟩) | ((with_reducible refine (C5.out _).mono ?_); rintro e w1 ⟨rfl, rfl⟩) | ((with_reducible refine (C6.out _).mono ?_); rintro e w1 ⟨rfl, rfl⟩) | ((with_reducible refine (C1.out _).mono ?_); rintro e w1 ⟨rfl, rfl⟩) | ((with_reducible refine (C10.out _).mono ?_); rintro e w1 ⟨rfl, rfl⟩) | ((with_reducible refine (C11.out _).mono ?_); rintro e w1 ⟨rfl, rfl⟩))
                        go_ret
                        exact ⟨ret_bool (by rw [hd.out]; simp [he, h8', h9', Hma.out, Hmi.out]), (by show Below _ _ _; repeat' (first | (with_reducible exact Below.refl _ _) | (with_reducible assumption) | (with_reducible refine belowDrewN ?_ _) | (with_reducible refine Below.alloc ?_ ?_ _) | (with_reducible refine Below.drew ?_) | (with_reducible refine Below.setCell ?_ ?_ _) | go_size))⟩
                      · have qmi : (mi != 0) = true := by simp [hmi]
                        have Hmi := Lib.hid hmi
                        clear hmi
                        go_enter Try.func16, Try.ntmps16
                        go_wp2_with (first | ((with_reducible refine (C0.out _).mono ?_); rintro e w1 ⟨rfl, rfl⟩) | ((with_reducible refine (C3.out _).mono ?_); rintro e w1 ⟨rfl, rfl⟩) | ((with_reducible refine (C4.out _).mono ?_); rintro e w1 ⟨rfl, rfl⟩) | ((with_reducible refine (C5.out _).mono ?_); rintro e w1 ⟨rfl, rfl⟩) | ((with_reducible refine (C6.out _).mono ?_); rintro e w1 ⟨rfl, rfl⟩) | ((with_reducible refine (C1.out _).mono ?_); rintro e w1 ⟨rfl, rfl⟩) | ((with_reducible refine (C10.out _).mono ?_); rintro e w1 ⟨rfl, rfl⟩) | ((with_reducible refine (C11.out _).mono ?_); rintro e w1 ⟨rfl, rfl⟩))
                        go_ret
                        exact ⟨ret_bool (by rw [hd.out]; simp [Hmi.out]), (by show Below _ _ _; repeat' (first | (with_reducible exact Below.refl _ _) | (with_reducible assumption) | (with_reducible refine belowDrewN ?_ _) | (with_reducible refine Below.alloc ?_ ?_ _) | (with_reducible refine Below.drew ?_) | (with_reducible refine Below.setCell ?_ ?_ _) | go_size))⟩
                    · have qma : (ma != 0) = true := by simp [hma]
                      have Hma := Lib.hid hma
                      clear hma
                      go_enter Try.func16, Try.ntmps16
                      go_wp2_with (first | ((with_reducible refine (C0.out _).mono ?_); rintro e w1 ⟨rfl, rfl⟩) | ((with_reducible refine (C3.out _).mono ?_); rintro e w1 ⟨rfl, rfl⟩) | ((with_reducible refine (C4.out _).mono ?_); rintro e w1 ⟨rfl, rfl⟩) | ((with_reducible refine (C5.out _).mono ?_); rintro e w1 ⟨rfl, rfl⟩) | ((with_reducible refine (C6.out _).mono ?_); rintro e w1 ⟨rfl, rfl⟩) | ((with_reducible refine (C1.out _).mono ?_); rintro e w1 ⟨rfl, rfl⟩) | ((with_reducible refine (C10.out _).mono ?_); rintro e w1 ⟨rfl, rfl⟩) | ((with_reducible refine (C11.out _).mono ?_); rintro e w1 ⟨rfl, rfl⟩))
                      go_ret
                      exact ⟨ret_bool (by rw [hd.out]; simp [Hma.out]), (by show Below _ _ _; repeat' (first | (with_reducible exact Below.refl _ _) | (with_reducible assumption) | (with_reducible refine belowDrewN ?_ _) | (with_reducible refine Below.alloc ?_ ?_ _) | (with_reducible refine Below.drew ?_) | (with_reducible refine Below.setCell ?_ ?_ _) | go_size))⟩

set_option maxHeartbeats 4000000 in
set_option maxRecDepth 100000 in
theorem treeRight_soft (hk0 : 0 ≤ kd) (hk1 : kd ≤ 255) (h1 : rngB kd 48 54 = true) (h48 : (kd == 48) = false) (h49 : (kd == 49) = false) (h50 : (kd == 50) = true) (h51 : (kd == 51) = false) (h52 : (kd == 52) = false) :
    Calls Try.prog 16 #[.agg #[.int .u8 kd, .int .i64 md, .int .i64 ui, .int .i64 gi, .int .i64 ts, .int .i64 tn, .string dt, .string lk, .int .i64 ma, .int .i64 mi]] w fun e w' => e = .returned (.bool (nodeB kd md ui gi ts tn ma mi dt lk)) ∧ Ext w w' := by
  have hk48 : ¬ kd = 48 := by simpa using h48
  have n48 : (kd != 48) = true := by simp [hk48]
  have hd : Hid (nodeB kd md ui gi ts tn ma mi dt lk = (rngB md 0 4095 && rngB ui 0 1099511627775 && rngB gi 0 1099511627775 && timeB ts tn && !lk.toList.isEmpty && decide ((lk.size : Int) ≤ 120) && decide (zi lk < 0) && rngB ma 0 2097151 && rngB mi 0 2097151 && (ma == 0) && (mi == 0) && dt.toList.isEmpty)) := Lib.hid (by
    unfold nodeB
    rw [h1, h49, h50, h51, h52, if_neg hk48]
    simp [Bool.and_assoc])
  have c1 := fun w => Try.strings_IndexByte lk 0 w
  rw [show Lib.indexByte lk.data.toList (Int.toNat 0).toUInt8 = zi lk from rfl] at c1
  have c3 := fun w => treeWithin_same w md 0 4095
  have c4 := fun w => treeWithin_same w ui 0 1099511627775
  have c5 := fun w => treeWithin_same w gi 0 1099511627775
  have c6 := fun w => stampRight_box ts tn w
  have c10 := fun w => treeWithin_same w ma 0 2097151
  have c11 := fun w => treeWithin_same w mi 0 2097151
  have c0 := fun w => treeWithin_same w kd 48 54
  rw [h1] at c0
  clear h1 hk48
  generalize rngB md 0 4095 = r3 at *
  generalize rngB ui 0 1099511627775 = r4 at *
  generalize rngB gi 0 1099511627775 = r5 at *
  generalize timeB ts tn = r6 at *
  generalize rngB ma 0 2097151 = r10 at *
  generalize rngB mi 0 2097151 = r11 at *
  generalize zi lk = z at *
  have C0 := Lib.hid c0
  have C1 := Lib.hid c1
  have C3 := Lib.hid c3
  have C4 := Lib.hid c4
  have C5 := Lib.hid c5
  have C6 := Lib.hid c6
  have C10 := Lib.hid c10
  have C11 := Lib.hid c11
  clear c0 c1 c3 c4 c5 c6 c10 c11
  cases r3 with
  | false =>
    go_enter Try.func16, Try.ntmps16
    go_wp2_with (first | ((with_reducible refine (C0.out _).mono ?_); rintro e w1 ⟨rfl, rfl⟩) | ((with_reducible refine (C3.out _).mono ?_); rintro e w1 ⟨rfl, rfl⟩) | ((with_reducible refine (C4.out _).mono ?_); rintro e w1 ⟨rfl, rfl⟩) | ((with_reducible refine (C5.out _).mono ?_); rintro e w1 ⟨rfl, rfl⟩) | ((with_reducible refine (C6.out _).mono ?_); rintro e w1 ⟨rfl, rfl⟩) | ((with_reducible refine (C1.out _).mono ?_); rintro e w1 ⟨rfl, rfl⟩) | ((with_reducible refine (C10.out _).mono ?_); rintro e w1 ⟨rfl, rfl⟩) | ((with_reducible refine (C11.out _).mono ?_); rintro e w1 ⟨rfl, rfl⟩))
    go_ret
    exact ⟨ret_bool (by rw [hd.out]; simp), (by show Below _ _ _; repeat' (first | (with_reducible exact Below.refl _ _) | (with_reducible assumption) | (with_reducible refine belowDrewN ?_ _) | (with_reducible refine Below.alloc ?_ ?_ _) | (with_reducible refine Below.drew ?_) | (with_reducible refine Below.setCell ?_ ?_ _) | go_size))⟩
  | true =>
    cases r4 with
    | false =>
      go_enter Try.func16, Try.ntmps16
      go_wp2_with (first | ((with_reducible refine (C0.out _).mono ?_); rintro e w1 ⟨rfl, rfl⟩) | ((with_reducible refine (C3.out _).mono ?_); rintro e w1 ⟨rfl, rfl⟩) | ((with_reducible refine (C4.out _).mono ?_); rintro e w1 ⟨rfl, rfl⟩) | ((with_reducible refine (C5.out _).mono ?_); rintro e w1 ⟨rfl, rfl⟩) | ((with_reducible refine (C6.out _).mono ?_); rintro e w1 ⟨rfl, rfl⟩) | ((with_reducible refine (C1.out _).mono ?_); rintro e w1 ⟨rfl, rfl⟩) | ((with_reducible refine (C10.out _).mono ?_); rintro e w1 ⟨rfl, rfl⟩) | ((with_reducible refine (C11.out _).mono ?_); rintro e w1 ⟨rfl, rfl⟩))
      go_ret
      exact ⟨ret_bool (by rw [hd.out]; simp), (by show Below _ _ _; repeat' (first | (with_reducible exact Below.refl _ _) | (with_reducible assumption) | (with_reducible refine belowDrewN ?_ _) | (with_reducible refine Below.alloc ?_ ?_ _) | (with_reducible refine Below.drew ?_) | (with_reducible refine Below.setCell ?_ ?_ _) | go_size))⟩
    | true =>
      cases r5 with
      | false =>
        go_enter Try.func16, Try.ntmps16
        go_wp2_with (first | ((with_reducible refine (C0.out _).mono ?_); rintro e w1 ⟨rfl, rfl⟩) | ((with_reducible refine (C3.out _).mono ?_); rintro e w1 ⟨rfl, rfl⟩) | ((with_reducible refine (C4.out _).mono ?_); rintro e w1 ⟨rfl, rfl⟩) | ((with_reducible refine (C5.out _).mono ?_); rintro e w1 ⟨rfl, rfl⟩) | ((with_reducible refine (C6.out _).mono ?_); rintro e w1 ⟨rfl, rfl⟩) | ((with_reducible refine (C1.out _).mono ?_); rintro e w1 ⟨rfl, rfl⟩) | ((with_reducible refine (C10.out _).mono ?_); rintro e w1 ⟨rfl, rfl⟩) | ((with_reducible refine (C11.out _).mono ?_); rintro e w1 ⟨rfl, rfl⟩))
        go_ret
        exact ⟨ret_bool (by rw [hd.out]; simp), (by show Below _ _ _; repeat' (first | (with_reducible exact Below.refl _ _) | (with_reducible assumption) | (with_reducible refine belowDrewN ?_ _) | (with_reducible refine Below.alloc ?_ ?_ _) | (with_reducible refine Below.drew ?_) | (with_reducible refine Below.setCell ?_ ?_ _) | go_size))⟩
      | true =>
        cases r6 with
        | false =>
          go_enter Try.func16, Try.ntmps16
          go_wp2_with (first | ((with_reducible refine (C0.out _).mono ?_); rintro e w1 ⟨rfl, rfl⟩) | ((with_reducible refine (C3.out _).mono ?_); rintro e w1 ⟨rfl, rfl⟩) | ((with_reducible refine (C4.out _).mono ?_); rintro e w1 ⟨rfl, rfl⟩) | ((with_reducible refine (C5.out _).mono ?_); rintro e w1 ⟨rfl, rfl⟩) | ((with_reducible refine (C6.out _).mono ?_); rintro e w1 ⟨rfl, rfl⟩) | ((with_reducible refine (C1.out _).mono ?_); rintro e w1 ⟨rfl, rfl⟩) | ((with_reducible refine (C10.out _).mono ?_); rintro e w1 ⟨rfl, rfl⟩) | ((with_reducible refine (C11.out _).mono ?_); rintro e w1 ⟨rfl, rfl⟩))
          go_ret
          exact ⟨ret_bool (by rw [hd.out]; simp), (by show Below _ _ _; repeat' (first | (with_reducible exact Below.refl _ _) | (with_reducible assumption) | (with_reducible refine belowDrewN ?_ _) | (with_reducible refine Below.alloc ?_ ?_ _) | (with_reducible refine Below.drew ?_) | (with_reducible refine Below.setCell ?_ ?_ _) | go_size))⟩
        | true =>
          cases he : lk.toList.isEmpty with
          | true =>
            go_enter Try.func16, Try.ntmps16
            go_wp2_with (first | ((with_reducible refine (C0.out _).mono ?_); rintro e w1 ⟨rfl, rfl⟩) | ((with_reducible refine (C3.out _).mono ?_); rintro e w1 ⟨rfl, rfl⟩) | ((with_reducible refine (C4.out _).mono ?_); rintro e w1 ⟨rfl, rfl⟩) | ((with_reducible refine (C5.out _).mono ?_); rintro e w1 ⟨rfl, rfl⟩) | ((with_reducible refine (C6.out _).mono ?_); rintro e w1 ⟨rfl, rfl⟩) | ((with_reducible refine (C1.out _).mono ?_); rintro e w1 ⟨rfl, rfl⟩) | ((with_reducible refine (C10.out _).mono ?_); rintro e w1 ⟨rfl, rfl⟩) | ((with_reducible refine (C11.out _).mono ?_); rintro e w1 ⟨rfl, rfl⟩))
            go_ret
            exact ⟨ret_bool (by rw [hd.out]; simp [he]), (by show Below _ _ _; repeat' (first | (with_reducible exact Below.refl _ _) | (with_reducible assumption) | (with_reducible refine belowDrewN ?_ _) | (with_reducible refine Below.alloc ?_ ?_ _) | (with_reducible refine Below.drew ?_) | (with_reducible refine Below.setCell ?_ ?_ _) | go_size))⟩
          | false =>
            by_cases h8 : 120 < (lk.size : Int)
            · go_enter Try.func16, Try.ntmps16
              go_wp2_with (first | ((with_reducible refine (C0.out _).mono ?_); rintro e w1 ⟨rfl, rfl⟩) | ((with_reducible refine (C3.out _).mono ?_); rintro e w1 ⟨rfl, rfl⟩) | ((with_reducible refine (C4.out _).mono ?_); rintro e w1 ⟨rfl, rfl⟩) | ((with_reducible refine (C5.out _).mono ?_); rintro e w1 ⟨rfl, rfl⟩) | ((with_reducible refine (C6.out _).mono ?_); rintro e w1 ⟨rfl, rfl⟩) | ((with_reducible refine (C1.out _).mono ?_); rintro e w1 ⟨rfl, rfl⟩) | ((with_reducible refine (C10.out _).mono ?_); rintro e w1 ⟨rfl, rfl⟩) | ((with_reducible refine (C11.out _).mono ?_); rintro e w1 ⟨rfl, rfl⟩))
              go_ret
              exact ⟨ret_bool (by rw [hd.out]; simp [he]; omega), (by show Below _ _ _; repeat' (first | (with_reducible exact Below.refl _ _) | (with_reducible assumption) | (with_reducible refine belowDrewN ?_ _) | (with_reducible refine Below.alloc ?_ ?_ _) | (with_reducible refine Below.drew ?_) | (with_reducible refine Below.setCell ?_ ?_ _) | go_size))⟩
            · have h8' : (lk.size : Int) ≤ 120 := by omega
              by_cases h9 : 0 ≤ z
              · go_enter Try.func16, Try.ntmps16
                go_wp2_with (first | ((with_reducible refine (C0.out _).mono ?_); rintro e w1 ⟨rfl, rfl⟩) | ((with_reducible refine (C3.out _).mono ?_); rintro e w1 ⟨rfl, rfl⟩) | ((with_reducible refine (C4.out _).mono ?_); rintro e w1 ⟨rfl, rfl⟩) | ((with_reducible refine (C5.out _).mono ?_); rintro e w1 ⟨rfl, rfl⟩) | ((with_reducible refine (C6.out _).mono ?_); rintro e w1 ⟨rfl, rfl⟩) | ((with_reducible refine (C1.out _).mono ?_); rintro e w1 ⟨rfl, rfl⟩) | ((with_reducible refine (C10.out _).mono ?_); rintro e w1 ⟨rfl, rfl⟩) | ((with_reducible refine (C11.out _).mono ?_); rintro e w1 ⟨rfl, rfl⟩))
                go_ret
                exact ⟨ret_bool (by rw [hd.out]; simp [he]; omega), (by show Below _ _ _; repeat' (first | (with_reducible exact Below.refl _ _) | (with_reducible assumption) | (with_reducible refine belowDrewN ?_ _) | (with_reducible refine Below.alloc ?_ ?_ _) | (with_reducible refine Below.drew ?_) | (with_reducible refine Below.setCell ?_ ?_ _) | go_size))⟩
              · have h9' : z < 0 := by omega
                cases r10 with
                | false =>
                  go_enter Try.func16, Try.ntmps16
                  go_wp2_with (first | ((with_reducible refine (C0.out _).mono ?_); rintro e w1 ⟨rfl, rfl⟩) | ((with_reducible refine (C3.out _).mono ?_); rintro e w1 ⟨rfl, rfl⟩) | ((with_reducible refine (C4.out _).mono ?_); rintro e w1 ⟨rfl, rfl⟩) | ((with_reducible refine (C5.out _).mono ?_); rintro e w1 ⟨rfl, rfl⟩) | ((with_reducible refine (C6.out _).mono ?_); rintro e w1 ⟨rfl, rfl⟩) | ((with_reducible refine (C1.out _).mono ?_); rintro e w1 ⟨rfl, rfl⟩) | ((with_reducible refine (C10.out _).mono ?_); rintro e w1 ⟨rfl, rfl⟩) | ((with_reducible refine (C11.out _).mono ?_); rintro e w1 ⟨rfl, rfl⟩))
                  go_ret
                  exact ⟨ret_bool (by rw [hd.out]; simp), (by show Below _ _ _; repeat' (first | (with_reducible exact Below.refl _ _) | (with_reducible assumption) | (with_reducible refine belowDrewN ?_ _) | (with_reducible refine Below.alloc ?_ ?_ _) | (with_reducible refine Below.drew ?_) | (with_reducible refine Below.setCell ?_ ?_ _) | go_size))⟩
                | true =>
                  cases r11 with
                  | false =>
                    go_enter Try.func16, Try.ntmps16
                    go_wp2_with (first | ((with_reducible refine (C0.out _).mono ?_); rintro e w1 ⟨rfl, rfl⟩) | ((with_reducible refine (C3.out _).mono ?_); rintro e w1 ⟨rfl, rfl⟩) | ((with_reducible refine (C4.out _).mono ?_); rintro e w1 ⟨rfl, rfl⟩) | ((with_reducible refine (C5.out _).mono ?_); rintro e w1 ⟨rfl, rfl⟩) | ((with_reducible refine (C6.out _).mono ?_); rintro e w1 ⟨rfl, rfl⟩) | ((with_reducible refine (C1.out _).mono ?_); rintro e w1 ⟨rfl, rfl⟩) | ((with_reducible refine (C10.out _).mono ?_); rintro e w1 ⟨rfl, rfl⟩) | ((with_reducible refine (C11.out _).mono ?_); rintro e w1 ⟨rfl, rfl⟩))
                    go_ret
                    exact ⟨ret_bool (by rw [hd.out]; simp), (by show Below _ _ _; repeat' (first | (with_reducible exact Below.refl _ _) | (with_reducible assumption) | (with_reducible refine belowDrewN ?_ _) | (with_reducible refine Below.alloc ?_ ?_ _) | (with_reducible refine Below.drew ?_) | (with_reducible refine Below.setCell ?_ ?_ _) | go_size))⟩
                  | true =>
                    by_cases hma : ma = 0
                    · have qma : (ma != 0) = false := by simp [hma]
                      have Hma := Lib.hid hma
                      clear hma
                      by_cases hmi : mi = 0
                      · have qmi : (mi != 0) = false := by simp [hmi]
                        have Hmi := Lib.hid hmi
                        clear hmi
                        go_enter Try.func16, Try.ntmps16
                        go_wp2_with (first | ((with_reducible refine (C0.out _).mono ?_); rintro e w1 ⟨rfl, rfl⟩) | ((with_reducible refine (C3.out _).mono ?_); rintro e w1 ⟨rfl, rfl⟩) | ((with_reducible refine (C4.out _).mono ?_); rintro e w1 ⟨rfl, rfl⟩) | ((with_reducible refine (C5.out _).mono ?_); rintro e w1 ⟨rfl, rfl⟩) | ((with_reducible refine (C6.out _).mono ?_); rintro e w1 ⟨rfl, rfl⟩) | ((with_reducible refine (C1.out _).mono ?_); rintro e w1 ⟨rfl, rfl⟩) | ((with_reducible refine (C10.out _).mono ?_); rintro e w1 ⟨rfl, rfl⟩) | ((with_reducible refine (C11.out _).mono ?_); rintro e w1 ⟨rfl, rfl⟩))
                        go_ret
                        exact ⟨ret_bool (by rw [hd.out]; simp [he, h8', h9', Hma.out, Hmi.out]), (by show Below _ _ _; repeat' (first | (with_reducible exact Below.refl _ _) | (with_reducible assumption) | (with_reducible refine belowDrewN ?_ _) | (with_reducible refine Below.alloc ?_ ?_ _) | (with_reducible refine Below.drew ?_) | (with_reducible refine Below.setCell ?_ ?_ _) | go_size))⟩
                      · have qmi : (mi != 0) = true := by simp [hmi]
                        have Hmi := Lib.hid hmi
                        clear hmi
                        go_enter Try.func16, Try.ntmps16
                        go_wp2_with (first | ((with_reducible refine (C0.out _).mono ?_); rintro e w1 ⟨rfl, rfl⟩) | ((with_reducible refine (C3.out _).mono ?_); rintro e w1 ⟨rfl, rfl⟩) | ((with_reducible refine (C4.out _).mono ?_); rintro e w1 ⟨rfl, rfl⟩) | ((with_reducible refine (C5.out _).mono ?_); rintro e w1 ⟨rfl, rfl⟩) | ((with_reducible refine (C6.out _).mono ?_); rintro e w1 ⟨rfl, rfl⟩) | ((with_reducible refine (C1.out _).mono ?_); rintro e w1 ⟨rfl, rfl⟩) | ((with_reducible refine (C10.out _).mono ?_); rintro e w1 ⟨rfl, rfl⟩) | ((with_reducible refine (C11.out _).mono ?_); rintro e w1 ⟨rfl, rfl⟩))
                        go_ret
                        exact ⟨ret_bool (by rw [hd.out]; simp [Hmi.out]), (by show Below _ _ _; repeat' (first | (with_reducible exact Below.refl _ _) | (with_reducible assumption) | (with_reducible refine belowDrewN ?_ _) | (with_reducible refine Below.alloc ?_ ?_ _) | (with_reducible refine Below.drew ?_) | (with_reducible refine Below.setCell ?_ ?_ _) | go_size))⟩
                    · have qma : (ma != 0) = true := by simp [hma]
                      have Hma := Lib.hid hma
                      clear hma
                      go_enter Try.func16, Try.ntmps16
                      go_wp2_with (first | ((with_reducible refine (C0.out _).mono ?_); rintro e w1 ⟨rfl, rfl⟩) | ((with_reducible refine (C3.out _).mono ?_); rintro e w1 ⟨rfl, rfl⟩) | ((with_reducible refine (C4.out _).mono ?_); rintro e w1 ⟨rfl, rfl⟩) | ((with_reducible refine (C5.out _).mono ?_); rintro e w1 ⟨rfl, rfl⟩) | ((with_reducible refine (C6.out _).mono ?_); rintro e w1 ⟨rfl, rfl⟩) | ((with_reducible refine (C1.out _).mono ?_); rintro e w1 ⟨rfl, rfl⟩) | ((with_reducible refine (C10.out _).mono ?_); rintro e w1 ⟨rfl, rfl⟩) | ((with_reducible refine (C11.out _).mono ?_); rintro e w1 ⟨rfl, rfl⟩))
                      go_ret
                      exact ⟨ret_bool (by rw [hd.out]; simp [Hma.out]), (by show Below _ _ _; repeat' (first | (with_reducible exact Below.refl _ _) | (with_reducible assumption) | (with_reducible refine belowDrewN ?_ _) | (with_reducible refine Below.alloc ?_ ?_ _) | (with_reducible refine Below.drew ?_) | (with_reducible refine Below.setCell ?_ ?_ _) | go_size))⟩

set_option maxHeartbeats 4000000 in
set_option maxRecDepth 100000 in
theorem treeRight_chr (hk0 : 0 ≤ kd) (hk1 : kd ≤ 255) (h1 : rngB kd 48 54 = true) (h48 : (kd == 48) = false) (h49 : (kd == 49) = false) (h50 : (kd == 50) = false) (h51 : (kd == 51) = true) (h52 : (kd == 52) = false) :
    Calls Try.prog 16 #[.agg #[.int .u8 kd, .int .i64 md, .int .i64 ui, .int .i64 gi, .int .i64 ts, .int .i64 tn, .string dt, .string lk, .int .i64 ma, .int .i64 mi]] w fun e w' => e = .returned (.bool (nodeB kd md ui gi ts tn ma mi dt lk)) ∧ Ext w w' := by
  have hk48 : ¬ kd = 48 := by simpa using h48
  have n48 : (kd != 48) = true := by simp [hk48]
  have hd : Hid (nodeB kd md ui gi ts tn ma mi dt lk = (rngB md 0 4095 && rngB ui 0 1099511627775 && rngB gi 0 1099511627775 && timeB ts tn && lk.toList.isEmpty && decide ((lk.size : Int) ≤ 120) && decide (zi lk < 0) && rngB ma 0 2097151 && rngB mi 0 2097151 && dt.toList.isEmpty)) := Lib.hid (by
    unfold nodeB
    rw [h1, h49, h50, h51, h52, if_neg hk48]
    simp [Bool.and_assoc])
  have c1 := fun w => Try.strings_IndexByte lk 0 w
  rw [show Lib.indexByte lk.data.toList (Int.toNat 0).toUInt8 = zi lk from rfl] at c1
  have c3 := fun w => treeWithin_same w md 0 4095
  have c4 := fun w => treeWithin_same w ui 0 1099511627775
  have c5 := fun w => treeWithin_same w gi 0 1099511627775
  have c6 := fun w => stampRight_box ts tn w
  have c10 := fun w => treeWithin_same w ma 0 2097151
  have c11 := fun w => treeWithin_same w mi 0 2097151
  have c0 := fun w => treeWithin_same w kd 48 54
  rw [h1] at c0
  clear h1 hk48
  generalize rngB md 0 4095 = r3 at *
  generalize rngB ui 0 1099511627775 = r4 at *
  generalize rngB gi 0 1099511627775 = r5 at *
  generalize timeB ts tn = r6 at *
  generalize rngB ma 0 2097151 = r10 at *
  generalize rngB mi 0 2097151 = r11 at *
  generalize zi lk = z at *
  have C0 := Lib.hid c0
  have C1 := Lib.hid c1
  have C3 := Lib.hid c3
  have C4 := Lib.hid c4
  have C5 := Lib.hid c5
  have C6 := Lib.hid c6
  have C10 := Lib.hid c10
  have C11 := Lib.hid c11
  clear c0 c1 c3 c4 c5 c6 c10 c11
  cases r3 with
  | false =>
    go_enter Try.func16, Try.ntmps16
    go_wp2_with (first | ((with_reducible refine (C0.out _).mono ?_); rintro e w1 ⟨rfl, rfl⟩) | ((with_reducible refine (C3.out _).mono ?_); rintro e w1 ⟨rfl, rfl⟩) | ((with_reducible refine (C4.out _).mono ?_); rintro e w1 ⟨rfl, rfl⟩) | ((with_reducible refine (C5.out _).mono ?_); rintro e w1 ⟨rfl, rfl⟩) | ((with_reducible refine (C6.out _).mono ?_); rintro e w1 ⟨rfl, rfl⟩) | ((with_reducible refine (C1.out _).mono ?_); rintro e w1 ⟨rfl, rfl⟩) | ((with_reducible refine (C10.out _).mono ?_); rintro e w1 ⟨rfl, rfl⟩) | ((with_reducible refine (C11.out _).mono ?_); rintro e w1 ⟨rfl, rfl⟩))
    go_ret
    exact ⟨ret_bool (by rw [hd.out]; simp), (by show Below _ _ _; repeat' (first | (with_reducible exact Below.refl _ _) | (with_reducible assumption) | (with_reducible refine belowDrewN ?_ _) | (with_reducible refine Below.alloc ?_ ?_ _) | (with_reducible refine Below.drew ?_) | (with_reducible refine Below.setCell ?_ ?_ _) | go_size))⟩
  | true =>
    cases r4 with
    | false =>
      go_enter Try.func16, Try.ntmps16
      go_wp2_with (first | ((with_reducible refine (C0.out _).mono ?_); rintro e w1 ⟨rfl, rfl⟩) | ((with_reducible refine (C3.out _).mono ?_); rintro e w1 ⟨rfl, rfl⟩) | ((with_reducible refine (C4.out _).mono ?_); rintro e w1 ⟨rfl, rfl⟩) | ((with_reducible refine (C5.out _).mono ?_); rintro e w1 ⟨rfl, rfl⟩) | ((with_reducible refine (C6.out _).mono ?_); rintro e w1 ⟨rfl, rfl⟩) | ((with_reducible refine (C1.out _).mono ?_); rintro e w1 ⟨rfl, rfl⟩) | ((with_reducible refine (C10.out _).mono ?_); rintro e w1 ⟨rfl, rfl⟩) | ((with_reducible refine (C11.out _).mono ?_); rintro e w1 ⟨rfl, rfl⟩))
      go_ret
      exact ⟨ret_bool (by rw [hd.out]; simp), (by show Below _ _ _; repeat' (first | (with_reducible exact Below.refl _ _) | (with_reducible assumption) | (with_reducible refine belowDrewN ?_ _) | (with_reducible refine Below.alloc ?_ ?_ _) | (with_reducible refine Below.drew ?_) | (with_reducible refine Below.setCell ?_ ?_ _) | go_size))⟩
    | true =>
      cases r5 with
      | false =>
        go_enter Try.func16, Try.ntmps16
        go_wp2_with (first | ((with_reducible refine (C0.out _).mono ?_); rintro e w1 ⟨rfl, rfl⟩) | ((with_reducible refine (C3.out _).mono ?_); rintro e w1 ⟨rfl, rfl⟩) | ((with_reducible refine (C4.out _).mono ?_); rintro e w1 ⟨rfl, rfl⟩) | ((with_reducible refine (C5.out _).mono ?_); rintro e w1 ⟨rfl, rfl⟩) | ((with_reducible refine (C6.out _).mono ?_); rintro e w1 ⟨rfl, rfl⟩) | ((with_reducible refine (C1.out _).mono ?_); rintro e w1 ⟨rfl, rfl⟩) | ((with_reducible refine (C10.out _).mono ?_); rintro e w1 ⟨rfl, rfl⟩) | ((with_reducible refine (C11.out _).mono ?_); rintro e w1 ⟨rfl, rfl⟩))
        go_ret
        exact ⟨ret_bool (by rw [hd.out]; simp), (by show Below _ _ _; repeat' (first | (with_reducible exact Below.refl _ _) | (with_reducible assumption) | (with_reducible refine belowDrewN ?_ _) | (with_reducible refine Below.alloc ?_ ?_ _) | (with_reducible refine Below.drew ?_) | (with_reducible refine Below.setCell ?_ ?_ _) | go_size))⟩
      | true =>
        cases r6 with
        | false =>
          go_enter Try.func16, Try.ntmps16
          go_wp2_with (first | ((with_reducible refine (C0.out _).mono ?_); rintro e w1 ⟨rfl, rfl⟩) | ((with_reducible refine (C3.out _).mono ?_); rintro e w1 ⟨rfl, rfl⟩) | ((with_reducible refine (C4.out _).mono ?_); rintro e w1 ⟨rfl, rfl⟩) | ((with_reducible refine (C5.out _).mono ?_); rintro e w1 ⟨rfl, rfl⟩) | ((with_reducible refine (C6.out _).mono ?_); rintro e w1 ⟨rfl, rfl⟩) | ((with_reducible refine (C1.out _).mono ?_); rintro e w1 ⟨rfl, rfl⟩) | ((with_reducible refine (C10.out _).mono ?_); rintro e w1 ⟨rfl, rfl⟩) | ((with_reducible refine (C11.out _).mono ?_); rintro e w1 ⟨rfl, rfl⟩))
          go_ret
          exact ⟨ret_bool (by rw [hd.out]; simp), (by show Below _ _ _; repeat' (first | (with_reducible exact Below.refl _ _) | (with_reducible assumption) | (with_reducible refine belowDrewN ?_ _) | (with_reducible refine Below.alloc ?_ ?_ _) | (with_reducible refine Below.drew ?_) | (with_reducible refine Below.setCell ?_ ?_ _) | go_size))⟩
        | true =>
          cases he : lk.toList.isEmpty with
          | false =>
            go_enter Try.func16, Try.ntmps16
            go_wp2_with (first | ((with_reducible refine (C0.out _).mono ?_); rintro e w1 ⟨rfl, rfl⟩) | ((with_reducible refine (C3.out _).mono ?_); rintro e w1 ⟨rfl, rfl⟩) | ((with_reducible refine (C4.out _).mono ?_); rintro e w1 ⟨rfl, rfl⟩) | ((with_reducible refine (C5.out _).mono ?_); rintro e w1 ⟨rfl, rfl⟩) | ((with_reducible refine (C6.out _).mono ?_); rintro e w1 ⟨rfl, rfl⟩) | ((with_reducible refine (C1.out _).mono ?_); rintro e w1 ⟨rfl, rfl⟩) | ((with_reducible refine (C10.out _).mono ?_); rintro e w1 ⟨rfl, rfl⟩) | ((with_reducible refine (C11.out _).mono ?_); rintro e w1 ⟨rfl, rfl⟩))
            go_ret
            exact ⟨ret_bool (by rw [hd.out]; simp [he]), (by show Below _ _ _; repeat' (first | (with_reducible exact Below.refl _ _) | (with_reducible assumption) | (with_reducible refine belowDrewN ?_ _) | (with_reducible refine Below.alloc ?_ ?_ _) | (with_reducible refine Below.drew ?_) | (with_reducible refine Below.setCell ?_ ?_ _) | go_size))⟩
          | true =>
            by_cases h8 : 120 < (lk.size : Int)
            · go_enter Try.func16, Try.ntmps16
              go_wp2_with (first | ((with_reducible refine (C0.out _).mono ?_); rintro e w1 ⟨rfl, rfl⟩) | ((with_reducible refine (C3.out _).mono ?_); rintro e w1 ⟨rfl, rfl⟩) | ((with_reducible refine (C4.out _).mono ?_); rintro e w1 ⟨rfl, rfl⟩) | ((with_reducible refine (C5.out _).mono ?_); rintro e w1 ⟨rfl, rfl⟩) | ((with_reducible refine (C6.out _).mono ?_); rintro e w1 ⟨rfl, rfl⟩) | ((with_reducible refine (C1.out _).mono ?_); rintro e w1 ⟨rfl, rfl⟩) | ((with_reducible refine (C10.out _).mono ?_); rintro e w1 ⟨rfl, rfl⟩) | ((with_reducible refine (C11.out _).mono ?_); rintro e w1 ⟨rfl, rfl⟩))
              go_ret
              exact ⟨ret_bool (by rw [hd.out]; simp [he]; omega), (by show Below _ _ _; repeat' (first | (with_reducible exact Below.refl _ _) | (with_reducible assumption) | (with_reducible refine belowDrewN ?_ _) | (with_reducible refine Below.alloc ?_ ?_ _) | (with_reducible refine Below.drew ?_) | (with_reducible refine Below.setCell ?_ ?_ _) | go_size))⟩
            · have h8' : (lk.size : Int) ≤ 120 := by omega
              by_cases h9 : 0 ≤ z
              · go_enter Try.func16, Try.ntmps16
                go_wp2_with (first | ((with_reducible refine (C0.out _).mono ?_); rintro e w1 ⟨rfl, rfl⟩) | ((with_reducible refine (C3.out _).mono ?_); rintro e w1 ⟨rfl, rfl⟩) | ((with_reducible refine (C4.out _).mono ?_); rintro e w1 ⟨rfl, rfl⟩) | ((with_reducible refine (C5.out _).mono ?_); rintro e w1 ⟨rfl, rfl⟩) | ((with_reducible refine (C6.out _).mono ?_); rintro e w1 ⟨rfl, rfl⟩) | ((with_reducible refine (C1.out _).mono ?_); rintro e w1 ⟨rfl, rfl⟩) | ((with_reducible refine (C10.out _).mono ?_); rintro e w1 ⟨rfl, rfl⟩) | ((with_reducible refine (C11.out _).mono ?_); rintro e w1 ⟨rfl, rfl⟩))
                go_ret
                exact ⟨ret_bool (by rw [hd.out]; simp [he]; omega), (by show Below _ _ _; repeat' (first | (with_reducible exact Below.refl _ _) | (with_reducible assumption) | (with_reducible refine belowDrewN ?_ _) | (with_reducible refine Below.alloc ?_ ?_ _) | (with_reducible refine Below.drew ?_) | (with_reducible refine Below.setCell ?_ ?_ _) | go_size))⟩
              · have h9' : z < 0 := by omega
                cases r10 with
                | false =>
                  go_enter Try.func16, Try.ntmps16
                  go_wp2_with (first | ((with_reducible refine (C0.out _).mono ?_); rintro e w1 ⟨rfl, rfl⟩) | ((with_reducible refine (C3.out _).mono ?_); rintro e w1 ⟨rfl, rfl⟩) | ((with_reducible refine (C4.out _).mono ?_); rintro e w1 ⟨rfl, rfl⟩) | ((with_reducible refine (C5.out _).mono ?_); rintro e w1 ⟨rfl, rfl⟩) | ((with_reducible refine (C6.out _).mono ?_); rintro e w1 ⟨rfl, rfl⟩) | ((with_reducible refine (C1.out _).mono ?_); rintro e w1 ⟨rfl, rfl⟩) | ((with_reducible refine (C10.out _).mono ?_); rintro e w1 ⟨rfl, rfl⟩) | ((with_reducible refine (C11.out _).mono ?_); rintro e w1 ⟨rfl, rfl⟩))
                  go_ret
                  exact ⟨ret_bool (by rw [hd.out]; simp), (by show Below _ _ _; repeat' (first | (with_reducible exact Below.refl _ _) | (with_reducible assumption) | (with_reducible refine belowDrewN ?_ _) | (with_reducible refine Below.alloc ?_ ?_ _) | (with_reducible refine Below.drew ?_) | (with_reducible refine Below.setCell ?_ ?_ _) | go_size))⟩
                | true =>
                  cases r11 with
                  | false =>
                    go_enter Try.func16, Try.ntmps16
                    go_wp2_with (first | ((with_reducible refine (C0.out _).mono ?_); rintro e w1 ⟨rfl, rfl⟩) | ((with_reducible refine (C3.out _).mono ?_); rintro e w1 ⟨rfl, rfl⟩) | ((with_reducible refine (C4.out _).mono ?_); rintro e w1 ⟨rfl, rfl⟩) | ((with_reducible refine (C5.out _).mono ?_); rintro e w1 ⟨rfl, rfl⟩) | ((with_reducible refine (C6.out _).mono ?_); rintro e w1 ⟨rfl, rfl⟩) | ((with_reducible refine (C1.out _).mono ?_); rintro e w1 ⟨rfl, rfl⟩) | ((with_reducible refine (C10.out _).mono ?_); rintro e w1 ⟨rfl, rfl⟩) | ((with_reducible refine (C11.out _).mono ?_); rintro e w1 ⟨rfl, rfl⟩))
                    go_ret
                    exact ⟨ret_bool (by rw [hd.out]; simp), (by show Below _ _ _; repeat' (first | (with_reducible exact Below.refl _ _) | (with_reducible assumption) | (with_reducible refine belowDrewN ?_ _) | (with_reducible refine Below.alloc ?_ ?_ _) | (with_reducible refine Below.drew ?_) | (with_reducible refine Below.setCell ?_ ?_ _) | go_size))⟩
                  | true =>
                    go_enter Try.func16, Try.ntmps16
                    go_wp2_with (first | ((with_reducible refine (C0.out _).mono ?_); rintro e w1 ⟨rfl, rfl⟩) | ((with_reducible refine (C3.out _).mono ?_); rintro e w1 ⟨rfl, rfl⟩) | ((with_reducible refine (C4.out _).mono ?_); rintro e w1 ⟨rfl, rfl⟩) | ((with_reducible refine (C5.out _).mono ?_); rintro e w1 ⟨rfl, rfl⟩) | ((with_reducible refine (C6.out _).mono ?_); rintro e w1 ⟨rfl, rfl⟩) | ((with_reducible refine (C1.out _).mono ?_); rintro e w1 ⟨rfl, rfl⟩) | ((with_reducible refine (C10.out _).mono ?_); rintro e w1 ⟨rfl, rfl⟩) | ((with_reducible refine (C11.out _).mono ?_); rintro e w1 ⟨rfl, rfl⟩))
                    go_ret
                    exact ⟨ret_bool (by rw [hd.out]; simp [he, h8', h9']), (by show Below _ _ _; repeat' (first | (with_reducible exact Below.refl _ _) | (with_reducible assumption) | (with_reducible refine belowDrewN ?_ _) | (with_reducible refine Below.alloc ?_ ?_ _) | (with_reducible refine Below.drew ?_) | (with_reducible refine Below.setCell ?_ ?_ _) | go_size))⟩

set_option maxHeartbeats 4000000 in
set_option maxRecDepth 100000 in
theorem treeRight_blk (hk0 : 0 ≤ kd) (hk1 : kd ≤ 255) (h1 : rngB kd 48 54 = true) (h48 : (kd == 48) = false) (h49 : (kd == 49) = false) (h50 : (kd == 50) = false) (h51 : (kd == 51) = false) (h52 : (kd == 52) = true) :
    Calls Try.prog 16 #[.agg #[.int .u8 kd, .int .i64 md, .int .i64 ui, .int .i64 gi, .int .i64 ts, .int .i64 tn, .string dt, .string lk, .int .i64 ma, .int .i64 mi]] w fun e w' => e = .returned (.bool (nodeB kd md ui gi ts tn ma mi dt lk)) ∧ Ext w w' := by
  have hk48 : ¬ kd = 48 := by simpa using h48
  have n48 : (kd != 48) = true := by simp [hk48]
  have hd : Hid (nodeB kd md ui gi ts tn ma mi dt lk = (rngB md 0 4095 && rngB ui 0 1099511627775 && rngB gi 0 1099511627775 && timeB ts tn && lk.toList.isEmpty && decide ((lk.size : Int) ≤ 120) && decide (zi lk < 0) && rngB ma 0 2097151 && rngB mi 0 2097151 && dt.toList.isEmpty)) := Lib.hid (by
    unfold nodeB
    rw [h1, h49, h50, h51, h52, if_neg hk48]
    simp [Bool.and_assoc])
  have c1 := fun w => Try.strings_IndexByte lk 0 w
  rw [show Lib.indexByte lk.data.toList (Int.toNat 0).toUInt8 = zi lk from rfl] at c1
  have c3 := fun w => treeWithin_same w md 0 4095
  have c4 := fun w => treeWithin_same w ui 0 1099511627775
  have c5 := fun w => treeWithin_same w gi 0 1099511627775
  have c6 := fun w => stampRight_box ts tn w
  have c10 := fun w => treeWithin_same w ma 0 2097151
  have c11 := fun w => treeWithin_same w mi 0 2097151
  have c0 := fun w => treeWithin_same w kd 48 54
  rw [h1] at c0
  clear h1 hk48
  generalize rngB md 0 4095 = r3 at *
  generalize rngB ui 0 1099511627775 = r4 at *
  generalize rngB gi 0 1099511627775 = r5 at *
  generalize timeB ts tn = r6 at *
  generalize rngB ma 0 2097151 = r10 at *
  generalize rngB mi 0 2097151 = r11 at *
  generalize zi lk = z at *
  have C0 := Lib.hid c0
  have C1 := Lib.hid c1
  have C3 := Lib.hid c3
  have C4 := Lib.hid c4
  have C5 := Lib.hid c5
  have C6 := Lib.hid c6
  have C10 := Lib.hid c10
  have C11 := Lib.hid c11
  clear c0 c1 c3 c4 c5 c6 c10 c11
  cases r3 with
  | false =>
    go_enter Try.func16, Try.ntmps16
    go_wp2_with (first | ((with_reducible refine (C0.out _).mono ?_); rintro e w1 ⟨rfl, rfl⟩) | ((with_reducible refine (C3.out _).mono ?_); rintro e w1 ⟨rfl, rfl⟩) | ((with_reducible refine (C4.out _).mono ?_); rintro e w1 ⟨rfl, rfl⟩) | ((with_reducible refine (C5.out _).mono ?_); rintro e w1 ⟨rfl, rfl⟩) | ((with_reducible refine (C6.out _).mono ?_); rintro e w1 ⟨rfl, rfl⟩) | ((with_reducible refine (C1.out _).mono ?_); rintro e w1 ⟨rfl, rfl⟩) | ((with_reducible refine (C10.out _).mono ?_); rintro e w1 ⟨rfl, rfl⟩) | ((with_reducible refine (C11.out _).mono ?_); rintro e w1 ⟨rfl, rfl⟩))
    go_ret
    exact ⟨ret_bool (by rw [hd.out]; simp), (by show Below _ _ _; repeat' (first | (with_reducible exact Below.refl _ _) | (with_reducible assumption) | (with_reducible refine belowDrewN ?_ _) | (with_reducible refine Below.alloc ?_ ?_ _) | (with_reducible refine Below.drew ?_) | (with_reducible refine Below.setCell ?_ ?_ _) | go_size))⟩
  | true =>
    cases r4 with
    | false =>
      go_enter Try.func16, Try.ntmps16
      go_wp2_with (first | ((with_reducible refine (C0.out _).mono ?_); rintro e w1 ⟨rfl, rfl⟩) | ((with_reducible refine (C3.out _).mono ?_); rintro e w1 ⟨rfl, rfl⟩) | ((with_reducible refine (C4.out _).mono ?_); rintro e w1 ⟨rfl, rfl⟩) | ((with_reducible refine (C5.out _).mono ?_); rintro e w1 ⟨rfl, rfl⟩) | ((with_reducible refine (C6.out _).mono ?_); rintro e w1 ⟨rfl, rfl⟩) | ((with_reducible refine (C1.out _).mono ?_); rintro e w1 ⟨rfl, rfl⟩) | ((with_reducible refine (C10.out _).mono ?_); rintro e w1 ⟨rfl, rfl⟩) | ((with_reducible refine (C11.out _).mono ?_); rintro e w1 ⟨rfl, rfl⟩))
      go_ret
      exact ⟨ret_bool (by rw [hd.out]; simp), (by show Below _ _ _; repeat' (first | (with_reducible exact Below.refl _ _) | (with_reducible assumption) | (with_reducible refine belowDrewN ?_ _) | (with_reducible refine Below.alloc ?_ ?_ _) | (with_reducible refine Below.drew ?_) | (with_reducible refine Below.setCell ?_ ?_ _) | go_size))⟩
    | true =>
      cases r5 with
      | false =>
        go_enter Try.func16, Try.ntmps16
        go_wp2_with (first | ((with_reducible refine (C0.out _).mono ?_); rintro e w1 ⟨rfl, rfl⟩) | ((with_reducible refine (C3.out _).mono ?_); rintro e w1 ⟨rfl, rfl⟩) | ((with_reducible refine (C4.out _).mono ?_); rintro e w1 ⟨rfl, rfl⟩) | ((with_reducible refine (C5.out _).mono ?_); rintro e w1 ⟨rfl, rfl⟩) | ((with_reducible refine (C6.out _).mono ?_); rintro e w1 ⟨rfl, rfl⟩) | ((with_reducible refine (C1.out _).mono ?_); rintro e w1 ⟨rfl, rfl⟩) | ((with_reducible refine (C10.out _).mono ?_); rintro e w1 ⟨rfl, rfl⟩) | ((with_reducible refine (C11.out _).mono ?_); rintro e w1 ⟨rfl, rfl⟩))
        go_ret
        exact ⟨ret_bool (by rw [hd.out]; simp), (by show Below _ _ _; repeat' (first | (with_reducible exact Below.refl _ _) | (with_reducible assumption) | (with_reducible refine belowDrewN ?_ _) | (with_reducible refine Below.alloc ?_ ?_ _) | (with_reducible refine Below.drew ?_) | (with_reducible refine Below.setCell ?_ ?_ _) | go_size))⟩
      | true =>
        cases r6 with
        | false =>
          go_enter Try.func16, Try.ntmps16
          go_wp2_with (first | ((with_reducible refine (C0.out _).mono ?_); rintro e w1 ⟨rfl, rfl⟩) | ((with_reducible refine (C3.out _).mono ?_); rintro e w1 ⟨rfl, rfl⟩) | ((with_reducible refine (C4.out _).mono ?_); rintro e w1 ⟨rfl, rfl⟩) | ((with_reducible refine (C5.out _).mono ?_); rintro e w1 ⟨rfl, rfl⟩) | ((with_reducible refine (C6.out _).mono ?_); rintro e w1 ⟨rfl, rfl⟩) | ((with_reducible refine (C1.out _).mono ?_); rintro e w1 ⟨rfl, rfl⟩) | ((with_reducible refine (C10.out _).mono ?_); rintro e w1 ⟨rfl, rfl⟩) | ((with_reducible refine (C11.out _).mono ?_); rintro e w1 ⟨rfl, rfl⟩))
          go_ret
          exact ⟨ret_bool (by rw [hd.out]; simp), (by show Below _ _ _; repeat' (first | (with_reducible exact Below.refl _ _) | (with_reducible assumption) | (with_reducible refine belowDrewN ?_ _) | (with_reducible refine Below.alloc ?_ ?_ _) | (with_reducible refine Below.drew ?_) | (with_reducible refine Below.setCell ?_ ?_ _) | go_size))⟩
        | true =>
          cases he : lk.toList.isEmpty with
          | false =>
            go_enter Try.func16, Try.ntmps16
            go_wp2_with (first | ((with_reducible refine (C0.out _).mono ?_); rintro e w1 ⟨rfl, rfl⟩) | ((with_reducible refine (C3.out _).mono ?_); rintro e w1 ⟨rfl, rfl⟩) | ((with_reducible refine (C4.out _).mono ?_); rintro e w1 ⟨rfl, rfl⟩) | ((with_reducible refine (C5.out _).mono ?_); rintro e w1 ⟨rfl, rfl⟩) | ((with_reducible refine (C6.out _).mono ?_); rintro e w1 ⟨rfl, rfl⟩) | ((with_reducible refine (C1.out _).mono ?_); rintro e w1 ⟨rfl, rfl⟩) | ((with_reducible refine (C10.out _).mono ?_); rintro e w1 ⟨rfl, rfl⟩) | ((with_reducible refine (C11.out _).mono ?_); rintro e w1 ⟨rfl, rfl⟩))
            go_ret
            exact ⟨ret_bool (by rw [hd.out]; simp [he]), (by show Below _ _ _; repeat' (first | (with_reducible exact Below.refl _ _) | (with_reducible assumption) | (with_reducible refine belowDrewN ?_ _) | (with_reducible refine Below.alloc ?_ ?_ _) | (with_reducible refine Below.drew ?_) | (with_reducible refine Below.setCell ?_ ?_ _) | go_size))⟩
          | true =>
            by_cases h8 : 120 < (lk.size : Int)
            · go_enter Try.func16, Try.ntmps16
              go_wp2_with (first | ((with_reducible refine (C0.out _).mono ?_); rintro e w1 ⟨rfl, rfl⟩) | ((with_reducible refine (C3.out _).mono ?_); rintro e w1 ⟨rfl, rfl⟩) | ((with_reducible refine (C4.out _).mono ?_); rintro e w1 ⟨rfl, rfl⟩) | ((with_reducible refine (C5.out _).mono ?_); rintro e w1 ⟨rfl, rfl⟩) | ((with_reducible refine (C6.out _).mono ?_); rintro e w1 ⟨rfl, rfl⟩) | ((with_reducible refine (C1.out _).mono ?_); rintro e w1 ⟨rfl, rfl⟩) | ((with_reducible refine (C10.out _).mono ?_); rintro e w1 ⟨rfl, rfl⟩) | ((with_reducible refine (C11.out _).mono ?_); rintro e w1 ⟨rfl, rfl⟩))
              go_ret
              exact ⟨ret_bool (by rw [hd.out]; simp [he]; omega), (by show Below _ _ _; repeat' (first | (with_reducible exact Below.refl _ _) | (with_reducible assumption) | (with_reducible refine belowDrewN ?_ _) | (with_reducible refine Below.alloc ?_ ?_ _) | (with_reducible refine Below.drew ?_) | (with_reducible refine Below.setCell ?_ ?_ _) | go_size))⟩
            · have h8' : (lk.size : Int) ≤ 120 := by omega
              by_cases h9 : 0 ≤ z
              · go_enter Try.func16, Try.ntmps16
                go_wp2_with (first | ((with_reducible refine (C0.out _).mono ?_); rintro e w1 ⟨rfl, rfl⟩) | ((with_reducible refine (C3.out _).mono ?_); rintro e w1 ⟨rfl, rfl⟩) | ((with_reducible refine (C4.out _).mono ?_); rintro e w1 ⟨rfl, rfl⟩) | ((with_reducible refine (C5.out _).mono ?_); rintro e w1 ⟨rfl, rfl⟩) | ((with_reducible refine (C6.out _).mono ?_); rintro e w1 ⟨rfl, rfl⟩) | ((with_reducible refine (C1.out _).mono ?_); rintro e w1 ⟨rfl, rfl⟩) | ((with_reducible refine (C10.out _).mono ?_); rintro e w1 ⟨rfl, rfl⟩) | ((with_reducible refine (C11.out _).mono ?_); rintro e w1 ⟨rfl, rfl⟩))
                go_ret
                exact ⟨ret_bool (by rw [hd.out]; simp [he]; omega), (by show Below _ _ _; repeat' (first | (with_reducible exact Below.refl _ _) | (with_reducible assumption) | (with_reducible refine belowDrewN ?_ _) | (with_reducible refine Below.alloc ?_ ?_ _) | (with_reducible refine Below.drew ?_) | (with_reducible refine Below.setCell ?_ ?_ _) | go_size))⟩
              · have h9' : z < 0 := by omega
                cases r10 with
                | false =>
                  go_enter Try.func16, Try.ntmps16
                  go_wp2_with (first | ((with_reducible refine (C0.out _).mono ?_); rintro e w1 ⟨rfl, rfl⟩) | ((with_reducible refine (C3.out _).mono ?_); rintro e w1 ⟨rfl, rfl⟩) | ((with_reducible refine (C4.out _).mono ?_); rintro e w1 ⟨rfl, rfl⟩) | ((with_reducible refine (C5.out _).mono ?_); rintro e w1 ⟨rfl, rfl⟩) | ((with_reducible refine (C6.out _).mono ?_); rintro e w1 ⟨rfl, rfl⟩) | ((with_reducible refine (C1.out _).mono ?_); rintro e w1 ⟨rfl, rfl⟩) | ((with_reducible refine (C10.out _).mono ?_); rintro e w1 ⟨rfl, rfl⟩) | ((with_reducible refine (C11.out _).mono ?_); rintro e w1 ⟨rfl, rfl⟩))
                  go_ret
                  exact ⟨ret_bool (by rw [hd.out]; simp), (by show Below _ _ _; repeat' (first | (with_reducible exact Below.refl _ _) | (with_reducible assumption) | (with_reducible refine belowDrewN ?_ _) | (with_reducible refine Below.alloc ?_ ?_ _) | (with_reducible refine Below.drew ?_) | (with_reducible refine Below.setCell ?_ ?_ _) | go_size))⟩
                | true =>
                  cases r11 with
                  | false =>
                    go_enter Try.func16, Try.ntmps16
                    go_wp2_with (first | ((with_reducible refine (C0.out _).mono ?_); rintro e w1 ⟨rfl, rfl⟩) | ((with_reducible refine (C3.out _).mono ?_); rintro e w1 ⟨rfl, rfl⟩) | ((with_reducible refine (C4.out _).mono ?_); rintro e w1 ⟨rfl, rfl⟩) | ((with_reducible refine (C5.out _).mono ?_); rintro e w1 ⟨rfl, rfl⟩) | ((with_reducible refine (C6.out _).mono ?_); rintro e w1 ⟨rfl, rfl⟩) | ((with_reducible refine (C1.out _).mono ?_); rintro e w1 ⟨rfl, rfl⟩) | ((with_reducible refine (C10.out _).mono ?_); rintro e w1 ⟨rfl, rfl⟩) | ((with_reducible refine (C11.out _).mono ?_); rintro e w1 ⟨rfl, rfl⟩))
                    go_ret
                    exact ⟨ret_bool (by rw [hd.out]; simp), (by show Below _ _ _; repeat' (first | (with_reducible exact Below.refl _ _) | (with_reducible assumption) | (with_reducible refine belowDrewN ?_ _) | (with_reducible refine Below.alloc ?_ ?_ _) | (with_reducible refine Below.drew ?_) | (with_reducible refine Below.setCell ?_ ?_ _) | go_size))⟩
                  | true =>
                    go_enter Try.func16, Try.ntmps16
                    go_wp2_with (first | ((with_reducible refine (C0.out _).mono ?_); rintro e w1 ⟨rfl, rfl⟩) | ((with_reducible refine (C3.out _).mono ?_); rintro e w1 ⟨rfl, rfl⟩) | ((with_reducible refine (C4.out _).mono ?_); rintro e w1 ⟨rfl, rfl⟩) | ((with_reducible refine (C5.out _).mono ?_); rintro e w1 ⟨rfl, rfl⟩) | ((with_reducible refine (C6.out _).mono ?_); rintro e w1 ⟨rfl, rfl⟩) | ((with_reducible refine (C1.out _).mono ?_); rintro e w1 ⟨rfl, rfl⟩) | ((with_reducible refine (C10.out _).mono ?_); rintro e w1 ⟨rfl, rfl⟩) | ((with_reducible refine (C11.out _).mono ?_); rintro e w1 ⟨rfl, rfl⟩))
                    go_ret
                    exact ⟨ret_bool (by rw [hd.out]; simp [he, h8', h9']), (by show Below _ _ _; repeat' (first | (with_reducible exact Below.refl _ _) | (with_reducible assumption) | (with_reducible refine belowDrewN ?_ _) | (with_reducible refine Below.alloc ?_ ?_ _) | (with_reducible refine Below.drew ?_) | (with_reducible refine Below.setCell ?_ ?_ _) | go_size))⟩

end Go.Proofs.Ytioceakpmnhohaa

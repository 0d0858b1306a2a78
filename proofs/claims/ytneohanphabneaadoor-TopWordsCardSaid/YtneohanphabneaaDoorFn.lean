/-
  Contracts of the small functions of both sides of the words: letters, digits, errors.
-/
import Derived.Test.YtneohanphabneaaDoorProg
import Derived.Test.YtneohanphabneaaDoorPlain
import Derived.WalkKit
import Derived.WalkLawsBesides
import Derived.WalkSpells
namespace Go.Proofs.YtneohanphabneaaDoor
open Go.RowKit

theorem ret_bool {a b : Bool} (h : a = b) : Ending.returned (.bool a) = .returned (.bool b) := by rw [h]
theorem ret_int {k : IntKind} {a b : Int} (h : a = b) : Ending.returned (.int k a) = .returned (.int k b) := by rw [h]

/-- Letters and digits by numbers. -/
def isLi (r : Int) : Bool := (decide (97 ≤ r) && decide (r ≤ 122)) || (decide (65 ≤ r) && decide (r ≤ 90))
def isDi (r : Int) : Bool := decide (48 ≤ r) && decide (r ≤ 57)
theorem isL_li (c : UInt8) : Sc.isL c = isLi c.toNat := by
  unfold Sc.isL isLi
  rw [Bool.eq_iff_iff]
  simp only [Bool.or_eq_true, Bool.and_eq_true, decide_eq_true_eq, UInt8.le_iff_toNat_le, UInt8.reduceToNat]
  omega
theorem isD_di (c : UInt8) : Sc.isD c = isDi c.toNat := by
  unfold Sc.isD isDi
  rw [Bool.eq_iff_iff]
  simp only [Bool.and_eq_true, decide_eq_true_eq, UInt8.le_iff_toNat_le, UInt8.reduceToNat]
  omega

theorem letter_bd {c : UInt8} (h : Sc.isL c = true) : 65 ≤ (c.toNat : Int) ∧ (c.toNat : Int) ≤ 122 := by
  rw [isL_li] at h
  unfold isLi at h
  simp only [Bool.or_eq_true, Bool.and_eq_true, decide_eq_true_eq] at h
  omega
theorem digit_bd {c : UInt8} (h : Sc.isD c = true) : 48 ≤ (c.toNat : Int) ∧ (c.toNat : Int) ≤ 57 := by
  rw [isD_di] at h
  unfold isDi at h
  simp only [Bool.and_eq_true, decide_eq_true_eq] at h
  omega

theorem isLetter_any (c : UInt8) (w : World) : Calls Tryd.prog 11 #[.int .u8 c.toNat] w fun e w' => e = .returned (.bool (Sc.isL c)) ∧ w = w' := by
  go_enter Tryd.func11, Tryd.ntmps11
  go_wp2
  all_goals go_ret
  all_goals exact ⟨ret_bool (by rw [isL_li]; unfold isLi; rw [Bool.eq_iff_iff]; simp; omega), rfl⟩
theorem isDigit_any (c : UInt8) (w : World) : Calls Tryd.prog 12 #[.int .u8 c.toNat] w fun e w' => e = .returned (.bool (Sc.isD c)) ∧ w = w' := by
  go_enter Tryd.func12, Tryd.ntmps12
  go_wp2
  all_goals go_ret
  all_goals exact ⟨ret_bool (by rw [isD_di]; unfold isDi; rw [Bool.eq_iff_iff]; simp; omega), rfl⟩
theorem letter_any (r : Int) (w : World) : Calls Tryd.prog 18 #[.int .i32 r] w fun e w' => e = .returned (.bool (isLi r)) ∧ w = w' := by
  go_enter Tryd.func18, Tryd.ntmps18
  go_wp2
  all_goals go_ret
  all_goals exact ⟨ret_bool (by unfold isLi; rw [Bool.eq_iff_iff]; simp; omega), rfl⟩
theorem digit_any (r : Int) (w : World) : Calls Tryd.prog 19 #[.int .i32 r] w fun e w' => e = .returned (.bool (isDi r)) ∧ w = w' := by
  go_enter Tryd.func19, Tryd.ntmps19
  go_wp2
  all_goals go_ret
  all_goals exact ⟨ret_bool (by unfold isDi; rw [Bool.eq_iff_iff]; simp; omega), rfl⟩
theorem huge_any (s : ByteArray) (w : World) : Calls Tryd.prog 5 #[.string s] w fun e w' => e = .returned (.bool (decide (4200 < s.size))) ∧ w = w' := by
  go_enter Tryd.func5, Tryd.ntmps5
  go_wp2
  go_ret
  exact ⟨ret_bool (by rw [Bool.eq_iff_iff]; simp only [decide_eq_true_eq]; omega), rfl⟩
theorem err_any (n : Int) (w : World) : Calls Tryd.prog 9 #[.int .i64 n] w fun e w' => e = .returned (.agg #[.int .i64 n, .int .i64 (-1), .int .i64 (-1)]) ∧ Below w.heap.size w w' := by
  go_enter Tryd.func9, Tryd.ntmps9
  go_wp2
  exact bodyPost_ret (v := .agg #[.int .i64 n, .int .i64 (-1), .int .i64 (-1)]) (by simp [results, Tryd.results9, go_sem]) rfl ⟨rfl, (Below.refl _ _).alloc (Nat.le_refl _) _⟩
theorem fine_any (w : World) : Calls Tryd.prog 15 #[] w fun e w' => e = .returned (.agg #[.int .i64 0, .int .i64 (-1), .int .i64 (-1)]) ∧ Below w.heap.size w w' := by
  go_enter Tryd.func15, Tryd.ntmps15
  go_wp2
  exact bodyPost_ret (v := .agg #[.int .i64 0, .int .i64 (-1), .int .i64 (-1)]) (by simp [results, Tryd.results15, go_sem]) rfl ⟨rfl, (Below.refl _ _).alloc (Nat.le_refl _) _⟩
end Go.Proofs.YtneohanphabneaaDoor

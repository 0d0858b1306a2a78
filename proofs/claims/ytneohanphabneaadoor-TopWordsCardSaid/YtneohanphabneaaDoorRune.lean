/-
  strings.ContainsRune at the one-sign words: a rune below 128, and one from 128 to 255.
-/
import Derived.Test.YtneohanphabneaaDoorLen
import Derived.Deep.QuietTactic
import Derived.BigQuiet
import Derived.WalkMore
namespace Go.Proofs.YtneohanphabneaaDoor
open Go.RowKit
theorem encode_two (c : UInt8) (hc : 128 ≤ c.toNat) : ∃ b0 b1 : UInt8, Utf8.encode (c.toNat : Int) = ⟨#[b0, b1]⟩ ∧ 128 ≤ b1.toNat := by
  have hlt : c.toNat < 256 := c.toNat_lt
  refine ⟨(192 + c.toNat / 64).toUInt8, (128 + c.toNat % 64).toUInt8, ?_, ?_⟩
  · unfold Utf8.encode
    have hv : Utf8.valid (c.toNat : Int) = true := by unfold Utf8.valid; simp; omega
    rw [if_pos hv]
    simp only [Int.toNat_natCast]
    rw [if_neg (by omega), if_pos (by omega)]
  · simp; omega
theorem quiet_add_same {P : Program} {f : FuncId} {args : Array Value} {w : World} {a n : Nat} {v : Value}
    (h : Calls P f args (w.drewN (a + n)) fun e w' => e = .returned v ∧ w' = w.drewN (a + n)) :
    Calls P f args (w.drewN (a + n)) fun e w'' => e = .returned v ∧ ∃ m, w'' = w.drewN (a + m) :=
  h.mono fun _ _ ⟨he, hm⟩ => ⟨he, n, hm⟩
theorem indexByte_out : ∀ (l : List UInt8) (c : UInt8), (∀ x ∈ l, x ≠ c) → Lib.indexByte l c = -1
  | [], _, _ => rfl
  | b :: l, c, h => by
    have hb : (b == c) = false := beq_eq_false_iff_ne.2 (h b (by simp))
    have ih := indexByte_out l c (fun x hx => h x (by simp [hx]))
    simp [Lib.indexByte, hb, ih]
theorem ib_high (b1 : UInt8) (h : 128 ≤ b1.toNat) (w : World) : Calls Tryd.prog 22 #[.string ((⟨#[61, 35, 60, 62, 43, 45, 42, 38, 126, 40, 41, 91, 93, 123, 125, 44, 59, 58, 46, 94]⟩ : ByteArray).extract 2 20), .int .u8 b1.toNat] w fun e w' => e = .returned (.int .i64 (-1)) ∧ w' = w := by
  refine (Tryd.strings_IndexByte _ _ w).mono ?_
  rintro e w' ⟨rfl, rfl⟩
  refine ⟨ret_int ?_, rfl⟩
  have hc : (b1.toNat : Int).toNat.toUInt8 = b1 := by simp
  rw [hc]
  apply indexByte_out
  intro x hx e
  rw [e] at hx
  have hall : ∀ y ∈ ((⟨#[61, 35, 60, 62, 43, 45, 42, 38, 126, 40, 41, 91, 93, 123, 125, 44, 59, 58, 46, 94]⟩ : ByteArray).extract 2 20).data.toList, y.toNat < 128 := by decide
  have := hall b1 hx
  omega
theorem below_drewN {B : Nat} {a w : World} (h : Below B a w) (n : Nat) : Below B a (w.drewN n) := ⟨h.os, h.tape, h.output, h.size, h.block⟩
set_option maxRecDepth 1000000 in
set_option maxHeartbeats 1000000 in
theorem indexRune_high (c : UInt8) (w : World) (hc : 128 ≤ c.toNat) : Calls Tryd.prog 34 #[.string ⟨#[61, 35, 60, 62, 43, 45, 42, 38, 126, 40, 41, 91, 93, 123, 125, 44, 59, 58, 46, 94]⟩, .int .i32 c.toNat] w fun e w' => e = .returned (.int .i64 (-1)) ∧ Below w.heap.size w w' := by
  have hlt : (c.toNat : Int) < 256 := by have := c.toNat_lt; omega
  have h0 : (128 : Int) ≤ c.toNat := by omega
  have h1 : ((c.toNat : Int) == 65533) = false := beq_eq_false_iff_ne.2 (by omega)
  have hv : Lib.validRune c.toNat = true := by unfold Lib.validRune; simp; omega
  obtain ⟨b0, b1, henc, hb1⟩ := encode_two c hc
  have hb2 : (((35 : Int)) != (b1.toNat : Int)) = true := by rw [bne_iff_ne]; omega
  have e1 : (⟨#[61, 35, 60, 62, 43, 45, 42, 38, 126, 40, 41, 91, 93, 123, 125, 44, 59, 58, 46, 94]⟩ : ByteArray)[1] = 35 := rfl
  have e2 : (⟨#[b0, b1]⟩ : ByteArray)[1]'(by show 1 < 2; omega) = b1 := rfl
  have HB := Lib.hid hb1
  clear hb1 hc
  go_enter Tryd.func34, Tryd.ntmps34
  go_wp2_with (first | (go_at_call 45; refine (Tryd.utf8_ValidRune _ _).mono ?_; rintro e w' ⟨rfl, rfl⟩))
  go_step3
  go_wp2_with fail
  refine wp_loop_rounds 1 ?_
  rw [rounds_succ]
  go_wp2_with fail
  go_step3
  go_wp2_with fail
  go_quiet (fail)
  go_wp2_with fail
  go_quiet ((go_at_call 22; exact quiet_add_same (ib_high b1 HB.out _)))
  go_wp2_with fail
  rw [Exit.noGoto_ret]
  go_wp2_with fail
  rw [Exit.noGoto_ret]
  go_wp2_with fail
  go_ret
  exact ⟨rfl, below_drewN (Below.refl _ _) _⟩
theorem containsRune_high (c : UInt8) (w : World) (hc : 128 ≤ c.toNat) : Calls Tryd.prog 28 #[.string ⟨#[61, 35, 60, 62, 43, 45, 42, 38, 126, 40, 41, 91, 93, 123, 125, 44, 59, 58, 46, 94]⟩, .int .i32 c.toNat] w fun e w' => e = .returned (.bool false) ∧ Below w.heap.size w w' := by
  have C := Lib.hid (indexRune_high c w hc)
  go_enter Tryd.func28, Tryd.ntmps28
  go_wp2_with (first | (go_at_call 34; refine C.out.mono ?_; rintro e w' ⟨rfl, hb⟩))
  go_ret
  exact ⟨rfl, hb⟩
theorem contains_index : ∀ (l : List UInt8) (c : UInt8), decide (0 ≤ Lib.indexByte l c) = l.contains c
  | [], _ => rfl
  | b :: l, c => by
    have ih := contains_index l c
    have hge : -1 ≤ Lib.indexByte l c := Lib.indexByte_ge l c
    unfold Lib.indexByte
    rw [List.contains_cons, ← ih]
    by_cases h : b = c
    · rw [h]; simp
    · have h1 : (b == c) = false := beq_eq_false_iff_ne.2 h
      have h2 : (c == b) = false := beq_eq_false_iff_ne.2 (Ne.symm h)
      rw [h1, h2, Bool.false_or]
      rw [Bool.eq_iff_iff]
      by_cases h3 : Lib.indexByte l c = -1
      · rw [h3]; simp
      · have h4 : (Lib.indexByte l c == -1) = false := beq_eq_false_iff_ne.2 h3
        rw [h4]
        simp only [Bool.false_eq_true, if_false, decide_eq_true_eq]
        omega
theorem containsRune_low (c : UInt8) (w : World) (hc : c.toNat < 128) : Calls Tryd.prog 28 #[.string ⟨#[61, 35, 60, 62, 43, 45, 42, 38, 126, 40, 41, 91, 93, 123, 125, 44, 59, 58, 46, 94]⟩, .int .i32 c.toNat] w fun e w' => e = .returned (.bool (Sc.isSign c)) ∧ w = w' := by
  refine (Tryd.strings_ContainsRune_ascii _ _ w (by omega) (by omega)).mono ?_
  rintro e w' ⟨rfl, rfl⟩
  refine ⟨ret_bool ?_, rfl⟩
  have hx : (c.toNat : Int).toNat.toUInt8 = c := by simp
  rw [hx, contains_index]
  rfl
theorem isSign_low {c : UInt8} (h : Sc.isSign c = true) : c.toNat < 128 := by
  unfold Sc.isSign at h
  rw [List.contains_iff_mem] at h
  have hall : ∀ y ∈ ([61, 35, 60, 62, 43, 45, 42, 38, 126, 40, 41, 91, 93, 123, 125, 44, 59, 58, 46, 94] : List UInt8), y.toNat < 128 := by decide
  exact hall c h
end Go.Proofs.YtneohanphabneaaDoor

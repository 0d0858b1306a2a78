/-
  strings.ContainsRune at the one-sign words: a rune below 128, and one from 128 to 255.
-/
import Derived.Test.YtneohanphabneaaGreatDoorMScan
import Derived.Deep.QuietTactic
import Derived.BigQuiet
import Derived.WalkMore
namespace Go.Proofs.YtneohanphabneaaGreatDoor
open Go.RowKit
theorem encode_two (c : UInt8) (hc : 128 ≤ c.toNat) : ∃ b0 b1 : UInt8, Utf8.encode (c.toNat : Int) = ⟨#[b0, b1]⟩ ∧ 128 ≤ b1.toNat := by
  have hlt : c.toNat < 256 := c.toNat_lt
  refine ⟨(192 + c.toNat / 64).toUInt8, (128 + c.toNat % 64).toUInt8, ?_, ?_⟩
  · unfold Utf8.encode
    have hv : Utf8.valid (c.toNat : Int) = true := by unfold Utf8.valid; simp; omega
    rw [if_pos hv]
    simp only [Int.toNat_natCast]
    rw [if_neg (by omega), if_pos (by omega)]
  · simp; omega
theorem quiet_add_same {P : Program} {f : FuncId} {args : Array Value} {w : World} {a n : Nat} {v : Value}
    (h : Calls P f args (w.drewN (a + n)) fun e w' => e = .returned v ∧ w' = w.drewN (a + n)) :
    Calls P f args (w.drewN (a + n)) fun e w'' => e = .returned v ∧ ∃ m, w'' = w.drewN (a + m) :=
  h.mono fun _ _ ⟨he, hm⟩ => ⟨he, n, hm⟩
theorem indexByte_out : ∀ (l : List UInt8) (c : UInt8), (∀ x ∈ l, x ≠ c) → Lib.indexByte l c = -1
  | [], _, _ => rfl
  | b :: l, c, h => by
    have hb : (b == c) = false := beq_eq_false_iff_ne.2 (h b (by simp))
    have ih := indexByte_out l c (fun x hx => h x (by simp [hx]))
    simp [Lib.indexByte, hb, ih]
theorem ib_high (b1 : UInt8) (h : 128 ≤ b1.toNat) (w : World) : Calls Tryz.prog 105 #[.string ((⟨#[61, 35, 60, 62, 43, 45, 42, 38, 126, 40, 41, 91, 93, 123, 125, 44, 59, 58, 46, 94]⟩ : ByteArray).extract 2 20), .int .u8 b1.toNat] w fun e w' => e = .returned (.int .i64 (-1)) ∧ w' = w := by
  refine (Tryz.strings_IndexByte _ _ w).mono ?_
  rintro e w' ⟨rfl, rfl⟩
  refine ⟨ret_int ?_, rfl⟩
  have hc : (b1.toNat : Int).toNat.toUInt8 = b1 := by simp
  rw [hc]
  apply indexByte_out
  intro x hx e
  rw [e] at hx
  have hall : ∀ y ∈ ((⟨#[61, 35, 60, 62, 43, 45, 42, 38, 126, 40, 41, 91, 93, 123, 125, 44, 59, 58, 46, 94]⟩ : ByteArray).extract 2 20).data.toList, y.toNat < 128 := by decide
  have := hall b1 hx
  omega
theorem below_drewN {B : Nat} {a w : World} (h : Below B a w) (n : Nat) : Below B a (w.drewN n) := ⟨h.os, h.tape, h.output, h.size, h.block⟩
set_option maxRecDepth 1000000 in
set_option maxHeartbeats 1000000 in
theorem indexRune_high (c : UInt8) (w : World) (hc : 128 ≤ c.toNat) : Calls Tryz.prog 155 #[.string ⟨#[61, 35, 60, 62, 43, 45, 42, 38, 126, 40, 41, 91, 93, 123, 125, 44, 59, 58, 46, 94]⟩, .int .i32 c.toNat] w fun e w' => e = .returned (.int .i64 (-1)) ∧ Below w.heap.size w w' := by
  have hlt : (c.toNat : Int) < 256 := by have := c.toNat_lt; omega
  have h0 : (128 : Int) ≤ c.toNat := by omega
  have h1 : ((c.toNat : Int) == 65533) = false := beq_eq_false_iff_ne.2 (by omega)
  have hv : Lib.validRune c.toNat = true := by unfold Lib.validRune; simp; omega
  obtain ⟨b0, b1, henc, hb1⟩ := encode_two c hc
  have hb2 : (((35 : Int)) != (b1.toNat : Int)) = true := by rw [bne_iff_ne]; omega
  have e1 : (⟨#[61, 35, 60, 62, 43, 45, 42, 38, 126, 40, 41, 91, 93, 123, 125, 44, 59, 58, 46, 94]⟩ : ByteArray)[1] = 35 := rfl
  have e2 : (⟨#[b0, b1]⟩ : ByteArray)[1]'(by show 1 < 2; omega) = b1 := rfl
  have HB := Lib.hid hb1
  clear hb1 hc
  go_enter Tryz.func155, Tryz.ntmps155
  go_wp2_with (first | (go_at_call 181; refine (Tryz.utf8_ValidRune _ _).mono ?_; rintro e w' ⟨rfl, rfl⟩))
  go_step3
  go_wp2_with fail
  refine wp_loop_rounds 1 ?_
  rw [rounds_succ]
  go_wp2_with fail
  go_step3
  go_wp2_with fail
  go_quiet (fail)
  go_wp2_with fail
  go_quiet ((go_at_call 105; exact quiet_add_same (ib_high b1 HB.out _)))
  go_wp2_with fail
  rw [Exit.noGoto_ret]
  go_wp2_with fail
  rw [Exit.noGoto_ret]
  go_wp2_with fail
  go_ret
  exact ⟨rfl, below_drewN (Below.refl _ _) _⟩
theorem containsRune_high (c : UInt8) (w : World) (hc : 128 ≤ c.toNat) : Calls Tryz.prog 111 #[.string ⟨#[61, 35, 60, 62, 43, 45, 42, 38, 126, 40, 41, 91, 93, 123, 125, 44, 59, 58, 46, 94]⟩, .int .i32 c.toNat] w fun e w' => e = .returned (.bool false) ∧ Below w.heap.size w w' := by
  have C := Lib.hid (indexRune_high c w hc)
  go_enter Tryz.func111, Tryz.ntmps111
  go_wp2_with (first | (go_at_call 155; refine C.out.mono ?_; rintro e w' ⟨rfl, hb⟩))
  go_ret
  exact ⟨rfl, hb⟩
theorem contains_index : ∀ (l : List UInt8) (c : UInt8), decide (0 ≤ Lib.indexByte l c) = l.contains c
  | [], _ => rfl
  | b :: l, c => by
    have ih := contains_index l c
    have hge : -1 ≤ Lib.indexByte l c := Lib.indexByte_ge l c
    unfold Lib.indexByte
    rw [List.contains_cons, ← ih]
    by_cases h : b = c
    · rw [h]; simp
    · have h1 : (b == c) = false := beq_eq_false_iff_ne.2 h
      have h2 : (c == b) = false := beq_eq_false_iff_ne.2 (Ne.symm h)
      rw [h1, h2, Bool.false_or]
      rw [Bool.eq_iff_iff]
      by_cases h3 : Lib.indexByte l c = -1
      · rw [h3]; simp
      · have h4 : (Lib.indexByte l c == -1) = false := beq_eq_false_iff_ne.2 h3
        rw [h4]
        simp only [Bool.false_eq_true, if_false, decide_eq_true_eq]
        omega
theorem containsRune_low (c : UInt8) (w : World) (hc : c.toNat < 128) : Calls Tryz.prog 111 #[.string ⟨#[61, 35, 60, 62, 43, 45, 42, 38, 126, 40, 41, 91, 93, 123, 125, 44, 59, 58, 46, 94]⟩, .int .i32 c.toNat] w fun e w' => e = .returned (.bool (Sc.isSign c)) ∧ w = w' := by
  refine (Tryz.strings_ContainsRune_ascii _ _ w (by omega) (by omega)).mono ?_
  rintro e w' ⟨rfl, rfl⟩
  refine ⟨ret_bool ?_, rfl⟩
  have hx : (c.toNat : Int).toNat.toUInt8 = c := by simp
  rw [hx, contains_index]
  rfl
theorem isSign_low {c : UInt8} (h : Sc.isSign c = true) : c.toNat < 128 := by
  unfold Sc.isSign at h
  rw [List.contains_iff_mem] at h
  have hall : ∀ y ∈ ([61, 35, 60, 62, 43, 45, 42, 38, 126, 40, 41, 91, 93, 123, 125, 44, 59, 58, 46, 94] : List UInt8), y.toNat < 128 := by decide
  exact hall c h
end Go.Proofs.YtneohanphabneaaGreatDoor
/-
  The program's length of the word at the front of a text that is not empty.
-/
namespace Go.Proofs.YtneohanphabneaaGreatDoor
open Go.RowKit
theorem wrap32_byte (c : UInt8) : wrap32 (c.toNat : Int) = c.toNat := by
  have := c.toNat_lt
  unfold wrap32
  omega
theorem contains_pair (a b : UInt8) : Lib.contains [32, 58, 61, 32, 60, 61, 32, 62, 61, 32] [32, a, b, 32] = decide (b = 61 ∧ (a = 58 ∨ a = 60 ∨ a = 62)) := by
  unfold Lib.contains
  rw [Bool.eq_iff_iff, decide_eq_true_eq, decide_eq_true_eq]
  by_cases hb : b = 61
  · subst hb
    by_cases h1 : a = 58
    · subst h1; decide
    · by_cases h2 : a = 60
      · subst h2; decide
      · by_cases h3 : a = 62
        · subst h3; decide
        · simp [Lib.index, List.isPrefixOf, h1, h2, h3]
  · simp [Lib.index, List.isPrefixOf, hb]
def pairB (t : ByteArray) : Bool := decide (∃ h : 0 + 1 < t.size, t[0 + 1] = 61 ∧ (t[0] = 58 ∨ t[0] = 60 ∨ t[0] = 62))
theorem pairB_iff (t : ByteArray) : pairB t = true ↔ Sc.pairAt t 0 := by unfold pairB Sc.pairAt; rw [decide_eq_true_eq]
theorem contains_any (t : ByteArray) (m : Int) (h : 1 < t.size) (w : World) (hm : w.cell? ⟨3, 0, none⟩ = some (.int .i64 m)) :
    Calls Tryz.prog 110 #[.string ⟨#[32, 58, 61, 32, 60, 61, 32, 62, 61, 32]⟩, .string (⟨#[32]⟩ ++ t.extract 0 2 ++ ⟨#[32]⟩)] w fun e w' => e = .returned (.bool (pairB t)) ∧ w = w' := by
  refine (Tryz.strings_Contains _ _ m w (by decide) hm).mono ?_
  rintro e w' ⟨rfl, rfl⟩
  refine ⟨ret_bool ?_, rfl⟩
  have e1 : (⟨#[32]⟩ ++ t.extract 0 2 ++ ⟨#[32]⟩ : ByteArray).data.toList = ([32, t[0], t[1], 32] : List UInt8) := by
    rw [ByteArray.data_append, ByteArray.data_append, Array.toList_append, Array.toList_append, Lib.extract_data, List.drop_zero]
    have h0 := Sc.drop_cons t 0 (by omega)
    rw [List.drop_zero] at h0
    rw [h0, Sc.drop_cons t 1 h]
    rfl
  rw [e1, contains_pair]
  unfold pairB
  rw [Bool.eq_iff_iff, decide_eq_true_eq, decide_eq_true_eq]
  constructor
  · rintro ⟨a, b⟩; exact ⟨h, a, b⟩
  · rintro ⟨_, a, b⟩; exact ⟨a, b⟩
theorem len_ld (t : ByteArray) (h : 0 < t.size) (hl : Sc.isL t[0] = true) : run Sc.isLD t = 1 + Sc.lenLD t 0 := by
  have := Sc.tw_step t 0 Sc.isLD h (by unfold Sc.isLD; rw [hl]; rfl)
  rw [List.drop_zero] at this
  exact this
theorem len_d (t : ByteArray) (h : 0 < t.size) (hl : Sc.isD t[0] = true) : run Sc.isD t = 1 + Sc.lenD t 0 := by
  have := Sc.tw_step t 0 Sc.isD h hl
  rw [List.drop_zero] at this
  exact this
/-- How long the word at the front of t is; 0: there is none. -/
def lenOf (t : ByteArray) (h : 0 < t.size) : Nat :=
  if Sc.isL t[0] then 1 + Sc.lenLD t 0 else if Sc.isD t[0] then 1 + Sc.lenD t 0 else if pairB t then 2 else if Sc.isSign t[0] then 1 else 0
set_option maxRecDepth 100000 in
set_option maxHeartbeats 1000000 in
theorem length_any (t : ByteArray) (m : Int) (w : World) (ht : t.size ≤ 100000) (hm : w.cell? ⟨3, 0, none⟩ = some (.int .i64 m)) (h : 0 < t.size) : Calls Tryz.prog 48 #[.string t] w fun e w' => e = .returned (.int .i64 (lenOf t h)) ∧ Below w.heap.size w w' := by
  have hmf : ∀ (fn : Fn) (first cap : Array Value) (w : World), (Instr.makeFunc fn first cap).run Tryz.prog w = .ok (.func fn first cap) w := fun _ _ _ _ => rfl
  have hwr := wrap32_byte t[0]
  have hb0 : Below w.heap.size w (w.alloc (.cells #[.string t] 9)) := (Below.refl _ _).alloc (Nat.le_refl _) _
  have HB := Lib.hid hb0
  have hcell : (w.alloc (.cells #[.string t] 9)).cell? ⟨w.heap.size, 0, none⟩ = some (.string t) := by simp
  have HC := Lib.hid hcell
  have hlt1 : 3 < w.heap.size := by
    rcases Nat.lt_or_ge 3 w.heap.size with h | h
    · exact h
    · simp [World.cell?, Array.getElem?_eq_none h] at hm
  have HM : Hid ((w.alloc (.cells #[.string t] 9)).cell? ⟨3, 0, none⟩ = some (.int .i64 m)) := (hb0.cell (p := ⟨3, 0, none⟩) hlt1).trans hm
  clear hb0 hcell hm hlt1
  rcases hl : Sc.isL t[0] with _ | _
  · rcases hd : Sc.isD t[0] with _ | _
    · rcases hp : pairB t with _ | _
      · by_cases h128 : t[0].toNat < 128
        · have CR := Lib.hid (fun w => containsRune_low t[0] w h128)
          have hvl : lenOf t h = if Sc.isSign t[0] then 1 else 0 := by unfold lenOf; rw [hl, hd, hp]; rfl
          rcases hs : Sc.isSign t[0] with _ | _
          all_goals
            rw [hs] at hvl
            have HV := Lib.hid hvl
            clear hvl
            rw [isL_li] at hl
            rw [isD_di] at hd
            by_cases h2 : 1 < t.size
            all_goals
              go_enter Tryz.func48, Tryz.ntmps48
              go_wp2_with (first | (go_at_call 49; refine (letter_any _ _).mono ?_; rintro e w' ⟨rfl, rfl⟩) | (go_at_call 50; refine (digit_any _ _).mono ?_; rintro e w' ⟨rfl, rfl⟩) | (go_at_call 110; refine (contains_any t m (by omega) _ HM.out).mono ?_; rintro e w' ⟨rfl, rfl⟩) | (go_at_call 111; refine (CR.out _).mono ?_; rintro e w' ⟨rfl, rfl⟩))
              go_ret
              exact ⟨ret_int (by rw [HV.out]; rfl), HB.out⟩
        · have CR := Lib.hid (fun w => containsRune_high t[0] w (by omega))
          have hs : Sc.isSign t[0] = false := Bool.eq_false_iff.2 (fun x => h128 (isSign_low x))
          have hvl : lenOf t h = 0 := by unfold lenOf; rw [hl, hd, hp, hs]; rfl
          have HV := Lib.hid hvl
          clear hvl hs
          rw [isL_li] at hl
          rw [isD_di] at hd
          by_cases h2 : 1 < t.size
          all_goals
            go_enter Tryz.func48, Tryz.ntmps48
            go_wp2_with (first | (go_at_call 49; refine (letter_any _ _).mono ?_; rintro e w' ⟨rfl, rfl⟩) | (go_at_call 50; refine (digit_any _ _).mono ?_; rintro e w' ⟨rfl, rfl⟩) | (go_at_call 110; refine (contains_any t m (by omega) _ HM.out).mono ?_; rintro e w' ⟨rfl, rfl⟩) | (go_at_call 111; refine (CR.out _).mono ?_; rintro e w' ⟨rfl, hb⟩))
            go_ret
            exact ⟨ret_int (by rw [HV.out]; rfl), HB.out.trans (hb.mono (by simp))⟩
      · have h2 : 1 < t.size := ((pairB_iff t).1 hp).1
        have hvl : lenOf t h = 2 := by unfold lenOf; rw [hl, hd, hp]; rfl
        have HV := Lib.hid hvl
        clear hvl
        rw [isL_li] at hl
        rw [isD_di] at hd
        go_enter Tryz.func48, Tryz.ntmps48
        go_wp2_with (first | (go_at_call 49; refine (letter_any _ _).mono ?_; rintro e w' ⟨rfl, rfl⟩) | (go_at_call 50; refine (digit_any _ _).mono ?_; rintro e w' ⟨rfl, rfl⟩) | (go_at_call 110; refine (contains_any t m (by omega) _ HM.out).mono ?_; rintro e w' ⟨rfl, rfl⟩))
        go_ret
        exact ⟨ret_int (by rw [HV.out]; rfl), HB.out⟩
    · have hvl : lenOf t h = run Sc.isD t := by rw [len_d t h hd]; unfold lenOf; rw [hl, hd]; rfl
      have HV := Lib.hid hvl
      clear hvl
      rw [isL_li] at hl
      rw [isD_di] at hd
      go_enter Tryz.func48, Tryz.ntmps48
      go_wp2_with (first | (go_at_call 49; refine (letter_any _ _).mono ?_; rintro e w' ⟨rfl, rfl⟩) | (go_at_call 50; refine (digit_any _ _).mono ?_; rintro e w' ⟨rfl, rfl⟩) | (go_at_call 108; refine (run_d t _ _ ht HC.out).mono ?_; rintro e w' ⟨rfl, hb⟩))
      go_ret
      exact ⟨ret_int (by rw [HV.out]), HB.out.trans (hb.mono (by simp))⟩
  · have hvl : lenOf t h = run Sc.isLD t := by rw [len_ld t h hl]; unfold lenOf; rw [hl]; rfl
    have HV := Lib.hid hvl
    clear hvl
    rw [isL_li] at hl
    go_enter Tryz.func48, Tryz.ntmps48
    go_wp2_with (first | (go_at_call 49; refine (letter_any _ _).mono ?_; rintro e w' ⟨rfl, rfl⟩) | (go_at_call 50; refine (digit_any _ _).mono ?_; rintro e w' ⟨rfl, rfl⟩) | (go_at_call 108; refine (run_ld t _ _ ht HC.out).mono ?_; rintro e w' ⟨rfl, hb⟩))
    go_ret
    exact ⟨ret_int (by rw [HV.out]), HB.out.trans (hb.mono (by simp))⟩
end Go.Proofs.YtneohanphabneaaGreatDoor

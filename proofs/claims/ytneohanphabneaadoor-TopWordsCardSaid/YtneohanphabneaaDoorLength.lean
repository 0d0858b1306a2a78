/-
  The program's length of the word at the front of a text that is not empty.
-/
import Derived.Test.YtneohanphabneaaDoorRune
namespace Go.Proofs.YtneohanphabneaaDoor
open Go.RowKit
theorem wrap32_byte (c : UInt8) : wrap32 (c.toNat : Int) = c.toNat := by
  have := c.toNat_lt
  unfold wrap32
  omega
theorem contains_pair (a b : UInt8) : Lib.contains [32, 58, 61, 32, 60, 61, 32, 62, 61, 32] [32, a, b, 32] = decide (b = 61 ∧ (a = 58 ∨ a = 60 ∨ a = 62)) := by
  unfold Lib.contains
  rw [Bool.eq_iff_iff, decide_eq_true_eq, decide_eq_true_eq]
  by_cases hb : b = 61
  · subst hb
    by_cases h1 : a = 58
    · subst h1; decide
    · by_cases h2 : a = 60
      · subst h2; decide
      · by_cases h3 : a = 62
        · subst h3; decide
        · simp [Lib.index, List.isPrefixOf, h1, h2, h3]
  · simp [Lib.index, List.isPrefixOf, hb]
def pairB (t : ByteArray) : Bool := decide (∃ h : 0 + 1 < t.size, t[0 + 1] = 61 ∧ (t[0] = 58 ∨ t[0] = 60 ∨ t[0] = 62))
theorem pairB_iff (t : ByteArray) : pairB t = true ↔ Sc.pairAt t 0 := by unfold pairB Sc.pairAt; rw [decide_eq_true_eq]
theorem contains_any (t : ByteArray) (m : Int) (h : 1 < t.size) (w : World) (hm : w.cell? ⟨1, 0, none⟩ = some (.int .i64 m)) :
    Calls Tryd.prog 27 #[.string ⟨#[32, 58, 61, 32, 60, 61, 32, 62, 61, 32]⟩, .string (⟨#[32]⟩ ++ t.extract 0 2 ++ ⟨#[32]⟩)] w fun e w' => e = .returned (.bool (pairB t)) ∧ w = w' := by
  refine (Tryd.strings_Contains _ _ m w (by decide) hm).mono ?_
  rintro e w' ⟨rfl, rfl⟩
  refine ⟨ret_bool ?_, rfl⟩
  have e1 : (⟨#[32]⟩ ++ t.extract 0 2 ++ ⟨#[32]⟩ : ByteArray).data.toList = ([32, t[0], t[1], 32] : List UInt8) := by
    rw [ByteArray.data_append, ByteArray.data_append, Array.toList_append, Array.toList_append, Lib.extract_data, List.drop_zero]
    have h0 := Sc.drop_cons t 0 (by omega)
    rw [List.drop_zero] at h0
    rw [h0, Sc.drop_cons t 1 h]
    rfl
  rw [e1, contains_pair]
  unfold pairB
  rw [Bool.eq_iff_iff, decide_eq_true_eq, decide_eq_true_eq]
  constructor
  · rintro ⟨a, b⟩; exact ⟨h, a, b⟩
  · rintro ⟨_, a, b⟩; exact ⟨a, b⟩
theorem len_ld (t : ByteArray) (h : 0 < t.size) (hl : Sc.isL t[0] = true) : run Sc.isLD t = 1 + Sc.lenLD t 0 := by
  have := Sc.tw_step t 0 Sc.isLD h (by unfold Sc.isLD; rw [hl]; rfl)
  rw [List.drop_zero] at this
  exact this
theorem len_d (t : ByteArray) (h : 0 < t.size) (hl : Sc.isD t[0] = true) : run Sc.isD t = 1 + Sc.lenD t 0 := by
  have := Sc.tw_step t 0 Sc.isD h hl
  rw [List.drop_zero] at this
  exact this
/-- How long the word at the front of t is; 0: there is none. -/
def lenOf (t : ByteArray) (h : 0 < t.size) : Nat :=
  if Sc.isL t[0] then 1 + Sc.lenLD t 0 else if Sc.isD t[0] then 1 + Sc.lenD t 0 else if pairB t then 2 else if Sc.isSign t[0] then 1 else 0
set_option maxRecDepth 100000 in
set_option maxHeartbeats 1000000 in
theorem length_any (t : ByteArray) (m : Int) (w : World) (ht : t.size ≤ 100000) (hm : w.cell? ⟨1, 0, none⟩ = some (.int .i64 m)) (h : 0 < t.size) : Calls Tryd.prog 17 #[.string t] w fun e w' => e = .returned (.int .i64 (lenOf t h)) ∧ Below w.heap.size w w' := by
  have hmf : ∀ (fn : Fn) (first cap : Array Value) (w : World), (Instr.makeFunc fn first cap).run Tryd.prog w = .ok (.func fn first cap) w := fun _ _ _ _ => rfl
  have hwr := wrap32_byte t[0]
  have hb0 : Below w.heap.size w (w.alloc (.cells #[.string t] 9)) := (Below.refl _ _).alloc (Nat.le_refl _) _
  have HB := Lib.hid hb0
  have hcell : (w.alloc (.cells #[.string t] 9)).cell? ⟨w.heap.size, 0, none⟩ = some (.string t) := by simp
  have HC := Lib.hid hcell
  have hlt1 : 1 < w.heap.size := by
    rcases Nat.lt_or_ge 1 w.heap.size with h | h
    · exact h
    · simp [World.cell?, Array.getElem?_eq_none h] at hm
  have HM : Hid ((w.alloc (.cells #[.string t] 9)).cell? ⟨1, 0, none⟩ = some (.int .i64 m)) := (hb0.cell (p := ⟨1, 0, none⟩) hlt1).trans hm
  clear hb0 hcell hm hlt1
  rcases hl : Sc.isL t[0] with _ | _
  · rcases hd : Sc.isD t[0] with _ | _
    · rcases hp : pairB t with _ | _
      · by_cases h128 : t[0].toNat < 128
        · have CR := Lib.hid (fun w => containsRune_low t[0] w h128)
          have hvl : lenOf t h = if Sc.isSign t[0] then 1 else 0 := by unfold lenOf; rw [hl, hd, hp]; rfl
          rcases hs : Sc.isSign t[0] with _ | _
          all_goals
            rw [hs] at hvl
            have HV := Lib.hid hvl
            clear hvl
            rw [isL_li] at hl
            rw [isD_di] at hd
            by_cases h2 : 1 < t.size
            all_goals
              go_enter Tryd.func17, Tryd.ntmps17
              go_wp2_with (first | (go_at_call 18; refine (letter_any _ _).mono ?_; rintro e w' ⟨rfl, rfl⟩) | (go_at_call 19; refine (digit_any _ _).mono ?_; rintro e w' ⟨rfl, rfl⟩) | (go_at_call 27; refine (contains_any t m (by omega) _ HM.out).mono ?_; rintro e w' ⟨rfl, rfl⟩) | (go_at_call 28; refine (CR.out _).mono ?_; rintro e w' ⟨rfl, rfl⟩))
              go_ret
              exact ⟨ret_int (by rw [HV.out]; rfl), HB.out⟩
        · have CR := Lib.hid (fun w => containsRune_high t[0] w (by omega))
          have hs : Sc.isSign t[0] = false := Bool.eq_false_iff.2 (fun x => h128 (isSign_low x))
          have hvl : lenOf t h = 0 := by unfold lenOf; rw [hl, hd, hp, hs]; rfl
          have HV := Lib.hid hvl
          clear hvl hs
          rw [isL_li] at hl
          rw [isD_di] at hd
          by_cases h2 : 1 < t.size
          all_goals
            go_enter Tryd.func17, Tryd.ntmps17
            go_wp2_with (first | (go_at_call 18; refine (letter_any _ _).mono ?_; rintro e w' ⟨rfl, rfl⟩) | (go_at_call 19; refine (digit_any _ _).mono ?_; rintro e w' ⟨rfl, rfl⟩) | (go_at_call 27; refine (contains_any t m (by omega) _ HM.out).mono ?_; rintro e w' ⟨rfl, rfl⟩) | (go_at_call 28; refine (CR.out _).mono ?_; rintro e w' ⟨rfl, hb⟩))
            go_ret
            exact ⟨ret_int (by rw [HV.out]; rfl), HB.out.trans (hb.mono (by simp))⟩
      · have h2 : 1 < t.size := ((pairB_iff t).1 hp).1
        have hvl : lenOf t h = 2 := by unfold lenOf; rw [hl, hd, hp]; rfl
        have HV := Lib.hid hvl
        clear hvl
        rw [isL_li] at hl
        rw [isD_di] at hd
        go_enter Tryd.func17, Tryd.ntmps17
        go_wp2_with (first | (go_at_call 18; refine (letter_any _ _).mono ?_; rintro e w' ⟨rfl, rfl⟩) | (go_at_call 19; refine (digit_any _ _).mono ?_; rintro e w' ⟨rfl, rfl⟩) | (go_at_call 27; refine (contains_any t m (by omega) _ HM.out).mono ?_; rintro e w' ⟨rfl, rfl⟩))
        go_ret
        exact ⟨ret_int (by rw [HV.out]; rfl), HB.out⟩
    · have hvl : lenOf t h = run Sc.isD t := by rw [len_d t h hd]; unfold lenOf; rw [hl, hd]; rfl
      have HV := Lib.hid hvl
      clear hvl
      rw [isL_li] at hl
      rw [isD_di] at hd
      go_enter Tryd.func17, Tryd.ntmps17
      go_wp2_with (first | (go_at_call 18; refine (letter_any _ _).mono ?_; rintro e w' ⟨rfl, rfl⟩) | (go_at_call 19; refine (digit_any _ _).mono ?_; rintro e w' ⟨rfl, rfl⟩) | (go_at_call 25; refine (run_d t _ _ ht HC.out).mono ?_; rintro e w' ⟨rfl, hb⟩))
      go_ret
      exact ⟨ret_int (by rw [HV.out]), HB.out.trans (hb.mono (by simp))⟩
  · have hvl : lenOf t h = run Sc.isLD t := by rw [len_ld t h hl]; unfold lenOf; rw [hl]; rfl
    have HV := Lib.hid hvl
    clear hvl
    rw [isL_li] at hl
    go_enter Tryd.func17, Tryd.ntmps17
    go_wp2_with (first | (go_at_call 18; refine (letter_any _ _).mono ?_; rintro e w' ⟨rfl, rfl⟩) | (go_at_call 19; refine (digit_any _ _).mono ?_; rintro e w' ⟨rfl, rfl⟩) | (go_at_call 25; refine (run_ld t _ _ ht HC.out).mono ?_; rintro e w' ⟨rfl, hb⟩))
    go_ret
    exact ⟨ret_int (by rw [HV.out]), HB.out.trans (hb.mono (by simp))⟩
end Go.Proofs.YtneohanphabneaaDoor

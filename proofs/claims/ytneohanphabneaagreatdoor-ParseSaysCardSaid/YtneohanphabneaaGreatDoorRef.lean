/-
  Contracts of the reference's functions of words: oneSign, beyond, behindComment.
-/
import Derived.Test.YtneohanphabneaaGreatDoorMFn
import Derived.LoopTactic
namespace Go.Proofs.YtneohanphabneaaGreatDoor
open Go.RowKit

theorem byte_eq {a b : UInt8} (h : (a.toNat : Int) = b.toNat) : a = b := UInt8.toNat_inj.1 (by omega)

set_option maxHeartbeats 400000 in
theorem oneSign_any (c : UInt8) (w : World) : Calls Tryz.prog 38 #[.int .u8 c.toNat] w fun e w' => e = .returned (.bool (Sc.isSign c)) ∧ w = w' := by
  go_enter Tryz.func38, Tryz.ntmps38
  go_wp2
  generalize hS : ({ data := #[61, 35, 60, 62, 43, 45, 42, 38, 126, 40, 41, 91, 93, 123, 125, 44, 59, 58, 46, 94] } : ByteArray) = S
  have hsz : S.size ≤ 20 := by rw [← hS]; decide
  have HS : Hid (Sc.isSign c = S.data.toList.contains c) := by rw [← hS]; rfl
  clear hS
  go_loop [4] (fun i => ∃ k : Nat, k ≤ S.size ∧ i = .int .i64 k ∧ Hid ((S.data.toList.take k).contains c = false)) (fun i => S.size - (intOf i).toNat)
  case atStart => exact ⟨0, Nat.zero_le _, rfl, rfl⟩
  case round =>
    obtain ⟨k, hk, rfl, hno⟩ := hrel
    by_cases hlt : k < S.size
    · by_cases hc : S[k] = c
      · have hb : (((S[k].toNat : Nat) : Int) == (c.toNat : Int)) = true := by rw [hc]; simp
        have H := Lib.hid hc; clear hc
        go_wp2
        go_ret
        exact ⟨ret_bool (by
          rw [HS.out, eq_comm, List.contains_iff_mem, ← H.out]
          exact List.mem_of_getElem (i := k) (h := by rw [Sc.len_size]; exact hlt) rfl), rfl⟩
      · have hb : (((S[k].toNat : Nat) : Int) == (c.toNat : Int)) = false := by
          rw [beq_eq_false_iff_ne]; exact fun h => hc (byte_eq h)
        have H := Lib.hid hc; clear hc
        go_wp2
        go_round
        case rel => exact ⟨k + 1, by omega, by go_num, by
          show _ = false
          rw [Sc.take_snoc _ _ hlt, Sc.contains_snoc, hno.out, beq_eq_false_iff_ne.2 H.out]; rfl⟩
        case measure => simp [intOf]; omega
    · go_wp2
      go_ret
      exact ⟨ret_bool (by
        rw [HS.out, ← hno.out, List.take_of_length_le (by rw [Sc.len_size]; omega)]), rfl⟩

theorem byte_is {c : UInt8} {n : Int} (h : (c.toNat : Int) = n) (m : UInt8) (hm : (m.toNat : Int) = n) : c = m := byte_eq (h.trans hm.symm)
theorem byte_not {c : UInt8} {n : Int} (h : ¬ (c.toNat : Int) = n) (m : UInt8) (hm : (m.toNat : Int) = n) : ¬ c = m := fun e => h (by rw [e]; exact hm)
theorem ne_of_beq_false {a b : Int} (h : (a == b) = false) : ¬ a = b := beq_eq_false_iff_ne.1 h
def cmtEnd : Option Nat → Int
  | none => -1
  | some n => n
set_option maxHeartbeats 1000000 in
theorem behind_any (s : ByteArray) (i : Nat) (w : World) (hs : s.size ≤ 100000) (hi : i + 2 ≤ s.size) : Calls Tryz.prog 34 #[.string s, .int .i64 i] w fun e w' =>
    e = .returned (.int .i64 (cmtEnd (Sc.cmt (s.data.toList.drop (i + 2)) 1 (i + 2)))) ∧ w = w' := by
  go_enter Tryz.func34, Tryz.ntmps34
  go_wp2
  go_loop [1, 5] (fun j d => ∃ k n : Nat, 1 ≤ n ∧ n ≤ k ∧ k ≤ s.size ∧ j = .int .i64 k ∧ d = .int .i64 n ∧ Hid (Sc.cmt (s.data.toList.drop (i + 2)) 1 (i + 2) = Sc.cmt (s.data.toList.drop k) n k)) (fun j _ => s.size - (intOf j).toNat)
  case atStart => exact ⟨i + 2, 1, by omega, by omega, by omega, by go_num, rfl, rfl⟩
  case round =>
    obtain ⟨k, n, hn1, hn, hk, rfl, rfl, hno⟩ := hrel
    by_cases hlt : k + 1 < s.size
    · have hlt' : k < s.size := by omega
      have h2 := Lib.hid (Sc.cmt_two s k n k hlt)
      go_wp2
      · go_round
        case rel => exact ⟨k + 2, n + 1, by omega, by omega, by omega, by go_num, by go_num, by
          show _ = _
          rw [hno.out, h2.out, if_pos ⟨byte_is ‹_› 40 rfl, byte_is (eq_of_beq ‹_›) 42 rfl⟩]⟩
        case measure => simp [intOf]; omega
      · go_round
        case rel => exact ⟨k + 1, n, by omega, by omega, by omega, by go_num, by go_num, by
          show _ = _
          rw [hno.out, h2.out, if_neg (fun h => byte_not (ne_of_beq_false ‹_›) 42 rfl h.2), if_neg (fun h => byte_not (c := s[k]) (n := 42) (by have hx : (s[k].toNat : Int) = 40 := (by assumption); omega) 42 rfl h.1)]⟩
        case measure => simp [intOf]; omega
      · go_ret
        exact ⟨ret_int (by rw [hno.out, h2.out, if_neg (fun h => byte_not ‹_› 40 rfl h.1), if_pos ⟨byte_is ‹_› 42 rfl, byte_is (eq_of_beq ‹_›) 41 rfl⟩, if_pos (by have := eq_of_beq ‹((n : Int) - 1 == 0) = true›; omega)]; rfl), rfl⟩
      · go_round
        case rel => exact ⟨k + 2, n - 1, by have := ne_of_beq_false ‹((n : Int) - 1 == 0) = false›; omega, by omega, by omega, by go_num, by go_num, by
          show _ = _
          rw [hno.out, h2.out, if_neg (fun h => byte_not ‹_› 40 rfl h.1), if_pos ⟨byte_is ‹_› 42 rfl, byte_is (eq_of_beq ‹_›) 41 rfl⟩, if_neg (by have := ne_of_beq_false ‹((n : Int) - 1 == 0) = false›; omega)]⟩
        case measure => simp [intOf]; omega
      · go_round
        case rel => exact ⟨k + 1, n, by omega, by omega, by omega, by go_num, by go_num, by
          show _ = _
          rw [hno.out, h2.out, if_neg (fun h => byte_not ‹_› 40 rfl h.1), if_neg (fun h => byte_not (ne_of_beq_false ‹_›) 41 rfl h.2)]⟩
        case measure => simp [intOf]; omega
      · go_round
        case rel => exact ⟨k + 1, n, by omega, by omega, by omega, by go_num, by go_num, by
          show _ = _
          rw [hno.out, h2.out, if_neg (fun h => byte_not ‹¬ (s[k].toNat : Int) = 40› 40 rfl h.1), if_neg (fun h => byte_not ‹¬ (s[k].toNat : Int) = 42› 42 rfl h.1)]⟩
        case measure => simp [intOf]; omega
    · go_wp2
      go_ret
      exact ⟨ret_int (by rw [hno.out, Sc.cmt_end s k n k (by omega)]; rfl), rfl⟩

/-- At a number without noughts ahead, of two digits or more, or of one: what is left to be asked. -/
theorem isBig_bare (l : List UInt8) (h : Sc.bare l = l) : Sc.isBig l = (decide (10 < l.length) || (l.length == 10 && Sc.over l)) := by
  unfold Sc.isBig; rw [h]
theorem isBig_one (l : List UInt8) (h : l.length ≤ 1) : Sc.isBig l = false := by
  match l, h with
  | [], _ => rfl
  | [c], _ =>
    unfold Sc.isBig Sc.bare
    by_cases hc : c = 48
    · rw [if_pos hc]; rfl
    · rw [if_neg hc]; rfl
theorem isBig_nought (t : ByteArray) (h : 0 < t.size) (h0 : t[0] = 48) : Sc.isBig t.data.toList = Sc.isBig (t.extract 1 t.size).data.toList := by
  have e := Sc.bare_cons0 t 0 h h0
  rw [List.drop_zero] at e
  unfold Sc.isBig
  rw [Lib.extract_to_end, e]
def strLen : Value → Nat
  | .string t => t.size
  | _ => 0
set_option maxHeartbeats 400000 in
theorem beyond_any (s : ByteArray) (w : World) (_hs : s.size ≤ 100000) : Calls Tryz.prog 37 #[.string s] w fun e w' =>
    e = .returned (.bool (Sc.bigB s)) ∧ w = w' := by
  unfold Sc.bigB
  go_enter Tryz.func37, Tryz.ntmps37
  go_wp2
  go_loop [0] (fun v => ∃ t : ByteArray, v = .string t ∧ t.size ≤ s.size ∧ Hid (Sc.isBig s.data.toList = Sc.isBig t.data.toList)) (fun v => strLen v)
  case atStart => exact ⟨s, rfl, Nat.le_refl _, rfl⟩
  case round =>
    obtain ⟨t, rfl, ht, hno⟩ := hrel
    by_cases hlt : 1 < t.size
    · have h0 : 0 < t.size := by omega
      by_cases hc : t[0] = 48
      · have hb : (((t[0].toNat : Nat) : Int) == 48) = true := by rw [hc]; rfl
        have HH := Lib.hid (isBig_nought t h0 hc)
        clear hc
        go_wp2
        go_round
        case rel => exact ⟨_, rfl, by simp; omega, by show _ = _; rw [hno.out, HH.out]⟩
        case measure => simp [strLen]; omega
      · have hb : (((t[0].toNat : Nat) : Int) == 48) = false := by
          rw [beq_eq_false_iff_ne]
          exact fun h => hc (byte_eq (by rw [h]; rfl))
        have HH := Lib.hid (isBig_bare t.data.toList (by have e := Sc.bare_cons1 t 0 h0 hc; rw [List.drop_zero] at e; exact e))
        clear hc
        by_cases h10 : t.size = 10
        · have hb2 : ((t.size : Int) != 10) = false := by rw [h10]; rfl
          have H10 := Lib.hid h10
          clear h10
          go_wp2
          go_ret
          exact ⟨ret_bool (by rw [hno.out, HH.out, Sc.len_size, H10.out]; unfold Sc.over Sc.maxNum; rw [Lib.toList_data]; simp), rfl⟩
        · have hb2 : ((t.size : Int) != 10) = true := by rw [bne_iff_ne]; omega
          have H10 := Lib.hid h10
          clear h10
          go_wp2
          go_ret
          exact ⟨ret_bool (by rw [hno.out, HH.out, Sc.len_size, beq_eq_false_iff_ne.2 H10.out, Bool.false_and, Bool.or_false, Bool.eq_iff_iff]; simp only [decide_eq_true_eq]; omega), rfl⟩
    · have hb2 : ((t.size : Int) != 10) = true := by rw [bne_iff_ne]; omega
      go_wp2
      go_ret
      exact ⟨ret_bool (by rw [hno.out, isBig_one _ (by rw [Sc.len_size]; omega), decide_eq_false (by omega)]), rfl⟩
end Go.Proofs.YtneohanphabneaaGreatDoor

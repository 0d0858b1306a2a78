/-
  The program's length of the word at the front of a text: closures and a range over a string.
-/
import Derived.Test.YtneohanphabneaaDoorScan
import Derived.Laws.RangeAny
namespace Go.Proofs.YtneohanphabneaaDoor
open Go.RowKit

def isLDi (r : Int) : Bool := isLi r || isDi r
theorem isLD_ldi (c : UInt8) : Sc.isLD c = isLDi c.toNat := by unfold Sc.isLD isLDi; rw [isL_li, isD_di]
theorem isLDi_high {r : Int} (h : 128 ≤ r) : isLDi r = false := by
  unfold isLDi isLi isDi
  rw [decide_eq_false (show ¬ r ≤ 122 by omega), decide_eq_false (show ¬ r ≤ 90 by omega), decide_eq_false (show ¬ r ≤ 57 by omega)]; simp
theorem isDi_high {r : Int} (h : 128 ≤ r) : isDi r = false := by
  unfold isDi
  rw [decide_eq_false (show ¬ r ≤ 57 by omega)]; simp
theorem len2_any (r : Int) (w : World) : Calls Tryd.prog 26 #[.int .i32 r] w fun e w' => e = .returned (.bool (isLDi r)) ∧ w = w' := by
  unfold isLDi
  rcases h : isLi r with _ | _
  · go_enter Tryd.func26, Tryd.ntmps26
    go_wp2_with (first | (go_at_call 18; refine (letter_any _ _).mono ?_; rintro e w' ⟨rfl, rfl⟩) | (go_at_call 19; refine (digit_any _ _).mono ?_; rintro e w' ⟨rfl, rfl⟩))
    go_ret
    exact ⟨ret_bool rfl, rfl⟩
  · go_enter Tryd.func26, Tryd.ntmps26
    go_wp2_with (first | (go_at_call 18; refine (letter_any _ _).mono ?_; rintro e w' ⟨rfl, rfl⟩) | (go_at_call 19; refine (digit_any _ _).mono ?_; rintro e w' ⟨rfl, rfl⟩))
    go_ret
    exact ⟨ret_bool rfl, rfl⟩
/-- How many bytes at the front of t have p. -/
def run (p : UInt8 → Bool) (t : ByteArray) : Nat := (t.data.toList.takeWhile p).length
set_option maxHeartbeats 1000000 in
theorem run_ld (t : ByteArray) (a : Addr) (w : World) (_ht : t.size ≤ 100000) (ha : w.cell? a = some (.string t)) : Calls Tryd.prog 25 #[.func (.func 26) #[] #[], .pointer (some a)] w fun e w' => e = .returned (.int .i64 (run Sc.isLD t)) ∧ Below w.heap.size w w' := by
  have hal : a.block < w.heap.size := by
    rcases Nat.lt_or_ge a.block w.heap.size with h | h
    · exact h
    · simp [World.cell?, Array.getElem?_eq_none h] at ha
  have ha' : ∀ pos, (w.iter t pos).cell? a = some (.string t) := fun pos => (World.cell?_alloc_lt w _ a hal).trans ha
  have hbel : ∀ pos, Below w.heap.size w (w.iter t pos) := fun pos => (Below.refl _ _).alloc (Nat.le_refl _) _
  have HB := Lib.hid hbel
  clear hbel
  go_enter Tryd.func25, Tryd.ntmps25
  go_wp2
  go_loopw [] (fun w' => ∃ pos : Nat, pos ≤ t.size ∧ w' = w.iter t pos ∧ Hid (run Sc.isLD t = pos + ((t.data.toList.drop pos).takeWhile Sc.isLD).length)) (fun w' => t.size - w'.iterPos w.heap.size)
  case atStart => exact ⟨0, Nat.zero_le _, rfl, by show _ = _; unfold run; simp⟩
  case round =>
    obtain ⟨pos, hle, rfl, hst⟩ := hrel
    have hap := ha' pos
    by_cases hp : pos < t.size
    · by_cases hasc : (t[pos]'hp).toNat < 128
      · have hnx : ∀ ty, (Instr.next (.pointer (some ⟨w.heap.size, 0, none⟩)) true ty).run Tryd.prog (w.iter t pos) = _ := fun ty => run_next_ascii w t pos ty hp hasc
        have hap2 := ha' (pos + 1)
        rcases hq : Sc.isLD t[pos] with _ | _
        · have hstop := Lib.hid (Sc.tw_stop t pos Sc.isLD hp hq)
          rw [isLD_ldi] at hq
          go_wp2_with (first | (go_at_call 26; refine (len2_any _ _).mono ?_; rintro e w' ⟨rfl, rfl⟩))
          go_ret
          exact ⟨ret_int (by rw [hst.out, hstop.out]; rfl), HB.out _⟩
        · have hgo := Lib.hid (Sc.tw_step t pos Sc.isLD hp hq)
          rw [isLD_ldi] at hq
          go_wp2_with (first | (go_at_call 26; refine (len2_any _ _).mono ?_; rintro e w' ⟨rfl, rfl⟩))
          go_roundw
          case rel => exact ⟨pos + 1, by omega, rfl, by show _ = _; rw [hst.out, hgo.out]; omega⟩
          case measure => simp; omega
      · have hd := (decode_high t pos hp (by omega)).1
        have hw2 := (decode_high t pos hp (by omega)).2
        have hnx : ∀ ty, (Instr.next (.pointer (some ⟨w.heap.size, 0, none⟩)) true ty).run Tryd.prog (w.iter t pos) = _ := fun ty => run_next_any w t pos ty hp
        have hap2 := ha' (pos + (Utf8.decode t pos).2)
        have hq : isLDi (((Utf8.decode t pos).1 : Nat) : Int) = false := isLDi_high (by omega)
        have hq2 : Sc.isLD t[pos] = false := by rw [isLD_ldi]; exact isLDi_high (by omega)
        have hstop := Lib.hid (Sc.tw_stop t pos Sc.isLD hp hq2)
        clear hq2
        go_wp2_with (first | (go_at_call 26; refine (len2_any _ _).mono ?_; rintro e w' ⟨rfl, rfl⟩))
        go_ret
        exact ⟨ret_int (by rw [hst.out, hstop.out]; rfl), HB.out _⟩
    · have hnx : ∀ ty, (Instr.next (.pointer (some ⟨w.heap.size, 0, none⟩)) true ty).run Tryd.prog (w.iter t pos) = _ := fun ty => run_next_end w t pos ty hp
      have hend := Lib.hid (Sc.tw_end t pos Sc.isLD (by omega))
      go_wp2
      go_ret
      exact ⟨ret_int (by rw [hst.out, hend.out]; omega), HB.out _⟩
set_option maxHeartbeats 1000000 in
theorem run_d (t : ByteArray) (a : Addr) (w : World) (_ht : t.size ≤ 100000) (ha : w.cell? a = some (.string t)) : Calls Tryd.prog 25 #[.func (.func 19) #[] #[], .pointer (some a)] w fun e w' => e = .returned (.int .i64 (run Sc.isD t)) ∧ Below w.heap.size w w' := by
  have hal : a.block < w.heap.size := by
    rcases Nat.lt_or_ge a.block w.heap.size with h | h
    · exact h
    · simp [World.cell?, Array.getElem?_eq_none h] at ha
  have ha' : ∀ pos, (w.iter t pos).cell? a = some (.string t) := fun pos => (World.cell?_alloc_lt w _ a hal).trans ha
  have hbel : ∀ pos, Below w.heap.size w (w.iter t pos) := fun pos => (Below.refl _ _).alloc (Nat.le_refl _) _
  have HB := Lib.hid hbel
  clear hbel
  go_enter Tryd.func25, Tryd.ntmps25
  go_wp2
  go_loopw [] (fun w' => ∃ pos : Nat, pos ≤ t.size ∧ w' = w.iter t pos ∧ Hid (run Sc.isD t = pos + ((t.data.toList.drop pos).takeWhile Sc.isD).length)) (fun w' => t.size - w'.iterPos w.heap.size)
  case atStart => exact ⟨0, Nat.zero_le _, rfl, by show _ = _; unfold run; simp⟩
  case round =>
    obtain ⟨pos, hle, rfl, hst⟩ := hrel
    have hap := ha' pos
    by_cases hp : pos < t.size
    · by_cases hasc : (t[pos]'hp).toNat < 128
      · have hnx : ∀ ty, (Instr.next (.pointer (some ⟨w.heap.size, 0, none⟩)) true ty).run Tryd.prog (w.iter t pos) = _ := fun ty => run_next_ascii w t pos ty hp hasc
        have hap2 := ha' (pos + 1)
        rcases hq : Sc.isD t[pos] with _ | _
        · have hstop := Lib.hid (Sc.tw_stop t pos Sc.isD hp hq)
          rw [isD_di] at hq
          go_wp2_with (first | (go_at_call 19; refine (digit_any _ _).mono ?_; rintro e w' ⟨rfl, rfl⟩))
          go_ret
          exact ⟨ret_int (by rw [hst.out, hstop.out]; rfl), HB.out _⟩
        · have hgo := Lib.hid (Sc.tw_step t pos Sc.isD hp hq)
          rw [isD_di] at hq
          go_wp2_with (first | (go_at_call 19; refine (digit_any _ _).mono ?_; rintro e w' ⟨rfl, rfl⟩))
          go_roundw
          case rel => exact ⟨pos + 1, by omega, rfl, by show _ = _; rw [hst.out, hgo.out]; omega⟩
          case measure => simp; omega
      · have hd := (decode_high t pos hp (by omega)).1
        have hw2 := (decode_high t pos hp (by omega)).2
        have hnx : ∀ ty, (Instr.next (.pointer (some ⟨w.heap.size, 0, none⟩)) true ty).run Tryd.prog (w.iter t pos) = _ := fun ty => run_next_any w t pos ty hp
        have hap2 := ha' (pos + (Utf8.decode t pos).2)
        have hq : isDi (((Utf8.decode t pos).1 : Nat) : Int) = false := isDi_high (by omega)
        have hq2 : Sc.isD t[pos] = false := by rw [isD_di]; exact isDi_high (by omega)
        have hstop := Lib.hid (Sc.tw_stop t pos Sc.isD hp hq2)
        clear hq2
        go_wp2_with (first | (go_at_call 19; refine (digit_any _ _).mono ?_; rintro e w' ⟨rfl, rfl⟩))
        go_ret
        exact ⟨ret_int (by rw [hst.out, hstop.out]; rfl), HB.out _⟩
    · have hnx : ∀ ty, (Instr.next (.pointer (some ⟨w.heap.size, 0, none⟩)) true ty).run Tryd.prog (w.iter t pos) = _ := fun ty => run_next_end w t pos ty hp
      have hend := Lib.hid (Sc.tw_end t pos Sc.isD (by omega))
      go_wp2
      go_ret
      exact ⟨ret_int (by rw [hst.out, hend.out]; omega), HB.out _⟩

end Go.Proofs.YtneohanphabneaaDoor

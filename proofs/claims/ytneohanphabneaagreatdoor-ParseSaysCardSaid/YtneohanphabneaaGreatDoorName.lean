/-
  What is a name, on both sides.
-/
import Derived.Test.YtneohanphabneaaGreatDoorMP1
import Derived.Test.YtneohanphabneaaGreatDoorMScan
namespace Go.Proofs.YtneohanphabneaaGreatDoor
open Go.RowKit

theorem isLi_high {r : Int} (h : 128 ≤ r) : isLi r = false := by
  unfold isLi
  rw [decide_eq_false (show ¬ r ≤ 122 by omega), decide_eq_false (show ¬ r ≤ 90 by omega)]; simp
set_option maxRecDepth 100000 in
set_option maxHeartbeats 2000000 in
/-- The program's test of letters, behind the three ahead of it. -/
theorem sname_any (s : ByteArray) (w : World) (_hs : s.size ≤ 100000) : Calls Tryz.prog 70 #[.string s] w fun e w' => e = .returned (.bool (Ps.isName s)) ∧ Below w.heap.size w w' := by
  have he := bytes_beq s ⟨#[]⟩
  unfold Ps.isName
  by_cases h0 : s = ⟨#[]⟩
  · have hE : s.toList.isEmpty = true := by rw [h0, Lib.toList_data]; rfl
    rw [decide_eq_true h0]
    clear he h0
    go_enter Tryz.func70, Tryz.ntmps70
    go_wp2_with fail
    go_ret
    exact ⟨rfl, Below.refl _ _⟩
  · have hp := Ps.size_pos h0
    have hE : s.toList.isEmpty = false := by
      rw [Bool.eq_false_iff]
      intro h
      rw [List.isEmpty_iff, Lib.toList_data] at h
      have := Sc.len_size s
      rw [h] at this
      simp at this; omega
    rw [decide_eq_false h0]
    clear he h0
    by_cases hl : 12 < s.size
    · rw [decide_eq_false (show ¬ s.size ≤ 12 by omega)]
      go_enter Tryz.func70, Tryz.ntmps70
      go_wp2_with fail
      go_ret
      exact ⟨rfl, Below.refl _ _⟩
    · rw [decide_eq_true (show s.size ≤ 12 by omega)]
      go_enter Tryz.func70, Tryz.ntmps70
      go_wp2_with fail
      refine (kept_any s w).mono ?_
      rintro e w1 ⟨rfl, hb⟩
      rcases hk : Ps.isKept s with _ | _
      · have hbel : ∀ pos, Below w.heap.size w (w1.iter s pos) := fun pos => hb.alloc hb.size _
        have HB := Lib.hid hbel
        clear hbel hb
        go_wp2_with fail
        go_loopw [] (fun w' => ∃ pos : Nat, pos ≤ s.size ∧ w' = w1.iter s pos ∧ (pos = 0 ∨ (1 ≤ pos ∧ Hid (Ps.lettered s = (s.data.toList.drop pos).all Sc.isLD)))) (fun w' => s.size - w'.iterPos w1.heap.size)
        case atStart => exact ⟨0, Nat.zero_le _, rfl, .inl rfl⟩
        case round =>
          obtain ⟨pos, hle, rfl, hst⟩ := hrel
          by_cases hp : pos < s.size
          · by_cases hasc : (s[pos]'hp).toNat < 128
            · have hnx : ∀ ty, (Instr.next (.pointer (some ⟨w1.heap.size, 0, none⟩)) true ty).run Tryz.prog (w1.iter s pos) = _ := fun ty => run_next_ascii w1 s pos ty hp hasc
              rcases hst with rfl | ⟨h1, hst⟩
              · rcases hq : Sc.isL s[0] with _ | _
                · have hno := Lib.hid (Ps.lettered_no s hp hq)
                  rw [isL_li] at hq
                  go_wp2_with (first | (go_at_call 49; refine (letter_any _ _).mono ?_; rintro e w' ⟨rfl, rfl⟩) | (go_at_call 50; refine (digit_any _ _).mono ?_; rintro e w' ⟨rfl, rfl⟩))
                  go_ret
                  exact ⟨ret_bool (by rw [hno.out]; simp), HB.out _⟩
                · have hno := Lib.hid (Ps.lettered_yes s hp hq)
                  rw [isL_li] at hq
                  go_wp2_with (first | (go_at_call 49; refine (letter_any _ _).mono ?_; rintro e w' ⟨rfl, rfl⟩) | (go_at_call 50; refine (digit_any _ _).mono ?_; rintro e w' ⟨rfl, rfl⟩))
                  go_roundw
                  case rel => exact ⟨1, by omega, rfl, .inr ⟨by omega, hno.out⟩⟩
                  case measure => simp; omega
              · have hb0 : ((pos : Int) == 0) = false := beq_eq_false_iff_ne.2 (by omega)
                rcases hq : Sc.isLD s[pos] with _ | _
                · have hno := Lib.hid (Ps.all_no s pos hp hq)
                  unfold Sc.isLD at hq
                  rw [Bool.or_eq_false_iff, isL_li, isD_di] at hq
                  obtain ⟨q1, q2⟩ := hq
                  go_wp2_with (first | (go_at_call 49; refine (letter_any _ _).mono ?_; rintro e w' ⟨rfl, rfl⟩) | (go_at_call 50; refine (digit_any _ _).mono ?_; rintro e w' ⟨rfl, rfl⟩))
                  go_ret
                  exact ⟨ret_bool (by rw [hst.out, hno.out]; simp), HB.out _⟩
                · have hno := Lib.hid (Ps.all_yes s pos hp hq)
                  unfold Sc.isLD at hq
                  rw [isL_li, isD_di] at hq
                  rcases q1 : isLi (s[pos].toNat : Int) with _ | _
                  · rw [q1, Bool.false_or] at hq
                    go_wp2_with (first | (go_at_call 49; refine (letter_any _ _).mono ?_; rintro e w' ⟨rfl, rfl⟩) | (go_at_call 50; refine (digit_any _ _).mono ?_; rintro e w' ⟨rfl, rfl⟩))
                    go_roundw
                    case rel => exact ⟨pos + 1, by omega, rfl, .inr ⟨by omega, by show _ = _; rw [hst.out, hno.out]⟩⟩
                    case measure => simp; omega
                  · clear hq
                    go_wp2_with (first | (go_at_call 49; refine (letter_any _ _).mono ?_; rintro e w' ⟨rfl, rfl⟩) | (go_at_call 50; refine (digit_any _ _).mono ?_; rintro e w' ⟨rfl, rfl⟩))
                    go_roundw
                    case rel => exact ⟨pos + 1, by omega, rfl, .inr ⟨by omega, by show _ = _; rw [hst.out, hno.out]⟩⟩
                    case measure => simp; omega
            · have hd := (decode_high s pos hp (by omega)).1
              have hw2 := (decode_high s pos hp (by omega)).2
              have hnx : ∀ ty, (Instr.next (.pointer (some ⟨w1.heap.size, 0, none⟩)) true ty).run Tryz.prog (w1.iter s pos) = _ := fun ty => run_next_any w1 s pos ty hp
              have q1 : isLi (((Utf8.decode s pos).1 : Nat) : Int) = false := isLi_high (by omega)
              have q2 : isDi (((Utf8.decode s pos).1 : Nat) : Int) = false := isDi_high (by omega)
              have hq2 : Sc.isLD s[pos] = false := by rw [isLD_ldi]; exact isLDi_high (by omega)
              have hno : Hid (Ps.lettered s = false) := by
                rcases hst with rfl | ⟨h1, hst⟩
                · unfold Sc.isLD at hq2
                  rw [Bool.or_eq_false_iff] at hq2
                  exact Ps.lettered_no s hp hq2.1
                · show _ = _
                  rw [hst.out]; exact Ps.all_no s pos hp hq2
              clear hq2 hst
              rcases hb0 : ((pos : Int) == 0) with _ | _
              · go_wp2_with (first | (go_at_call 49; refine (letter_any _ _).mono ?_; rintro e w' ⟨rfl, rfl⟩) | (go_at_call 50; refine (digit_any _ _).mono ?_; rintro e w' ⟨rfl, rfl⟩))
                go_ret
                exact ⟨ret_bool (by rw [hno.out]; simp), HB.out _⟩
              · go_wp2_with (first | (go_at_call 49; refine (letter_any _ _).mono ?_; rintro e w' ⟨rfl, rfl⟩) | (go_at_call 50; refine (digit_any _ _).mono ?_; rintro e w' ⟨rfl, rfl⟩))
                go_ret
                exact ⟨ret_bool (by rw [hno.out]; simp), HB.out _⟩
          · have hnx : ∀ ty, (Instr.next (.pointer (some ⟨w1.heap.size, 0, none⟩)) true ty).run Tryz.prog (w1.iter s pos) = _ := fun ty => run_next_end w1 s pos ty hp
            have hend : Hid (Ps.lettered s = true) := by
              rcases hst with rfl | ⟨h1, hst⟩
              · omega
              · show _ = _
                rw [hst.out]; exact Ps.all_end s pos (by omega)
            clear hst
            go_wp2
            go_ret
            exact ⟨ret_bool (by rw [hend.out, hk]; rfl), HB.out _⟩
      · go_wp2_with fail
        go_ret
        exact ⟨ret_bool (by rw [hk]; rfl), hb⟩
end Go.Proofs.YtneohanphabneaaGreatDoor

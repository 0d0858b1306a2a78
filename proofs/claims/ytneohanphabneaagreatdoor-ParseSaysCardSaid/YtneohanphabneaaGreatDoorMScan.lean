/-
  Contracts of the program's small functions of words: fits, comment, skip.
-/
import Derived.Test.YtneohanphabneaaGreatDoorRef
import Derived.Test.YtneohanphabneaaGreatDoorMFn
import Derived.Test.YtneohanphabneaaGreatDoorShelf
import Derived.Laws.RangeAny
namespace Go.Proofs.YtneohanphabneaaGreatDoor
open Go.RowKit

theorem trim_any (s : ByteArray) (w : World) : Calls Tryz.prog 112 #[.string s, .string ⟨#[48]⟩] w fun e w' => e = .returned (.string (Sc.bareB s)) ∧ w = w' := by
  refine (Tryz.strings_TrimLeft_one s 48 (by decide) w).mono ?_
  rintro e w' ⟨rfl, rfl⟩
  refine ⟨?_, rfl⟩
  unfold Sc.bareB Lib.trimLeftB
  rw [Sc.dropWhile_bare]
theorem hp_any (s : ByteArray) (j : Nat) (a b : UInt8) (w : World) : Calls Tryz.prog 106 #[.string (s.extract j s.size), .string ⟨#[a, b]⟩] w fun e w' => e = .returned (.bool (Sc.at2 s j a b)) ∧ w = w' := by
  refine (Tryz.strings_HasPrefix _ _ w).mono ?_
  rintro e w' ⟨rfl, rfl⟩
  exact ⟨ret_bool (Sc.at2_prefix s j a b), rfl⟩

theorem not_big (s : ByteArray) : (!Sc.bigB s) = (decide ((Sc.bareB s).size < 10) || ((Sc.bareB s).size == 10 && (Op.bytesLess (Sc.bareB s).toList Sc.maxNum || (Sc.bareB s).toList == Sc.maxNum))) := by
  rw [Sc.bareB_size, Lib.toList_data]
  unfold Sc.bigB Sc.isBig Sc.over
  show _ = (decide (_ < 10) || (_ && (Op.bytesLess (Sc.bare s.data.toList) Sc.maxNum || Sc.bare s.data.toList == Sc.maxNum)))
  by_cases h1 : (Sc.bare s.data.toList).length < 10
  · rw [decide_eq_false (show ¬ 10 < (Sc.bare s.data.toList).length by omega), beq_eq_false_iff_ne.2 (show ¬ (Sc.bare s.data.toList).length = 10 by omega), decide_eq_true h1]; rfl
  · by_cases h2 : (Sc.bare s.data.toList).length = 10
    · rw [h2]; simp
    · rw [decide_eq_true (show 10 < (Sc.bare s.data.toList).length by omega), beq_eq_false_iff_ne.2 h2, decide_eq_false h1]; rfl
theorem fits_any (s : ByteArray) (w : World) (hs : s.size ≤ 100000) : Calls Tryz.prog 51 #[.string s] w fun e w' => e = .returned (.bool (!Sc.bigB s)) ∧ w = w' := by
  have HH := Lib.hid (not_big s)
  have hz : (Sc.bareB s).size ≤ 9223372036854775807 := by
    rw [Sc.bareB_size, ← Sc.dropWhile_bare]
    have := (List.dropWhile_sublist (fun x : UInt8 => x == 48) (l := s.data.toList)).length_le
    rw [Sc.len_size] at this
    omega
  have C := Lib.hid (trim_any s w)
  generalize Sc.bareB s = t at HH hz C
  by_cases h1 : t.size < 10
  · go_enter Tryz.func51, Tryz.ntmps51
    go_wp2_with (first | (go_at_call 112; refine C.out.mono ?_; rintro e w' ⟨rfl, rfl⟩))
    go_ret
    exact ⟨ret_bool (by rw [HH.out, decide_eq_true h1]; rfl), rfl⟩
  · by_cases h2 : t.size = 10
    · have hb : ((t.size : Int) == 10) = true := by rw [h2]; rfl
      have H2 := Lib.hid h2
      clear h2
      go_enter Tryz.func51, Tryz.ntmps51
      go_wp2_with (first | (go_at_call 112; refine C.out.mono ?_; rintro e w' ⟨rfl, rfl⟩))
      go_ret
      exact ⟨ret_bool (by rw [HH.out, decide_eq_false h1, H2.out]; unfold Sc.maxNum; simp), rfl⟩
    · have hb : ((t.size : Int) == 10) = false := beq_eq_false_iff_ne.2 (by omega)
      have H2 := Lib.hid h2
      clear h2
      go_enter Tryz.func51, Tryz.ntmps51
      go_wp2_with (first | (go_at_call 112; refine C.out.mono ?_; rintro e w' ⟨rfl, rfl⟩))
      go_ret
      exact ⟨ret_bool (by rw [HH.out, decide_eq_false h1, beq_eq_false_iff_ne.2 H2.out, decide_eq_false (by omega)]; rfl), rfl⟩
set_option maxRecDepth 100000 in
set_option maxHeartbeats 1000000 in
theorem comment_any (s : ByteArray) (k : Nat) (w : World) (hs : s.size ≤ 100000) (h0 : Sc.at2 s k 40 42 = true) : Calls Tryz.prog 107 #[.string s, .int .i64 k] w fun e w' =>
    e = .returned (.int .i64 (cmtEnd (Sc.cmtAt s k))) ∧ w = w' := by
  have hk := Sc.at2_room h0
  go_enter Tryz.func107, Tryz.ntmps107
  go_wp2
  go_loop [1, 5] (fun j d => ∃ p n : Nat, n ≤ p ∧ p ≤ s.size ∧ j = .int .i64 p ∧ d = .int .i64 n ∧ ((p = k ∧ n = 0) ∨ (1 ≤ n ∧ Hid (Sc.cmtAt s k = Sc.cmt (s.data.toList.drop p) n p)))) (fun j _ => s.size - (intOf j).toNat)
  case atStart => exact ⟨k, 0, by omega, by omega, rfl, rfl, .inl ⟨rfl, rfl⟩⟩
  case round =>
    obtain ⟨p, n, hn, hp, rfl, rfl, hst⟩ := hrel
    rcases hst with ⟨rfl, rfl⟩ | ⟨hn1, hst⟩
    · have hlt : p < s.size := by omega
      go_wp2_with (first | (go_at_call 106; refine (hp_any s p 40 42 _).mono ?_; rintro e w' ⟨rfl, rfl⟩))
      go_round
      case rel => exact ⟨p + 2, 1, by omega, by omega, by go_num, rfl, .inr ⟨by omega, rfl⟩⟩
      case measure => simp [intOf]; omega
    · by_cases hlt : p < s.size
      · rcases h1 : Sc.at2 s p 40 42 with _ | _
        · rcases h2 : Sc.at2 s p 42 41 with _ | _
          · have HS := Lib.hid (Sc.cmt_at2_none (n := n) hlt h1 h2)
            go_wp2_with (first | (go_at_call 106; first | (refine (hp_any s p 40 42 _).mono ?_; rintro e w' ⟨rfl, rfl⟩) | (refine (hp_any s p 42 41 _).mono ?_; rintro e w' ⟨rfl, rfl⟩)))
            go_round
            case rel => exact ⟨p + 1, n, by omega, by omega, by go_num, rfl, .inr ⟨hn1, by show _ = _; rw [hst.out, HS.out]⟩⟩
            case measure => simp [intOf]; omega
          · have HS := Lib.hid (Sc.cmt_at2_shut (n := n) h1 h2)
            have hr := Sc.at2_room h2
            by_cases hn2 : n = 1
            · have hb : ((n : Int) - 1 == 0) = true := by rw [hn2]; rfl
              have HN := Lib.hid hn2
              clear hn2
              go_wp2_with (first | (go_at_call 106; first | (refine (hp_any s p 40 42 _).mono ?_; rintro e w' ⟨rfl, rfl⟩) | (refine (hp_any s p 42 41 _).mono ?_; rintro e w' ⟨rfl, rfl⟩)))
              go_ret
              exact ⟨ret_int (by rw [hst.out, HS.out, if_pos HN.out]; show _ = ((p + 2 : Nat) : Int); omega), rfl⟩
            · have hb : ((n : Int) - 1 == 0) = false := beq_eq_false_iff_ne.2 (by omega)
              have HN := Lib.hid hn2
              clear hn2
              go_wp2_with (first | (go_at_call 106; first | (refine (hp_any s p 40 42 _).mono ?_; rintro e w' ⟨rfl, rfl⟩) | (refine (hp_any s p 42 41 _).mono ?_; rintro e w' ⟨rfl, rfl⟩)))
              go_round
              case rel => exact ⟨p + 2, n - 1, by omega, by omega, by go_num, by have := HN.out; go_num, .inr ⟨by have := HN.out; omega, by show _ = _; rw [hst.out, HS.out, if_neg HN.out]⟩⟩
              case measure => simp [intOf]; omega
        · have HS := Lib.hid (Sc.cmt_at2_open (n := n) h1)
          have hr := Sc.at2_room h1
          go_wp2_with (first | (go_at_call 106; first | (refine (hp_any s p 40 42 _).mono ?_; rintro e w' ⟨rfl, rfl⟩) | (refine (hp_any s p 42 41 _).mono ?_; rintro e w' ⟨rfl, rfl⟩)))
          go_round
          case rel => exact ⟨p + 2, n + 1, by omega, by omega, by go_num, by go_num, .inr ⟨by omega, by show _ = _; rw [hst.out, HS.out]⟩⟩
          case measure => simp [intOf]; omega
      · go_wp2
        go_ret
        exact ⟨ret_int (by rw [hst.out, Sc.drop_end s p (by omega)]; rfl), rfl⟩
theorem comment_none (s : ByteArray) (k : Nat) (w : World) (hs : s.size ≤ 100000) (h0 : Sc.at2 s k 40 42 = true) (h : Sc.cmtAt s k = none) : Calls Tryz.prog 107 #[.string s, .int .i64 k] w fun e w' => e = .returned (.int .i64 (-1)) ∧ w = w' := by
  have c := comment_any s k w hs h0
  rw [h] at c
  exact c
theorem comment_some (s : ByteArray) (k n : Nat) (w : World) (hs : s.size ≤ 100000) (h0 : Sc.at2 s k 40 42 = true) (h : Sc.cmtAt s k = some n) : Calls Tryz.prog 107 #[.string s, .int .i64 k] w fun e w' => e = .returned (.int .i64 n) ∧ w = w' := by
  have c := comment_any s k w hs h0
  rw [h] at c
  exact c
theorem blank_yes (c : UInt8) (w : World) (h : Sc.isBlank c = true) : Calls Tryz.prog 105 #[.string ⟨#[32, 9, 13, 10]⟩, .int .u8 c.toNat] w fun e w' => (∃ n : Int, 0 ≤ n ∧ e = .returned (.int .i64 n)) ∧ w = w' := by
  refine (Tryz.strings_IndexByte _ _ w).mono ?_
  rintro e w' ⟨rfl, rfl⟩
  refine ⟨⟨_, ?_, rfl⟩, rfl⟩
  unfold Sc.isBlank at h
  simp only [Bool.or_eq_true, beq_iff_eq] at h
  rcases h with ((rfl | rfl) | rfl) | rfl <;> decide
theorem blank_no (c : UInt8) (w : World) (h : Sc.isBlank c = false) : Calls Tryz.prog 105 #[.string ⟨#[32, 9, 13, 10]⟩, .int .u8 c.toNat] w fun e w' => e = .returned (.int .i64 (-1)) ∧ w = w' := by
  refine (Tryz.strings_IndexByte _ _ w).mono ?_
  rintro e w' ⟨rfl, rfl⟩
  refine ⟨ret_int ?_, rfl⟩
  have hc : (c.toNat : Int).toNat.toUInt8 = c := by simp
  rw [hc]
  unfold Sc.isBlank at h
  simp only [Bool.or_eq_false_iff, beq_eq_false_iff_ne] at h
  have e1 : (32 == c) = false := beq_eq_false_iff_ne.2 (Ne.symm h.1.1.1)
  have e2 : (9 == c) = false := beq_eq_false_iff_ne.2 (Ne.symm h.1.1.2)
  have e3 : (13 == c) = false := beq_eq_false_iff_ne.2 (Ne.symm h.2)
  have e4 : (10 == c) = false := beq_eq_false_iff_ne.2 (Ne.symm h.1.2)
  show Lib.indexByte [32, 9, 13, 10] c = -1
  simp [Lib.indexByte, e1, e2, e3, e4]
/-- What the program's skip hands back. -/
def SkipOk (s : ByteArray) (k : Nat) (w : World) (e : Ending) (w' : World) : Prop :=
  (∃ n : Nat, k ≤ n ∧ n ≤ s.size ∧ e = .returned (.tuple #[.int .i64 n, .nilIface]) ∧ (∀ acc, Sc.scan (s.data.toList.drop k) k acc = Sc.scan (s.data.toList.drop n) n acc) ∧ (n < s.size → Sc.gap (s.data.toList.drop n) = none) ∧ w = w') ∨
  (∃ p : Nat, p ≤ s.size ∧ e = .returned (.tuple #[.int .i64 0, .iface 58 (.pointer (some ⟨w.heap.size, 0, none⟩))]) ∧ (∀ acc, Sc.scan (s.data.toList.drop k) k acc = .bad 2 p) ∧ w' = w.alloc (.cells #[.int .i64 0, .int .i64 p, .iface 26 (.int .i64 2)] 81))
set_option maxRecDepth 100000 in
set_option maxHeartbeats 1000000 in
theorem skip_any (s : ByteArray) (k : Nat) (w : World) (hs : s.size ≤ 100000) (hk : k ≤ s.size) : Calls Tryz.prog 47 #[.string s, .int .i64 k] w fun e w' => SkipOk s k w e w' := by
  go_enter Tryz.func47, Tryz.ntmps47
  go_wp2
  go_loop [1] (fun j => ∃ p : Nat, k ≤ p ∧ p ≤ s.size ∧ j = .int .i64 p ∧ Hid (∀ acc, Sc.scan (s.data.toList.drop k) k acc = Sc.scan (s.data.toList.drop p) p acc)) (fun j => s.size - (intOf j).toNat)
  case atStart => exact ⟨k, by omega, by omega, rfl, fun _ => rfl⟩
  case round =>
    obtain ⟨p, hp1, hp2, rfl, hst⟩ := hrel
    by_cases hlt : p < s.size
    · rcases hbl : Sc.isBlank s[p] with _ | _
      · have C1 := Lib.hid (blank_no s[p] w hbl)
        rcases h2 : Sc.at2 s p 40 42 with _ | _
        · have hg : Hid (Sc.gap (s.data.toList.drop p) = none) := Sc.gap_none s p hlt hbl (fun x => of_decide_eq_false h2 (by obtain ⟨x1, h, x2⟩ := x; exact ⟨h, x1, x2⟩))
          clear hbl
          go_wp2_with (first | (go_at_call 105; refine C1.out.mono ?_; rintro e w' ⟨rfl, rfl⟩) | (go_at_call 106; refine (hp_any s p 40 42 _).mono ?_; rintro e w' ⟨rfl, rfl⟩))
          go_ret2
          exact .inl ⟨p, hp1, hp2, rfl, hst.out, fun _ => hg.out, rfl⟩
        · have hr := Sc.at2_room h2
          have h40 := Lib.hid (of_decide_eq_true h2)
          rcases hc : Sc.cmtAt s p with _ | n
          · have C2 := Lib.hid (comment_none s p w hs h2 hc)
            have hstep : Hid (∀ acc, Sc.scan (s.data.toList.drop p) p acc = .bad 2 p) := fun acc => by
              obtain ⟨x0, x1, x2⟩ := h40.out
              exact Sc.scan_open s p acc x0 hbl x1 x2 hc
            clear hbl hc h40
            go_wp2_with (first | (go_at_call 105; refine C1.out.mono ?_; rintro e w' ⟨rfl, rfl⟩) | (go_at_call 106; refine (hp_any s p 40 42 _).mono ?_; rintro e w' ⟨rfl, rfl⟩) | (go_at_call 107; refine C2.out.mono ?_; rintro e w' ⟨rfl, rfl⟩))
            go_ret2
            exact .inr ⟨p, hp2, rfl, fun acc => (hst.out acc).trans (hstep.out acc), rfl⟩
          · obtain ⟨hn1, hn2⟩ := Sc.cmtAt_le (by omega) hc
            have C2 := Lib.hid (comment_some s p n w hs h2 hc)
            have hstep : Hid (∀ acc, Sc.scan (s.data.toList.drop p) p acc = Sc.scan (s.data.toList.drop n) n acc) := fun acc => by
              obtain ⟨x0, x1, x2⟩ := h40.out
              exact Sc.scan_comment s p acc x0 hbl x1 x2 hc
            clear hbl hc h40
            go_wp2_with (first | (go_at_call 105; refine C1.out.mono ?_; rintro e w' ⟨rfl, rfl⟩) | (go_at_call 106; refine (hp_any s p 40 42 _).mono ?_; rintro e w' ⟨rfl, rfl⟩) | (go_at_call 107; refine C2.out.mono ?_; rintro e w' ⟨rfl, rfl⟩))
            go_round
            case rel => exact ⟨n, by omega, by omega, by go_num, fun acc => (hst.out acc).trans (hstep.out acc)⟩
            case measure => simp [intOf]; omega
      · have C1 := Lib.hid (blank_yes s[p] w hbl)
        have hstep : Hid (∀ acc, Sc.scan (s.data.toList.drop p) p acc = Sc.scan (s.data.toList.drop (p + 1)) (p + 1) acc) := fun acc => Sc.scan_blank s p acc hlt hbl
        clear hbl
        go_wp2_with (first | (go_at_call 105; refine C1.out.mono ?_; rintro e w' ⟨⟨n, hn, rfl⟩, rfl⟩))
        go_round
        case rel => exact ⟨p + 1, by omega, by omega, by go_num, fun acc => (hst.out acc).trans (hstep.out acc)⟩
        case measure => simp [intOf]; omega
    · go_wp2
      go_ret2
      exact .inl ⟨p, hp1, hp2, rfl, hst.out, fun h => absurd h hlt, rfl⟩
end Go.Proofs.YtneohanphabneaaGreatDoor
/-
  The program's length of the word at the front of a text: closures and a range over a string.
-/
namespace Go.Proofs.YtneohanphabneaaGreatDoor
open Go.RowKit

def isLDi (r : Int) : Bool := isLi r || isDi r
theorem isLD_ldi (c : UInt8) : Sc.isLD c = isLDi c.toNat := by unfold Sc.isLD isLDi; rw [isL_li, isD_di]
theorem isLDi_high {r : Int} (h : 128 ≤ r) : isLDi r = false := by
  unfold isLDi isLi isDi
  rw [decide_eq_false (show ¬ r ≤ 122 by omega), decide_eq_false (show ¬ r ≤ 90 by omega), decide_eq_false (show ¬ r ≤ 57 by omega)]; simp
theorem isDi_high {r : Int} (h : 128 ≤ r) : isDi r = false := by
  unfold isDi
  rw [decide_eq_false (show ¬ r ≤ 57 by omega)]; simp
theorem len2_any (r : Int) (w : World) : Calls Tryz.prog 109 #[.int .i32 r] w fun e w' => e = .returned (.bool (isLDi r)) ∧ w = w' := by
  unfold isLDi
  rcases h : isLi r with _ | _
  · go_enter Tryz.func109, Tryz.ntmps109
    go_wp2_with (first | (go_at_call 49; refine (letter_any _ _).mono ?_; rintro e w' ⟨rfl, rfl⟩) | (go_at_call 50; refine (digit_any _ _).mono ?_; rintro e w' ⟨rfl, rfl⟩))
    go_ret
    exact ⟨ret_bool rfl, rfl⟩
  · go_enter Tryz.func109, Tryz.ntmps109
    go_wp2_with (first | (go_at_call 49; refine (letter_any _ _).mono ?_; rintro e w' ⟨rfl, rfl⟩) | (go_at_call 50; refine (digit_any _ _).mono ?_; rintro e w' ⟨rfl, rfl⟩))
    go_ret
    exact ⟨ret_bool rfl, rfl⟩
/-- How many bytes at the front of t have p. -/
def run (p : UInt8 → Bool) (t : ByteArray) : Nat := (t.data.toList.takeWhile p).length
set_option maxHeartbeats 1000000 in
theorem run_ld (t : ByteArray) (a : Addr) (w : World) (_ht : t.size ≤ 100000) (ha : w.cell? a = some (.string t)) : Calls Tryz.prog 108 #[.func (.func 109) #[] #[], .pointer (some a)] w fun e w' => e = .returned (.int .i64 (run Sc.isLD t)) ∧ Below w.heap.size w w' := by
  have hal : a.block < w.heap.size := by
    rcases Nat.lt_or_ge a.block w.heap.size with h | h
    · exact h
    · simp [World.cell?, Array.getElem?_eq_none h] at ha
  have ha' : ∀ pos, (w.iter t pos).cell? a = some (.string t) := fun pos => (World.cell?_alloc_lt w _ a hal).trans ha
  have hbel : ∀ pos, Below w.heap.size w (w.iter t pos) := fun pos => (Below.refl _ _).alloc (Nat.le_refl _) _
  have HB := Lib.hid hbel
  clear hbel
  go_enter Tryz.func108, Tryz.ntmps108
  go_wp2
  go_loopw [] (fun w' => ∃ pos : Nat, pos ≤ t.size ∧ w' = w.iter t pos ∧ Hid (run Sc.isLD t = pos + ((t.data.toList.drop pos).takeWhile Sc.isLD).length)) (fun w' => t.size - w'.iterPos w.heap.size)
  case atStart => exact ⟨0, Nat.zero_le _, rfl, by show _ = _; unfold run; simp⟩
  case round =>
    obtain ⟨pos, hle, rfl, hst⟩ := hrel
    have hap := ha' pos
    by_cases hp : pos < t.size
    · by_cases hasc : (t[pos]'hp).toNat < 128
      · have hnx : ∀ ty, (Instr.next (.pointer (some ⟨w.heap.size, 0, none⟩)) true ty).run Tryz.prog (w.iter t pos) = _ := fun ty => run_next_ascii w t pos ty hp hasc
        have hap2 := ha' (pos + 1)
        rcases hq : Sc.isLD t[pos] with _ | _
        · have hstop := Lib.hid (Sc.tw_stop t pos Sc.isLD hp hq)
          rw [isLD_ldi] at hq
          go_wp2_with (first | (go_at_call 109; refine (len2_any _ _).mono ?_; rintro e w' ⟨rfl, rfl⟩))
          go_ret
          exact ⟨ret_int (by rw [hst.out, hstop.out]; rfl), HB.out _⟩
        · have hgo := Lib.hid (Sc.tw_step t pos Sc.isLD hp hq)
          rw [isLD_ldi] at hq
          go_wp2_with (first | (go_at_call 109; refine (len2_any _ _).mono ?_; rintro e w' ⟨rfl, rfl⟩))
          go_roundw
          case rel => exact ⟨pos + 1, by omega, rfl, by show _ = _; rw [hst.out, hgo.out]; omega⟩
          case measure => simp; omega
      · have hd := (decode_high t pos hp (by omega)).1
        have hw2 := (decode_high t pos hp (by omega)).2
        have hnx : ∀ ty, (Instr.next (.pointer (some ⟨w.heap.size, 0, none⟩)) true ty).run Tryz.prog (w.iter t pos) = _ := fun ty => run_next_any w t pos ty hp
        have hap2 := ha' (pos + (Utf8.decode t pos).2)
        have hq : isLDi (((Utf8.decode t pos).1 : Nat) : Int) = false := isLDi_high (by omega)
        have hq2 : Sc.isLD t[pos] = false := by rw [isLD_ldi]; exact isLDi_high (by omega)
        have hstop := Lib.hid (Sc.tw_stop t pos Sc.isLD hp hq2)
        clear hq2
        go_wp2_with (first | (go_at_call 109; refine (len2_any _ _).mono ?_; rintro e w' ⟨rfl, rfl⟩))
        go_ret
        exact ⟨ret_int (by rw [hst.out, hstop.out]; rfl), HB.out _⟩
    · have hnx : ∀ ty, (Instr.next (.pointer (some ⟨w.heap.size, 0, none⟩)) true ty).run Tryz.prog (w.iter t pos) = _ := fun ty => run_next_end w t pos ty hp
      have hend := Lib.hid (Sc.tw_end t pos Sc.isLD (by omega))
      go_wp2
      go_ret
      exact ⟨ret_int (by rw [hst.out, hend.out]; omega), HB.out _⟩
set_option maxHeartbeats 1000000 in
theorem run_d (t : ByteArray) (a : Addr) (w : World) (_ht : t.size ≤ 100000) (ha : w.cell? a = some (.string t)) : Calls Tryz.prog 108 #[.func (.func 50) #[] #[], .pointer (some a)] w fun e w' => e = .returned (.int .i64 (run Sc.isD t)) ∧ Below w.heap.size w w' := by
  have hal : a.block < w.heap.size := by
    rcases Nat.lt_or_ge a.block w.heap.size with h | h
    · exact h
    · simp [World.cell?, Array.getElem?_eq_none h] at ha
  have ha' : ∀ pos, (w.iter t pos).cell? a = some (.string t) := fun pos => (World.cell?_alloc_lt w _ a hal).trans ha
  have hbel : ∀ pos, Below w.heap.size w (w.iter t pos) := fun pos => (Below.refl _ _).alloc (Nat.le_refl _) _
  have HB := Lib.hid hbel
  clear hbel
  go_enter Tryz.func108, Tryz.ntmps108
  go_wp2
  go_loopw [] (fun w' => ∃ pos : Nat, pos ≤ t.size ∧ w' = w.iter t pos ∧ Hid (run Sc.isD t = pos + ((t.data.toList.drop pos).takeWhile Sc.isD).length)) (fun w' => t.size - w'.iterPos w.heap.size)
  case atStart => exact ⟨0, Nat.zero_le _, rfl, by show _ = _; unfold run; simp⟩
  case round =>
    obtain ⟨pos, hle, rfl, hst⟩ := hrel
    have hap := ha' pos
    by_cases hp : pos < t.size
    · by_cases hasc : (t[pos]'hp).toNat < 128
      · have hnx : ∀ ty, (Instr.next (.pointer (some ⟨w.heap.size, 0, none⟩)) true ty).run Tryz.prog (w.iter t pos) = _ := fun ty => run_next_ascii w t pos ty hp hasc
        have hap2 := ha' (pos + 1)
        rcases hq : Sc.isD t[pos] with _ | _
        · have hstop := Lib.hid (Sc.tw_stop t pos Sc.isD hp hq)
          rw [isD_di] at hq
          go_wp2_with (first | (go_at_call 50; refine (digit_any _ _).mono ?_; rintro e w' ⟨rfl, rfl⟩))
          go_ret
          exact ⟨ret_int (by rw [hst.out, hstop.out]; rfl), HB.out _⟩
        · have hgo := Lib.hid (Sc.tw_step t pos Sc.isD hp hq)
          rw [isD_di] at hq
          go_wp2_with (first | (go_at_call 50; refine (digit_any _ _).mono ?_; rintro e w' ⟨rfl, rfl⟩))
          go_roundw
          case rel => exact ⟨pos + 1, by omega, rfl, by show _ = _; rw [hst.out, hgo.out]; omega⟩
          case measure => simp; omega
      · have hd := (decode_high t pos hp (by omega)).1
        have hw2 := (decode_high t pos hp (by omega)).2
        have hnx : ∀ ty, (Instr.next (.pointer (some ⟨w.heap.size, 0, none⟩)) true ty).run Tryz.prog (w.iter t pos) = _ := fun ty => run_next_any w t pos ty hp
        have hap2 := ha' (pos + (Utf8.decode t pos).2)
        have hq : isDi (((Utf8.decode t pos).1 : Nat) : Int) = false := isDi_high (by omega)
        have hq2 : Sc.isD t[pos] = false := by rw [isD_di]; exact isDi_high (by omega)
        have hstop := Lib.hid (Sc.tw_stop t pos Sc.isD hp hq2)
        clear hq2
        go_wp2_with (first | (go_at_call 50; refine (digit_any _ _).mono ?_; rintro e w' ⟨rfl, rfl⟩))
        go_ret
        exact ⟨ret_int (by rw [hst.out, hstop.out]; rfl), HB.out _⟩
    · have hnx : ∀ ty, (Instr.next (.pointer (some ⟨w.heap.size, 0, none⟩)) true ty).run Tryz.prog (w.iter t pos) = _ := fun ty => run_next_end w t pos ty hp
      have hend := Lib.hid (Sc.tw_end t pos Sc.isD (by omega))
      go_wp2
      go_ret
      exact ⟨ret_int (by rw [hst.out, hend.out]; omega), HB.out _⟩

end Go.Proofs.YtneohanphabneaaGreatDoor

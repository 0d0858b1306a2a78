/-
  Contracts of the program's small functions of words: fits, comment, skip.
-/
import Derived.Test.YtneohanphabneaaGreatDoorMFn
import Derived.Test.YtneohanphabneaaGreatDoorShelf
import Derived.Laws.RangeAny
import Derived.Lib.SmallJoins
namespace Go.Proofs.YtneohanphabneaaGreatDoor
set_option maxRecDepth 100000
set_option maxHeartbeats 1000000
open Go.RowKit
theorem trim_any (s : ByteArray) (w : World) : Calls Tryz.prog 112 #[.string s,.string ⟨#[48]⟩] w fun e w' => e = .returned (.string (Sc.bareB s)) ∧ w = w' := by
 refine (Tryz.strings_TrimLeft_one s 48 (by decide) w).mono ?_
 rintro e w' ⟨rfl,rfl⟩
 refine ⟨?_,rfl⟩
 unfold Sc.bareB Lib.trimLeftB
 rw [Sc.dropWhile_bare]
theorem hp_any (s : ByteArray) (j : Nat) (a b : UInt8) (w : World) : Calls Tryz.prog 106 #[.string (s.extract j s.size),.string ⟨#[a,b]⟩] w fun e w' => e = .returned (.bool (Sc.at2 s j a b)) ∧ w = w' := by
 refine (Tryz.strings_HasPrefix _ _ w).mono ?_
 rintro e w' ⟨rfl,rfl⟩
 exact ⟨ret_bool (Sc.at2_prefix s j a b),rfl⟩
theorem not_big (s : ByteArray) : (!Sc.bigB s) = (decide ((Sc.bareB s).size < 10) || ((Sc.bareB s).size == 10 && (Op.bytesLess (Sc.bareB s).toList Sc.maxNum || (Sc.bareB s).toList == Sc.maxNum))) := by
 rw [Sc.bareB_size,Lib.toList_data]
 unfold Sc.bigB Sc.isBig Sc.over
 show _ = (decide (_ < 10) || (_ && (Op.bytesLess (Sc.bare s.data.toList) Sc.maxNum || Sc.bare s.data.toList == Sc.maxNum)))
 by_cases h1 : (Sc.bare s.data.toList).length < 10
 ·rw [decide_eq_false (show ¬ 10 < (Sc.bare s.data.toList).length by omega),beq_eq_false_iff_ne.2 (show ¬ (Sc.bare s.data.toList).length = 10 by omega),decide_eq_true h1]; rfl
 ·by_cases h2 : (Sc.bare s.data.toList).length = 10
  ·rw [h2]; simp
  ·rw [decide_eq_true (show 10 < (Sc.bare s.data.toList).length by omega),beq_eq_false_iff_ne.2 h2,decide_eq_false h1]; rfl
theorem fits_any (s : ByteArray) (w : World) (hs : s.size ≤ 100000) : Calls Tryz.prog 51 #[.string s] w fun e w' => e = .returned (.bool (!Sc.bigB s)) ∧ w = w' := by
 have HH := Lib.hid (not_big s)
 have hz : (Sc.bareB s).size ≤ 9223372036854775807 := by
  rw [Sc.bareB_size,← Sc.dropWhile_bare]
  have := (List.dropWhile_sublist (fun x : UInt8 => x == 48) (l := s.data.toList)).length_le
  rw [Sc.len_size] at this
  omega
 have C := Lib.hid (trim_any s w)
 generalize Sc.bareB s = t at HH hz C
 by_cases h1 : t.size < 10
 ·go_enter Tryz.func51,Tryz.ntmps51
  go_wp2_with (first | (go_at_call 112; refine C.out.mono ?_; rintro e w' ⟨rfl,rfl⟩))
  go_ret
  exact ⟨ret_bool (by rw [HH.out,decide_eq_true h1]; rfl),rfl⟩
 ·by_cases h2 : t.size = 10
  ·have hb : ((t.size : Int) == 10) = true := by rw [h2]; rfl
   have H2 := Lib.hid h2
   clear h2
   go_enter Tryz.func51,Tryz.ntmps51
   go_wp2_with (first | (go_at_call 112; refine C.out.mono ?_; rintro e w' ⟨rfl,rfl⟩))
   go_ret
   exact ⟨ret_bool (by rw [HH.out,decide_eq_false h1,H2.out]; unfold Sc.maxNum; simp),rfl⟩
  ·have hb : ((t.size : Int) == 10) = false := beq_eq_false_iff_ne.2 (by omega)
   have H2 := Lib.hid h2
   clear h2
   go_enter Tryz.func51,Tryz.ntmps51
   go_wp2_with (first | (go_at_call 112; refine C.out.mono ?_; rintro e w' ⟨rfl,rfl⟩))
   go_ret
   exact ⟨ret_bool (by rw [HH.out,decide_eq_false h1,beq_eq_false_iff_ne.2 H2.out,decide_eq_false (by omega)]; rfl),rfl⟩
theorem comment_any (s : ByteArray) (k : Nat) (w : World) (hs : s.size ≤ 100000) (h0 : Sc.at2 s k 40 42 = true) : Calls Tryz.prog 107 #[.string s,.int .i64 k] w fun e w' =>
  e = .returned (.int .i64 (cmtEnd (Sc.cmtAt s k))) ∧ w = w' := by
 have hk := Sc.at2_room h0
 go_enter Tryz.func107,Tryz.ntmps107
 go_wp2
 go_loop [1,5] (fun j d => ∃ p n : Nat,n ≤ p ∧ p ≤ s.size ∧ j = .int .i64 p ∧ d = .int .i64 n ∧ ((p = k ∧ n = 0) ∨ (1 ≤ n ∧ Hid (Sc.cmtAt s k = Sc.cmt (s.data.toList.drop p) n p)))) (fun j _ => s.size - (intOf j).toNat)
 case atStart => exact ⟨k,0,by omega,by omega,rfl,rfl,.inl ⟨rfl,rfl⟩⟩
 case round =>
  obtain ⟨p,n,hn,hp,rfl,rfl,hst⟩ := hrel
  rcases hst with ⟨rfl,rfl⟩ | ⟨hn1,hst⟩
  ·have hlt : p < s.size := by omega
   go_wp2_with (first | (go_at_call 106; refine (hp_any s p 40 42 _).mono ?_; rintro e w' ⟨rfl,rfl⟩))
   go_round
   case rel => exact ⟨p + 2,1,by omega,by omega,by go_num,rfl,.inr ⟨by omega,rfl⟩⟩
   case measure => simp [intOf]; omega
  ·by_cases hlt : p < s.size
   ·rcases h1 : Sc.at2 s p 40 42 with _ | _
    ·rcases h2 : Sc.at2 s p 42 41 with _ | _
     ·have HS := Lib.hid (Sc.cmt_at2_none (n := n) hlt h1 h2)
      go_wp2_with (first | (go_at_call 106; first | (refine (hp_any s p 40 42 _).mono ?_; rintro e w' ⟨rfl,rfl⟩) | (refine (hp_any s p 42 41 _).mono ?_; rintro e w' ⟨rfl,rfl⟩)))
      go_round
      case rel => exact ⟨p + 1,n,by omega,by omega,by go_num,rfl,.inr ⟨hn1,by show _ = _; rw [hst.out,HS.out]⟩⟩
      case measure => simp [intOf]; omega
     ·have HS := Lib.hid (Sc.cmt_at2_shut (n := n) h1 h2)
      have hr := Sc.at2_room h2
      by_cases hn2 : n = 1
      ·have hb : ((n : Int) - 1 == 0) = true := by rw [hn2]; rfl
       have HN := Lib.hid hn2
       clear hn2
       go_wp2_with (first | (go_at_call 106; first | (refine (hp_any s p 40 42 _).mono ?_; rintro e w' ⟨rfl,rfl⟩) | (refine (hp_any s p 42 41 _).mono ?_; rintro e w' ⟨rfl,rfl⟩)))
       go_ret
       exact ⟨ret_int (by rw [hst.out,HS.out,if_pos HN.out]; show _ = ((p + 2 : Nat) : Int); omega),rfl⟩
      ·have hb : ((n : Int) - 1 == 0) = false := beq_eq_false_iff_ne.2 (by omega)
       have HN := Lib.hid hn2
       clear hn2
       go_wp2_with (first | (go_at_call 106; first | (refine (hp_any s p 40 42 _).mono ?_; rintro e w' ⟨rfl,rfl⟩) | (refine (hp_any s p 42 41 _).mono ?_; rintro e w' ⟨rfl,rfl⟩)))
       go_round
       case rel => exact ⟨p + 2,n - 1,by omega,by omega,by go_num,by have := HN.out; go_num,.inr ⟨by have := HN.out; omega,by show _ = _; rw [hst.out,HS.out,if_neg HN.out]⟩⟩
       case measure => simp [intOf]; omega
    ·have HS := Lib.hid (Sc.cmt_at2_open (n := n) h1)
     have hr := Sc.at2_room h1
     go_wp2_with (first | (go_at_call 106; first | (refine (hp_any s p 40 42 _).mono ?_; rintro e w' ⟨rfl,rfl⟩) | (refine (hp_any s p 42 41 _).mono ?_; rintro e w' ⟨rfl,rfl⟩)))
     go_round
     case rel => exact ⟨p + 2,n + 1,by omega,by omega,by go_num,by go_num,.inr ⟨by omega,by show _ = _; rw [hst.out,HS.out]⟩⟩
     case measure => simp [intOf]; omega
   ·go_wp2
    go_ret
    exact ⟨ret_int (by rw [hst.out,Sc.drop_end s p (by omega)]; rfl),rfl⟩
theorem comment_none (s : ByteArray) (k : Nat) (w : World) (hs : s.size ≤ 100000) (h0 : Sc.at2 s k 40 42 = true) (h : Sc.cmtAt s k = none) : Calls Tryz.prog 107 #[.string s,.int .i64 k] w fun e w' => e = .returned (.int .i64 (-1)) ∧ w = w' := by
 have c := comment_any s k w hs h0
 rw [h] at c
 exact c
theorem comment_some (s : ByteArray) (k n : Nat) (w : World) (hs : s.size ≤ 100000) (h0 : Sc.at2 s k 40 42 = true) (h : Sc.cmtAt s k = some n) : Calls Tryz.prog 107 #[.string s,.int .i64 k] w fun e w' => e = .returned (.int .i64 n) ∧ w = w' := by
 have c := comment_any s k w hs h0
 rw [h] at c
 exact c
theorem blank_yes (c : UInt8) (w : World) (h : Sc.isBlank c = true) : Calls Tryz.prog 105 #[.string ⟨#[32,9,13,10]⟩,.int .u8 c.toNat] w fun e w' => (∃ n : Int,0 ≤ n ∧ e = .returned (.int .i64 n)) ∧ w = w' := by
 refine (Tryz.strings_IndexByte _ _ w).mono ?_
 rintro e w' ⟨rfl,rfl⟩
 refine ⟨⟨_,?_,rfl⟩,rfl⟩
 unfold Sc.isBlank at h
 simp only [Bool.or_eq_true,beq_iff_eq] at h
 rcases h with ((rfl | rfl) | rfl) | rfl <;> decide
theorem blank_no (c : UInt8) (w : World) (h : Sc.isBlank c = false) : Calls Tryz.prog 105 #[.string ⟨#[32,9,13,10]⟩,.int .u8 c.toNat] w fun e w' => e = .returned (.int .i64 (-1)) ∧ w = w' := by
 refine (Tryz.strings_IndexByte _ _ w).mono ?_
 rintro e w' ⟨rfl,rfl⟩
 refine ⟨ret_int ?_,rfl⟩
 have hc : (c.toNat : Int).toNat.toUInt8 = c := by simp
 rw [hc]
 unfold Sc.isBlank at h
 simp only [Bool.or_eq_false_iff,beq_eq_false_iff_ne] at h
 have e1 : (32 == c) = false := beq_eq_false_iff_ne.2 (Ne.symm h.1.1.1)
 have e2 : (9 == c) = false := beq_eq_false_iff_ne.2 (Ne.symm h.1.1.2)
 have e3 : (13 == c) = false := beq_eq_false_iff_ne.2 (Ne.symm h.2)
 have e4 : (10 == c) = false := beq_eq_false_iff_ne.2 (Ne.symm h.1.2)
 show Lib.indexByte [32,9,13,10] c = -1
 simp [Lib.indexByte,e1,e2,e3,e4]
def SkipOk (s : ByteArray) (k : Nat) (w : World) (e : Ending) (w' : World) : Prop :=
 (∃ n : Nat,k ≤ n ∧ n ≤ s.size ∧ e = .returned (.tuple #[.int .i64 n,.nilIface]) ∧ (∀ acc,Sc.scan (s.data.toList.drop k) k acc = Sc.scan (s.data.toList.drop n) n acc) ∧ (n < s.size → Sc.gap (s.data.toList.drop n) = none) ∧ w = w') ∨
 (∃ p : Nat,p ≤ s.size ∧ e = .returned (.tuple #[.int .i64 0,.iface 58 (.pointer (some ⟨w.heap.size,0,none⟩))]) ∧ (∀ acc,Sc.scan (s.data.toList.drop k) k acc = .bad 2 p) ∧ w' = w.alloc (.cells #[.int .i64 0,.int .i64 p,.iface 26 (.int .i64 2)] 81))
theorem skip_any (s : ByteArray) (k : Nat) (w : World) (hs : s.size ≤ 100000) (hk : k ≤ s.size) : Calls Tryz.prog 47 #[.string s,.int .i64 k] w fun e w' => SkipOk s k w e w' := by
 go_enter Tryz.func47,Tryz.ntmps47
 go_wp2
 go_loop [1] (fun j => ∃ p : Nat,k ≤ p ∧ p ≤ s.size ∧ j = .int .i64 p ∧ Hid (∀ acc,Sc.scan (s.data.toList.drop k) k acc = Sc.scan (s.data.toList.drop p) p acc)) (fun j => s.size - (intOf j).toNat)
 case atStart => exact ⟨k,by omega,by omega,rfl,fun _ => rfl⟩
 case round =>
  obtain ⟨p,hp1,hp2,rfl,hst⟩ := hrel
  by_cases hlt : p < s.size
  ·rcases hbl : Sc.isBlank s[p] with _ | _
   ·have C1 := Lib.hid (blank_no s[p] w hbl)
    rcases h2 : Sc.at2 s p 40 42 with _ | _
    ·have hg : Hid (Sc.gap (s.data.toList.drop p) = none) := Sc.gap_none s p hlt hbl (fun x => of_decide_eq_false h2 (by obtain ⟨x1,h,x2⟩ := x; exact ⟨h,x1,x2⟩))
     clear hbl
     go_wp2_with (first | (go_at_call 105; refine C1.out.mono ?_; rintro e w' ⟨rfl,rfl⟩) | (go_at_call 106; refine (hp_any s p 40 42 _).mono ?_; rintro e w' ⟨rfl,rfl⟩))
     go_ret2
     exact .inl ⟨p,hp1,hp2,rfl,hst.out,fun _ => hg.out,rfl⟩
    ·have hr := Sc.at2_room h2
     have h40 := Lib.hid (of_decide_eq_true h2)
     rcases hc : Sc.cmtAt s p with _ | n
     ·have C2 := Lib.hid (comment_none s p w hs h2 hc)
      have hstep : Hid (∀ acc,Sc.scan (s.data.toList.drop p) p acc = .bad 2 p) := fun acc => by
       obtain ⟨x0,x1,x2⟩ := h40.out
       exact Sc.scan_open s p acc x0 hbl x1 x2 hc
      clear hbl hc h40
      go_wp2_with (first | (go_at_call 105; refine C1.out.mono ?_; rintro e w' ⟨rfl,rfl⟩) | (go_at_call 106; refine (hp_any s p 40 42 _).mono ?_; rintro e w' ⟨rfl,rfl⟩) | (go_at_call 107; refine C2.out.mono ?_; rintro e w' ⟨rfl,rfl⟩))
      go_ret2
      exact .inr ⟨p,hp2,rfl,fun acc => (hst.out acc).trans (hstep.out acc),rfl⟩
     ·obtain ⟨hn1,hn2⟩ := Sc.cmtAt_le (by omega) hc
      have C2 := Lib.hid (comment_some s p n w hs h2 hc)
      have hstep : Hid (∀ acc,Sc.scan (s.data.toList.drop p) p acc = Sc.scan (s.data.toList.drop n) n acc) := fun acc => by
       obtain ⟨x0,x1,x2⟩ := h40.out
       exact Sc.scan_comment s p acc x0 hbl x1 x2 hc
      clear hbl hc h40
      go_wp2_with (first | (go_at_call 105; refine C1.out.mono ?_; rintro e w' ⟨rfl,rfl⟩) | (go_at_call 106; refine (hp_any s p 40 42 _).mono ?_; rintro e w' ⟨rfl,rfl⟩) | (go_at_call 107; refine C2.out.mono ?_; rintro e w' ⟨rfl,rfl⟩))
      go_round
      case rel => exact ⟨n,by omega,by omega,by go_num,fun acc => (hst.out acc).trans (hstep.out acc)⟩
      case measure => simp [intOf]; omega
   ·have C1 := Lib.hid (blank_yes s[p] w hbl)
    have hstep : Hid (∀ acc,Sc.scan (s.data.toList.drop p) p acc = Sc.scan (s.data.toList.drop (p + 1)) (p + 1) acc) := fun acc => Sc.scan_blank s p acc hlt hbl
    clear hbl
    go_wp2_with (first | (go_at_call 105; refine C1.out.mono ?_; rintro e w' ⟨⟨n,hn,rfl⟩,rfl⟩))
    go_round
    case rel => exact ⟨p + 1,by omega,by omega,by go_num,fun acc => (hst.out acc).trans (hstep.out acc)⟩
    case measure => simp [intOf]; omega
  ·go_wp2
   go_ret2
   exact .inl ⟨p,hp1,hp2,rfl,hst.out,fun h => absurd h hlt,rfl⟩
set_option maxHeartbeats 1000000
open Go.RowKit
def isLDi (r : Int) : Bool := isLi r || isDi r
theorem isLD_ldi (c : UInt8) : Sc.isLD c = isLDi c.toNat := by unfold Sc.isLD isLDi; rw [isL_li,isD_di]
theorem isLDi_high {r : Int} (h : 128 ≤ r) : isLDi r = false := by
 unfold isLDi isLi isDi
 rw [decide_eq_false (show ¬ r ≤ 122 by omega),decide_eq_false (show ¬ r ≤ 90 by omega),decide_eq_false (show ¬ r ≤ 57 by omega)]; simp
theorem isDi_high {r : Int} (h : 128 ≤ r) : isDi r = false := by
 unfold isDi
 rw [decide_eq_false (show ¬ r ≤ 57 by omega)]; simp
theorem len2_any (r : Int) (w : World) : Calls Tryz.prog 109 #[.int .i32 r] w fun e w' => e = .returned (.bool (isLDi r)) ∧ w = w' := by
 unfold isLDi
 rcases h : isLi r with _ | _
 ·go_enter Tryz.func109,Tryz.ntmps109
  go_wp2_with (first | (go_at_call 49; refine (letter_any _ _).mono ?_; rintro e w' ⟨rfl,rfl⟩) | (go_at_call 50; refine (digit_any _ _).mono ?_; rintro e w' ⟨rfl,rfl⟩))
  go_ret
  exact ⟨ret_bool rfl,rfl⟩
 ·go_enter Tryz.func109,Tryz.ntmps109
  go_wp2_with (first | (go_at_call 49; refine (letter_any _ _).mono ?_; rintro e w' ⟨rfl,rfl⟩) | (go_at_call 50; refine (digit_any _ _).mono ?_; rintro e w' ⟨rfl,rfl⟩))
  go_ret
  exact ⟨ret_bool rfl,rfl⟩
def run (p : UInt8 → Bool) (t : ByteArray) : Nat := (t.data.toList.takeWhile p).length
theorem run_ld (t : ByteArray) (a : Addr) (w : World) (_ht : t.size ≤ 100000) (ha : w.cell? a = some (.string t)) : Calls Tryz.prog 108 #[.func (.func 109) #[] #[],.pointer (some a)] w fun e w' => e = .returned (.int .i64 (run Sc.isLD t)) ∧ Below w.heap.size w w' := by
 have hal : a.block < w.heap.size := by
  rcases Nat.lt_or_ge a.block w.heap.size with h | h
  ·exact h
  ·simp [World.cell?,Array.getElem?_eq_none h] at ha
 have ha' : ∀ pos,(w.iter t pos).cell? a = some (.string t) := fun pos => (World.cell?_alloc_lt w _ a hal).trans ha
 have hbel : ∀ pos,Below w.heap.size w (w.iter t pos) := fun pos => (Below.refl _ _).alloc (Nat.le_refl _) _
 have HB := Lib.hid hbel
 clear hbel
 go_enter Tryz.func108,Tryz.ntmps108
 go_wp2
 go_loopw [] (fun w' => ∃ pos : Nat,pos ≤ t.size ∧ w' = w.iter t pos ∧ Hid (run Sc.isLD t = pos + ((t.data.toList.drop pos).takeWhile Sc.isLD).length)) (fun w' => t.size - w'.iterPos w.heap.size)
 case atStart => exact ⟨0,Nat.zero_le _,rfl,by show _ = _; unfold run; simp⟩
 case round =>
  obtain ⟨pos,hle,rfl,hst⟩ := hrel
  have hap := ha' pos
  by_cases hp : pos < t.size
  ·by_cases hasc : (t[pos]'hp).toNat < 128
   ·have hnx : ∀ ty,(Instr.next (.pointer (some ⟨w.heap.size,0,none⟩)) true ty).run Tryz.prog (w.iter t pos) = _ := fun ty => run_next_ascii w t pos ty hp hasc
    have hap2 := ha' (pos + 1)
    rcases hq : Sc.isLD t[pos] with _ | _
    ·have hstop := Lib.hid (Sc.tw_stop t pos Sc.isLD hp hq)
     rw [isLD_ldi] at hq
     go_wp2_with (first | (go_at_call 109; refine (len2_any _ _).mono ?_; rintro e w' ⟨rfl,rfl⟩))
     go_ret
     exact ⟨ret_int (by rw [hst.out,hstop.out]; rfl),HB.out _⟩
    ·have hgo := Lib.hid (Sc.tw_step t pos Sc.isLD hp hq)
     rw [isLD_ldi] at hq
     go_wp2_with (first | (go_at_call 109; refine (len2_any _ _).mono ?_; rintro e w' ⟨rfl,rfl⟩))
     go_roundw
     case rel => exact ⟨pos + 1,by omega,rfl,by show _ = _; rw [hst.out,hgo.out]; omega⟩
     case measure => simp; omega
   ·have hd := (decode_high t pos hp (by omega)).1
    have hw2 := (decode_high t pos hp (by omega)).2
    have hnx : ∀ ty,(Instr.next (.pointer (some ⟨w.heap.size,0,none⟩)) true ty).run Tryz.prog (w.iter t pos) = _ := fun ty => run_next_any w t pos ty hp
    have hap2 := ha' (pos + (Utf8.decode t pos).2)
    have hq : isLDi (((Utf8.decode t pos).1 : Nat) : Int) = false := isLDi_high (by omega)
    have hq2 : Sc.isLD t[pos] = false := by rw [isLD_ldi]; exact isLDi_high (by omega)
    have hstop := Lib.hid (Sc.tw_stop t pos Sc.isLD hp hq2)
    clear hq2
    go_wp2_with (first | (go_at_call 109; refine (len2_any _ _).mono ?_; rintro e w' ⟨rfl,rfl⟩))
    go_ret
    exact ⟨ret_int (by rw [hst.out,hstop.out]; rfl),HB.out _⟩
  ·have hnx : ∀ ty,(Instr.next (.pointer (some ⟨w.heap.size,0,none⟩)) true ty).run Tryz.prog (w.iter t pos) = _ := fun ty => run_next_end w t pos ty hp
   have hend := Lib.hid (Sc.tw_end t pos Sc.isLD (by omega))
   go_wp2
   go_ret
   exact ⟨ret_int (by rw [hst.out,hend.out]; omega),HB.out _⟩
theorem run_d (t : ByteArray) (a : Addr) (w : World) (_ht : t.size ≤ 100000) (ha : w.cell? a = some (.string t)) : Calls Tryz.prog 108 #[.func (.func 50) #[] #[],.pointer (some a)] w fun e w' => e = .returned (.int .i64 (run Sc.isD t)) ∧ Below w.heap.size w w' := by
 have hal : a.block < w.heap.size := by
  rcases Nat.lt_or_ge a.block w.heap.size with h | h
  ·exact h
  ·simp [World.cell?,Array.getElem?_eq_none h] at ha
 have ha' : ∀ pos,(w.iter t pos).cell? a = some (.string t) := fun pos => (World.cell?_alloc_lt w _ a hal).trans ha
 have hbel : ∀ pos,Below w.heap.size w (w.iter t pos) := fun pos => (Below.refl _ _).alloc (Nat.le_refl _) _
 have HB := Lib.hid hbel
 clear hbel
 go_enter Tryz.func108,Tryz.ntmps108
 go_wp2
 go_loopw [] (fun w' => ∃ pos : Nat,pos ≤ t.size ∧ w' = w.iter t pos ∧ Hid (run Sc.isD t = pos + ((t.data.toList.drop pos).takeWhile Sc.isD).length)) (fun w' => t.size - w'.iterPos w.heap.size)
 case atStart => exact ⟨0,Nat.zero_le _,rfl,by show _ = _; unfold run; simp⟩
 case round =>
  obtain ⟨pos,hle,rfl,hst⟩ := hrel
  have hap := ha' pos
  by_cases hp : pos < t.size
  ·by_cases hasc : (t[pos]'hp).toNat < 128
   ·have hnx : ∀ ty,(Instr.next (.pointer (some ⟨w.heap.size,0,none⟩)) true ty).run Tryz.prog (w.iter t pos) = _ := fun ty => run_next_ascii w t pos ty hp hasc
    have hap2 := ha' (pos + 1)
    rcases hq : Sc.isD t[pos] with _ | _
    ·have hstop := Lib.hid (Sc.tw_stop t pos Sc.isD hp hq)
     rw [isD_di] at hq
     go_wp2_with (first | (go_at_call 50; refine (digit_any _ _).mono ?_; rintro e w' ⟨rfl,rfl⟩))
     go_ret
     exact ⟨ret_int (by rw [hst.out,hstop.out]; rfl),HB.out _⟩
    ·have hgo := Lib.hid (Sc.tw_step t pos Sc.isD hp hq)
     rw [isD_di] at hq
     go_wp2_with (first | (go_at_call 50; refine (digit_any _ _).mono ?_; rintro e w' ⟨rfl,rfl⟩))
     go_roundw
     case rel => exact ⟨pos + 1,by omega,rfl,by show _ = _; rw [hst.out,hgo.out]; omega⟩
     case measure => simp; omega
   ·have hd := (decode_high t pos hp (by omega)).1
    have hw2 := (decode_high t pos hp (by omega)).2
    have hnx : ∀ ty,(Instr.next (.pointer (some ⟨w.heap.size,0,none⟩)) true ty).run Tryz.prog (w.iter t pos) = _ := fun ty => run_next_any w t pos ty hp
    have hap2 := ha' (pos + (Utf8.decode t pos).2)
    have hq : isDi (((Utf8.decode t pos).1 : Nat) : Int) = false := isDi_high (by omega)
    have hq2 : Sc.isD t[pos] = false := by rw [isD_di]; exact isDi_high (by omega)
    have hstop := Lib.hid (Sc.tw_stop t pos Sc.isD hp hq2)
    clear hq2
    go_wp2_with (first | (go_at_call 50; refine (digit_any _ _).mono ?_; rintro e w' ⟨rfl,rfl⟩))
    go_ret
    exact ⟨ret_int (by rw [hst.out,hstop.out]; rfl),HB.out _⟩
  ·have hnx : ∀ ty,(Instr.next (.pointer (some ⟨w.heap.size,0,none⟩)) true ty).run Tryz.prog (w.iter t pos) = _ := fun ty => run_next_end w t pos ty hp
   have hend := Lib.hid (Sc.tw_end t pos Sc.isD (by omega))
   go_wp2
   go_ret
   exact ⟨ret_int (by rw [hst.out,hend.out]; omega),HB.out _⟩
set_option maxRecDepth 100000
set_option maxHeartbeats 2000000
open Go.RowKit
theorem isLi_high {r : Int} (h : 128 ≤ r) : isLi r = false := by
 unfold isLi
 rw [decide_eq_false (show ¬ r ≤ 122 by omega),decide_eq_false (show ¬ r ≤ 90 by omega)]; simp
theorem sname_any (s : ByteArray) (w : World) (_hs : s.size ≤ 100000) : Calls Tryz.prog 70 #[.string s] w fun e w' => e = .returned (.bool (Ps.isName s)) ∧ Below w.heap.size w w' := by
 have he := bytes_beq s ⟨#[]⟩
 unfold Ps.isName
 by_cases h0 : s = ⟨#[]⟩
 ·have hE : s.toList.isEmpty = true := by rw [h0,Lib.toList_data]; rfl
  rw [decide_eq_true h0]
  clear he h0
  go_enter Tryz.func70,Tryz.ntmps70
  go_wp2_with fail
  go_ret
  exact ⟨rfl,Below.refl _ _⟩
 ·have hp := Ps.size_pos h0
  have hE : s.toList.isEmpty = false := by
   rw [Bool.eq_false_iff]
   intro h
   rw [List.isEmpty_iff,Lib.toList_data] at h
   have := Sc.len_size s
   rw [h] at this
   simp at this; omega
  rw [decide_eq_false h0]
  clear he h0
  by_cases hl : 12 < s.size
  ·rw [decide_eq_false (show ¬ s.size ≤ 12 by omega)]
   go_enter Tryz.func70,Tryz.ntmps70
   go_wp2_with fail
   go_ret
   exact ⟨rfl,Below.refl _ _⟩
  ·rw [decide_eq_true (show s.size ≤ 12 by omega)]
   go_enter Tryz.func70,Tryz.ntmps70
   go_wp2_with fail
   refine (kept_any s w).mono ?_
   rintro e w1 ⟨rfl,hb⟩
   rcases hk : Ps.isKept s with _ | _
   ·have hbel : ∀ pos,Below w.heap.size w (w1.iter s pos) := fun pos => hb.alloc hb.size _
    have HB := Lib.hid hbel
    clear hbel hb
    go_wp2_with fail
    go_loopw [] (fun w' => ∃ pos : Nat,pos ≤ s.size ∧ w' = w1.iter s pos ∧ (pos = 0 ∨ (1 ≤ pos ∧ Hid (Ps.lettered s = (s.data.toList.drop pos).all Sc.isLD)))) (fun w' => s.size - w'.iterPos w1.heap.size)
    case atStart => exact ⟨0,Nat.zero_le _,rfl,.inl rfl⟩
    case round =>
     obtain ⟨pos,hle,rfl,hst⟩ := hrel
     by_cases hp : pos < s.size
     ·by_cases hasc : (s[pos]'hp).toNat < 128
      ·have hnx : ∀ ty,(Instr.next (.pointer (some ⟨w1.heap.size,0,none⟩)) true ty).run Tryz.prog (w1.iter s pos) = _ := fun ty => run_next_ascii w1 s pos ty hp hasc
       rcases hst with rfl | ⟨h1,hst⟩
       ·rcases hq : Sc.isL s[0] with _ | _
        ·have hno := Lib.hid (Ps.lettered_no s hp hq)
         rw [isL_li] at hq
         go_wp2_with (first | (go_at_call 49; refine (letter_any _ _).mono ?_; rintro e w' ⟨rfl,rfl⟩) | (go_at_call 50; refine (digit_any _ _).mono ?_; rintro e w' ⟨rfl,rfl⟩))
         go_ret
         exact ⟨ret_bool (by rw [hno.out]; simp),HB.out _⟩
        ·have hno := Lib.hid (Ps.lettered_yes s hp hq)
         rw [isL_li] at hq
         go_wp2_with (first | (go_at_call 49; refine (letter_any _ _).mono ?_; rintro e w' ⟨rfl,rfl⟩) | (go_at_call 50; refine (digit_any _ _).mono ?_; rintro e w' ⟨rfl,rfl⟩))
         go_roundw
         case rel => exact ⟨1,by omega,rfl,.inr ⟨by omega,hno.out⟩⟩
         case measure => simp; omega
       ·have hb0 : ((pos : Int) == 0) = false := beq_eq_false_iff_ne.2 (by omega)
        rcases hq : Sc.isLD s[pos] with _ | _
        ·have hno := Lib.hid (Ps.all_no s pos hp hq)
         unfold Sc.isLD at hq
         rw [Bool.or_eq_false_iff,isL_li,isD_di] at hq
         obtain ⟨q1,q2⟩ := hq
         go_wp2_with (first | (go_at_call 49; refine (letter_any _ _).mono ?_; rintro e w' ⟨rfl,rfl⟩) | (go_at_call 50; refine (digit_any _ _).mono ?_; rintro e w' ⟨rfl,rfl⟩))
         go_ret
         exact ⟨ret_bool (by rw [hst.out,hno.out]; simp),HB.out _⟩
        ·have hno := Lib.hid (Ps.all_yes s pos hp hq)
         unfold Sc.isLD at hq
         rw [isL_li,isD_di] at hq
         rcases q1 : isLi (s[pos].toNat : Int) with _ | _
         ·rw [q1,Bool.false_or] at hq
          go_wp2_with (first | (go_at_call 49; refine (letter_any _ _).mono ?_; rintro e w' ⟨rfl,rfl⟩) | (go_at_call 50; refine (digit_any _ _).mono ?_; rintro e w' ⟨rfl,rfl⟩))
          go_roundw
          case rel => exact ⟨pos + 1,by omega,rfl,.inr ⟨by omega,by show _ = _; rw [hst.out,hno.out]⟩⟩
          case measure => simp; omega
         ·clear hq
          go_wp2_with (first | (go_at_call 49; refine (letter_any _ _).mono ?_; rintro e w' ⟨rfl,rfl⟩) | (go_at_call 50; refine (digit_any _ _).mono ?_; rintro e w' ⟨rfl,rfl⟩))
          go_roundw
          case rel => exact ⟨pos + 1,by omega,rfl,.inr ⟨by omega,by show _ = _; rw [hst.out,hno.out]⟩⟩
          case measure => simp; omega
      ·have hd := (decode_high s pos hp (by omega)).1
       have hw2 := (decode_high s pos hp (by omega)).2
       have hnx : ∀ ty,(Instr.next (.pointer (some ⟨w1.heap.size,0,none⟩)) true ty).run Tryz.prog (w1.iter s pos) = _ := fun ty => run_next_any w1 s pos ty hp
       have q1 : isLi (((Utf8.decode s pos).1 : Nat) : Int) = false := isLi_high (by omega)
       have q2 : isDi (((Utf8.decode s pos).1 : Nat) : Int) = false := isDi_high (by omega)
       have hq2 : Sc.isLD s[pos] = false := by rw [isLD_ldi]; exact isLDi_high (by omega)
       have hno : Hid (Ps.lettered s = false) := by
        rcases hst with rfl | ⟨h1,hst⟩
        ·unfold Sc.isLD at hq2
         rw [Bool.or_eq_false_iff] at hq2
         exact Ps.lettered_no s hp hq2.1
        ·show _ = _
         rw [hst.out]; exact Ps.all_no s pos hp hq2
       clear hq2 hst
       rcases hb0 : ((pos : Int) == 0) with _ | _
       ·go_wp2_with (first | (go_at_call 49; refine (letter_any _ _).mono ?_; rintro e w' ⟨rfl,rfl⟩) | (go_at_call 50; refine (digit_any _ _).mono ?_; rintro e w' ⟨rfl,rfl⟩))
        go_ret
        exact ⟨ret_bool (by rw [hno.out]; simp),HB.out _⟩
       ·go_wp2_with (first | (go_at_call 49; refine (letter_any _ _).mono ?_; rintro e w' ⟨rfl,rfl⟩) | (go_at_call 50; refine (digit_any _ _).mono ?_; rintro e w' ⟨rfl,rfl⟩))
        go_ret
        exact ⟨ret_bool (by rw [hno.out]; simp),HB.out _⟩
     ·have hnx : ∀ ty,(Instr.next (.pointer (some ⟨w1.heap.size,0,none⟩)) true ty).run Tryz.prog (w1.iter s pos) = _ := fun ty => run_next_end w1 s pos ty hp
      have hend : Hid (Ps.lettered s = true) := by
       rcases hst with rfl | ⟨h1,hst⟩
       ·omega
       ·show _ = _
        rw [hst.out]; exact Ps.all_end s pos (by omega)
      clear hst
      go_wp2
      go_ret
      exact ⟨ret_bool (by rw [hend.out,hk]; rfl),HB.out _⟩
   ·go_wp2_with fail
    go_ret
    exact ⟨ret_bool (by rw [hk]; rfl),hb⟩
set_option maxHeartbeats 1000000
set_option maxRecDepth 100000
open Go.RowKit
theorem pname_any {w : World} {p T : Nat} {l : List Sc.Tok} {i d : Nat} (h : PS w p T l i d) : Calls Tryz.prog 54 #[pp p] w fun e w' =>
  PN p T l d (Ps.nameR l i) e w' ∧ Kp w.heap.size p w w' := by
 obtain ⟨c,hc,hb,⟨h1,h2⟩,⟨h3,h4⟩,h5,h6,h7,hlt⟩ := h.facts
 have hN := Lib.hid (sname_any (Ps.W l i) w (h.good i h.hi).1)
 unfold pp
 rcases hw : Ps.isName (Ps.W l i) with _ | _
 ·rw [Ps.name_no hw]
  rw [hw] at hN
  go_enter Tryz.func54,Tryz.ntmps54
  go_wp2_with fail
  refine hN.out.mono ?_
  rintro e w1 ⟨rfl,hb1⟩
  have hW := Lib.hid (pwant_any (h.below hb1))
  go_wp2_with fail
  refine hW.out.mono ?_
  rintro e w2 ⟨⟨g,rfl,hg⟩,hk⟩
  exact ⟨rfl,⟨g,rfl,hg⟩,(Kp.of_below hb1).trans (hk.mono hb1.size)⟩
 ·rw [Ps.name_yes hw]
  rw [hw] at hN
  go_enter Tryz.func54,Tryz.ntmps54
  go_wp2_with fail
  refine hN.out.mono ?_
  rintro e w1 ⟨rfl,hb1⟩
  have h' := h.below hb1
  obtain ⟨c',hc',hb',⟨h1',h2'⟩,⟨h3',h4'⟩,h5',h6',h7',hlt'⟩ := h'.facts
  have hi := Ps.isW_lt h.last h.hi (Ps.isW_self l i) (Ps.isName_ne hw)
  go_wp2_with fail
  go_ret
  exact ⟨⟨rfl,h'.next hi hc' hb'⟩,((Kp.of_below hb1).setCell (x := ⟨p,0,none⟩) (.inr rfl) _)⟩
theorem isD_first {s : ByteArray} (h : 0 < s.size) : Ps.isNum s = isDi (s[0].toNat : Int) := by
 rw [← isD_di]
 have e := Ps.drop_at s 0 h
 rw [List.drop_zero] at e
 unfold Ps.isNum; rw [e]
theorem pnumber_any {w : World} {p T : Nat} {l : List Sc.Tok} {i d : Nat} (h : PS w p T l i d) : Calls Tryz.prog 116 #[pp p] w fun e w' =>
  PI p T l d (Ps.number l i) e w' ∧ Kp w.heap.size p w w' := by
 obtain ⟨c,hc,hb,⟨h1,h2⟩,⟨h3,h4⟩,h5,h6,h7,hlt⟩ := h.facts
 have hW := Lib.hid (pwant_any h)
 unfold pp at *
 have hE := isW_empty l i
 by_cases h0 : Ps.W l i = ⟨#[]⟩
 ·rw [Ps.number_no (show Ps.isNum (Ps.W l i) = false by rw [h0]; rfl)]
  have hE2 : (Ps.W l i).toList.isEmpty = true := by rw [hE]; unfold Ps.isW; exact decide_eq_true h0
  clear h0 hE
  go_enter Tryz.func116,Tryz.ntmps116
  go_wp2_with fail
  refine hW.out.mono ?_
  rintro e w2 ⟨⟨g,rfl,hg⟩,hk⟩
  exact ⟨rfl,⟨g,rfl,hg⟩,hk⟩
 ·have hp := Ps.size_pos h0
  have hE2 : (Ps.W l i).toList.isEmpty = false := by rw [hE]; unfold Ps.isW; exact decide_eq_false h0
  have hI := isD_first hp
  have H0 := Lib.hid h0
  clear h0 hE
  rcases hw : Ps.isNum (Ps.W l i) with _ | _
  ·rw [Ps.number_no hw]
   rw [hw] at hI
   unfold isDi at hI
   rw [eq_comm,Bool.and_eq_false_iff,decide_eq_false_iff_not,decide_eq_false_iff_not] at hI
   rcases hI with hI | hI
   all_goals
    go_enter Tryz.func116,Tryz.ntmps116
    go_wp2_with fail
   all_goals
    refine hW.out.mono ?_
    rintro e w2 ⟨⟨g,rfl,hg⟩,hk⟩
    exact ⟨rfl,⟨g,rfl,hg⟩,hk⟩
  ·rw [Ps.number_yes hw]
   rw [hw] at hI
   unfold isDi at hI
   rw [eq_comm,Bool.and_eq_true,decide_eq_true_eq,decide_eq_true_eq] at hI
   obtain ⟨hI1,hI2⟩ := hI
   obtain ⟨g0,g1⟩ := h.good i h.hi
   have hi := Ps.isW_lt h.last h.hi (Ps.isW_self l i) H0.out
   have hA := Lib.hid (Ps.atoi_ok hw (g1 hw).1 (g1 hw).2)
   clear g1
   go_enter Tryz.func116,Tryz.ntmps116
   go_wp2_with fail
   refine (Tryz.strconv_Atoi_ok (Ps.W l i) (by omega) _ hA.out _).mono ?_
   rintro e w1 ⟨rfl,hw1⟩
   have hb1 : Below (w.setCell ⟨p,0,none⟩ (.slice (some ⟨T,2 * i + 2,none⟩) (l.length - i - 1) (c - 1))).heap.size (w.setCell ⟨p,0,none⟩ (.slice (some ⟨T,2 * i + 2,none⟩) (l.length - i - 1) (c - 1))) w1 := by
    rcases hw1 with rfl | ⟨t,rfl⟩
    ·exact Below.refl _ _
    ·exact Joins.below_bytesWorld _ _ _ _ (Nat.le_refl _)
   have hn := h.next hi hc hb
   clear hw1
   go_wp2_with fail
   go_ret
   refine ⟨⟨rfl,hn.below hb1⟩,((Kp.refl w.heap.size p w).setCell (x := ⟨p,0,none⟩) (.inr rfl) _).trans (.of_below (hb1.mono (by simp)))⟩
theorem levels_ne : ∀ ks ∈ Ps.levels,(∀ s ∈ ks,s ≠ ⟨#[]⟩) ∧ ks.length ≤ 6 := by decide
theorem opK_any {w : World} {p T : Nat} {l : List Sc.Tok} {i d : Nat} (h : PS w p T l i d) (k : Nat) (hk : k < 3) : Calls Tryz.prog 115 #[pp p,.int .i64 k] w fun e w' =>
  (Ps.isOp l k i = false → e = .returned (.string ⟨#[]⟩) ∧ w = w') ∧ (Ps.isOp l k i = true → e = .returned (.string (Ps.W l i)) ∧ Kp w.heap.size p w w' ∧ PS w' p T l (i + 1) d) := by
 obtain ⟨hg,b,o,c,hp,h1,h2⟩ := h.lv
 obtain ⟨b1,o1,c1,hp1,h3,h4⟩ := h2 k hk
 have hlt := h.lt
 obtain ⟨ks,hks⟩ : ∃ ks,Ps.levels[k]'hk = ks := ⟨_,rfl⟩
 have hop : Ps.isOp l k i = ks.any fun s => Ps.isW l i s := by
  unfold Ps.isOp; rw [List.getElem?_eq_getElem hk,hks]; rfl
 obtain ⟨hne,hsz⟩ := levels_ne ks (hks ▸ List.getElem_mem hk)
 rw [hks] at h3 h4
 rw [hop]
 obtain ⟨B,hB⟩ : ∃ B,B = ks.any fun s => Ps.isW l i s := ⟨_,rfl⟩
 rw [← hB]
 have HB := Lib.hid hB
 clear hB
 have H4 := Lib.hid h4
 have HN := Lib.hid hne
 clear h4 hne hop hks h2
 have hk0 : (0 : Int) ≤ (k : Int) := Int.natCast_nonneg _
 have hk1 : (k : Int) < 3 := by omega
 have hIs := Lib.hid (fun s => pis_any h s)
 unfold pp at *
 go_enter Tryz.func115,Tryz.ntmps115
 go_wp2_with fail
 go_loop [12] (fun v => ∃ j : Nat,j ≤ ks.length ∧ v = .int .i64 j ∧ Hid (B = (ks.drop j).any fun s => Ps.isW l i s)) (fun v => ks.length - (intOf v).toNat)
 case atStart => exact ⟨0,Nat.zero_le _,rfl,HB⟩
 case round =>
  obtain ⟨j,hj,rfl,hst⟩ := hrel
  by_cases hlt2 : j < ks.length
  ·have hcell := H4.out j hlt2
   have hdrop := Lib.hid (List.drop_eq_getElem_cons hlt2)
   obtain ⟨x,hx⟩ : ∃ x,ks[j] = x := ⟨_,rfl⟩
   rw [hx] at hcell hdrop
   have hxne := Lib.hid (HN.out x (hx ▸ List.getElem_mem hlt2))
   clear hx
   rcases hw : Ps.isW l i x with _ | _
   ·have hI := hIs.out x
    rw [hw] at hI
    have HI := Lib.hid hI
    clear hI
    go_wp2_with (go_at_call 24; refine HI.out.mono ?_; rintro e w' ⟨rfl,rfl⟩)
    go_round
    case rel => exact ⟨j + 1,by omega,by go_num,by show _ = _; rw [hst.out,hdrop.out,List.any_cons,hw,Bool.false_or]⟩
    case measure => simp [intOf]; omega
   ·have hI := hIs.out x
    rw [hw] at hI
    have HI := Lib.hid hI
    have HM := pmust_any h x hxne.out
    rw [Ps.must_yes hw] at HM
    have HM := Lib.hid HM
    have hxw : Hid (x = Ps.W l i) := by show _ = _; unfold Ps.isW at hw; exact (of_decide_eq_true hw).symm
    unfold pp at HM
    clear hI
    go_wp2_with (first | (go_at_call 24; refine HI.out.mono ?_; rintro e w' ⟨rfl,rfl⟩) | (go_at_call 53; refine HM.out.mono ?_; rintro e w1 ⟨⟨rfl,hps⟩,hkp⟩))
    go_ret
    refine ⟨fun hx => ?_,fun _ => ⟨congrArg (fun z => Ending.returned (Value.string z)) hxw.out,hkp,hps⟩⟩
    rw [hst.out,hdrop.out,List.any_cons,hw] at hx
    cases hx
  ·go_wp2_with fail
   go_ret
   refine ⟨fun _ => ⟨rfl,rfl⟩,fun hx => ?_⟩
   rw [hst.out,List.drop_of_length_le (by omega)] at hx
   cases hx
end Go.Proofs.YtneohanphabneaaGreatDoor

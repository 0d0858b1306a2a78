/-
  The program's Tokens: what it hands back is what the plain law says.
-/
import Derived.Test.YtneohanphabneaaGreatDoorMP19
import Derived.Recover
namespace Go.Proofs.YtneohanphabneaaGreatDoor
set_option maxRecDepth 100000
set_option maxHeartbeats 4000000
open Go.RowKit
def TokGives (B : Nat) (r : Sc.Res) (e : Ending) (w : World) : Prop := match r with
 | .limit => e = .returned (.tuple #[.slice none 0 0,.iface 26 (.int .i64 3)])
 | .bad n p => ∃ g,e = .returned (.tuple #[.slice none 0 0,.iface 58 (.pointer (some ⟨g,0,none⟩))]) ∧ Blk w g 81 #[.int .i64 0,.int .i64 p,.iface 26 (.int .i64 n)] ∧ B ≤ g
 | .ok l => ∃ v,e = .returned (.tuple #[v,.nilIface]) ∧ w.ownsRow B 87 2 v l.length (tokCells l)
theorem ext_at (s : ByteArray) (n : Nat) (h : n < s.size) : ∃ h' : 0 < (s.extract n s.size).size,(s.extract n s.size)[0] = s[n] := by
 have hz : (s.extract n s.size).size = s.size - n := by simp
 refine ⟨by omega,?_⟩
 simp [ByteArray.getElem_extract]
theorem ext_head (s : ByteArray) (n L : Nat) (hL : 1 ≤ L) (h : n + L ≤ s.size) : ∃ h' : 0 < (s.extract n (n + L)).size,(s.extract n (n + L))[0] = s[n] := by
 have hz : (s.extract n (n + L)).size = L := by simp; omega
 refine ⟨by omega,?_⟩
 simp [ByteArray.getElem_extract]
theorem tell_word (s : ByteArray) (n L : Nat) (h : n < s.size) (h' : 0 < (s.extract n s.size).size) (hL : lenOf (s.extract n s.size) h' = L) :
  (L = 0 → Sc.word (s.data.toList.drop n) = .inl 1) ∧ n + L ≤ s.size ∧
  (1 ≤ L → (Sc.isL s[n] = true → (12 < L → Sc.word (s.data.toList.drop n) = .inl 3) ∧ (¬ 12 < L → Sc.word (s.data.toList.drop n) = .inr L)) ∧
   (Sc.isL s[n] = false → Sc.isD s[n] = true → (Sc.bigB (s.extract n (n + L)) = true → Sc.word (s.data.toList.drop n) = .inl 3) ∧ (Sc.bigB (s.extract n (n + L)) = false → Sc.word (s.data.toList.drop n) = .inr L)) ∧
   (Sc.isL s[n] = false → Sc.isD s[n] = false → L ≤ 2 ∧ Sc.word (s.data.toList.drop n) = .inr L)) := by
 obtain ⟨_,h0⟩ := ext_at s n h
 have hz : (s.extract n s.size).size = s.size - n := by simp
 have hd : (s.extract n s.size).data.toList.drop 0 = s.data.toList.drop n := by rw [List.drop_zero,Lib.extract_to_end]
 have hx : ∀ j,(s.extract n s.size).extract 0 (0 + j) = s.extract n (n + j) ∨ s.size < n + j := by
  intro j
  by_cases hj : n + j ≤ s.size
  ·left
   rw [Lib.extract_eq,Lib.extract_eq s n (n + j),Lib.extract_to_end,List.drop_zero]
   rw [show 0 + j - 0 = j from by omega,show n + j - n = j from by omega]
  ·right; omega
 have htw : ∀ p : UInt8 → Bool,(((s.extract n s.size).data.toList.drop (0 + 1)).takeWhile p).length + 1 ≤ s.size - n := by
  intro p
  have h1 := (List.takeWhile_prefix p (l := (s.extract n s.size).data.toList.drop (0 + 1))).length_le
  rw [List.length_drop,Sc.len_size] at h1
  omega
 rw [← hd]
 rw [← h0]
 generalize s.extract n s.size = t at *
 unfold lenOf at hL
 rcases hl : Sc.isL t[0] with _ | _
 ·rcases hdg : Sc.isD t[0] with _ | _
  ·rcases hp : pairB t with _ | _
   ·rcases hs : Sc.isSign t[0] with _ | _
    ·rw [hl,hdg,hp,hs] at hL
     simp only [Bool.false_eq_true,if_false] at hL
     subst hL
     exact ⟨fun _ => Sc.word_none t 0 h' hl hdg (fun x => by rw [(pairB_iff t).2 x] at hp; cases hp) hs,by omega,fun x => absurd x (by omega)⟩
    ·rw [hl,hdg,hp,hs] at hL
     simp only [Bool.false_eq_true,if_false,if_true] at hL
     subst hL
     exact ⟨fun x => absurd x (by omega),by omega,fun _ => ⟨fun x => by (cases x),fun _ x => by (cases x),fun _ _ => ⟨by omega,Sc.word_sign t 0 h' hl hdg (fun x => by rw [(pairB_iff t).2 x] at hp; cases hp) hs⟩⟩⟩
   ·rw [hl,hdg,hp] at hL
    simp only [Bool.false_eq_true,if_false,if_true] at hL
    subst hL
    have h2 := (pairB_iff t).1 hp
    exact ⟨fun x => absurd x (by omega),by have := h2.1; omega,fun _ => ⟨fun x => by (cases x),fun _ x => by (cases x),fun _ _ => ⟨by omega,Sc.word_pair t 0 h' hl hdg h2⟩⟩⟩
  ·rw [hl,hdg] at hL
   simp only [Bool.false_eq_true,if_false,if_true] at hL
   have h3 := htw Sc.isD
   have hLe : n + L ≤ s.size := by rw [← hL]; unfold Sc.lenD; omega
   have hxL : t.extract 0 (0 + (1 + Sc.lenD t 0)) = s.extract n (n + L) := by
    rw [hL]
    rcases hx L with h | h
    ·exact h
    ·omega
   refine ⟨fun x => absurd x (by omega),hLe,fun _ => ⟨fun x => by (cases x),fun _ _ => ⟨fun hb => Sc.word_big t 0 h' hl hdg (by rw [hxL]; exact hb),fun hb => ?_⟩,fun _ x => by (cases x)⟩⟩
   rw [← hL]
   exact Sc.word_digit t 0 h' hl hdg (by rw [hxL]; exact hb)
 ·rw [hl] at hL
  simp only [if_true] at hL
  have h3 := htw Sc.isLD
  have hLe : n + L ≤ s.size := by rw [← hL]; unfold Sc.lenLD; omega
  refine ⟨fun x => absurd x (by omega),hLe,fun _ => ⟨fun _ => ⟨fun x => ?_,fun x => ?_⟩,fun x => by (cases x),fun x => by (cases x)⟩⟩
  ·exact Sc.word_letter_long t 0 h' hl (by omega)
  ·rw [← hL]; exact Sc.word_letter t 0 h' hl (by omega)
theorem tokens_go (s : ByteArray) (w : World) (m : Int) (hs : s.size ≤ 4000) (hm : w.cell? ⟨3,0,none⟩ = some (.int .i64 m)) : Calls Tryz.prog 21 #[.string s] w fun e w' => TokGives w.heap.size (Sc.scan s.data.toList 0 []) e w' ∧ Below w.heap.size w w' := by
 have h4 : ¬ (4000 : Int) < s.size := by omega
 have hlt1 : 3 < w.heap.size := by
  rcases Nat.lt_or_ge 3 w.heap.size with h | h
  ·exact h
  ·simp [World.cell?,Array.getElem?_eq_none h] at hm
 have HM := Lib.hid hm
 clear hm
 go_enter Tryz.func21,Tryz.ntmps21
 go_wp2
 go_loopw [4,5] (fun v i wr => ∃ (k : Nat) (acc : List Sc.Tok),k ≤ s.size ∧ acc.length ≤ k ∧ i = .int .i64 k ∧ wr.ownsRow w.heap.size 87 2 v acc.length (tokCells acc) ∧
   Below w.heap.size w wr ∧ Hid (Sc.scan s.data.toList 0 [] = Sc.scan (s.data.toList.drop k) k acc))
  (fun _ i _ => s.size - (intOf i).toNat)
 case atStart => exact ⟨0,[],Nat.zero_le _,Nat.zero_le _,rfl,World.ownsRow_nil _ _ _ _,Below.refl _ _,rfl⟩
 case round =>
  obtain ⟨k,acc,hk,hacc,rfl,hown,hnx,hsc⟩ := hrel
  have HMr : Hid (wr.cell? ⟨3,0,none⟩ = some (.int .i64 m)) := (hnx.cell (p := ⟨3,0,none⟩) hlt1).trans HM.out
  have hsz := hnx.size
  go_wp2_with fail
  refine (skip_any s k _ (by omega) hk).mono ?_
  rintro e w0 (⟨n,hkn,hn,rfl,hst,hgap,rfl⟩ | ⟨p,hp,rfl,hst,rfl⟩)
  ·have HST := Lib.hid hst
   have HG := Lib.hid hgap
   clear hst hgap
   have C3 := Lib.hid (length_any (s.extract n s.size) m wr (by simp; omega) HMr.out)
   by_cases hend : n = s.size
   ·have hb : ((n : Int) == s.size) = true := by rw [hend]; simp
    have HE := Lib.hid hend
    clear hend
    go_wp2_with (first
     | (at_builtin; refine app_tok wr rfl (.tmp 28) (.tmp 31) rfl w.heap.size _ acc (by rfl) hown ⟨#[]⟩ n (by rfl) (by omega) hsz ?_; intro v1 w1 hown1 hb1)
     | fail)
    go_ret2
    refine ⟨?_,hnx.trans hb1⟩
    rw [hsc.out,HST.out,Sc.scan_end s n acc (by have := HE.out; omega)]
    exact ⟨v1,rfl,hown1⟩
   ·have hb : ((n : Int) == s.size) = false := beq_eq_false_iff_ne.2 (by omega)
    have hlt : n < s.size := by omega
    obtain ⟨h',hh0⟩ := ext_at s n hlt
    have HG2 := Lib.hid (HG.out hlt)
    obtain ⟨L,hL⟩ : ∃ L,lenOf (s.extract n s.size) h' = L := ⟨_,rfl⟩
    obtain ⟨t0,hLe,t1⟩ := tell_word s n L hlt h' hL
    have C4 : Hid (Calls Tryz.prog 48 #[.string (s.extract n s.size)] wr fun e w' => e = .returned (.int .i64 L) ∧ Below wr.heap.size wr w') := by
     have c := C3.out h'
     rw [hL] at c
     exact c
    clear hend HG C3 hL hh0
    have T0 := Lib.hid t0
    have T1 := Lib.hid t1
    clear t0 t1
    by_cases hL0 : L = 0
    ·have hb0 : ((L : Int) == 0) = true := by rw [hL0]; rfl
     have hstep := Lib.hid (Sc.scan_bad s n acc hlt HG2.out (T0.out hL0))
     clear hL0
     go_wp2_with (first
      | (go_at_call 48; refine C4.out.mono ?_; rintro e w1 ⟨rfl,hb1⟩))
     go_ret2
     refine ⟨?_,(hnx.trans (hb1.mono hsz)).alloc (by have := hb1.size; omega) _⟩
     rw [hsc.out,HST.out,hstep.out]
     exact ⟨_,rfl,Blk.new _ _ _,by have := hb1.size; omega⟩
    ·have hb0 : ((L : Int) == 0) = false := beq_eq_false_iff_ne.2 (by omega)
     have hL1 : 1 ≤ L := by omega
     clear hL0
     obtain ⟨hp0,hq0⟩ := ext_head s n L hL1 hLe
     have hW : (s.extract n (n + L)).size = L := by simp; omega
     have HX := Lib.hid (Lib.extract_eq s n (n + L))
     have hfit := Lib.hid (fun w => fits_any (s.extract n (n + L)) w (by omega))
     obtain ⟨T2,T3,T4⟩ := T1.out hL1
     have HT2 := Lib.hid T2
     have HT3 := Lib.hid T3
     have HT4 := Lib.hid T4
     clear T2 T3 T4 T1 T0
     have hwr := wrap32_byte s[n]
     have hwr2 : wrap32 (((s.extract n (n + L))[0].toNat : Nat) : Int) = s[n].toNat := by rw [hq0]; exact hwr
     clear hwr
     rcases hl : Sc.isL s[n] with _ | _
     ·rcases hd : Sc.isD s[n] with _ | _
      ·obtain ⟨h2,hw⟩ := HT4.out hl hd
       have hstep := Lib.hid (Sc.scan_word s n acc hlt hL1 HG2.out hw)
       rw [isL_li] at hl
       rw [isD_di] at hd
       clear hw hq0
       go_wp2_with (first | (go_at_call 48; refine C4.out.mono ?_; rintro e w1 ⟨rfl,hb1⟩) | (go_at_call 49; refine (letter_any _ _).mono ?_; rintro e w' ⟨rfl,rfl⟩) | (go_at_call 50; refine (digit_any _ _).mono ?_; rintro e w' ⟨rfl,rfl⟩) | (go_at_call 51; refine (hfit.out _).mono ?_; rintro e w' ⟨rfl,rfl⟩) | (at_builtin; refine app_tok w1 rfl (.tmp 75) (.tmp 79) rfl w.heap.size _ acc (by rfl) (own_below hown hb1) (s.extract n (n + L)) n (by rfl) (by omega) (Nat.le_trans hsz hb1.size) ?_; intro v1 w2 hown1 hb2))
       go_roundw
       case rel => exact ⟨n + L,acc ++ [((s.extract n (n + L)).data.toList,n)],by omega,by simp; omega,by go_num,hown1,(hnx.trans (hb1.mono hsz)).trans hb2,by show _ = _; rw [hsc.out,HST.out,hstep.out]⟩
       case measure => simp [intOf]; omega
      ·have hw := HT3.out hl hd
       rw [isL_li] at hl
       rw [isD_di] at hd
       clear hq0
       rcases hbig : Sc.bigB (s.extract n (n + L)) with _ | _
       ·have hstep := Lib.hid (Sc.scan_word s n acc hlt hL1 HG2.out (hw.2 hbig))
        clear hw
        by_cases h12 : 12 < L
        all_goals
         go_wp2_with (first | (go_at_call 48; refine C4.out.mono ?_; rintro e w1 ⟨rfl,hb1⟩) | (go_at_call 49; refine (letter_any _ _).mono ?_; rintro e w' ⟨rfl,rfl⟩) | (go_at_call 50; refine (digit_any _ _).mono ?_; rintro e w' ⟨rfl,rfl⟩) | (go_at_call 51; refine (hfit.out _).mono ?_; rintro e w' ⟨rfl,rfl⟩) | (at_builtin; refine app_tok w1 rfl (.tmp 75) (.tmp 79) rfl w.heap.size _ acc (by rfl) (own_below hown hb1) (s.extract n (n + L)) n (by rfl) (by omega) (Nat.le_trans hsz hb1.size) ?_; intro v1 w2 hown1 hb2))
         go_roundw
         case rel => exact ⟨n + L,acc ++ [((s.extract n (n + L)).data.toList,n)],by omega,by simp; omega,by go_num,hown1,(hnx.trans (hb1.mono hsz)).trans hb2,by show _ = _; rw [hsc.out,HST.out,hstep.out]⟩
         case measure => simp [intOf]; omega
       ·have hstep := Lib.hid (Sc.scan_bad s n acc hlt HG2.out (hw.1 hbig))
        clear hw
        by_cases h12 : 12 < L
        all_goals
         go_wp2_with (first | (go_at_call 48; refine C4.out.mono ?_; rintro e w1 ⟨rfl,hb1⟩) | (go_at_call 49; refine (letter_any _ _).mono ?_; rintro e w' ⟨rfl,rfl⟩) | (go_at_call 50; refine (digit_any _ _).mono ?_; rintro e w' ⟨rfl,rfl⟩) | (go_at_call 51; refine (hfit.out _).mono ?_; rintro e w' ⟨rfl,rfl⟩))
         go_ret2
         refine ⟨?_,(hnx.trans (hb1.mono hsz)).alloc (by have := hb1.size; omega) _⟩
         rw [hsc.out,HST.out,hstep.out]
         exact ⟨_,rfl,Blk.new _ _ _,by have := hb1.size; omega⟩
     ·have hw := HT2.out hl
      have hd : isDi (s[n].toNat : Int) = false := by
       rw [← isD_di,Bool.eq_false_iff]
       intro x
       have y := letter_bd hl
       have z := digit_bd x
       omega
      rw [isL_li] at hl
      clear hq0
      by_cases h12 : 12 < L
      ·have hstep := Lib.hid (Sc.scan_bad s n acc hlt HG2.out (hw.1 h12))
       clear hw
       go_wp2_with (first | (go_at_call 48; refine C4.out.mono ?_; rintro e w1 ⟨rfl,hb1⟩) | (go_at_call 49; refine (letter_any _ _).mono ?_; rintro e w' ⟨rfl,rfl⟩) | (go_at_call 50; refine (digit_any _ _).mono ?_; rintro e w' ⟨rfl,rfl⟩) | (go_at_call 51; refine (hfit.out _).mono ?_; rintro e w' ⟨rfl,rfl⟩))
       go_ret2
       refine ⟨?_,(hnx.trans (hb1.mono hsz)).alloc (by have := hb1.size; omega) _⟩
       rw [hsc.out,HST.out,hstep.out]
       exact ⟨_,rfl,Blk.new _ _ _,by have := hb1.size; omega⟩
      ·have hstep := Lib.hid (Sc.scan_word s n acc hlt hL1 HG2.out (hw.2 h12))
       clear hw
       go_wp2_with (first | (go_at_call 48; refine C4.out.mono ?_; rintro e w1 ⟨rfl,hb1⟩) | (go_at_call 49; refine (letter_any _ _).mono ?_; rintro e w' ⟨rfl,rfl⟩) | (go_at_call 50; refine (digit_any _ _).mono ?_; rintro e w' ⟨rfl,rfl⟩) | (go_at_call 51; refine (hfit.out _).mono ?_; rintro e w' ⟨rfl,rfl⟩) | (at_builtin; refine app_tok w1 rfl (.tmp 75) (.tmp 79) rfl w.heap.size _ acc (by rfl) (own_below hown hb1) (s.extract n (n + L)) n (by rfl) (by omega) (Nat.le_trans hsz hb1.size) ?_; intro v1 w2 hown1 hb2))
       go_roundw
       case rel => exact ⟨n + L,acc ++ [((s.extract n (n + L)).data.toList,n)],by omega,by simp; omega,by go_num,hown1,(hnx.trans (hb1.mono hsz)).trans hb2,by show _ = _; rw [hsc.out,HST.out,hstep.out]⟩
       case measure => simp [intOf]; omega
  ·go_wp2
   go_ret2
   refine ⟨?_,hnx.alloc hsz _⟩
   rw [hsc.out,hst]
   exact ⟨_,rfl,Blk.new _ _ _,hsz⟩
theorem tokens_limit (s : ByteArray) (w : World) (hs : 4000 < s.size) : Calls Tryz.prog 21 #[.string s] w fun e w' => TokGives w.heap.size .limit e w' ∧ Below w.heap.size w w' := by
 go_enter Tryz.func21,Tryz.ntmps21
 go_wp2
 go_ret2
 exact ⟨rfl,Below.refl _ _⟩
theorem tokens_any (s : ByteArray) (w : World) (m : Int) (hm : w.cell? ⟨3,0,none⟩ = some (.int .i64 m)) : Calls Tryz.prog 21 #[.string s] w fun e w' => TokGives w.heap.size (Sc.words s.data.toList) e w' ∧ Below w.heap.size w w' := by
 unfold Sc.words
 rw [Sc.len_size]
 by_cases h : 4000 < s.size
 ·rw [if_pos h]; exact tokens_limit s w h
 ·rw [if_neg h]; exact tokens_go s w m (by omega) hm
set_option maxRecDepth 100000
set_option maxHeartbeats 1000000
open Go.RowKit Ps
theorem rep12 : Array.replicate 12 undef = #[undef,undef,undef,undef,undef,undef,undef,undef,undef,undef,undef,undef] := rfl
theorem assert_nil (w : World) : (Instr.typeAssert .nilIface 20 60 true).run Tryz.prog w = .ok (.tuple #[.agg #[.pointer none],.bool false]) w := by kernel_rfl
theorem assert_fault (g : Nat) (w : World) : (Instr.typeAssert (.iface 60 (.agg #[.pointer (some ⟨g,0,none⟩)])) 20 60 true).run Tryz.prog w = .ok (.tuple #[.agg #[.pointer (some ⟨g,0,none⟩)],.bool true]) w := by kernel_rfl
theorem pcatch_idle (N E : Nat) (w : World) : CallsD Tryz.prog 22 #[.pointer (some ⟨N,0,none⟩),.pointer (some ⟨E,0,none⟩)] .returning w fun e u' w' => u' = .returning ∧ e = .returned (.tuple #[]) ∧ Below w.heap.size w w' := by
 refine callsD_of_wpS Tryz.func22 rfl fun c₀ cs hu => ?_
 apply wpS_seq
 apply wpS_region
 simp [wpOpsS,go_sem,recoverD,hu,assert_nil,Tryz.ntmps22,Exit.thenS]
 refine wpS_of_wp ?_
 change (Code.seq _ _).wp _ _ ⟨#[.pointer (some ⟨N,0,none⟩),.pointer (some ⟨E,0,none⟩),.pointer (some ⟨w.heap.size,0,none⟩),.bool false,.tuple #[.agg #[.pointer none],.bool false],.nilIface,.tuple #[.agg #[.pointer none],.bool false],.agg #[.pointer none],.bool false,undef,undef,undef,undef,undef],[]⟩ _
 go_wp2_with fail
 refine ⟨rfl,.returning,?_,.tuple #[],by simp [results,Tryz.results22],rfl,rfl,(Below.refl _ _).alloc (Nat.le_refl _) _⟩
 cases c₀
 simp only at hu
 subst hu
 rfl
theorem pcatch_panic (N E g : Nat) (x0 x1 x2 x3 x4 y : Value) (w : World) (hN : Blk w N 25 #[x0,x1,x2,x3,x4]) (hE : Blk w E 32 #[y]) (hne : N ≠ E) :
  CallsD Tryz.prog 22 #[.pointer (some ⟨N,0,none⟩),.pointer (some ⟨E,0,none⟩)] (.panicking [{ v := .iface 60 (.agg #[.pointer (some ⟨g,0,none⟩)]),recovered := false }]) w fun e u' w' =>
   e = .returned (.tuple #[]) ∧ u' = .panicking [{ v := .iface 60 (.agg #[.pointer (some ⟨g,0,none⟩)]),recovered := true }] ∧
   Blk w' N 25 #[.int .i64 0,.string ⟨#[]⟩,.int .i64 0,.int .i64 0,.slice none 0 0] ∧ Blk w' E 32 #[.iface 58 (.pointer (some ⟨g,0,none⟩))] ∧ w.heap.size ≤ w'.heap.size ∧ w'.os = w.os ∧ w'.tape = w.tape ∧ w'.output = w.output ∧ ∀ k,k < w.heap.size → k ≠ N → k ≠ E → w'.heap[k]? = w.heap[k]? := by
 refine callsD_of_wpS Tryz.func22 rfl fun c₀ cs hu => ?_
 apply wpS_seq
 apply wpS_region
 simp [wpOpsS,go_sem,recoverD,hu,assert_fault,rep12,Tryz.ntmps22,Exit.thenS]
 refine wpS_of_wp ?_
 go_wp2_with fail
 have hV : Blk (w.alloc (.cells #[.pointer (some ⟨g,0,none⟩)] 60)) w.heap.size 60 #[.pointer (some ⟨g,0,none⟩)] := Blk.new _ _ _
 have hNl := hN.lt
 have hEl := hE.lt
 refine Ch.wp_region_run (fun u => Blk u w.heap.size 60 #[.pointer (some ⟨g,0,none⟩)]) [2] [0,1,2,3] [4,5] [] (by kernel_rfl) (by kernel_rfl) (fun _ _ d _ _ h => by cases d <;> exact h) hV ?_
 refine Ch.take0 (v := ?v0) rfl (by rfl) ?y0 ?_
 case y0 => intro u; go_simp; rfl
 simp only [putq]
 refine Ch.take1 (v := ?v1) rfl (by rfl) ?y1 ?_
 case y1 => intro u; go_simp; rfl
 simp only [putq]
 refine Ch.load2 (v := ?v2) rfl (by rfl) ?y2 ?_
 case y2 => intro u hC; have c5 := Blk.one hC; go_simp; rfl
 simp only [putq]
 refine Ch.take3 (v := ?v3) rfl (by rfl) ?y3 ?_
 case y3 => intro u; go_simp; rfl
 simp only [putq]
 obtain ⟨q1,q2⟩ := hN.five
 obtain ⟨q3,q4⟩ := hE.one
 refine Ch.mid4 (by rfl) (fun K hK => ?_)
 go_simp
 have hn5 : Blk (((((w.setCell ⟨N,0,none⟩ (.int .i64 0)).setCell ⟨N,1,none⟩ (.string ⟨#[]⟩)).setCell ⟨N,2,none⟩ (.int .i64 0)).setCell ⟨N,3,none⟩ (.int .i64 0)).setCell ⟨N,4,none⟩ (.slice none 0 0)) N 25 #[.int .i64 0,.string ⟨#[]⟩,.int .i64 0,.int .i64 0,.slice none 0 0] := ((((hN.set 0 _).set 1 _).set 2 _).set 3 _).set 4 _
 have he5 : Blk (((((w.setCell ⟨N,0,none⟩ (.int .i64 0)).setCell ⟨N,1,none⟩ (.string ⟨#[]⟩)).setCell ⟨N,2,none⟩ (.int .i64 0)).setCell ⟨N,3,none⟩ (.int .i64 0)).setCell ⟨N,4,none⟩ (.slice none 0 0)) E 32 #[y] := ((((hE.setOther _ _ (Ne.symm hne)).setOther _ _ (Ne.symm hne)).setOther _ _ (Ne.symm hne)).setOther _ _ (Ne.symm hne)).setOther _ _ (Ne.symm hne)
 have hold : ∀ k,k ≠ N → (((((w.setCell ⟨N,0,none⟩ (.int .i64 0)).setCell ⟨N,1,none⟩ (.string ⟨#[]⟩)).setCell ⟨N,2,none⟩ (.int .i64 0)).setCell ⟨N,3,none⟩ (.int .i64 0)).setCell ⟨N,4,none⟩ (.slice none 0 0)).heap[k]? = w.heap[k]? := fun k hk => by
  rw [Below.heap_setCell _ _ _ _ hk,Below.heap_setCell _ _ _ _ hk,Below.heap_setCell _ _ _ _ hk,Below.heap_setCell _ _ _ _ hk,Below.heap_setCell _ _ _ _ hk]
 have hsz : (((((w.setCell ⟨N,0,none⟩ (.int .i64 0)).setCell ⟨N,1,none⟩ (.string ⟨#[]⟩)).setCell ⟨N,2,none⟩ (.int .i64 0)).setCell ⟨N,3,none⟩ (.int .i64 0)).setCell ⟨N,4,none⟩ (.slice none 0 0)).heap.size = w.heap.size := by simp
 have hos : (((((w.setCell ⟨N,0,none⟩ (.int .i64 0)).setCell ⟨N,1,none⟩ (.string ⟨#[]⟩)).setCell ⟨N,2,none⟩ (.int .i64 0)).setCell ⟨N,3,none⟩ (.int .i64 0)).setCell ⟨N,4,none⟩ (.slice none 0 0)).os = w.os ∧ (((((w.setCell ⟨N,0,none⟩ (.int .i64 0)).setCell ⟨N,1,none⟩ (.string ⟨#[]⟩)).setCell ⟨N,2,none⟩ (.int .i64 0)).setCell ⟨N,3,none⟩ (.int .i64 0)).setCell ⟨N,4,none⟩ (.slice none 0 0)).tape = w.tape ∧ (((((w.setCell ⟨N,0,none⟩ (.int .i64 0)).setCell ⟨N,1,none⟩ (.string ⟨#[]⟩)).setCell ⟨N,2,none⟩ (.int .i64 0)).setCell ⟨N,3,none⟩ (.int .i64 0)).setCell ⟨N,4,none⟩ (.slice none 0 0)).output = w.output := ⟨rfl,rfl,rfl⟩
 clear q1 q2 q3 q4
 generalize (((((w.setCell ⟨N,0,none⟩ (.int .i64 0)).setCell ⟨N,1,none⟩ (.string ⟨#[]⟩)).setCell ⟨N,2,none⟩ (.int .i64 0)).setCell ⟨N,3,none⟩ (.int .i64 0)).setCell ⟨N,4,none⟩ (.slice none 0 0)) = w5 at *
 have hV5 := Blk.new w5 60 #[.pointer (some ⟨g,0,none⟩)]
 rw [hsz] at hV5
 refine hK _ _ hV5 ?_
 clear hK K
 obtain ⟨q3,q4⟩ := he5.one
 have hel := he5.lt
 refine Ch.mid5 (by rfl) (fun K hK => ?_)
 go_simp
 have hV6 := Blk.new (w5.setCell ⟨E,0,none⟩ (.iface 58 (.pointer (some ⟨g,0,none⟩)))) 60 #[.pointer (some ⟨g,0,none⟩)]
 rw [show (w5.setCell ⟨E,0,none⟩ (.iface 58 (.pointer (some ⟨g,0,none⟩)))).heap.size = w.heap.size from by simp [hsz]] at hV6
 refine hK _ _ hV6 ?_
 clear hK K
 refine Ch.run_end ?_
 go_wp2_with fail
 refine ⟨rfl,_,rfl,.tuple #[],by simp [results,Tryz.results22],rfl,rfl,(hn5.setOther _ _ hne).alloc _,(he5.set 0 _).alloc _,by simp [hsz],hos.1,hos.2.1,hos.2.2,fun k hk h1 h2 => ?_⟩
 show ((w5.setCell ⟨E,0,none⟩ _).alloc _).heap[k]? = _
 rw [Below.heap_alloc _ _ _ (by simp; omega),Below.heap_setCell _ _ _ _ h2]
 exact hold k h1
end Go.Proofs.YtneohanphabneaaGreatDoor

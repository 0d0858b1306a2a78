/-
  Contracts of the reference's reader: Kept, Name, name.
-/
import Derived.Test.YtneohanphabneaaGreatDoorR1
namespace Go.Proofs.YtneohanphabneaaGreatDoor
open Go.RowKit Ps
theorem keptR_any {w : World} {p : Nat} (h : Kl w p) (x : ByteArray) : Calls Tryz.prog 147 #[.string x] w fun e w' =>
    e = .returned (.bool (Ps.isKept x)) ∧ w = w' := by
  obtain ⟨h0, b, o, c, hb, hc, h1, h2⟩ := h
  have hI := Lib.hid (kin_any w x b o Ps.kept.length c Ps.kept rfl (by decide) hc h2)
  clear h2
  go_enter Tryz.func147, Tryz.ntmps147
  go_wp2_with (go_at_call 176; refine hI.out.mono ?_; rintro e w' ⟨rfl, rfl⟩)
  go_ret
  exact ⟨rfl, rfl⟩
theorem isName_kept {x : ByteArray} (h : Ps.isKept x = true) : Ps.isName x = false := by unfold Ps.isName; rw [h]; simp
theorem isName_long {x : ByteArray} (h : 12 < x.size) : Ps.isName x = false := by
  unfold Ps.isName
  rw [show decide (x.size ≤ 12) = false from decide_eq_false (by omega)]; simp
theorem isName_lettered {x : ByteArray} (h0 : x ≠ ⟨#[]⟩) (h : x.size ≤ 12) (hk : Ps.isKept x = false) : Ps.isName x = Ps.lettered x := by
  unfold Ps.isName
  rw [hk, decide_eq_false h0, decide_eq_true h]; simp
theorem empty_iff (x : ByteArray) : x.toList.isEmpty = decide (x = ⟨#[]⟩) := by
  rw [← bytes_beq, Bool.eq_iff_iff]
  simp only [List.isEmpty_iff, beq_iff_eq]
  rw [show (ByteArray.mk #[]).toList = [] from by rw [Lib.toList_data]]
set_option maxHeartbeats 1000000 in
theorem rName_any {w : World} {p : Nat} (h : Kl w p) (x : ByteArray) : Calls Tryz.prog 99 #[.string x] w fun e w' =>
    e = .returned (.bool (Ps.isName x)) ∧ w = w' := by
  have hK := Lib.hid (keptR_any h x)
  have hE := empty_iff x
  by_cases h0 : x = ⟨#[]⟩
  · have hn : Ps.isName x = false := by rw [h0]; rfl
    rw [decide_eq_true h0] at hE
    clear h0
    go_enter Tryz.func99, Tryz.ntmps99
    go_wp2_with fail
    go_ret
    exact ⟨ret_bool hn.symm, rfl⟩
  · rw [decide_eq_false h0] at hE
    have hp := Ps.size_pos h0
    have H0 := Lib.hid h0
    clear h0
    by_cases h12 : 12 < x.size
    · have : (12 : Int) < x.size := by omega
      have hn := isName_long h12
      go_enter Tryz.func99, Tryz.ntmps99
      go_wp2_with fail
      go_ret
      exact ⟨ret_bool hn.symm, rfl⟩
    · have : ¬ (12 : Int) < x.size := by omega
      cases hk : Ps.isKept x with
      | true =>
        rw [hk] at hK
        have hn := isName_kept hk
        go_enter Tryz.func99, Tryz.ntmps99
        go_wp2_with (go_at_call 147; refine hK.out.mono ?_; rintro e w' ⟨rfl, rfl⟩)
        go_ret
        exact ⟨ret_bool hn.symm, rfl⟩
      | false =>
        rw [hk] at hK
        have hn := Lib.hid (isName_lettered H0.out (by omega) hk)
        cases hl : Sc.isL x[0] with
        | false =>
          go_enter Tryz.func99, Tryz.ntmps99
          go_wp2_with (first | (go_at_call 147; refine hK.out.mono ?_; rintro e w' ⟨rfl, rfl⟩) | (go_at_call 35; refine (isLetter_any _ _).mono ?_; rintro e w' ⟨rfl, rfl⟩))
          go_ret
          exact ⟨ret_bool (by rw [hn.out, Ps.lettered_no x hp hl]), rfl⟩
        | true =>
          go_enter Tryz.func99, Tryz.ntmps99
          go_wp2_with (first | (go_at_call 147; refine hK.out.mono ?_; rintro e w' ⟨rfl, rfl⟩) | (go_at_call 35; refine (isLetter_any _ _).mono ?_; rintro e w' ⟨rfl, rfl⟩))
          have HT : Hid (Ps.isName x = (x.data.toList.drop 0).all Sc.isLD) := Lib.hid (by
            rw [hn.out, Ps.lettered_yes x hp hl, Ps.all_yes x 0 hp (show Sc.isLD x[0] = true by unfold Sc.isLD; rw [hl]; rfl)])
          clear hn hK
          go_loop [3] (fun i => ∃ k : Nat, k ≤ x.size ∧ i = .int .i64 k ∧ Hid (Ps.isName x = (x.data.toList.drop k).all Sc.isLD)) (fun i => x.size - (intOf i).toNat)
          case atStart => exact ⟨0, Nat.zero_le _, rfl, HT⟩
          case round =>
            obtain ⟨k, hk, rfl, hno⟩ := hrel
            by_cases hlt : k < x.size
            · cases h1 : Sc.isL x[k] with
              | true =>
                go_wp2_with (first | (go_at_call 35; refine (isLetter_any _ _).mono ?_; rintro e w' ⟨rfl, rfl⟩) | (go_at_call 36; refine (isDigit_any _ _).mono ?_; rintro e w' ⟨rfl, rfl⟩))
                go_round
                case rel => exact ⟨k + 1, by omega, by go_num, by
                  show _ = _
                  rw [hno.out, Ps.all_yes x k hlt (show Sc.isLD x[k] = true by unfold Sc.isLD; rw [h1]; rfl)]⟩
                case measure => simp [intOf]; omega
              | false =>
                cases h2 : Sc.isD x[k] with
                | true =>
                  go_wp2_with (first | (go_at_call 35; refine (isLetter_any _ _).mono ?_; rintro e w' ⟨rfl, rfl⟩) | (go_at_call 36; refine (isDigit_any _ _).mono ?_; rintro e w' ⟨rfl, rfl⟩))
                  go_round
                  case rel => exact ⟨k + 1, by omega, by go_num, by
                    show _ = _
                    rw [hno.out, Ps.all_yes x k hlt (show Sc.isLD x[k] = true by unfold Sc.isLD; rw [h1, h2]; rfl)]⟩
                  case measure => simp [intOf]; omega
                | false =>
                  go_wp2_with (first | (go_at_call 35; refine (isLetter_any _ _).mono ?_; rintro e w' ⟨rfl, rfl⟩) | (go_at_call 36; refine (isDigit_any _ _).mono ?_; rintro e w' ⟨rfl, rfl⟩))
                  go_ret
                  exact ⟨ret_bool (by rw [hno.out, Ps.all_no x k hlt (show Sc.isLD x[k] = false by unfold Sc.isLD; rw [h1, h2]; rfl)]), rfl⟩
            · go_wp2_with fail
              go_ret
              exact ⟨ret_bool (by rw [hno.out, Ps.all_end x k (by omega)]), rfl⟩
section
variable {w : World} {p T : Nat} {l : List Sc.Tok} {s : R Unit} {i d : Nat}
/-- A name is asked for. -/
theorem rname_any (h : RS w p T l s i d) : Calls Tryz.prog 41 #[pp p] w fun e w' =>
    ∃ (nm : ByteArray) (i' : Nat), e = .returned (.string nm) ∧ (∀ x j, (s.bind fun _ i => Ps.nameR l i) = .ok x j → nm = x) ∧ RS w' p T l (s.bind fun _ i => Ps.nameR l i).u i' d ∧ i ≤ i' ∧ Kp w.heap.size p w w' := by
  have hOk := Lib.hid (rok_any h)
  have hW := Lib.hid (rword_any h)
  have hL := Lib.hid h
  rcases rokB s h.bad with ⟨ho, k, rfl⟩ | ⟨ho, n, a, rfl⟩
  · have hki := h.ok k rfl
    subst hki
    rw [ho] at hOk
    show Calls _ _ _ _ fun e w' => ∃ (nm : ByteArray) (i' : Nat), e = .returned (.string nm) ∧ (∀ x j, Ps.nameR l k = .ok x j → nm = x) ∧ RS w' p T l (Ps.nameR l k).u i' d ∧ k ≤ i' ∧ Kp w.heap.size p w w'
    rcases hw : Ps.isName (Ps.W l k) with _ | _
    · rw [Ps.name_no hw]
      unfold pp at *
      go_enter Tryz.func41, Tryz.ntmps41
      go_wp2_with (go_at_call 18; refine hOk.out.mono ?_; rintro e w' ⟨rfl, rfl⟩)
      refine hW.out.mono ?_
      rintro e w1 ⟨rfl, hb1⟩
      have s1 := hL.out.below hb1
      have hN := Lib.hid (rName_any s1.kl (Ps.W l k))
      rw [hw] at hN
      go_wp2_with (go_at_call 99; refine hN.out.mono ?_; rintro e w' ⟨rfl, rfl⟩)
      refine (rother_any s1).mono ?_
      rintro e w2 ⟨rfl, h2, hk2⟩
      go_wp2_with fail
      go_ret
      exact ⟨_, k, rfl, fun _ _ h => (by cases h), h2, Nat.le_refl _, (Kp.of_below hb1).trans (hk2.mono hb1.size)⟩
    · rw [Ps.name_yes hw]
      have hi := Ps.isW_lt h.last h.hi (Ps.isW_self l k) (Ps.isName_ne hw)
      unfold pp at *
      go_enter Tryz.func41, Tryz.ntmps41
      go_wp2_with (go_at_call 18; refine hOk.out.mono ?_; rintro e w' ⟨rfl, rfl⟩)
      refine hW.out.mono ?_
      rintro e w1 ⟨rfl, hb1⟩
      have s1 := hL.out.below hb1
      have hN := Lib.hid (rName_any s1.kl (Ps.W l k))
      rw [hw] at hN
      obtain ⟨c, hc, hb, ⟨q1, q2⟩, hlt⟩ := s1.facts
      obtain ⟨⟨h0, h1, h2, h3, h4, h5⟩, f0, f1, f2, f3, f4, f5⟩ := hb.six
      have hs := s1.small
      have hTp : ¬ T = p := by have := s1.ne; omega
      have hn := hb.set 1 (.int .i64 (k + 1))
      have s2 : RS (w1.setCell ⟨p, 1, none⟩ (.int .i64 (k + 1))) p T l (.ok () (k + 1)) (k + 1) d := s1.put (fun j hj => Below.heap_setCell _ _ _ _ hj) hc hn hi s1.hd (fun j hj => by injection hj with _ hj; exact hj.symm) (fun _ _ h => by cases h)
      have hk2 := (Kp.of_below hb1).trans (((Kp.refl w1.heap.size p w1).put 1 (.int .i64 (k + 1))).mono hb1.size)
      go_wp2_with (go_at_call 99; refine hN.out.mono ?_; rintro e w' ⟨rfl, rfl⟩)
      have q3 : (w1.setCell ⟨p, 1, none⟩ (.int .i64 (k + 1))).cell? ⟨T, k * 2, none⟩ = some (.string (Ps.W l k)) := (World.cell?_of_block (Below.heap_setCell _ _ _ _ hTp)).trans q1
      clear h0 h1 h2 h3 h4 h5 f0 f1 f2 f3 f4 f5 q1 q2 hOk hW hN hL hb hb1 s1
      generalize w1.setCell ⟨p, 1, none⟩ (.int .i64 (k + 1)) = w2 at *
      have hn2 : Blk w2 p 52 #[.slice (some ⟨T, 0, none⟩) l.length c, .int .i64 (k + 1), .int .i64 d, .int .i64 (eC (.ok () k)), .int .i64 (tC (.ok () k)), .int .i64 (aC (.ok () k))] := hn
      obtain ⟨⟨h0, h1, h2, h3, h4, h5⟩, f0, f1, f2, f3, f4, f5⟩ := hn2.six
      go_quiet (fail)
      go_wp2_with fail
      go_ret
      exact ⟨_, k + 1, rfl, fun x j h => (by injection h), s2.kept fun _ _ => rfl, Nat.le_succ _, ⟨hk2.os, hk2.tape, hk2.output, hk2.size, hk2.block⟩⟩
  · rw [ho] at hOk
    unfold pp at *
    go_enter Tryz.func41, Tryz.ntmps41
    go_wp2_with (go_at_call 18; refine hOk.out.mono ?_; rintro e w' ⟨rfl, rfl⟩)
    refine (rother_any hL.out).mono ?_
    rintro e w2 ⟨rfl, h2, hk2⟩
    go_wp2_with fail
    go_ret
    exact ⟨_, i, rfl, fun _ _ h => (by cases h), h2, Nat.le_refl _, hk2⟩
end
end Go.Proofs.YtneohanphabneaaGreatDoor
/-
  Contracts of the reference's reader: value.
-/
namespace Go.Proofs.YtneohanphabneaaGreatDoor
open Go.RowKit Ps
theorem fold_ge : ∀ (t : List UInt8) (n : Nat), n ≤ Ps.fold n t
  | [], n => Nat.le_refl _
  | c :: t, n => by
    have := fold_ge t (n * 10 + (c.toNat - 48))
    unfold Ps.fold
    omega
theorem all_at (x : ByteArray) (h : x.data.toList.all Sc.isD = true) (k : Nat) (hk : k < x.size) : Sc.isD x[k] = true :=
  List.all_eq_true.1 h _ (List.mem_of_getElem (i := k) (h := by rw [Sc.len_size]; exact hk) rfl)
theorem fold_at (x : ByteArray) (k m : Nat) (hk : k < x.size) : Ps.fold m (x.data.toList.drop k) = Ps.fold (m * 10 + (x[k].toNat - 48)) (x.data.toList.drop (k + 1)) := by
  rw [Ps.drop_at x k hk]; rfl
section
variable {w : World} {p T : Nat} {l : List Sc.Tok} {s : R Unit} {i d : Nat}
set_option maxHeartbeats 1000000 in
/-- A number is asked for. -/
theorem rvalue_any (h : RS w p T l s i d) : Calls Tryz.prog 178 #[pp p] w fun e w' =>
    ∃ (v i' : Nat), e = .returned (.int .i64 v) ∧ (∀ x j, (s.bind fun _ i => Ps.number l i) = .ok x j → v = x) ∧ RS w' p T l (s.bind fun _ i => Ps.number l i).u i' d ∧ i ≤ i' ∧ Kp w.heap.size p w w' := by
  have hW := Lib.hid (rword_any h)
  rcases rokB s h.bad with ⟨ho, k, rfl⟩ | ⟨ho, n, a, rfl⟩
  · have hki := h.ok k rfl
    subst hki
    have hOk := Lib.hid (fun (w1 : World) (hb : Below w.heap.size w w1) => rok_any (h.below hb))
    rw [ho] at hOk
    have hL := Lib.hid h
    show Calls _ _ _ _ fun e w' => ∃ (v i' : Nat), e = .returned (.int .i64 v) ∧ (∀ x j, Ps.number l k = .ok x j → v = x) ∧ RS w' p T l (Ps.number l k).u i' d ∧ k ≤ i' ∧ Kp w.heap.size p w w'
    have hE := empty_iff (Ps.W l k)
    by_cases h0 : Ps.W l k = ⟨#[]⟩
    · rw [Ps.number_no (show Ps.isNum (Ps.W l k) = false by rw [h0]; rfl)]
      rw [decide_eq_true h0] at hE
      clear h0
      unfold pp at *
      go_enter Tryz.func178, Tryz.ntmps178
      go_wp2_with fail
      refine hW.out.mono ?_
      rintro e w1 ⟨rfl, hb1⟩
      have s1 := hL.out.below hb1
      go_wp2_with (go_at_call 18; refine (hOk.out w1 hb1).mono ?_; rintro e w' ⟨rfl, rfl⟩)
      refine (rother_any s1).mono ?_
      rintro e w2 ⟨rfl, h2, hk2⟩
      go_wp2_with fail
      go_ret
      exact ⟨0, k, rfl, fun _ _ h => (by cases h), h2, Nat.le_refl _, (Kp.of_below hb1).trans (hk2.mono hb1.size)⟩
    · rw [decide_eq_false h0] at hE
      have hp := Ps.size_pos h0
      have hne := Lib.hid h0
      clear h0
      have hI := isD_first hp
      rcases hw : Ps.isNum (Ps.W l k) with _ | _
      · rw [Ps.number_no hw]
        have hd : Sc.isD (Ps.W l k)[0] = false := by rw [isD_di, ← hI, hw]
        unfold pp at *
        go_enter Tryz.func178, Tryz.ntmps178
        go_wp2_with fail
        refine hW.out.mono ?_
        rintro e w1 ⟨rfl, hb1⟩
        have s1 := hL.out.below hb1
        go_wp2_with (first | (go_at_call 18; refine (hOk.out w1 hb1).mono ?_; rintro e w' ⟨rfl, rfl⟩) | (go_at_call 36; refine (isDigit_any _ _).mono ?_; rintro e w' ⟨rfl, rfl⟩))
        refine (rother_any s1).mono ?_
        rintro e w2 ⟨rfl, h2, hk2⟩
        go_wp2_with fail
        go_ret
        exact ⟨0, k, rfl, fun _ _ h => (by cases h), h2, Nat.le_refl _, (Kp.of_below hb1).trans (hk2.mono hb1.size)⟩
      · rw [Ps.number_yes hw]
        have hd : Sc.isD (Ps.W l k)[0] = true := by rw [isD_di, ← hI, hw]
        have hi := Ps.isW_lt h.last h.hi (Ps.isW_self l k) (Ps.isNum_ne hw)
        obtain ⟨g0, g1⟩ := h.good k h.hi
        have hall := Lib.hid (g1 hw).1
        have hbig := Lib.hid (Ps.num_ok (g1 hw).1 (g1 hw).2).2
        clear g1
        unfold pp at *
        go_enter Tryz.func178, Tryz.ntmps178
        go_wp2_with fail
        refine hW.out.mono ?_
        rintro e w1 ⟨rfl, hb1⟩
        have s1 := hL.out.below hb1
        obtain ⟨c, hc, hb, ⟨q1, q2⟩, hlt⟩ := s1.facts
        obtain ⟨⟨h0, h1, h2, h3, h4, h5⟩, f0, f1, f2, f3, f4, f5⟩ := hb.six
        have hs := s1.small
        have hn := hb.set 1 (.int .i64 (k + 1))
        have s2 : RS (w1.setCell ⟨p, 1, none⟩ (.int .i64 (k + 1))) p T l (.ok () (k + 1)) (k + 1) d := s1.put (fun j hj => Below.heap_setCell _ _ _ _ hj) hc hn hi s1.hd (fun j hj => by injection hj with _ hj; exact hj.symm) (fun _ _ h => by cases h)
        have hk2 := (Kp.of_below hb1).trans (((Kp.refl w1.heap.size p w1).put 1 (.int .i64 (k + 1))).mono hb1.size)
        go_wp2_with (first | (go_at_call 18; refine (hOk.out w1 hb1).mono ?_; rintro e w' ⟨rfl, rfl⟩) | (go_at_call 36; refine (isDigit_any _ _).mono ?_; rintro e w' ⟨rfl, rfl⟩))
        clear hOk hW hL hb hn h0 h1 h2 h3 h4 h5 f0 f1 f2 f3 f4 f5 q1 q2
        generalize hx : Ps.W l k = x at *
        generalize w1.setCell ⟨p, 1, none⟩ (.int .i64 (k + 1)) = w2 at *
        go_loop [4, 5] (fun v j => ∃ k1 m : Nat, k1 ≤ x.size ∧ v = .int .i64 m ∧ j = .int .i64 k1 ∧ Hid (Ps.numVal x = Ps.fold m (x.data.toList.drop k1))) (fun _ j => x.size - (intOf j).toNat)
        case atStart => exact ⟨0, 0, Nat.zero_le _, rfl, rfl, rfl⟩
        case round =>
          obtain ⟨k1, m, hk1, rfl, rfl, hno⟩ := hrel
          by_cases hlt : k1 < x.size
          · have hd1 := isD_nat (all_at x hall.out k1 hlt)
            have hst := hno.out
            rw [fold_at x k1 m hlt] at hst
            have hge := fold_ge (x.data.toList.drop (k1 + 1)) (m * 10 + (x[k1].toNat - 48))
            rw [← hst] at hge
            have hbig2 := hbig.out
            have HST := Lib.hid hst
            clear hst
            obtain ⟨e1, e2⟩ := hd1
            go_wp2_with fail
            go_round
            case rel => exact ⟨k1 + 1, m * 10 + (x[k1].toNat - 48), by omega, by go_num, by go_num, HST⟩
            case measure => simp [intOf]; omega
          · go_wp2_with fail
            go_ret
            exact ⟨m, rfl, by rw [hno.out, List.drop_of_length_le (by rw [Sc.len_size]; omega)]; rfl, k + 1, s2, Nat.le_succ _, hk2⟩
  · have hL := Lib.hid h
    have hOk := Lib.hid (fun (w1 : World) (hb : Below w.heap.size w w1) => rok_any (h.below hb))
    rw [ho] at hOk
    unfold pp at *
    go_enter Tryz.func178, Tryz.ntmps178
    go_wp2_with fail
    refine hW.out.mono ?_
    rintro e w1 ⟨rfl, hb1⟩
    have s1 := hL.out.below hb1
    go_wp2_with (go_at_call 18; refine (hOk.out w1 hb1).mono ?_; rintro e w' ⟨rfl, rfl⟩)
    refine (rother_any s1).mono ?_
    rintro e w2 ⟨rfl, h2, hk2⟩
    go_wp2_with fail
    go_ret
    exact ⟨0, i, rfl, fun _ _ h => (by cases h), h2, Nat.le_refl _, (Kp.of_below hb1).trans (hk2.mono hb1.size)⟩
end
end Go.Proofs.YtneohanphabneaaGreatDoor
/-
  Contracts of the reference's reader: the steps of what is read; the name of a type.
-/
namespace Go.Proofs.YtneohanphabneaaGreatDoor
open Go.RowKit Ps
section
variable {w w' : World} {p T : Nat} {l : List Sc.Tok} {s : R Unit} {i i' d d' : Nat} {α β : Type} {total : R β}
/-- What a function of the reader comes to that hands a tree back. -/
def RT (S : Nat → Prop) (p T : Nat) (l : List Sc.Tok) (i d : Nat) (total : R Tree) (e : Ending) (w' : World) : Prop :=
  ∃ v t i', e = .returned v ∧ TreeIn w' S v t ∧ RS w' p T l total.u i' d ∧ i ≤ i' ∧ ∀ t0 i0, total = .ok t0 i0 → t = t0
theorem RT.or {S : Nat → Prop} {total : R Tree} {e : Ending} (h : RT S p T l i d total e w') :
    ∃ k nm num a ts so sc i', e = .returned (nodeV k nm num a (.slice so ts.length sc)) ∧ RowIn w' S (.slice so ts.length sc) ts ∧ RS w' p T l total.u i' d ∧ i ≤ i' ∧ ∀ t0 i0, total = .ok t0 i0 → (.node k nm num a ts : Tree) = t0 := by
  obtain ⟨v, t, i', rfl, ht, h1, h2, h3⟩ := h
  obtain ⟨k, nm, num, a, ts, sv, rfl, rfl, hr⟩ := ht.parts
  obtain ⟨o, c, rfl⟩ := hr.form
  exact ⟨k, nm, num, a, ts, o, c, i', rfl, hr, h1, h2, h3⟩
theorem rhere (h : RS w p T l s i d) (f : Nat → R β) (HR : total = s.bind fun _ k => f k) : Hid (total = s.bind fun _ _ => f i) := Lib.hid (by
  cases s with
  | bad n a => exact HR
  | ok u k => rw [← h.ok k rfl]; exact HR)
theorem rstep {f : Nat → R α} {K : α → Nat → R β} {v : α} (h : RS w p T l s i d) (h' : RS w' p T l (s.bind fun _ k => f k).u i' d') (hv : ∀ x j, (s.bind fun _ k => f k) = .ok x j → v = x)
    (HR : Hid (total = s.bind fun _ _ => (f i).bind K)) : Hid (total = (s.bind fun _ k => f k).u.bind fun _ _ => K v i') := Lib.hid (by
  have HR := HR.out
  cases s with
  | bad n a => exact HR
  | ok u k =>
    have hk := h.ok k rfl
    subst hk
    have HR : total = (f k).bind K := HR
    have h'' := h'.ok
    show total = (f k).u.bind fun _ _ => K v i'
    have hv : ∀ x j, f k = .ok x j → v = x := hv
    have h'' : ∀ j, (f k).u = .ok () j → j = i' := h''
    rw [HR]
    cases hf : f k with
    | bad n a => rfl
    | ok x j =>
      rw [hv x j hf, ← h'' j (by rw [hf]; rfl)]
      rfl)
theorem rneed_u (x : ByteArray) : (s.bind fun _ k => Ps.must l x k) = (s.bind fun _ k => Ps.must l x k).u := (R.u_unit _).symm
theorem ryes {x : ByteArray} {X Y : R β} {j : Nat} (hs : s = .ok () i) (hw : Ps.isW l i x = true) (HR : Hid (total = s.bind fun _ _ => if Ps.isW l i x then X else Y)) : Hid (total = (R.ok () j).bind fun _ _ => X) := Lib.hid (by
  rw [HR.out, hs, hw]; rfl)
theorem rno {x : ByteArray} {X Y : R β} (h : RS w p T l s i d) (hn : ∀ k, s = .ok () k → Ps.isW l k x = false) (HR : Hid (total = s.bind fun _ _ => if Ps.isW l i x then X else Y)) : Hid (total = s.bind fun _ _ => Y) := Lib.hid (by
  rw [HR.out]
  cases s with
  | bad n a => rfl
  | ok u k =>
    have hk := h.ok k rfl
    subst hk
    show (if Ps.isW l k x then X else Y) = Y
    rw [hn k rfl]; rfl)
theorem rend {S : Nat → Prop} {total : R Tree} {v : Value} {t : Tree} {i0 : Nat} (h : RS w' p T l s i d) (HR : Hid (total = s.bind fun _ _ => .ok t i)) (ht : TreeIn w' S v t) (hi : i0 ≤ i) : RT S p T l i0 d total (.returned v) w' := by
  refine ⟨v, t, i, rfl, ht, h.at ?_ rfl, hi, fun t0 j hj => ?_⟩
  · rw [HR.out]
    cases s with
    | bad n a => rfl
    | ok u k => rw [h.ok k rfl]; rfl
  · rw [HR.out] at hj
    cases s with
    | bad n a => cases hj
    | ok u k => injection hj
theorem rassoc {α' : Type} {f : R α} {g : α → Nat → R α'} {K : α' → Nat → R β} (HR : Hid (total = s.bind fun _ _ => (f.bind g).bind K)) : Hid (total = s.bind fun _ _ => f.bind fun x j => (g x j).bind K) := Lib.hid (by
  rw [HR.out]
  cases s with
  | bad n a => rfl
  | ok u k => exact R.bind_assoc _ _ _)
/-- A word is not there: what follows of that, where nothing is wrong. -/
theorem rif {x : ByteArray} {X Y : R β} (h : RS w p T l s i d) (hn : ∀ k, s = .ok () k → Ps.isW l k x = false) (hX : Ps.isW l i x = false → X = Y) (HR : Hid (total = s.bind fun _ _ => X)) : Hid (total = s.bind fun _ _ => Y) := Lib.hid (by
  rw [HR.out]
  cases s with
  | bad n a => rfl
  | ok u k =>
    have hk := h.ok k rfl
    subst hk
    exact hX (hn k rfl))
theorem ryes' {X Y : R β} {j : Nat} (hs : s = .ok () i) (hX : X = Y) (HR : Hid (total = s.bind fun _ _ => X)) : Hid (total = (R.ok () j).bind fun _ _ => Y) := Lib.hid (by
  rw [HR.out, hs, hX]; rfl)
/-- On: how the read goes on behind f, that has handed v back. -/
def On (s : R Unit) (f : R α) (v : α) (q : R Unit) (j : Nat) : Prop := ∀ {β : Type} {total : R β} {K : α → Nat → R β}, Hid (total = s.bind fun _ _ => f.bind K) → Hid (total = q.bind fun _ _ => K v j)
theorem rname_on (h : RS w p T l s i d) : Calls Tryz.prog 41 #[pp p] w fun e w' =>
    ∃ nm q j, e = .returned (.string nm) ∧ RS w' p T l q j d ∧ i ≤ j ∧ Kp w.heap.size p w w' ∧ On s (Ps.nameR l i) nm q j := by
  refine (rname_any h).mono ?_
  rintro e w' ⟨nm, j, rfl, hv, h', le, hk⟩
  exact ⟨nm, _, j, rfl, h', le, hk, fun HR => rstep h h' hv HR⟩
theorem rvalue_on (h : RS w p T l s i d) : Calls Tryz.prog 178 #[pp p] w fun e w' =>
    ∃ (v : Nat) (q : R Unit) (j : Nat), e = .returned (.int .i64 v) ∧ RS w' p T l q j d ∧ i ≤ j ∧ Kp w.heap.size p w w' ∧ On s (Ps.number l i) v q j := by
  refine (rvalue_any h).mono ?_
  rintro e w' ⟨v, j, rfl, hv, h', le, hk⟩
  exact ⟨v, _, j, rfl, h', le, hk, fun HR => rstep h h' hv HR⟩
theorem rneed_on (h : RS w p T l s i d) (x : ByteArray) (hx : (∃ k, s = .ok () k) → x ≠ ⟨#[]⟩) : Calls Tryz.prog 40 #[pp p, .string x] w fun e w' =>
    ∃ q j, e = .returned (.tuple #[]) ∧ RS w' p T l q j d ∧ i ≤ j ∧ Kp w.heap.size p w w' ∧ On s (Ps.must l x i) () q j := by
  refine (rneed_any h x hx).mono ?_
  rintro e w' ⟨j, rfl, h', le, hk⟩
  rw [rneed_u] at h'
  exact ⟨_, j, rfl, h', le, hk, fun HR => rstep h h' (fun _ _ _ => rfl) HR⟩
theorem rt_on {fn : FuncId} {args : Array Value} {S : Nat → Prop} {f : Nat → R Tree} (h : RS w p T l s i d) (C : Calls Tryz.prog fn args w fun e w' => RT S p T l i d (s.bind fun _ k => f k) e w' ∧ Kp w.heap.size p w w') : Calls Tryz.prog fn args w fun e w' =>
    ∃ k nm num a ts so sc q j, e = .returned (nodeV k nm num a (.slice so ts.length sc)) ∧ RowIn w' S (.slice so ts.length sc) ts ∧ RS w' p T l q j d ∧ i ≤ j ∧ Kp w.heap.size p w w' ∧ On s (f i) (.node k nm num a ts) q j := by
  refine C.mono ?_
  rintro e w' ⟨ht, hk⟩
  obtain ⟨k, nm, num, a, ts, so, sc, j, rfl, hrow, h', le, hv⟩ := ht.or
  exact ⟨k, nm, num, a, ts, so, sc, _, j, rfl, hrow, h', le, hk, fun HR => rstep h h' hv HR⟩
end
set_option maxRecDepth 100000 in
set_option maxHeartbeats 1000000 in
theorem rtypeName_any {w : World} {p T : Nat} {l : List Sc.Tok} {s : R Unit} {i d : Nat} (h : RS w p T l s i d) : Calls Tryz.prog 101 #[pp p] w fun e w' =>
    RT (fun b => w.heap.size ≤ b) p T l i d (s.bind fun _ k => Ps.typeName l k) e w' ∧ Kp w.heap.size p w w' := by
  obtain ⟨r, hr⟩ : ∃ r, r = s.bind fun _ k => Ps.typeName l k := ⟨_, rfl⟩
  rw [← hr]
  have HR := rhere h _ hr
  clear hr
  unfold Ps.typeName at HR
  unfold pp
  go_enter Tryz.func101, Tryz.ntmps101
  go_wp2_with fail
  have s1 := (Rs.start h).allocAt (w.heap.size) 25 #[.int .i64 0, .string ⟨#[]⟩, .int .i64 0, .int .i64 0, .slice none 0 0] (by simp)
  refine (rat_any s1.ps).mono ?_
  rintro e w2 ⟨rfl, hb2⟩
  have s2 := s1.below hb2
  go_wp2_with fail
  have s3 := s2.allocAt (w2.heap.size) 25 #[.int .i64 13, .string ⟨#[]⟩, .int .i64 0, .int .i64 (Ps.A l i), .slice none 0 0] (by simp)
  refine (rname_any s3.ps).mono ?_
  rintro e w4 ⟨nm, i4, rfl, hv4, h4, le4, hk4⟩
  replace HR := rstep s3.ps h4 hv4 HR
  have s4 := s3.call hk4 h4
  clear hv4 h4 hk4
  generalize (s.bind fun _ k => Ps.nameR l k).u = q4 at *
  have c1 := s4.n0.2.five
  have c2 := s4.n0.2.lt
  have c3 := s4.n1.2.lt
  have c4 := s4.d01
  go_wp2_with fail
  clear c1 c2 c3 c4
  have s5 := s4.s01 (.string nm)
  refine (ris_any s5.ps ⟨#[46]⟩ (fun _ => by decide)).mono ?_
  rintro e w6 ⟨⟨hq, hw, rfl, h6⟩ | ⟨hn, rfl, h6⟩, hk6⟩
  · replace HR := ryes (j := i4 + 1) hq hw HR
    have s6 := s5.call hk6 h6
    have c1 := s6.n0.2.five
    have c2 := s6.n0.2.lt
    have c3 := s6.n1.2.lt
    have c4 := s6.d01
    go_wp2_with fail
    clear c1 c2 c3 c4
    have s7 := s6.s04 (.slice (some ⟨w6.heap.size, 0, none⟩) 1 1)
    have s8 := s7.keepNil.built1 (k0 := 24) (nm0 := nm) (num0 := 0) (a0 := (Ps.A l i)) (sv0 := .slice none 0 0) (ts0 := []) (by simp) (w6.heap.size) (by simp)
    refine (rname_any s8.ps).mono ?_
    rintro e w9 ⟨nm2, i9, rfl, hv9, h9, le9, hk9⟩
    replace HR := rstep s8.ps h9 hv9 HR
    have s9 := s8.call hk9 h9
    clear hv9 h9 hk9
    generalize (((R.ok () (i4 + 1) : R Unit).bind fun _ k => Ps.nameR l k).u) = q9 at *
    have c1 := s9.n0.2.five
    have c2 := s9.n0.2.lt
    have c3 := s9.n1.2.five
    have c5 := s9.n1.2.lt
    have c4 := s9.d01
    go_wp2_with fail
    clear c1 c2 c3 c4 c5
    have s10 := s9.s01 (.string nm2)
    have s11 := s10.p1 (.int .i64 13) (.string nm2) (.int .i64 0) (.int .i64 (Ps.A l i)) (.slice (some ⟨w6.heap.size, 0, none⟩) 1 1)
    exact bodyPost_ret (res5 Tryz.results101 rfl s11.n1.2) rfl ⟨rend s11.ps HR (s11.treeOf (sv := .slice (some ⟨w6.heap.size, 0, none⟩) 1 1) (by simp)) (by omega), s11.kp⟩
  · replace HR := rno s5.ps hn HR
    have s6 := (s5.call hk6 h6).keepNil
    have c1 := s6.n0.2.five
    have c2 := s6.n0.2.lt
    have c3 := s6.n1.2.five
    have c5 := s6.n1.2.lt
    have c4 := s6.d01
    go_wp2_with fail
    clear c1 c2 c3 c4 c5
    have s7 := s6.p1 (.int .i64 13) (.string nm) (.int .i64 0) (.int .i64 (Ps.A l i)) (.slice none 0 0)
    exact bodyPost_ret (res5 Tryz.results101 rfl s7.n1.2) rfl ⟨rend s7.ps HR (s7.treeOf (sv := .slice none 0 0) (by simp)) (by omega), s7.kp⟩
end Go.Proofs.YtneohanphabneaaGreatDoor

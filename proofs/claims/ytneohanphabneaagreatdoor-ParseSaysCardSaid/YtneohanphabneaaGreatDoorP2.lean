/-
  Contracts of the program's parser: a name, a number, an operator.
-/
import Derived.Test.YtneohanphabneaaGreatDoorName
import Derived.Test.YtneohanphabneaaGreatDoorShelf
import Derived.Lib.SmallJoins
namespace Go.Proofs.YtneohanphabneaaGreatDoor
open Go.RowKit

theorem pname_any {w : World} {p T : Nat} {l : List Sc.Tok} {i d : Nat} (h : PS w p T l i d) : Calls Tryz.prog 54 #[pp p] w fun e w' =>
    PN p T l d (Ps.nameR l i) e w' ∧ Kp w.heap.size p w w' := by
  obtain ⟨c, hc, hb, ⟨h1, h2⟩, ⟨h3, h4⟩, h5, h6, h7, hlt⟩ := h.facts
  have hN := Lib.hid (sname_any (Ps.W l i) w (h.good i h.hi).1)
  unfold pp
  rcases hw : Ps.isName (Ps.W l i) with _ | _
  · rw [Ps.name_no hw]
    rw [hw] at hN
    go_enter Tryz.func54, Tryz.ntmps54
    go_wp2_with fail
    refine hN.out.mono ?_
    rintro e w1 ⟨rfl, hb1⟩
    have hW := Lib.hid (pwant_any (h.below hb1))
    go_wp2_with fail
    refine hW.out.mono ?_
    rintro e w2 ⟨⟨g, rfl, hg⟩, hk⟩
    exact ⟨rfl, ⟨g, rfl, hg⟩, (Kp.of_below hb1).trans (hk.mono hb1.size)⟩
  · rw [Ps.name_yes hw]
    rw [hw] at hN
    go_enter Tryz.func54, Tryz.ntmps54
    go_wp2_with fail
    refine hN.out.mono ?_
    rintro e w1 ⟨rfl, hb1⟩
    have h' := h.below hb1
    obtain ⟨c', hc', hb', ⟨h1', h2'⟩, ⟨h3', h4'⟩, h5', h6', h7', hlt'⟩ := h'.facts
    have hi := Ps.isW_lt h.last h.hi (Ps.isW_self l i) (Ps.isName_ne hw)
    go_wp2_with fail
    go_ret
    exact ⟨⟨rfl, h'.next hi hc' hb'⟩, ((Kp.of_below hb1).setCell (x := ⟨p, 0, none⟩) (.inr rfl) _)⟩
theorem isD_first {s : ByteArray} (h : 0 < s.size) : Ps.isNum s = isDi (s[0].toNat : Int) := by
  rw [← isD_di]
  have e := Ps.drop_at s 0 h
  rw [List.drop_zero] at e
  unfold Ps.isNum; rw [e]
set_option maxHeartbeats 400000 in
theorem pnumber_any {w : World} {p T : Nat} {l : List Sc.Tok} {i d : Nat} (h : PS w p T l i d) : Calls Tryz.prog 116 #[pp p] w fun e w' =>
    PI p T l d (Ps.number l i) e w' ∧ Kp w.heap.size p w w' := by
  obtain ⟨c, hc, hb, ⟨h1, h2⟩, ⟨h3, h4⟩, h5, h6, h7, hlt⟩ := h.facts
  have hW := Lib.hid (pwant_any h)
  unfold pp at *
  have hE := isW_empty l i
  by_cases h0 : Ps.W l i = ⟨#[]⟩
  · rw [Ps.number_no (show Ps.isNum (Ps.W l i) = false by rw [h0]; rfl)]
    have hE2 : (Ps.W l i).toList.isEmpty = true := by rw [hE]; unfold Ps.isW; exact decide_eq_true h0
    clear h0 hE
    go_enter Tryz.func116, Tryz.ntmps116
    go_wp2_with fail
    refine hW.out.mono ?_
    rintro e w2 ⟨⟨g, rfl, hg⟩, hk⟩
    exact ⟨rfl, ⟨g, rfl, hg⟩, hk⟩
  · have hp := Ps.size_pos h0
    have hE2 : (Ps.W l i).toList.isEmpty = false := by rw [hE]; unfold Ps.isW; exact decide_eq_false h0
    have hI := isD_first hp
    have H0 := Lib.hid h0
    clear h0 hE
    rcases hw : Ps.isNum (Ps.W l i) with _ | _
    · rw [Ps.number_no hw]
      rw [hw] at hI
      unfold isDi at hI
      rw [eq_comm, Bool.and_eq_false_iff, decide_eq_false_iff_not, decide_eq_false_iff_not] at hI
      rcases hI with hI | hI
      all_goals
        go_enter Tryz.func116, Tryz.ntmps116
        go_wp2_with fail
      all_goals
        refine hW.out.mono ?_
        rintro e w2 ⟨⟨g, rfl, hg⟩, hk⟩
        exact ⟨rfl, ⟨g, rfl, hg⟩, hk⟩
    · rw [Ps.number_yes hw]
      rw [hw] at hI
      unfold isDi at hI
      rw [eq_comm, Bool.and_eq_true, decide_eq_true_eq, decide_eq_true_eq] at hI
      obtain ⟨hI1, hI2⟩ := hI
      obtain ⟨g0, g1⟩ := h.good i h.hi
      have hi := Ps.isW_lt h.last h.hi (Ps.isW_self l i) H0.out
      have hA := Lib.hid (Ps.atoi_ok hw (g1 hw).1 (g1 hw).2)
      clear g1
      go_enter Tryz.func116, Tryz.ntmps116
      go_wp2_with fail
      refine (Tryz.strconv_Atoi_ok (Ps.W l i) (by omega) _ hA.out _).mono ?_
      rintro e w1 ⟨rfl, hw1⟩
      have hb1 : Below (w.setCell ⟨p, 0, none⟩ (.slice (some ⟨T, 2 * i + 2, none⟩) (l.length - i - 1) (c - 1))).heap.size (w.setCell ⟨p, 0, none⟩ (.slice (some ⟨T, 2 * i + 2, none⟩) (l.length - i - 1) (c - 1))) w1 := by
        rcases hw1 with rfl | ⟨t, rfl⟩
        · exact Below.refl _ _
        · exact Joins.below_bytesWorld _ _ _ _ (Nat.le_refl _)
      have hn := h.next hi hc hb
      clear hw1
      go_wp2_with fail
      go_ret
      refine ⟨⟨rfl, hn.below hb1⟩, ((Kp.refl w.heap.size p w).setCell (x := ⟨p, 0, none⟩) (.inr rfl) _).trans (.of_below (hb1.mono (by simp)))⟩
theorem levels_ne : ∀ ks ∈ Ps.levels, (∀ s ∈ ks, s ≠ ⟨#[]⟩) ∧ ks.length ≤ 6 := by decide
set_option maxRecDepth 100000 in
set_option maxHeartbeats 1000000 in
/-- What the loop over the operators of a level meets. -/
theorem opK_any {w : World} {p T : Nat} {l : List Sc.Tok} {i d : Nat} (h : PS w p T l i d) (k : Nat) (hk : k < 3) : Calls Tryz.prog 115 #[pp p, .int .i64 k] w fun e w' =>
    (Ps.isOp l k i = false → e = .returned (.string ⟨#[]⟩) ∧ w = w') ∧ (Ps.isOp l k i = true → e = .returned (.string (Ps.W l i)) ∧ Kp w.heap.size p w w' ∧ PS w' p T l (i + 1) d) := by
  obtain ⟨hg, b, o, c, hp, h1, h2⟩ := h.lv
  obtain ⟨b1, o1, c1, hp1, h3, h4⟩ := h2 k hk
  have hlt := h.lt
  obtain ⟨ks, hks⟩ : ∃ ks, Ps.levels[k]'hk = ks := ⟨_, rfl⟩
  have hop : Ps.isOp l k i = ks.any fun s => Ps.isW l i s := by
    unfold Ps.isOp; rw [List.getElem?_eq_getElem hk, hks]; rfl
  obtain ⟨hne, hsz⟩ := levels_ne ks (hks ▸ List.getElem_mem hk)
  rw [hks] at h3 h4
  rw [hop]
  obtain ⟨B, hB⟩ : ∃ B, B = ks.any fun s => Ps.isW l i s := ⟨_, rfl⟩
  rw [← hB]
  have HB := Lib.hid hB
  clear hB
  have H4 := Lib.hid h4
  have HN := Lib.hid hne
  clear h4 hne hop hks h2
  have hk0 : (0 : Int) ≤ (k : Int) := Int.natCast_nonneg _
  have hk1 : (k : Int) < 3 := by omega
  have hIs := Lib.hid (fun s => pis_any h s)
  unfold pp at *
  go_enter Tryz.func115, Tryz.ntmps115
  go_wp2_with fail
  go_loop [12] (fun v => ∃ j : Nat, j ≤ ks.length ∧ v = .int .i64 j ∧ Hid (B = (ks.drop j).any fun s => Ps.isW l i s)) (fun v => ks.length - (intOf v).toNat)
  case atStart => exact ⟨0, Nat.zero_le _, rfl, HB⟩
  case round =>
    obtain ⟨j, hj, rfl, hst⟩ := hrel
    by_cases hlt2 : j < ks.length
    · have hcell := H4.out j hlt2
      have hdrop := Lib.hid (List.drop_eq_getElem_cons hlt2)
      obtain ⟨x, hx⟩ : ∃ x, ks[j] = x := ⟨_, rfl⟩
      rw [hx] at hcell hdrop
      have hxne := Lib.hid (HN.out x (hx ▸ List.getElem_mem hlt2))
      clear hx
      rcases hw : Ps.isW l i x with _ | _
      · have hI := hIs.out x
        rw [hw] at hI
        have HI := Lib.hid hI
        clear hI
        go_wp2_with (go_at_call 24; refine HI.out.mono ?_; rintro e w' ⟨rfl, rfl⟩)
        go_round
        case rel => exact ⟨j + 1, by omega, by go_num, by show _ = _; rw [hst.out, hdrop.out, List.any_cons, hw, Bool.false_or]⟩
        case measure => simp [intOf]; omega
      · have hI := hIs.out x
        rw [hw] at hI
        have HI := Lib.hid hI
        have HM := pmust_any h x hxne.out
        rw [Ps.must_yes hw] at HM
        have HM := Lib.hid HM
        have hxw : Hid (x = Ps.W l i) := by show _ = _; unfold Ps.isW at hw; exact (of_decide_eq_true hw).symm
        unfold pp at HM
        clear hI
        go_wp2_with (first | (go_at_call 24; refine HI.out.mono ?_; rintro e w' ⟨rfl, rfl⟩) | (go_at_call 53; refine HM.out.mono ?_; rintro e w1 ⟨⟨rfl, hps⟩, hkp⟩))
        go_ret
        refine ⟨fun hx => ?_, fun _ => ⟨congrArg (fun z => Ending.returned (Value.string z)) hxw.out, hkp, hps⟩⟩
        rw [hst.out, hdrop.out, List.any_cons, hw] at hx
        cases hx
    · go_wp2_with fail
      go_ret
      refine ⟨fun _ => ⟨rfl, rfl⟩, fun hx => ?_⟩
      rw [hst.out, List.drop_of_length_le (by omega)] at hx
      cases hx
end Go.Proofs.YtneohanphabneaaGreatDoor

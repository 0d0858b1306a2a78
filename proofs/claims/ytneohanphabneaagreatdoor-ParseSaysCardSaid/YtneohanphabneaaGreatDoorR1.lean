/-
  Contracts of the reference's reader: its small functions.
-/
import Derived.Test.YtneohanphabneaaGreatDoorRs
import Derived.Test.YtneohanphabneaaGreatDoorP2
import Derived.Test.YtneohanphabneaaGreatDoorChain
import Derived.Test.YtneohanphabneaaGreatDoorMLength
namespace Go.Proofs.YtneohanphabneaaGreatDoor
open Go.RowKit Ps
theorem kin_any (w : World) (x : ByteArray) (b o n c : Nat) (ks : List ByteArray) (hn : n = ks.length) (hz : ks.length ≤ 1000) (hc : n ≤ c) (hs : Strs w b o ks) : Calls Tryz.prog 176 #[.string x, .slice (some ⟨b, o, none⟩) n c] w fun e w' =>
    e = .returned (.bool (ks.any fun k => decide (k = x))) ∧ w = w' := by
  subst hn
  go_enter Tryz.func176, Tryz.ntmps176
  go_wp2_with fail
  go_loop [5] (fun i => ∃ k : Nat, k ≤ ks.length ∧ i = .int .i64 k ∧ Hid ((ks.take k).any (fun k => decide (k = x)) = false)) (fun i => ks.length - (intOf i).toNat)
  case atStart => exact ⟨0, Nat.zero_le _, rfl, rfl⟩
  case round =>
    obtain ⟨k, hk, rfl, hno⟩ := hrel
    by_cases hlt : k < ks.length
    · have hcell := hs k hlt
      have hb := bytes_beq ks[k] x
      by_cases hcx : ks[k] = x
      · rw [decide_eq_true hcx] at hb
        have H := Lib.hid hcx; clear hcx
        go_wp2_with fail
        go_ret
        exact ⟨ret_bool (by
          rw [eq_comm, List.any_eq_true]
          exact ⟨ks[k], List.getElem_mem hlt, decide_eq_true H.out⟩), rfl⟩
      · rw [decide_eq_false hcx] at hb
        have H := Lib.hid hcx; clear hcx
        go_wp2_with fail
        go_round
        case rel => exact ⟨k + 1, by omega, by go_num, by
          show _ = false
          rw [List.take_add_one, List.any_append, hno.out, List.getElem?_eq_getElem hlt]
          simp [H.out]⟩
        case measure => simp [intOf]; omega
    · go_wp2_with fail
      go_ret
      exact ⟨ret_bool (by
        rw [← hno.out, List.take_of_length_le (by omega)]), rfl⟩
theorem belowN (w : World) (n : Nat) : Below w.heap.size w (w.drewN n) := ⟨rfl, rfl, rfl, Nat.le_refl _, fun _ _ => rfl⟩
theorem Kp.put {B p : Nat} {a w : World} (h : Kp B p a w) (i : Nat) (v : Value) : Kp B p a (w.setCell ⟨p, i, none⟩ v) := h.setCell (.inr rfl) v
section
variable {w : World} {p T : Nat} {l : List Sc.Tok} {s : R Unit} {i d : Nat}
theorem rok_any (h : RS w p T l s i d) : Calls Tryz.prog 18 #[pp p] w fun e w' =>
    e = .returned (.bool (decide (eC s = 0))) ∧ w = w' := by
  obtain ⟨c, hc, hb, ⟨q1, q2⟩, hlt⟩ := h.facts
  obtain ⟨⟨h0, h1, h2, h3, h4, h5⟩, f0, f1, f2, f3, f4, f5⟩ := hb.six
  unfold pp
  go_enter Tryz.func18, Tryz.ntmps18
  go_wp2_with fail
  go_ret
  exact ⟨ret_bool (by rw [Bool.eq_iff_iff]; simp), rfl⟩
theorem rword_any (h : RS w p T l s i d) : Calls Tryz.prog 19 #[pp p] w fun e w' =>
    e = .returned (.string (Ps.W l i)) ∧ Below w.heap.size w w' := by
  obtain ⟨c, hc, hb, ⟨q1, q2⟩, hlt⟩ := h.facts
  obtain ⟨⟨h0, h1, h2, h3, h4, h5⟩, f0, f1, f2, f3, f4, f5⟩ := hb.six
  have hi := h.hi
  unfold pp
  go_enter Tryz.func19, Tryz.ntmps19
  go_wp2_with fail
  go_quiet (fail)
  go_wp2_with fail
  go_ret
  exact ⟨rfl, belowN _ _⟩
theorem rat_any (h : RS w p T l s i d) : Calls Tryz.prog 39 #[pp p] w fun e w' =>
    e = .returned (.int .i64 (Ps.A l i : Nat)) ∧ Below w.heap.size w w' := by
  obtain ⟨c, hc, hb, ⟨q1, q2⟩, hlt⟩ := h.facts
  obtain ⟨⟨h0, h1, h2, h3, h4, h5⟩, f0, f1, f2, f3, f4, f5⟩ := hb.six
  have hi := h.hi
  unfold pp
  go_enter Tryz.func39, Tryz.ntmps39
  go_wp2_with fail
  go_quiet (fail)
  go_wp2_with fail
  go_ret
  exact ⟨rfl, belowN _ _⟩
/-- What the reader is behind a stop. -/
def stopped (l : List Sc.Tok) (s : R Unit) (i n : Nat) : R Unit := if eC s = 0 then .bad n (Ps.A l i) else s
set_option maxRecDepth 100000 in
theorem rstop_any (h : RS w p T l s i d) (n : Nat) (hn : n ≠ 0) : Calls Tryz.prog 46 #[pp p, .int .i64 n] w fun e w' =>
    e = .returned (.tuple #[]) ∧ RS w' p T l (stopped l s i n) i d ∧ Kp w.heap.size p w w' := by
  have hOk := Lib.hid (rok_any h)
  have hi := h.hi
  unfold stopped
  by_cases hz : eC s = 0
  · rw [if_pos hz]
    rw [decide_eq_true hz] at hOk
    have hL := Lib.hid h
    obtain ⟨c, hc, hb, ⟨q1, q2⟩, hlt⟩ := h.facts
    clear hz
    unfold pp at *
    go_enter Tryz.func46, Tryz.ntmps46
    go_wp2_with (go_at_call 18; refine hOk.out.mono ?_; rintro e w' ⟨rfl, rfl⟩)
    refine Ch.wp_region_run (fun u => Blk u p 52 #[.slice (some ⟨T, 0, none⟩) l.length c, .int .i64 i, .int .i64 d, .int .i64 (eC s), .int .i64 (tC s), .int .i64 (aC s)] ∧ u.cell? ⟨T, i * 2 + 1, none⟩ = some (.int .i64 (Ps.A l i : Nat))) [5, 9, 12] [0, 1, 2, 3, 4, 5, 6, 7, 8, 9, 10, 11, 12, 13, 14, 15] [16] [16] (by kernel_rfl) (by kernel_rfl) (fun _ _ d _ _ h => by cases d <;> exact h) ⟨hb, q2⟩ ?_
    refine Ch.take0 (v := ?v0) rfl (by rfl) ?y0 ?_
    case y0 => intro u; go_simp; rfl
    simp only [Act.put, List.setIfInBounds_toArray, List.set_cons_zero, List.set_cons_succ]
    refine Ch.take1 (v := ?v1) rfl (by rfl) ?y1 ?_
    case y1 => intro u; go_simp; rfl
    simp only [Act.put, List.setIfInBounds_toArray, List.set_cons_zero, List.set_cons_succ]
    refine Ch.take2 (v := ?v2) rfl (by rfl) ?y2 ?_
    case y2 => intro u; go_simp; rfl
    simp only [Act.put, List.setIfInBounds_toArray, List.set_cons_zero, List.set_cons_succ]
    refine Ch.take3 (v := ?v3) rfl (by rfl) ?y3 ?_
    case y3 => intro u; go_simp; rfl
    simp only [Act.put, List.setIfInBounds_toArray, List.set_cons_zero, List.set_cons_succ]
    refine Ch.take4 (v := ?v4) rfl (by rfl) ?y4 ?_
    case y4 => intro u; go_simp; rfl
    simp only [Act.put, List.setIfInBounds_toArray, List.set_cons_zero, List.set_cons_succ]
    refine Ch.load5 (v := ?v5) rfl (by rfl) ?y5 ?_
    case y5 => rintro u ⟨hC, hC2⟩; obtain ⟨⟨h0, h1, h2, h3, h4, h5⟩, f0, f1, f2, f3, f4, f5⟩ := Blk.six hC; go_simp; rfl
    simp only [Act.put, List.setIfInBounds_toArray, List.set_cons_zero, List.set_cons_succ]
    refine Ch.take6 (v := ?v6) rfl (by rfl) ?y6 ?_
    case y6 => intro u; go_simp; rfl
    simp only [Act.put, List.setIfInBounds_toArray, List.set_cons_zero, List.set_cons_succ]
    refine Ch.take7 (v := ?v7) rfl (by rfl) ?y7 ?_
    case y7 => intro u; go_simp; rfl
    simp only [Act.put, List.setIfInBounds_toArray, List.set_cons_zero, List.set_cons_succ]
    refine Ch.take8 (v := ?v8) rfl (by rfl) ?y8 ?_
    case y8 => intro u; go_simp; rfl
    simp only [Act.put, List.setIfInBounds_toArray, List.set_cons_zero, List.set_cons_succ]
    refine Ch.load9 (v := ?v9) rfl (by rfl) ?y9 ?_
    case y9 => rintro u ⟨hC, hC2⟩; obtain ⟨⟨h0, h1, h2, h3, h4, h5⟩, f0, f1, f2, f3, f4, f5⟩ := Blk.six hC; go_simp; rfl
    simp only [Act.put, List.setIfInBounds_toArray, List.set_cons_zero, List.set_cons_succ]
    refine Ch.take10 (v := ?v10) rfl (by rfl) ?y10 ?_
    case y10 => intro u; go_simp; rfl
    simp only [Act.put, List.setIfInBounds_toArray, List.set_cons_zero, List.set_cons_succ]
    refine Ch.take11 (v := ?v11) rfl (by rfl) ?y11 ?_
    case y11 => intro u; go_simp; rfl
    simp only [Act.put, List.setIfInBounds_toArray, List.set_cons_zero, List.set_cons_succ]
    refine Ch.load12 (v := ?v12) rfl (by rfl) ?y12 ?_
    case y12 => rintro u ⟨hC, hC2⟩; obtain ⟨⟨h0, h1, h2, h3, h4, h5⟩, f0, f1, f2, f3, f4, f5⟩ := Blk.six hC; go_simp; rfl
    simp only [Act.put, List.setIfInBounds_toArray, List.set_cons_zero, List.set_cons_succ]
    refine Ch.take13 (v := ?v13) rfl (by rfl) ?y13 ?_
    case y13 => intro u; go_simp; rfl
    simp only [Act.put, List.setIfInBounds_toArray, List.set_cons_zero, List.set_cons_succ]
    refine Ch.take14 (v := ?v14) rfl (by rfl) ?y14 ?_
    case y14 => intro u; go_simp; rfl
    simp only [Act.put, List.setIfInBounds_toArray, List.set_cons_zero, List.set_cons_succ]
    refine Ch.take15 (v := ?v15) rfl (by rfl) ?y15 ?_
    case y15 => intro u; go_simp; rfl
    simp only [Act.put, List.setIfInBounds_toArray, List.set_cons_zero, List.set_cons_succ]
    refine Ch.run_post (j := 16) rfl (by rfl) (by rfl) (fun K hK => ?_)
    obtain ⟨⟨h0, h1, h2, h3, h4, h5⟩, f0, f1, f2, f3, f4, f5⟩ := Blk.six hb
    go_simp
    have hb3 := ((hb.set 3 (.int .i64 n)).set 4 (.int .i64 0)).set 5 (.int .i64 (Ps.A l i : Nat))
    refine hK _ _ ?_
    clear hK K h0 h1 h2 h3 h4 h5 f0 f1 f2 f3 f4 f5 q1 q2 hOk
    refine Ch.run_end ?_
    go_wp2_with fail
    refine ⟨rfl, _, by simp [results, Tryz.results46], rfl, ?_, (((Kp.put (Kp.refl _ p w) 3 _).put 4 _).put 5 _).drew⟩
    exact hL.out.put (fun k hk => by
      show (((w.setCell _ _).setCell _ _).setCell _ _).heap[k]? = _
      rw [Below.heap_setCell _ _ _ _ hk, Below.heap_setCell _ _ _ _ hk, Below.heap_setCell _ _ _ _ hk]) hc hb3 hi hL.out.hd (fun _ h => by cases h) (fun _ _ h => by injection h with h; omega)
  · rw [if_neg hz]
    rw [decide_eq_false hz] at hOk
    have hL := Lib.hid h
    clear hz
    unfold pp at *
    go_enter Tryz.func46, Tryz.ntmps46
    go_wp2_with (go_at_call 18; refine hOk.out.mono ?_; rintro e w' ⟨rfl, rfl⟩)
    exact ⟨rfl, _, by simp [results, Tryz.results46], rfl, hL.out, Kp.refl _ _ _⟩
theorem stopped_want (l : List Sc.Tok) (s : R Unit) (i : Nat) (hok : ∀ k, s = .ok () k → k = i) (hbad : ∀ n a, s = .bad n a → n ≠ 0) : stopped l s i (Ps.wantN l i) = s.bind fun _ i => Ps.want l i := by
  cases s with
  | bad n a =>
    have := hbad n a rfl
    unfold stopped
    rw [if_neg (show ¬ eC (R.bad n a) = 0 from show ¬ ((n : Nat) : Int) = 0 by omega)]; rfl
  | ok u k =>
    rw [hok k rfl]
    rfl
theorem wantN_ne (l : List Sc.Tok) (i : Nat) : Ps.wantN l i ≠ 0 := by unfold Ps.wantN; split <;> decide
theorem rother_any (h : RS w p T l s i d) : Calls Tryz.prog 20 #[pp p] w fun e w' =>
    e = .returned (.tuple #[]) ∧ RS w' p T l (s.bind fun _ i => Ps.want l i) i d ∧ Kp w.heap.size p w w' := by
  have hW := Lib.hid (rword_any h)
  have hS := Lib.hid (fun (w1 : World) (hb : Below w.heap.size w w1) (n : Nat) (hn : n ≠ 0) => rstop_any (h.below hb) n hn)
  have he := isW_empty l i
  have hst := stopped_want l s i h.ok h.bad
  have hwn := wantN_ne l i
  unfold pp at *
  rcases hw : Ps.isW l i ⟨#[]⟩ with _ | _
  all_goals
    rw [hw] at he
    unfold Ps.wantN at hst hwn
    rw [hw] at hst hwn
    rw [← hst]
    go_enter Tryz.func20, Tryz.ntmps20
    go_wp2_with (go_at_call 19; refine hW.out.mono ?_; rintro e w1 ⟨rfl, hb1⟩)
    refine (hS.out _ hb1 _ hwn).mono ?_
    rintro e w2 ⟨rfl, h2, hk2⟩
    go_wp2_with fail
    exact ⟨rfl, _, by simp [results, Tryz.results20], rfl, h2, (Kp.of_below hb1).trans (hk2.mono hb1.size)⟩
theorem rokB (s : R Unit) (hbad : ∀ n a, s = .bad n a → n ≠ 0) : (decide (eC s = 0) = true ∧ ∃ k, s = .ok () k) ∨ (decide (eC s = 0) = false ∧ ∃ n a, s = .bad n a) := by
  cases s with
  | bad n a => exact .inr ⟨by have := hbad n a rfl; exact decide_eq_false (show ¬ ((n : Nat) : Int) = 0 by omega), n, a, rfl⟩
  | ok u k => exact .inl ⟨rfl, k, rfl⟩
/-- The next word is taken, if it is that one and nothing is wrong. -/
theorem ris_any (h : RS w p T l s i d) (x : ByteArray) (hx : (∃ k, s = .ok () k) → x ≠ ⟨#[]⟩) : Calls Tryz.prog 42 #[pp p, .string x] w fun e w' =>
    ((s = .ok () i ∧ Ps.isW l i x = true ∧ e = .returned (.bool true) ∧ RS w' p T l (.ok () (i + 1)) (i + 1) d) ∨
     ((∀ k, s = .ok () k → Ps.isW l k x = false) ∧ e = .returned (.bool false) ∧ RS w' p T l s i d)) ∧ Kp w.heap.size p w w' := by
  have hOk := Lib.hid (rok_any h)
  have hW := Lib.hid (rword_any h)
  have hL := Lib.hid h
  have hbq := isW_beq l i x
  rcases rokB s h.bad with ⟨ho, k, rfl⟩ | ⟨ho, n, a, rfl⟩
  · have hki := h.ok k rfl
    subst hki
    rw [ho] at hOk
    rcases hw : Ps.isW l k x with _ | _
    · rw [hw] at hbq
      unfold pp at *
      go_enter Tryz.func42, Tryz.ntmps42
      go_wp2_with (first | (go_at_call 18; refine hOk.out.mono ?_; rintro e w' ⟨rfl, rfl⟩) | (go_at_call 19; refine hW.out.mono ?_; rintro e w1 ⟨rfl, hb1⟩))
      go_ret
      exact ⟨.inr ⟨fun j hj => by injection hj with _ hj; subst hj; exact hw, rfl, hL.out.below hb1⟩, .of_below hb1⟩
    · rw [hw] at hbq
      have hi := Ps.isW_lt h.last h.hi hw (hx ⟨_, rfl⟩)
      unfold pp at *
      go_enter Tryz.func42, Tryz.ntmps42
      go_wp2_with (go_at_call 18; refine hOk.out.mono ?_; rintro e w' ⟨rfl, rfl⟩)
      refine hW.out.mono ?_
      rintro e w1 ⟨rfl, hb1⟩
      have s1 := hL.out.below hb1
      obtain ⟨c, hc, hb, ⟨q1, q2⟩, hlt⟩ := s1.facts
      obtain ⟨⟨h0, h1, h2, h3, h4, h5⟩, f0, f1, f2, f3, f4, f5⟩ := hb.six
      have hs := h.small
      go_wp2_with fail
      go_ret
      have hn := hb.set 1 (.int .i64 (k + 1))
      refine ⟨.inl ⟨trivial, trivial, rfl, ?_⟩, (Kp.of_below hb1).trans (((Kp.refl w1.heap.size p w1).put 1 _).mono hb1.size)⟩
      exact s1.put (fun j hj => Below.heap_setCell _ _ _ _ hj) hc hn hi h.hd (fun j hj => by injection hj with _ hj; exact hj.symm) (fun _ _ h => by cases h)
  · rw [ho] at hOk
    unfold pp at *
    go_enter Tryz.func42, Tryz.ntmps42
    go_wp2_with (go_at_call 18; refine hOk.out.mono ?_; rintro e w' ⟨rfl, rfl⟩)
    go_ret
    exact ⟨.inr ⟨fun j hj => (by cases hj), rfl, hL.out⟩, Kp.refl _ _ _⟩
/-- A word is asked for. -/
theorem rneed_any (h : RS w p T l s i d) (x : ByteArray) (hx : (∃ k, s = .ok () k) → x ≠ ⟨#[]⟩) : Calls Tryz.prog 40 #[pp p, .string x] w fun e w' =>
    ∃ i', e = .returned (.tuple #[]) ∧ RS w' p T l (s.bind fun _ i => Ps.must l x i) i' d ∧ i ≤ i' ∧ Kp w.heap.size p w w' := by
  have hI := Lib.hid (ris_any h x hx)
  unfold pp at *
  go_enter Tryz.func40, Tryz.ntmps40
  go_wp2_with fail
  refine hI.out.mono ?_
  rintro e w1 ⟨⟨hs, hw, rfl, h1⟩ | ⟨hn, rfl, h1⟩, hk1⟩
  · go_wp2_with fail
    exact ⟨rfl, _, by simp [results, Tryz.results40], i + 1, rfl, h1.at (by rw [hs]; exact (Ps.must_yes hw).symm) rfl, by omega, hk1⟩
  · go_wp2_with fail
    refine (rother_any h1).mono ?_
    rintro e w2 ⟨rfl, h2, hk2⟩
    go_wp2_with fail
    refine ⟨rfl, _, by simp [results, Tryz.results40], i, rfl, h2.at ?_ rfl, Nat.le_refl _, hk1.trans (hk2.mono hk1.size)⟩
    cases s with
    | bad n a => rfl
    | ok u k => exact (Ps.must_no (hn k rfl)).symm
theorem rdeeper_any (h : RS w p T l s i d) (hd : d < 50) : Calls Tryz.prog 102 #[pp p] w fun e w' =>
    e = .returned (.tuple #[]) ∧ RS w' p T l (if d < 20 then s else s.bind fun _ i => .bad 3 (Ps.A l i)) i (d + 1) ∧ Kp w.heap.size p w w' := by
  obtain ⟨c, hc, hb, ⟨q1, q2⟩, hlt⟩ := h.facts
  obtain ⟨⟨h0, h1, h2, h3, h4, h5⟩, f0, f1, f2, f3, f4, f5⟩ := hb.six
  have hL := Lib.hid h
  have hn := hb.set 2 (.int .i64 (d + 1))
  have h7 : RS (w.setCell ⟨p, 2, none⟩ (.int .i64 (d + 1))) p T l s i (d + 1) := h.put (fun j hj => Below.heap_setCell _ _ _ _ hj) hc hn h.hi (by omega) h.ok h.bad
  have hK7 := (Kp.refl w.heap.size p w).put 2 (.int .i64 (d + 1))
  have hS := Lib.hid (rstop_any h7 3 (by decide))
  unfold pp at *
  go_enter Tryz.func102, Tryz.ntmps102
  by_cases h20 : d < 20
  · rw [if_pos h20]
    have : ¬ (20 : Int) < d + 1 := by omega
    go_wp2_with fail
    exact ⟨rfl, _, by simp [results, Tryz.results102], rfl, h7, hK7⟩
  · rw [if_neg h20]
    have : (20 : Int) < d + 1 := by omega
    go_wp2_with fail
    refine hS.out.mono ?_
    rintro e w2 ⟨rfl, h2, hk2⟩
    go_wp2_with fail
    refine ⟨rfl, _, by simp [results, Tryz.results102], rfl, h2.at ?_ rfl, hK7.trans (hk2.mono (by simp))⟩
    unfold stopped
    cases s with
    | bad n a => rw [if_neg (show ¬ eC (R.bad n a) = 0 from show ¬ ((n : Nat) : Int) = 0 by have := hL.out.bad n a rfl; omega)]; rfl
    | ok u k => rw [if_pos (show eC (R.ok u k) = 0 from rfl), ← hL.out.ok k rfl]; rfl
end
end Go.Proofs.YtneohanphabneaaGreatDoor

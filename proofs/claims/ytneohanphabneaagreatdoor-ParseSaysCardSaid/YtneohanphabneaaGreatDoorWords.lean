/-
  The reference's Words: what it hands back is what the plain law says.
-/
import Derived.Test.YtneohanphabneaaGreatDoorRef
import Derived.Test.YtneohanphabneaaGreatDoorMFn
namespace Go.Proofs.YtneohanphabneaaGreatDoor
open Go.RowKit

theorem byte_ne {c m : UInt8} (h : ¬ c = m) (n : Int) (hm : (m.toNat : Int) = n) : ¬ (c.toNat : Int) = n := fun e => h (byte_is e m hm)
/-- What the reference's Words hands back. -/
def RefGives (B : Nat) (r : Sc.Res) (e : Ending) (w : World) : Prop := match r with
  | .limit => e = .returned (.tuple #[.slice none 0 0, .agg #[.int .i64 3, .int .i64 (-1), .int .i64 (-1)]])
  | .bad n p => e = .returned (.tuple #[.slice none 0 0, .agg #[.int .i64 n, .int .i64 0, .int .i64 p]])
  | .ok l => ∃ v, e = .returned (.tuple #[v, .agg #[.int .i64 0, .int .i64 (-1), .int .i64 (-1)]]) ∧ w.ownsRow B 87 2 v l.length (tokCells l)

theorem behind_none (s : ByteArray) (k : Nat) (w : World) (hs : s.size ≤ 100000) (hi : k + 2 ≤ s.size) (h : Sc.cmtAt s k = none) : Calls Tryz.prog 34 #[.string s, .int .i64 k] w fun e w' => e = .returned (.int .i64 (-1)) ∧ w = w' := by
  have c := behind_any s k w hs hi
  unfold Sc.cmtAt at h
  rw [h] at c
  exact c
theorem behind_some (s : ByteArray) (k n : Nat) (w : World) (hs : s.size ≤ 100000) (hi : k + 2 ≤ s.size) (h : Sc.cmtAt s k = some n) : Calls Tryz.prog 34 #[.string s, .int .i64 k] w fun e w' => e = .returned (.int .i64 n) ∧ w = w' := by
  have c := behind_any s k w hs hi
  unfold Sc.cmtAt at h
  rw [h] at c
  exact c
theorem blank_is {c : UInt8} (h : Sc.isBlank c = true) : (c.toNat : Int) = 32 ∨ (c.toNat : Int) = 9 ∨ (c.toNat : Int) = 10 ∨ (c.toNat : Int) = 13 := by
  unfold Sc.isBlank at h
  simp only [Bool.or_eq_true, beq_iff_eq] at h
  rcases h with ((rfl | rfl) | rfl) | rfl <;> decide
theorem b_false {c m : UInt8} (h : ¬ c = m) (n : Int) (hm : (m.toNat : Int) = n) : ((c.toNat : Int) == n) = false := beq_eq_false_iff_ne.2 (byte_ne h n hm)
theorem b_false' {c : UInt8} {n : Int} (h : ¬ (c.toNat : Int) = n) : ((c.toNat : Int) == n) = false := beq_eq_false_iff_ne.2 h
theorem blank_not {c : UInt8} (h : Sc.isBlank c = false) : ((c.toNat : Int) == 32) = false ∧ ((c.toNat : Int) == 9) = false ∧ ((c.toNat : Int) == 10) = false ∧ ((c.toNat : Int) == 13) = false := by
  unfold Sc.isBlank at h
  simp only [Bool.or_eq_false_iff, beq_eq_false_iff_ne] at h
  exact ⟨b_false h.1.1.1 _ rfl, b_false h.1.1.2 _ rfl, b_false h.1.2 _ rfl, b_false h.2 _ rfl⟩

set_option maxRecDepth 100000 in
theorem words_limit (s : ByteArray) (w : World) (hs : 4000 < s.size) : Calls Tryz.prog 15 #[.string s] w fun e w' => RefGives w.heap.size .limit e w' ∧ Below w.heap.size w w' := by
  go_enter Tryz.func15, Tryz.ntmps15
  go_wp2_with fail
  refine (err_any _ _).mono ?_
  rintro e w1 ⟨rfl, hb⟩
  have hblk : Blk w1 w.heap.size 28 #[.int .i64 0, .int .i64 0, .int .i64 0] := (Blk.new w _ _).below hb (by simp)
  obtain ⟨⟨c0, c1, c2⟩, f0, f1, f2⟩ := hblk.three
  have hb' : Below w.heap.size w w1 := ((Below.refl _ _).alloc (Nat.le_refl _) _).trans (hb.mono (by simp))
  clear hblk hb
  go_wp2
  refine bodyPost_ret (v := .tuple #[.slice none 0 0, .agg #[.int .i64 3, .int .i64 (-1), .int .i64 (-1)]]) (by simp [results, Tryz.results15, go_sem, c0, c1, c2]) rfl ⟨rfl, ?_⟩
  exact ((hb'.setCell (Nat.le_refl _) _).setCell (Nat.le_refl _) _).setCell (Nat.le_refl _) _
set_option maxRecDepth 100000 in
set_option maxHeartbeats 4000000 in
theorem words_go (s : ByteArray) (w : World) (hs : s.size ≤ 4000) : Calls Tryz.prog 15 #[.string s] w fun e w' => RefGives w.heap.size (Sc.scan s.data.toList 0 []) e w' ∧ Below w.heap.size w w' := by
  have h4 : ¬ (4000 : Int) < s.size := by omega
  go_enter Tryz.func15, Tryz.ntmps15
  go_wp2
  go_loopw [4, 5] (fun v i wr => ∃ (k : Nat) (acc : List Sc.Tok), k ≤ s.size ∧ acc.length ≤ k ∧ i = .int .i64 k ∧ wr.ownsRow (w.heap.size + 1) 87 2 v acc.length (tokCells acc) ∧
      Blk wr w.heap.size 28 #[.int .i64 0, .int .i64 0, .int .i64 0] ∧ Below w.heap.size w wr ∧ Hid (Sc.scan s.data.toList 0 [] = Sc.scan (s.data.toList.drop k) k acc))
    (fun _ i _ => s.size - (intOf i).toNat)
  case atStart => exact ⟨0, [], Nat.zero_le _, Nat.zero_le _, rfl, World.ownsRow_nil _ _ _ _, Blk.new _ _ _, (Below.refl _ _).alloc (Nat.le_refl _) _, rfl⟩
  case round =>
    obtain ⟨k, acc, hk, hacc, rfl, hown, hblk, hnx, hsc⟩ := hrel
    obtain ⟨⟨c0, c1, c2⟩, f0, f1, f2⟩ := hblk.three
    by_cases hlt : k < s.size
    · by_cases hbl : Sc.isBlank s[k] = true
      · have hstep := Lib.hid (Sc.scan_blank s k acc hlt hbl)
        rcases blank_is hbl with hv | hv | hv | hv
        all_goals
          clear hbl
          go_wp2
          go_roundw
          case rel => exact ⟨k + 1, acc, by omega, by omega, by go_num, hown, hblk, hnx, by show _ = _; rw [hsc.out, hstep.out]⟩
          case measure => simp [intOf]; omega
      · have hbl := Bool.eq_false_iff.2 hbl
        obtain ⟨b1, b2, b3, b4⟩ := blank_not hbl
        by_cases hcm : s[k] = 40 ∧ ∃ h : k + 1 < s.size, s[k + 1] = 42
        · obtain ⟨e1, hk1, e2⟩ := hcm
          have hv1 : (s[k].toNat : Int) = 40 := by rw [e1]; rfl
          have hv2 : (s[k + 1].toNat : Int) = 42 := by rw [e2]; rfl
          rcases hc : Sc.cmtAt s k with _ | n
          · have hstep := Lib.hid (Sc.scan_open s k acc hk1 hbl e1 e2 hc)
            have C := Lib.hid (behind_none s k wr (by omega) (by omega) hc)
            clear e1 e2 hc hbl
            go_wp2_with fail
            refine C.out.mono ?_
            rintro e w1 ⟨rfl, rfl⟩
            go_wp2
            refine bodyPost_ret (v := .tuple #[.slice none 0 0, .agg #[.int .i64 2, .int .i64 0, .int .i64 k]]) (by simp [results, Tryz.results15, go_sem, c0, c1, c2]) rfl ⟨by rw [hsc.out, hstep.out]; rfl, ?_⟩
            exact ((hnx.setCell (Nat.le_refl _) _).setCell (Nat.le_refl _) _).setCell (Nat.le_refl _) _
          · have hstep := Lib.hid (Sc.scan_comment s k acc hk1 hbl e1 e2 hc)
            have C := Lib.hid (behind_some s k n wr (by omega) (by omega) hc)
            obtain ⟨hn1, hn2⟩ := Sc.cmtAt_le (by omega) hc
            clear e1 e2 hc hbl
            go_wp2_with fail
            refine C.out.mono ?_
            rintro e w1 ⟨rfl, rfl⟩
            go_wp2
            go_roundw
            case rel => exact ⟨n, acc, by omega, by omega, by go_num, hown, hblk, hnx, by show _ = _; rw [hsc.out, hstep.out]⟩
            case measure => simp [intOf]; omega
        · have hg := Lib.hid (Sc.gap_none s k hlt hbl hcm)
          by_cases hl : Sc.isL s[k] = true
          · have b5 : ((s[k].toNat : Int) == 40) = false := b_false' (by have := letter_bd hl; omega)
            clear hcm hbl
            go_wp2_with (first | (go_at_call 35; refine (isLetter_any _ _).mono ?_; rintro e w' ⟨rfl, rfl⟩))
            go_loop [8] (fun n => ∃ m : Nat, 1 ≤ m ∧ k + m ≤ s.size ∧ n = .int .i64 m ∧ Hid (1 + Sc.lenLD s k = m + ((s.data.toList.drop (k + m)).takeWhile Sc.isLD).length)) (fun n => s.size - (intOf n).toNat)
            case atStart => exact ⟨1, Nat.le_refl _, by omega, rfl, rfl⟩
            case round =>
              obtain ⟨m, hm1, hm2, rfl, hlen⟩ := hrel
              by_cases hin : ∃ hx : k + m < s.size, Sc.isLD s[k + m] = true
              · obtain ⟨hx, hp⟩ := hin
                have hs1 := Lib.hid (Sc.tw_step s (k + m) Sc.isLD hx hp)
                by_cases hq : Sc.isL s[k + m] = true
                · clear hp
                  go_wp2_with (first | (go_at_call 35; refine (isLetter_any _ _).mono ?_; rintro e w' ⟨rfl, rfl⟩) | (go_at_call 36; refine (isDigit_any _ _).mono ?_; rintro e w' ⟨rfl, rfl⟩))
                  go_round
                  case rel => exact ⟨m + 1, by omega, by omega, by go_num, by show _ = _; rw [hlen.out, hs1.out, show k + m + 1 = k + (m + 1) from rfl]; omega⟩
                  case measure => simp [intOf]; omega
                · have hq := Bool.eq_false_iff.2 hq
                  have hq2 : Sc.isD s[k + m] = true := by simpa [Sc.isLD, hq] using hp
                  clear hp
                  go_wp2_with (first | (go_at_call 35; refine (isLetter_any _ _).mono ?_; rintro e w' ⟨rfl, rfl⟩) | (go_at_call 36; refine (isDigit_any _ _).mono ?_; rintro e w' ⟨rfl, rfl⟩))
                  go_round
                  case rel => exact ⟨m + 1, by omega, by omega, by go_num, by show _ = _; rw [hlen.out, hs1.out, show k + m + 1 = k + (m + 1) from rfl]; omega⟩
                  case measure => simp [intOf]; omega
              · have hm : Hid (1 + Sc.lenLD s k = m) := by
                  show _ = _
                  rw [hlen.out]
                  by_cases hx : k + m < s.size
                  · rw [Sc.tw_stop s (k + m) Sc.isLD hx (Bool.eq_false_iff.2 fun h => hin ⟨hx, h⟩)]; rfl
                  · rw [Sc.tw_end s (k + m) Sc.isLD (by omega)]; rfl
                have hout : s.size ≤ k + m ∨ ∃ hx : k + m < s.size, Sc.isL s[k + m] = false ∧ Sc.isD s[k + m] = false := by
                  by_cases hx : k + m < s.size
                  · refine .inr ⟨hx, ?_⟩
                    have h0 := Bool.eq_false_iff.2 fun h => hin ⟨hx, h⟩
                    unfold Sc.isLD at h0
                    simpa using h0
                  · exact .inl (by omega)
                clear hin hlen
                by_cases h12 : 12 < m
                · have hstep := Lib.hid (Sc.scan_bad s k acc hlt hg.out (Sc.word_letter_long s k hlt hl (by rw [hm.out]; exact h12)))
                  rcases hout with hout | ⟨hx, q1, q2⟩
                  all_goals
                    go_wp2_with (first | (go_at_call 35; refine (isLetter_any _ _).mono ?_; rintro e w' ⟨rfl, rfl⟩) | (go_at_call 36; refine (isDigit_any _ _).mono ?_; rintro e w' ⟨rfl, rfl⟩))
                    refine bodyPost_ret (v := .tuple #[.slice none 0 0, .agg #[.int .i64 3, .int .i64 0, .int .i64 k]]) (by simp [results, Tryz.results15, go_sem, c0, c1, c2]) rfl ⟨by rw [hsc.out, hstep.out]; rfl, ?_⟩
                    exact ((hnx.setCell (Nat.le_refl _) _).setCell (Nat.le_refl _) _).setCell (Nat.le_refl _) _
                · have hstep := Lib.hid (Sc.scan_word s k acc hlt hm1 hg.out ((Sc.word_letter s k hlt hl (by rw [hm.out]; exact h12)).trans (by rw [hm.out])))
                  rcases hout with hout | ⟨hx, q1, q2⟩
                  all_goals
                    go_wp2_with (first
                      | (go_at_call 35; refine (isLetter_any _ _).mono ?_; rintro e w' ⟨rfl, rfl⟩)
                      | (go_at_call 36; refine (isDigit_any _ _).mono ?_; rintro e w' ⟨rfl, rfl⟩)
                      | (at_builtin; refine app_tok wr rfl (.tmp 146) (.tmp 155) rfl (w.heap.size + 1) _ acc (by rfl) hown (s.extract k (k + m)) k (by rfl) (by omega) hblk.lt ?_; intro v1 w1 hown1 hb1))
                    go_roundw
                    case rel => exact ⟨k + m, acc ++ [((s.extract k (k + m)).data.toList, k)], by omega, by simp; omega, by go_num, hown1, hblk.below hb1 (by omega), hnx.trans (hb1.mono (by omega)), by show _ = _; rw [hsc.out, hstep.out]⟩
                    case measure => simp [intOf]; omega
          · have hl := Bool.eq_false_iff.2 hl
            by_cases hd : Sc.isD s[k] = true
            · have b5 : ((s[k].toNat : Int) == 40) = false := b_false' (by have := digit_bd hd; omega)
              clear hcm hbl
              go_wp2_with (first | (go_at_call 35; refine (isLetter_any _ _).mono ?_; rintro e w' ⟨rfl, rfl⟩) | (go_at_call 36; refine (isDigit_any _ _).mono ?_; rintro e w' ⟨rfl, rfl⟩))
              go_loop [8] (fun n => ∃ m : Nat, 1 ≤ m ∧ k + m ≤ s.size ∧ n = .int .i64 m ∧ Hid (1 + Sc.lenD s k = m + ((s.data.toList.drop (k + m)).takeWhile Sc.isD).length)) (fun n => s.size - (intOf n).toNat)
              case atStart => exact ⟨1, Nat.le_refl _, by omega, rfl, rfl⟩
              case round =>
                obtain ⟨m, hm1, hm2, rfl, hlen⟩ := hrel
                by_cases hin : ∃ hx : k + m < s.size, Sc.isD s[k + m] = true
                · obtain ⟨hx, hq⟩ := hin
                  have hs1 := Lib.hid (Sc.tw_step s (k + m) Sc.isD hx hq)
                  go_wp2_with (first | (go_at_call 35; refine (isLetter_any _ _).mono ?_; rintro e w' ⟨rfl, rfl⟩) | (go_at_call 36; refine (isDigit_any _ _).mono ?_; rintro e w' ⟨rfl, rfl⟩))
                  go_round
                  case rel => exact ⟨m + 1, by omega, by omega, by go_num, by show _ = _; rw [hlen.out, hs1.out, show k + m + 1 = k + (m + 1) from rfl]; omega⟩
                  case measure => simp [intOf]; omega
                · have hm : Hid (1 + Sc.lenD s k = m) := by
                    show _ = _
                    rw [hlen.out]
                    by_cases hx : k + m < s.size
                    · rw [Sc.tw_stop s (k + m) Sc.isD hx (Bool.eq_false_iff.2 fun h => hin ⟨hx, h⟩)]; rfl
                    · rw [Sc.tw_end s (k + m) Sc.isD (by omega)]; rfl
                  have hout : s.size ≤ k + m ∨ ∃ hx : k + m < s.size, Sc.isD s[k + m] = false := by
                    by_cases hx : k + m < s.size
                    · exact .inr ⟨hx, Bool.eq_false_iff.2 fun h => hin ⟨hx, h⟩⟩
                    · exact .inl (by omega)
                  have hzs : Hid ((s.extract k (k + m)).size ≤ 100000) := by show _ ≤ _; simp; omega
                  clear hin hlen
                  rcases hbig : Sc.bigB (s.extract k (k + m)) with _ | _
                  · have hstep := Lib.hid (Sc.scan_word s k acc hlt hm1 hg.out ((Sc.word_digit s k hlt hl hd (by rw [hm.out]; exact hbig)).trans (by rw [hm.out])))
                    rcases hout with hout | ⟨hx, q1⟩
                    all_goals
                      go_wp2_with (first
                        | (go_at_call 35; refine (isLetter_any _ _).mono ?_; rintro e w' ⟨rfl, rfl⟩) | (go_at_call 36; refine (isDigit_any _ _).mono ?_; rintro e w' ⟨rfl, rfl⟩)
                        | (go_at_call 37; refine (beyond_any _ _ hzs.out).mono ?_; rintro e w' ⟨rfl, rfl⟩)
                        | (at_builtin; refine app_tok wr rfl (.tmp 146) (.tmp 155) rfl (w.heap.size + 1) _ acc (by rfl) hown (s.extract k (k + m)) k (by rfl) (by omega) hblk.lt ?_; intro v1 w1 hown1 hb1))
                      go_roundw
                      case rel => exact ⟨k + m, acc ++ [((s.extract k (k + m)).data.toList, k)], by omega, by simp; omega, by go_num, hown1, hblk.below hb1 (by omega), hnx.trans (hb1.mono (by omega)), by show _ = _; rw [hsc.out, hstep.out]⟩
                      case measure => simp [intOf]; omega
                  · have hstep := Lib.hid (Sc.scan_bad s k acc hlt hg.out (Sc.word_big s k hlt hl hd (by rw [hm.out]; exact hbig)))
                    rcases hout with hout | ⟨hx, q1⟩
                    all_goals
                      go_wp2_with (first
                        | (go_at_call 35; refine (isLetter_any _ _).mono ?_; rintro e w' ⟨rfl, rfl⟩) | (go_at_call 36; refine (isDigit_any _ _).mono ?_; rintro e w' ⟨rfl, rfl⟩)
                        | (go_at_call 37; refine (beyond_any _ _ hzs.out).mono ?_; rintro e w' ⟨rfl, rfl⟩))
                      refine bodyPost_ret (v := .tuple #[.slice none 0 0, .agg #[.int .i64 3, .int .i64 0, .int .i64 k]]) (by simp [results, Tryz.results15, go_sem, c0, c1, c2]) rfl ⟨by rw [hsc.out, hstep.out]; rfl, ?_⟩
                      exact ((hnx.setCell (Nat.le_refl _) _).setCell (Nat.le_refl _) _).setCell (Nat.le_refl _) _
            · have hd := Bool.eq_false_iff.2 hd
              by_cases hp : Sc.pairAt s k
              · have hstep := Lib.hid (Sc.scan_word s k acc hlt (by omega) hg.out (Sc.word_pair s k hlt hl hd hp))
                obtain ⟨hk1, p1, p2⟩ := hp
                have q1 : ((s[k + 1].toNat : Int) == 61) = true := by rw [p1]; rfl
                have q2 : ((s[k].toNat : Int) == 40) = false := by rcases p2 with p2 | p2 | p2 <;> rw [p2] <;> rfl
                have q3 : ((s[k].toNat : Int) == 58) = true ∨ (((s[k].toNat : Int) == 58) = false ∧ ((s[k].toNat : Int) == 60) = true) ∨ (((s[k].toNat : Int) == 58) = false ∧ ((s[k].toNat : Int) == 60) = false ∧ ((s[k].toNat : Int) == 62) = true) := by
                  rcases p2 with p2 | p2 | p2 <;> rw [p2] <;> decide
                clear p1 p2 hcm hbl
                rcases q3 with q3 | ⟨q3, q4⟩ | ⟨q3, q4, q5⟩
                all_goals
                  go_wp2_with (first
                    | (go_at_call 35; refine (isLetter_any _ _).mono ?_; rintro e w' ⟨rfl, rfl⟩) | (go_at_call 36; refine (isDigit_any _ _).mono ?_; rintro e w' ⟨rfl, rfl⟩)
                    | (at_builtin; refine app_tok wr rfl (.tmp 146) (.tmp 155) rfl (w.heap.size + 1) _ acc (by rfl) hown (s.extract k (k + 2)) k (by rfl) (by omega) hblk.lt ?_; intro v1 w1 hown1 hb1))
                  go_roundw
                  case rel => exact ⟨k + 2, acc ++ [((s.extract k (k + 2)).data.toList, k)], by omega, by simp; omega, by go_num, hown1, hblk.below hb1 (by omega), hnx.trans (hb1.mono (by omega)), by show _ = _; rw [hsc.out, hstep.out]⟩
                  case measure => simp [intOf]; omega
              · have hA : ((s[k].toNat : Int) == 40) = false ∨ (((s[k].toNat : Int) == 40) = true ∧ s.size ≤ k + 1) ∨ (((s[k].toNat : Int) == 40) = true ∧ ∃ h : k + 1 < s.size, ((s[k + 1].toNat : Int) == 42) = false) := by
                  by_cases e : s[k] = 40
                  · refine .inr ?_
                    by_cases h1 : k + 1 < s.size
                    · exact .inr ⟨by rw [e]; rfl, h1, b_false (fun x => hcm ⟨e, h1, x⟩) _ rfl⟩
                    · exact .inl ⟨by rw [e]; rfl, by omega⟩
                  · exact .inl (b_false e _ rfl)
                have hP : s.size ≤ k + 1 ∨ (∃ h : k + 1 < s.size, ((s[k + 1].toNat : Int) == 61) = false) ∨ (∃ h : k + 1 < s.size, ((s[k + 1].toNat : Int) == 61) = true ∧ ((s[k].toNat : Int) == 58) = false ∧ ((s[k].toNat : Int) == 60) = false ∧ ((s[k].toNat : Int) == 62) = false) := by
                  by_cases h1 : k + 1 < s.size
                  · refine .inr ?_
                    by_cases e : s[k + 1] = 61
                    · exact .inr ⟨h1, by rw [e]; rfl, b_false (fun x => hp ⟨h1, e, .inl x⟩) _ rfl, b_false (fun x => hp ⟨h1, e, .inr (.inl x)⟩) _ rfl, b_false (fun x => hp ⟨h1, e, .inr (.inr x)⟩) _ rfl⟩
                    · exact .inl ⟨h1, b_false e _ rfl⟩
                  · exact .inl (by omega)
                rcases hsg : Sc.isSign s[k] with _ | _
                · have hstep := Lib.hid (Sc.scan_bad s k acc hlt hg.out (Sc.word_none s k hlt hl hd hp hsg))
                  clear hcm hbl hp
                  rcases hA with a1 | ⟨a1, a2⟩ | ⟨a1, a2, a3⟩ <;> rcases hP with p1 | ⟨p1, p2⟩ | ⟨p1, p2, p3, p4, p5⟩
                  all_goals first
                    | (exfalso; omega)
                    | (go_wp2_with (first
                        | (go_at_call 35; refine (isLetter_any _ _).mono ?_; rintro e w' ⟨rfl, rfl⟩) | (go_at_call 36; refine (isDigit_any _ _).mono ?_; rintro e w' ⟨rfl, rfl⟩)
                        | (go_at_call 38; refine (oneSign_any _ _).mono ?_; rintro e w' ⟨rfl, rfl⟩))
                       refine bodyPost_ret (v := .tuple #[.slice none 0 0, .agg #[.int .i64 1, .int .i64 0, .int .i64 k]]) (by simp [results, Tryz.results15, go_sem, c0, c1, c2]) rfl ⟨by rw [hsc.out, hstep.out]; rfl, ?_⟩
                       exact ((hnx.setCell (Nat.le_refl _) _).setCell (Nat.le_refl _) _).setCell (Nat.le_refl _) _)
                · have hstep := Lib.hid (Sc.scan_word s k acc hlt (Nat.le_refl _) hg.out (Sc.word_sign s k hlt hl hd hp hsg))
                  clear hcm hbl hp
                  rcases hA with a1 | ⟨a1, a2⟩ | ⟨a1, a2, a3⟩ <;> rcases hP with p1 | ⟨p1, p2⟩ | ⟨p1, p2, p3, p4, p5⟩
                  all_goals first
                    | (exfalso; omega)
                    | (go_wp2_with (first
                        | (go_at_call 35; refine (isLetter_any _ _).mono ?_; rintro e w' ⟨rfl, rfl⟩) | (go_at_call 36; refine (isDigit_any _ _).mono ?_; rintro e w' ⟨rfl, rfl⟩)
                        | (go_at_call 38; refine (oneSign_any _ _).mono ?_; rintro e w' ⟨rfl, rfl⟩)
                        | (at_builtin; refine app_tok wr rfl (.tmp 146) (.tmp 155) rfl (w.heap.size + 1) _ acc (by rfl) hown (s.extract k (k + 1)) k (by rfl) (by omega) hblk.lt ?_; intro v1 w1 hown1 hb1))
                       go_roundw
                       case rel => exact ⟨k + 1, acc ++ [((s.extract k (k + 1)).data.toList, k)], by omega, by simp; omega, by go_num, hown1, hblk.below hb1 (by omega), hnx.trans (hb1.mono (by omega)), by show _ = _; rw [hsc.out, hstep.out]⟩
                       case measure => simp [intOf]; omega)
    · have hstep := Lib.hid (Sc.scan_end s k acc (by omega))
      go_wp2_with (first
        | (at_builtin; refine app_tok wr rfl (.tmp 160) (.tmp 164) rfl (w.heap.size + 1) _ acc (by rfl) hown ⟨#[]⟩ s.size (by rfl) (by omega) hblk.lt ?_; intro v1 w1 hown1 hb1)
        | fail)
      refine (fine_any _).mono ?_
      rintro e w2 ⟨rfl, hb2⟩
      have hblk2 : Blk w2 w.heap.size 28 #[.int .i64 0, .int .i64 0, .int .i64 0] := (hblk.below hb1 (by omega)).below hb2 (Nat.lt_of_lt_of_le hblk.lt hb1.size)
      have hown2 := own_below hown1 hb2
      have hnx2 : Below w.heap.size w w2 := (hnx.trans (hb1.mono (by omega))).trans (hb2.mono (by have := hb1.size; have := hnx.size; omega))
      clear c0 c1 c2 f0 f1 f2
      obtain ⟨⟨c0, c1, c2⟩, f0, f1, f2⟩ := hblk2.three
      clear hblk2 hblk hown hown1 hb1 hb2
      go_wp2
      have hks : k = s.size := by omega
      refine bodyPost_ret (v := .tuple #[v1, .agg #[.int .i64 0, .int .i64 (-1), .int .i64 (-1)]]) (by simp [results, Tryz.results15, go_sem, c0, c1, c2]) rfl ⟨?_, ?_⟩
      · rw [hsc.out, hstep.out, hks]
        exact ⟨v1, rfl, own_mono (ownsRow_setCell_below (ownsRow_setCell_below (ownsRow_setCell_below hown2 (Nat.lt_succ_self _) _) (Nat.lt_succ_self _) _) (Nat.lt_succ_self _) _) (Nat.le_succ _)⟩
      · exact ((hnx2.setCell (Nat.le_refl _) _).setCell (Nat.le_refl _) _).setCell (Nat.le_refl _) _
theorem words_any (s : ByteArray) (w : World)   : Calls Tryz.prog 15 #[.string s] w fun e w' => RefGives w.heap.size (Sc.words s.data.toList) e w' ∧ Below w.heap.size w w' := by
  unfold Sc.words
  rw [Sc.len_size]
  by_cases h : 4000 < s.size
  · rw [if_pos h]; exact words_limit s w h
  · rw [if_neg h]; exact words_go s w (by omega)
end Go.Proofs.YtneohanphabneaaGreatDoor

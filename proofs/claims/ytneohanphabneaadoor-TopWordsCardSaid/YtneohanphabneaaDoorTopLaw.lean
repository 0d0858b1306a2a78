/-
  The law TopWords, walked: it says yes.
-/
import Derived.Test.YtneohanphabneaaDoorScanLaw
import Derived.Test.YtneohanphabneaaDoorTopPlain
namespace Go.Proofs.YtneohanphabneaaDoor
open Go.RowKit

theorem top_long (s : ByteArray) (c : Bool) (w : World) (hs : 1000 < s.size) : Calls Tryd.prog 4 #[.string s, .bool c] w fun e w' => e = .returned (.bool true) ∧ Below w.heap.size w w' := by
  go_enter Tryd.func4, Tryd.ntmps4
  go_wp2
  go_ret
  exact ⟨rfl, Below.refl _ _⟩
/-- What stands between, by the flag. -/
def sepOf (c : Bool) : ByteArray := if c then ⟨#[40, 42, 32, 40, 42, 42, 41, 32, 42, 41]⟩ else ⟨#[32]⟩
theorem sep_between (c : Bool) : Sc.Between (sepOf c).data.toList := by
  cases c
  · exact Sc.between_blank
  · exact Sc.between_comment
theorem app3 (S W b : ByteArray) (h : b.size ≤ 10) : (S ++ W ++ b).size ≤ S.size + W.size + 10 := by
  simp only [ByteArray.size_append]; omega
theorem joined_snoc (b : List UInt8) (l : List Sc.Tok) (k : Nat) (h : k < l.length) : Sc.joined b (l.take (k + 1)) = Sc.joined b (l.take k) ++ l[k].1 ++ b := by
  rw [List.take_succ_eq_append_getElem h]
  simp only [Sc.joined, List.flatMap_append, List.flatMap_cons, List.flatMap_nil, List.append_nil, List.append_assoc]
theorem words_eq {l r : List Sc.Tok} (h : r.map (·.1) = l.map (·.1)) : r.length = l.length ∧ ∀ (k : Nat) (h1 : k < r.length) (h2 : k < l.length), r[k].1 = l[k].1 := by
  have hl : r.length = l.length := by have := congrArg List.length h; simpa using this
  refine ⟨hl, fun k h1 h2 => ?_⟩
  have := congrArg (fun x => x[k]?) h
  simp only [List.getElem?_map, List.getElem?_eq_getElem h1, List.getElem?_eq_getElem h2, Option.map_some] at this
  exact Option.some.inj this
set_option maxRecDepth 100000 in
set_option maxHeartbeats 4000000 in
theorem top_go (s : ByteArray) (c : Bool) (m : Int) (w : World) (hs : s.size ≤ 1000) (hm : w.cell? ⟨1, 0, none⟩ = some (.int .i64 m)) : Calls Tryd.prog 4 #[.string s, .bool c] w fun e w' => e = .returned (.bool true) ∧ Below w.heap.size w w' := by
  have hlt1 : 1 < w.heap.size := by
    rcases Nat.lt_or_ge 1 w.heap.size with h | h
    · exact h
    · simp [World.cell?, Array.getElem?_eq_none h] at hm
  have HM := Lib.hid hm
  clear hm
  have h1000 : ¬ (1000 : Int) < s.size := by omega
  have HMz : Hid (∀ W, Below w.heap.size w W → W.cell? ⟨1, 0, none⟩ = some (.int .i64 m)) := fun W hW => (hW.cell (p := ⟨1, 0, none⟩) hlt1).trans HM.out
  have CS : Hid (∀ W, Below w.heap.size w W → Calls Tryd.prog 7 #[.string ⟨#[77, 79, 68, 85, 76, 69, 32, 77, 59, 32, 66, 69, 71, 73, 78, 32, 79, 85, 84, 40, 49, 41, 32, 69, 78, 68, 32, 77, 46]⟩] W fun e w' => (∃ g cap, e = .returned (.tuple #[.slice (some ⟨g, 0, none⟩) 12 cap, .nilIface])) ∧ Below W.heap.size W w') := by
    intro W hW
    refine (tokens_any _ W m (HMz.out W hW)).mono ?_
    rintro e w' ⟨hr, hb⟩
    refine ⟨?_, hb⟩
    have hw : Sc.words (⟨#[77, 79, 68, 85, 76, 69, 32, 77, 59, 32, 66, 69, 71, 73, 78, 32, 79, 85, 84, 40, 49, 41, 32, 69, 78, 68, 32, 77, 46]⟩ : ByteArray).data.toList = .ok Sc.smallToks := Sc.words_small
    rw [hw] at hr
    obtain ⟨v, rfl, hown⟩ := hr
    obtain ⟨g, cap, rfl, -⟩ := hown.form (by decide)
    exact ⟨g, cap, rfl⟩
  go_enter Tryd.func4, Tryd.ntmps4
  go_wp2_with fail
  refine (tokens_any s w m HM.out).mono ?_
  rintro e w1 ⟨hr, hb1⟩
  have HB1 := Lib.hid hb1
  have hz1 := hb1.size
  clear hb1
  rcases hres : Sc.words s.data.toList with _ | ⟨n, p⟩ | l
  · rw [hres] at hr
    obtain rfl := hr
    clear hres
    go_wp2_with fail
    refine (CS.out w1 HB1.out).mono ?_
    rintro e w2 ⟨⟨g, cap, rfl⟩, hb2⟩
    go_wp2
    go_ret
    exact ⟨rfl, HB1.out.trans (hb2.mono hz1)⟩
  · rw [hres] at hr
    obtain ⟨g0, rfl, -, -⟩ := hr
    clear hres
    go_wp2_with fail
    refine (CS.out w1 HB1.out).mono ?_
    rintro e w2 ⟨⟨g, cap, rfl⟩, hb2⟩
    go_wp2
    go_ret
    exact ⟨rfl, HB1.out.trans (hb2.mono hz1)⟩
  · rw [hres] at hr
    obtain ⟨v, rfl, hown⟩ := hr
    have hmax := own_max hown
    have hl0 : 0 < l.length := words_pos hres
    obtain ⟨g1, cap1, rfl, -⟩ := hown.form hl0
    have HIN := Lib.hid (Sc.words_in hres)
    have hlen : l.length ≤ 1001 := by have := Sc.words_len hres; rw [Sc.len_size] at this; omega
    have HAG : Hid (∀ b, Sc.Between b → (Sc.joined b l).length ≤ 4000 → ∃ r', Sc.words (Sc.joined b l) = .ok r' ∧ r'.map (·.1) = l.map (·.1)) := fun b hb h => Sc.words_again hb hres h
    have HO := Lib.hid hown
    clear hown hres
    go_wp2_with fail
    refine (CS.out w1 HB1.out).mono ?_
    rintro e w2 ⟨⟨g, cap, rfl⟩, hb2⟩
    have HB2 := Lib.hid (HB1.out.trans (hb2.mono hz1))
    have HO2 := Lib.hid (own_below HO.out hb2)
    clear hb2 HO
    obtain ⟨cc, hcc⟩ : ∃ cc, cc = c := ⟨c, rfl⟩
    have HSB := Lib.hid (sep_between cc)
    have HCC := Lib.hid hcc
    clear hcc
    have hflag : c = true ∨ c = false := by cases c <;> simp
    rcases hflag with rfl | rfl
    all_goals
      go_wp2_with fail
      go_loopw [10, 11] (fun v i wr => ∃ (k n : Nat) (S : ByteArray), k ≤ l.length ∧ S.size ≤ 1010 * k ∧ i = .int .i64 k ∧ v = .string S ∧ Hid (S.data.toList = Sc.joined (sepOf cc).data.toList (l.take k)) ∧ wr = w2.drewN n) (fun _ i _ => l.length - (intOf i).toNat)
      case atStart => exact ⟨0, 0, ⟨#[]⟩, Nat.zero_le _, Nat.le_refl _, rfl, rfl, rfl, rfl⟩
      case round =>
        obtain ⟨k, nd, S, hk, hSs, rfl, rfl, hS, rfl⟩ := hrel
        by_cases hlt : k < l.length
        · obtain ⟨p1, p2⟩ := tok_at HO2.out k hlt
          have hin := HIN.out l[k] (List.getElem_mem hlt)
          rw [Sc.len_size] at hin
          obtain ⟨W, hW⟩ : ∃ W : ByteArray, W = ⟨l[k].1.toArray⟩ := ⟨_, rfl⟩
          have hWs : W.size = l[k].1.length := by rw [hW]; rfl
          have hWd : W.data.toList = l[k].1 := by rw [hW]
          rw [← hW] at p1
          rw [← hWs] at hin
          obtain ⟨a, ha⟩ : ∃ a : Nat, a = l[k].2 := ⟨_, rfl⟩
          rw [← ha] at p2 hin
          have hstep : Hid (∀ b : ByteArray, (S ++ W ++ b).data.toList = S.data.toList ++ W.data.toList ++ b.data.toList) := fun b => by simp
          have HWD := Lib.hid hWd
          clear hW hWs ha hWd
          have i0 : (0 : Int) ≤ (k : Int) := by omega
          have i1 : (k : Int) < (l.length : Int) := by omega
          by_cases ha0 : 0 < a
          · have g1 : ¬ ((s.size : Int) < (a : Int) + (W.size : Int)) := by omega
            go_wp2_with fail
            go_quiet (fail)
            go_wp2
            go_roundw
            case rel => exact ⟨k + 1, _, _, by omega, Nat.le_trans (app3 S W _ (by decide)) (by omega), by go_num, rfl, by show _ = _; rw [hstep.out, joined_snoc _ _ _ hlt, hS.out, HWD.out, HCC.out]; rfl, rfl⟩
            case measure => simp [intOf]; omega
          · have g1 : decide ((0 : Int) < (a : Int)) = false := decide_eq_false (by omega)
            go_wp2_with fail
            go_quiet (fail)
            go_wp2
            go_roundw
            case rel => exact ⟨k + 1, _, _, by omega, Nat.le_trans (app3 S W _ (by decide)) (by omega), by go_num, rfl, by show _ = _; rw [hstep.out, joined_snoc _ _ _ hlt, hS.out, HWD.out, HCC.out]; rfl, rfl⟩
            case measure => simp [intOf]; omega
        · go_wp2_with fail
          · go_ret
            exact ⟨rfl, below_drewN HB2.out _⟩
          · have h4 : S.size ≤ 4000 := by
              have hx : (S.size : Int) ≤ 4000 := by assumption
              omega
            have hSl : S.data.toList = Sc.joined (sepOf cc).data.toList l := by rw [hS.out, List.take_of_length_le (by omega)]
            obtain ⟨r, hr1, hr2⟩ := HAG.out _ HSB.out (by rw [← hSl, Sc.len_size]; exact h4)
            rw [← hSl] at hr1
            obtain ⟨hrl, hre⟩ := words_eq hr2
            have HRL := Lib.hid hrl
            have HRE := Lib.hid hre
            have hr0 : 0 < r.length := by omega
            have C := tokens_any S (w2.drewN nd) m (HMz.out _ (below_drewN HB2.out _))
            rw [hr1] at C
            have HC := Lib.hid C
            clear hSl hr1 hr2 hrl hre C hS
            refine HC.out.mono ?_
            rintro e w3 ⟨hr, hb3⟩
            obtain ⟨v3, rfl, hown3⟩ := hr
            obtain ⟨g3, cap3, rfl, -⟩ := hown3.form hr0
            rw [HRL.out]
            have HO3 := Lib.hid hown3
            have HP3 : Hid (w3.ownsRow w.heap.size 35 2 _ l.length (tokCells l)) := own_below (w := w2.drewN nd) HO2.out hb3
            have HB3 := Lib.hid ((below_drewN HB2.out nd).trans (hb3.mono HB2.out.size))
            clear hb3 hown3
            go_wp2_with fail
            go_loopw [13] (fun i wr => ∃ k n : Nat, k ≤ l.length ∧ i = .int .i64 k ∧ wr = w3.drewN n) (fun i _ => l.length - (intOf i).toNat)
            case atStart => exact ⟨0, 0, Nat.zero_le _, rfl, rfl⟩
            case round =>
              obtain ⟨k2, nd2, hk2, rfl, rfl⟩ := hrel
              by_cases hlt2 : k2 < l.length
              · have hlt3 : k2 < r.length := by rw [HRL.out]; exact hlt2
                have p1 := (tok_at HP3.out k2 hlt2).1
                have q1 := (tok_at HO3.out k2 hlt3).1
                rw [HRE.out k2 hlt3 hlt2] at q1
                have i0 : (0 : Int) ≤ (k2 : Int) := by omega
                have i1 : (k2 : Int) < (l.length : Int) := by omega
                go_wp2_with fail
                go_quiet (fail)
                go_wp2
                go_roundw
                case rel => exact ⟨k2 + 1, _, by omega, by go_num, rfl⟩
                case measure => simp [intOf]; omega
              · go_wp2
                go_ret
                exact ⟨rfl, below_drewN HB3.out _⟩
theorem top_any (s : ByteArray) (c : Bool) (m : Int) (w : World) (hm : w.cell? ⟨1, 0, none⟩ = some (.int .i64 m)) : Calls Tryd.prog 4 #[.string s, .bool c] w fun e w' => e = .returned (.bool true) ∧ Below w.heap.size w w' := by
  by_cases h : 1000 < s.size
  · exact top_long s c w h
  · exact top_go s c m w (by omega) hm
end Go.Proofs.YtneohanphabneaaDoor

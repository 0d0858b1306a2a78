/-
  The law ScanSays, walked: it says yes.
-/
import Derived.Test.YtneohanphabneaaDoorWords
import Derived.Test.YtneohanphabneaaDoorTokens
import Derived.Test.YtneohanphabneaaDoorTell
namespace Go.Proofs.YtneohanphabneaaDoor
open Go.RowKit

theorem tokCells_length (l : List Sc.Tok) : (tokCells l).length = l.length * 2 := by
  induction l with
  | nil => rfl
  | cons t l ih => unfold tokCells at ih ⊢; simp only [List.flatMap_cons, List.length_append, List.length_cons, List.length_nil, ih]; omega
theorem tokCells_at : ∀ (l : List Sc.Tok) (i : Nat) (h : i < l.length), (tokCells l)[i * 2]? = some (.string ⟨l[i].1.toArray⟩) ∧ (tokCells l)[i * 2 + 1]? = some (.int .i64 (l[i].2 : Nat))
  | [], i, h => by simp at h
  | t :: l, 0, h => by simp [tokCells]
  | t :: l, i + 1, h => by
    have ih := tokCells_at l i (by simpa using h)
    have e : (i + 1) * 2 = i * 2 + 2 := by omega
    have e2 : (i + 1) * 2 + 1 = (i * 2 + 1) + 2 := by omega
    rw [e, show i * 2 + 2 + 1 = (i * 2 + 1) + 2 from by omega]
    simpa [tokCells] using ih
/-- What a row of words holds at i. -/
theorem tok_at {w : World} {B g cap n : Nat} {l : List Sc.Tok} (h : w.ownsRow B 35 2 (.slice (some ⟨g, 0, none⟩) n cap) l.length (tokCells l)) (i : Nat) (hi : i < l.length) :
    w.cell? ⟨g, i * 2, none⟩ = some (.string ⟨l[i].1.toArray⟩) ∧ w.cell? ⟨g, i * 2 + 1, none⟩ = some (.int .i64 (l[i].2 : Nat)) := by
  obtain ⟨h1, h2⟩ := tokCells_at l i hi
  have c1 := h.cells (g := g) rfl _ _ h1
  have c2 := h.cells (g := g) rfl _ _ h2
  have ha : ∀ j, (⟨g, 0, none⟩ : Addr).add j = ⟨g, j, none⟩ := by
    intro j
    unfold Addr.add
    by_cases hj : j = 0
    · rw [if_pos hj, hj]
    · rw [if_neg hj]; simp
  rw [ha] at c1 c2
  exact ⟨c1, c2⟩

theorem own_max {w : World} {B : Nat} {e : TypeId} {size n : Nat} {v : Value} {xs : List Value} (h : w.ownsRow B e size v n xs) : (n : Int) ≤ 9223372036854775807 := by
  rcases h.2 with ⟨_, h⟩ | ⟨_, cap, _, _, _, _, h1, h2, _⟩
  · omega
  · simp only [maxLen] at h2; omega
theorem scan_pos : ∀ (N : Nat) (r : List UInt8) (p : Nat) (acc l : List Sc.Tok), r.length ≤ N → Sc.scan r p acc = .ok l → 0 < l.length
  | N, [], p, acc, l, _, h => by
    rw [Sc.scan_nil] at h
    cases h
    simp
  | 0, c :: t, p, acc, l, hN, h => by simp at hN
  | N + 1, c :: t, p, acc, l, hN, h => by
    have hN : t.length ≤ N := by simpa using hN
    rw [Sc.scan_cons] at h
    split at h
    · cases h
    · exact scan_pos N _ _ _ l (by rw [List.length_drop]; omega) h
    · split at h
      · cases h
      · exact scan_pos N _ _ _ l (by rw [List.length_drop]; omega) h
theorem words_pos {l : List UInt8} {r : List Sc.Tok} (h : Sc.words l = .ok r) : 0 < r.length := by
  unfold Sc.words at h
  split at h
  · cases h
  · exact scan_pos _ _ _ _ _ (Nat.le_refl _) h
set_option maxHeartbeats 1000000 in
theorem says_huge (s : ByteArray) (w : World) (hs : 4200 < s.size) : Calls Tryd.prog 3 #[.string s] w fun e w' => e = .returned (.bool true) ∧ Below w.heap.size w w' := by
  have hb : decide (4200 < s.size) = true := decide_eq_true hs
  go_enter Tryd.func3, Tryd.ntmps3
  go_wp2_with (first | (go_at_call 5; refine (huge_any _ _).mono ?_; rintro e w' ⟨rfl, rfl⟩))
  go_ret
  exact ⟨rfl, Below.refl _ _⟩
set_option maxRecDepth 100000 in
set_option maxHeartbeats 4000000 in
theorem says_go (s : ByteArray) (m : Int) (w : World) (hs : s.size ≤ 4200) (hE : ErrType w) (hm : w.cell? ⟨1, 0, none⟩ = some (.int .i64 m)) : Calls Tryd.prog 3 #[.string s] w fun e w' => e = .returned (.bool true) ∧ Below w.heap.size w w' := by
  have hb : decide (4200 < s.size) = false := decide_eq_false (by omega)
  have hlt1 : 1 < w.heap.size := by
    rcases Nat.lt_or_ge 1 w.heap.size with h | h
    · exact h
    · simp [World.cell?, Array.getElem?_eq_none h] at hm
  have hlt0 := hE.lt
  have HE := Lib.hid hE
  have HM := Lib.hid hm
  clear hE hm
  go_enter Tryd.func3, Tryd.ntmps3
  go_wp2_with (first | (go_at_call 5; refine (huge_any _ _).mono ?_; rintro e w' ⟨rfl, rfl⟩))
  refine (words_any s _).mono ?_
  rintro e w1 ⟨hr, hb1⟩
  have hmz : ∀ W, Below w.heap.size w W → W.cell? ⟨1, 0, none⟩ = some (.int .i64 m) := fun W hW => (hW.cell (p := ⟨1, 0, none⟩) hlt1).trans HM.out
  have HMz := Lib.hid hmz
  clear hmz
  have HB1 := Lib.hid hb1
  have hz1 := hb1.size
  clear hb1
  rcases hres : Sc.words s.data.toList with _ | ⟨n, p⟩ | l
  · rw [hres] at hr
    obtain rfl := hr
    have C2 : ∀ W, Below w.heap.size w W → _ := fun W hW => tokens_any s W m (HMz.out W hW)
    rw [hres] at C2
    have HC2 := Lib.hid C2
    clear C2 hres
    have hb2 : Below w.heap.size w (w1.alloc (.cells #[.int .i64 3, .int .i64 (-1), .int .i64 (-1)] 26)) := HB1.out.alloc hz1 _
    have HB2 := Lib.hid hb2
    have C3 := Lib.hid (HC2.out _ hb2)
    have hK := Blk.new w1 26 #[.int .i64 3, .int .i64 (-1), .int .i64 (-1)]
    have HK := Lib.hid hK
    clear hb2 hK HC2
    go_wp2_with fail
    refine C3.out.mono ?_
    rintro e w3 ⟨hr, hb3⟩
    obtain ⟨⟨c0, c1, c2⟩, _, _, _⟩ := (HK.out.below hb3 (by simp)).three
    have HB3 : Hid (Below w.heap.size w w3) := HB2.out.trans (hb3.mono (by simp; omega))
    have HE3 : Hid (ErrType w3) := HE.out.below HB3.out hlt0
    obtain rfl := hr
    clear hb3 C3 HK
    have C4 := Lib.hid (is_errno w3 3 HE3.out)
    go_wp2_with (first | (go_at_call 8; refine C4.out.mono ?_; rintro e w4 ⟨rfl, hb4⟩))
    go_loop [7] (fun i => i = .int .i64 0) (fun _ => 0)
    case atStart => rfl
    case round =>
      obtain rfl := hrel
      go_wp2
      go_ret
      exact ⟨rfl, HB3.out.trans (hb4.mono (by have := HB3.out.size; omega))⟩
  · rw [hres] at hr
    obtain rfl := hr
    have C2 : ∀ W, Below w.heap.size w W → _ := fun W hW => tokens_any s W m (HMz.out W hW)
    rw [hres] at C2
    have HC2 := Lib.hid C2
    clear C2 hres
    have hb2 : Below w.heap.size w (w1.alloc (.cells #[.int .i64 n, .int .i64 0, .int .i64 p] 26)) := HB1.out.alloc hz1 _
    have HB2 := Lib.hid hb2
    have C3 := Lib.hid (HC2.out _ hb2)
    have hK := Blk.new w1 26 #[.int .i64 n, .int .i64 0, .int .i64 p]
    have HK := Lib.hid hK
    clear hb2 hK HC2
    go_wp2_with fail
    refine C3.out.mono ?_
    rintro e w3 ⟨hr, hb3⟩
    obtain ⟨⟨c0, c1, c2⟩, _, _, _⟩ := (HK.out.below hb3 (by simp)).three
    have HB3 : Hid (Below w.heap.size w w3) := HB2.out.trans (hb3.mono (by simp; omega))
    have HE3 : Hid (ErrType w3) := HE.out.below HB3.out hlt0
    obtain ⟨g, rfl, hblk, hg⟩ := hr
    have C4 := Lib.hid (is_fault w3 g 0 p n HE3.out hblk)
    clear hb3 C3 HK hblk hg
    go_wp2_with (first | (go_at_call 8; refine C4.out.mono ?_; rintro e w4 ⟨rfl, hb4⟩))
    go_loop [7] (fun i => i = .int .i64 0) (fun _ => 0)
    case atStart => rfl
    case round =>
      obtain rfl := hrel
      go_wp2
      go_ret
      exact ⟨rfl, HB3.out.trans (hb4.mono (by have := HB3.out.size; omega))⟩
  · have hres0 := hres
    rw [hres] at hr
    obtain ⟨v, rfl, hown⟩ := hr
    have C2 : ∀ W, Below w.heap.size w W → _ := fun W hW => tokens_any s W m (HMz.out W hW)
    rw [hres] at C2
    have HC2 := Lib.hid C2
    clear C2 hres
    have hl0 : 0 < l.length := words_pos hres0
    have hmax := own_max hown
    obtain ⟨g1, cap1, rfl, -⟩ := hown.form hl0
    clear hres0
    have HO1 := Lib.hid hown
    clear hown
    have hb2 : Below w.heap.size w (w1.alloc (.cells #[.int .i64 0, .int .i64 (-1), .int .i64 (-1)] 26)) := HB1.out.alloc hz1 _
    have HB2 := Lib.hid hb2
    have C3 := Lib.hid (HC2.out _ hb2)
    have hK := Blk.new w1 26 #[.int .i64 0, .int .i64 (-1), .int .i64 (-1)]
    have HK := Lib.hid hK
    clear hb2 hK HC2
    go_wp2_with fail
    refine C3.out.mono ?_
    rintro e w3 ⟨hr, hb3⟩
    obtain ⟨⟨c0, c1, c2⟩, _, _, _⟩ := (HK.out.below hb3 (by simp)).three
    have HB3 : Hid (Below w.heap.size w w3) := HB2.out.trans (hb3.mono (by simp; omega))
    have HE3 : Hid (ErrType w3) := HE.out.below HB3.out hlt0
    obtain ⟨v2, rfl, hown2⟩ := hr
    obtain ⟨g2, cap2, rfl, -⟩ := hown2.form hl0
    have HO1 : Hid (w3.ownsRow w.heap.size 35 2 _ l.length (tokCells l)) := own_below (own_below HO1.out ((Below.refl _ _).alloc (Nat.le_refl _) _)) (hb3)
    have HO2 := Lib.hid hown2
    clear hb3 C3 HK hown2
    have C4 := Lib.hid (is_nil w3)
    go_wp2_with (first | (go_at_call 8; refine C4.out.mono ?_; rintro e w4 ⟨rfl, hb4⟩))
    have HB4 := Lib.hid (HB3.out.trans (hb4.mono (by have := HB3.out.size; omega)))
    have HP1 := Lib.hid (own_below HO1.out hb4)
    have HP2 := Lib.hid (own_below HO2.out hb4)
    clear hb4
    go_loopw [7] (fun i wr => ∃ k n : Nat, k ≤ l.length ∧ i = .int .i64 k ∧ wr = w4.drewN n) (fun i _ => l.length - (intOf i).toNat)
    case atStart => exact ⟨0, 0, Nat.zero_le _, rfl, rfl⟩
    case round =>
      obtain ⟨k, nd, hk, rfl, rfl⟩ := hrel
      by_cases hlt : k < l.length
      · obtain ⟨p1, p2⟩ := tok_at HP1.out k hlt
        obtain ⟨q1, q2⟩ := tok_at HP2.out k hlt
        have i0 : (0 : Int) ≤ (k : Int) := by omega
        have i1 : (k : Int) < (l.length : Int) := by omega
        go_wp2_with fail
        go_quiet (fail)
        go_wp2
        go_roundw
        case rel => exact ⟨k + 1, _, by omega, by go_num, rfl⟩
        case measure => simp [intOf]; omega
      · go_wp2
        go_ret
        exact ⟨rfl, below_drewN HB4.out _⟩
theorem says_any (s : ByteArray) (m : Int) (w : World) (hE : ErrType w) (hm : w.cell? ⟨1, 0, none⟩ = some (.int .i64 m)) : Calls Tryd.prog 3 #[.string s] w fun e w' => e = .returned (.bool true) ∧ Below w.heap.size w w' := by
  by_cases h : 4200 < s.size
  · exact says_huge s w h
  · exact says_go s m w (by omega) hE hm
end Go.Proofs.YtneohanphabneaaDoor

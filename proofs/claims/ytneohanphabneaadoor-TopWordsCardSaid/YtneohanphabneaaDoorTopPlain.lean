/-
  The plain law of TopWords: the words of a text, one behind the other with a blank or a comment between, are its words.
-/
import Derived.Test.YtneohanphabneaaDoorPlain
namespace Go.Proofs.YtneohanphabneaaDoor.Sc

/-! ### The words of a closed text, by reckoning -/
def scanF : Nat → List UInt8 → Nat → List Tok → Res
  | 0, _, p, acc => .ok (acc ++ [([], p)])
  | _ + 1, [], p, acc => .ok (acc ++ [([], p)])
  | n + 1, c :: t, p, acc =>
    match gap (c :: t) with
    | some none => .bad 2 p
    | some (some k) => scanF n (t.drop (k - 1)) (p + k) acc
    | none =>
      match word (c :: t) with
      | .inl e => .bad e p
      | .inr k => scanF n (t.drop (k - 1)) (p + k) (acc ++ [((c :: t).take k, p)])
theorem scan_scanF : ∀ (n : Nat) (r : List UInt8) (p : Nat) (acc : List Tok), r.length ≤ n → scan r p acc = scanF n r p acc
  | 0, [], p, acc, _ => by rw [scan_nil]; rfl
  | 0, _ :: _, _, _, h => by simp at h
  | n + 1, [], p, acc, _ => by rw [scan_nil]; rfl
  | n + 1, c :: t, p, acc, h => by
    have hl : t.length ≤ n := by simpa using h
    have hd : ∀ k, (t.drop k).length ≤ n := fun k => by rw [List.length_drop]; omega
    rw [scan_cons, scanF]
    cases gap (c :: t) with
    | some g =>
      cases g with
      | none => rfl
      | some k => exact scan_scanF n _ _ _ (hd _)
    | none =>
      show (match word (c :: t) with | .inl e => _ | .inr n => _) = (match word (c :: t) with | .inl e => _ | .inr n => _)
      cases word (c :: t) with
      | inl e => rfl
      | inr k => exact scan_scanF n _ _ _ (hd _)
def small : List UInt8 := [77, 79, 68, 85, 76, 69, 32, 77, 59, 32, 66, 69, 71, 73, 78, 32, 79, 85, 84, 40, 49, 41, 32, 69, 78, 68, 32, 77, 46]
def smallToks : List Tok := [([77, 79, 68, 85, 76, 69], 0), ([77], 7), ([59], 8), ([66, 69, 71, 73, 78], 10), ([79, 85, 84], 16), ([40], 19), ([49], 20), ([41], 21), ([69, 78, 68], 23), ([77], 27), ([46], 28), ([], 29)]
theorem words_small : words small = .ok smallToks := by
  unfold words
  rw [if_neg (by decide), scan_scanF small.length _ _ _ (Nat.le_refl _)]
  rfl

/-! ### Where words lie -/
theorem word_le : ∀ (r : List UInt8) (n : Nat), word r = .inr n → 1 ≤ n ∧ n ≤ r.length
  | [], n, h => by cases h
  | c :: t, n, h => by
    have ht : ∀ p : UInt8 → Bool, (t.takeWhile p).length ≤ t.length := fun p => (List.takeWhile_prefix p).length_le
    have h1 := ht isLD
    have h2 := ht isD
    rw [word] at h
    simp only [List.length_cons]
    by_cases hl : isL c = true
    · rw [if_pos hl] at h
      by_cases h12 : 12 < 1 + (t.takeWhile isLD).length
      · have h : Sum.inl 3 = Sum.inr n := (if_pos h12).symm.trans h
        cases h
      · have h : Sum.inr (1 + (t.takeWhile isLD).length) = Sum.inr n := (if_neg h12).symm.trans h
        cases h; omega
    · rw [if_neg hl] at h
      by_cases hd : isD c = true
      · rw [if_pos hd] at h
        by_cases hbig : isBig ((c :: t).take (1 + (t.takeWhile isD).length)) = true
        · have h : Sum.inl 3 = Sum.inr n := (if_pos hbig).symm.trans h
          cases h
        · have h : Sum.inr (1 + (t.takeWhile isD).length) = Sum.inr n := (if_neg hbig).symm.trans h
          cases h; omega
      · rw [if_neg hd] at h
        by_cases hp : t.head? = some 61 ∧ (c = 58 ∨ c = 60 ∨ c = 62)
        · rw [if_pos hp] at h
          cases h
          cases t with
          | nil => exact absurd hp.1 (by simp)
          | cons a b => simp
        · rw [if_neg hp] at h
          by_cases hs : isSign c = true
          · rw [if_pos hs] at h; cases h; omega
          · rw [if_neg hs] at h; cases h
theorem gap_le : ∀ (r : List UInt8) (n : Nat), gap r = some (some n) → 1 ≤ n ∧ n ≤ r.length
  | [], n, h => by cases h
  | c :: t, n, h => by
    rw [gap] at h
    simp only [List.length_cons]
    by_cases hb : isBlank c = true
    · rw [if_pos hb] at h; cases h; omega
    · rw [if_neg hb] at h
      by_cases hp : c = 40 ∧ t.head? = some 42
      · rw [if_pos hp] at h
        simp only [Option.some.injEq] at h
        have hc := cmt_le _ _ _ _ h
        have : t.tail.length + 1 = t.length := by
          cases t with
          | nil => exact absurd hp.2 (by simp)
          | cons a b => simp
        omega
      · rw [if_neg hp] at h; cases h
theorem scan_inside : ∀ (N : Nat) (r : List UInt8) (p : Nat) (acc l : List Tok), r.length ≤ N → (∀ t ∈ acc, t.2 + t.1.length ≤ p + r.length) → scan r p acc = .ok l → ∀ t ∈ l, t.2 + t.1.length ≤ p + r.length
  | N, [], p, acc, l, _, ha, h => by
    rw [scan_nil] at h
    cases h
    intro t ht
    rcases List.mem_append.1 ht with ht | ht
    · exact ha t ht
    · simp only [List.mem_singleton] at ht
      rw [ht]; simp
  | 0, _ :: _, _, _, _, h, _, _ => by simp at h
  | N + 1, c :: t, p, acc, l, hN, ha, h => by
    have hl : t.length ≤ N := by simpa using hN
    have hd : ∀ k, (t.drop k).length ≤ N := fun k => by rw [List.length_drop]; omega
    rw [scan_cons] at h
    cases hg : gap (c :: t) with
    | some g =>
      rw [hg] at h
      cases g with
      | none => cases h
      | some k =>
        have hk := gap_le _ _ hg
        simp only [List.length_cons] at hk
        have e : p + k + (t.drop (k - 1)).length = p + (c :: t).length := by rw [List.length_drop, List.length_cons]; omega
        have := scan_inside N _ _ _ _ (hd _) (by rw [e]; exact ha) h
        rw [e] at this
        exact this
    | none =>
      rw [hg] at h
      simp only at h
      cases hw : word (c :: t) with
      | inl e => rw [hw] at h; cases h
      | inr k =>
        rw [hw] at h
        simp only at h
        have hk := word_le _ _ hw
        simp only [List.length_cons] at hk
        have e : p + k + (t.drop (k - 1)).length = p + (c :: t).length := by rw [List.length_drop, List.length_cons]; omega
        have := scan_inside N _ _ _ _ (hd _) (by
          rw [e]
          intro x hx
          rcases List.mem_append.1 hx with hx | hx
          · exact ha x hx
          · simp only [List.mem_singleton] at hx
            rw [hx]
            simp only [List.length_take, List.length_cons]
            omega) h
        rw [e] at this
        exact this
theorem words_in {l : List UInt8} {r : List Tok} (h : words l = .ok r) : ∀ t ∈ r, t.2 + t.1.length ≤ l.length := by
  unfold words at h
  split at h
  · cases h
  · have := scan_inside _ _ _ _ _ (Nat.le_refl _) (by simp) h
    simpa using this

theorem scan_len : ∀ (N : Nat) (r : List UInt8) (p : Nat) (acc l : List Tok), r.length ≤ N → scan r p acc = .ok l → l.length ≤ acc.length + r.length + 1
  | N, [], p, acc, l, _, h => by
    rw [scan_nil] at h
    cases h
    simp
  | 0, _ :: _, _, _, _, h, _ => by simp at h
  | N + 1, c :: t, p, acc, l, hN, h => by
    have hl : t.length ≤ N := by simpa using hN
    have hd : ∀ k, (t.drop k).length ≤ N := fun k => by rw [List.length_drop]; omega
    rw [scan_cons] at h
    cases hg : gap (c :: t) with
    | some g =>
      rw [hg] at h
      cases g with
      | none => cases h
      | some k =>
        have := scan_len N _ _ _ _ (hd _) h
        simp only [List.length_drop, List.length_cons] at this ⊢
        omega
    | none =>
      rw [hg] at h
      simp only at h
      cases hw : word (c :: t) with
      | inl e => rw [hw] at h; cases h
      | inr k =>
        rw [hw] at h
        simp only at h
        have := scan_len N _ _ _ _ (hd _) h
        simp only [List.length_drop, List.length_cons, List.length_append, List.length_nil] at this ⊢
        omega
theorem words_len {l : List UInt8} {r : List Tok} (h : words l = .ok r) : r.length ≤ l.length + 1 := by
  unfold words at h
  split at h
  · cases h
  · have := scan_len _ _ _ _ _ (Nat.le_refl _) h
    simpa using this

/-! ### A word with a gap behind it -/
/-- What stands between words: it begins with a blank or with an opening bracket that a star follows, and is a gap. -/
structure Between (b : List UInt8) : Prop where
  gap_all : ∀ r, gap (b ++ r) = some (some b.length)
  one : 1 ≤ b.length
  head : ∃ c u, b = c :: u ∧ (c = 32 ∨ c = 40)
def sepC : List UInt8 := [40, 42, 32, 40, 42, 42, 41, 32, 42, 41]
theorem between_blank : Between [32] := ⟨fun r => by simp [gap, isBlank], by decide, 32, [], rfl, .inl rfl⟩
theorem between_comment : Between sepC := ⟨fun r => by simp [sepC, gap, isBlank, cmt], by decide, 40, _, rfl, .inr rfl⟩
theorem isLD_sep {c : UInt8} (h : c = 32 ∨ c = 40) : isLD c = false ∧ isD c = false ∧ ¬ c = 61 ∧ ¬ c = 42 := by
  rcases h with rfl | rfl <;> decide
theorem takeWhile_stop (p : UInt8 → Bool) : ∀ (t x : List UInt8) (c : UInt8), p c = false → (t.takeWhile p ++ c :: x).takeWhile p = t.takeWhile p
  | [], x, c, hc => by simp [hc]
  | a :: t, x, c, hc => by
    by_cases ha : p a = true
    · rw [List.takeWhile_cons, if_pos ha]
      simp only [List.cons_append]
      rw [List.takeWhile_cons, if_pos ha, takeWhile_stop p t x c hc]
    · rw [List.takeWhile_cons, if_neg ha]
      simp [hc]
theorem take_takeWhile (p : UInt8 → Bool) (t : List UInt8) : t.take (t.takeWhile p).length = t.takeWhile p := by
  exact (List.prefix_iff_eq_take.1 (List.takeWhile_prefix p)).symm
/-- A word that was read is read again where a gap follows. -/
theorem word_again {c : UInt8} {t : List UInt8} {n : Nat} (hg : gap (c :: t) = none) (hw : word (c :: t) = .inr n) {s : UInt8} (hs : s = 32 ∨ s = 40) (x : List UInt8) :
    ∃ u, (c :: t).take n = c :: u ∧ gap (c :: (u ++ s :: x)) = none ∧ word (c :: (u ++ s :: x)) = .inr n ∧ n = u.length + 1 := by
  obtain ⟨s1, s2, s3, s4⟩ := isLD_sep hs
  have hb : isBlank c = false := by
    rw [gap] at hg
    by_cases h : isBlank c = true
    · rw [if_pos h] at hg; cases hg
    · exact Bool.eq_false_iff.2 h
  have hcm : ¬ (c = 40 ∧ t.head? = some 42) := by
    intro h
    rw [gap] at hg
    rw [if_neg (by rw [hb]; decide), if_pos h] at hg
    cases hg
  have gapN : ∀ r : List UInt8, ¬ (c = 40 ∧ r.head? = some 42) → gap (c :: r) = none := fun r h => by
    rw [gap]
    rw [if_neg (by rw [hb]; decide), if_neg h]
  have hsh : ∀ y : List UInt8, ([] ++ s :: y).head? = some s := fun _ => rfl
  rw [word] at hw
  by_cases hl : isL c = true
  · rw [if_pos hl] at hw
    by_cases h12 : 12 < 1 + (t.takeWhile isLD).length
    · have hw : Sum.inl 3 = Sum.inr n := (if_pos h12).symm.trans hw
      cases hw
    · have hw : Sum.inr (1 + (t.takeWhile isLD).length) = Sum.inr n := (if_neg h12).symm.trans hw
      cases hw
      refine ⟨t.takeWhile isLD, ?_, gapN _ ?_, ?_, by omega⟩
      · rw [show 1 + (t.takeWhile isLD).length = (t.takeWhile isLD).length + 1 from by omega, List.take_succ_cons, take_takeWhile]
      · rintro ⟨rfl, _⟩; exact absurd hl (by decide)
      · rw [word, if_pos hl, takeWhile_stop isLD t x s s1]
        exact if_neg h12
  · rw [if_neg hl] at hw
    by_cases hd : isD c = true
    · rw [if_pos hd] at hw
      by_cases hbig : isBig ((c :: t).take (1 + (t.takeWhile isD).length)) = true
      · have hw : Sum.inl 3 = Sum.inr n := (if_pos hbig).symm.trans hw
        cases hw
      · have hw : Sum.inr (1 + (t.takeWhile isD).length) = Sum.inr n := (if_neg hbig).symm.trans hw
        cases hw
        have ht : (c :: t).take (1 + (t.takeWhile isD).length) = c :: t.takeWhile isD := by
          rw [show 1 + (t.takeWhile isD).length = (t.takeWhile isD).length + 1 from by omega, List.take_succ_cons, take_takeWhile]
        refine ⟨t.takeWhile isD, ht, gapN _ ?_, ?_, by omega⟩
        · rintro ⟨rfl, _⟩; exact absurd hd (by decide)
        · rw [word, if_neg hl, if_pos hd, takeWhile_stop isD t x s s2]
          rw [ht] at hbig
          have e : (c :: (t.takeWhile isD ++ s :: x)).take (1 + (t.takeWhile isD).length) = c :: t.takeWhile isD := by
            rw [show 1 + (t.takeWhile isD).length = (t.takeWhile isD).length + 1 from by omega, List.take_succ_cons, List.take_left]
          exact if_neg (by rw [e]; exact hbig)
    · rw [if_neg hd] at hw
      by_cases hp : t.head? = some 61 ∧ (c = 58 ∨ c = 60 ∨ c = 62)
      · rw [if_pos hp] at hw
        cases hw
        cases t with
        | nil => exact absurd hp.1 (by simp)
        | cons a b =>
          have ha : a = 61 := by simpa using hp.1
          subst ha
          refine ⟨[61], rfl, gapN _ (by rintro ⟨_, h⟩; simp at h), ?_, rfl⟩
          rw [word, if_neg hl, if_neg hd, if_pos ⟨rfl, hp.2⟩]
      · rw [if_neg hp] at hw
        by_cases hsg : isSign c = true
        · rw [if_pos hsg] at hw
          cases hw
          refine ⟨[], rfl, gapN _ ?_, ?_, rfl⟩
          · rintro ⟨_, h⟩; exact s4 (by simpa using h)
          · rw [word, if_neg hl, if_neg hd, if_neg (by rintro ⟨h, _⟩; exact s3 (by simpa using h)), if_pos hsg]
        · rw [if_neg hsg] at hw; cases hw
/-- A word of a text: what word and gap say at it, whatever follows behind a gap. -/
def Good (w : List UInt8) : Prop := ∀ (s : UInt8), (s = 32 ∨ s = 40) → ∀ x, ∃ c u, w = c :: u ∧ gap (w ++ s :: x) = none ∧ word (w ++ s :: x) = .inr w.length
theorem scan_good : ∀ (N : Nat) (r : List UInt8) (p : Nat) (acc l : List Tok), r.length ≤ N → scan r p acc = .ok l → ∃ m q, l = acc ++ m ++ [([], q)] ∧ ∀ t ∈ m, Good t.1
  | N, [], p, acc, l, _, h => by
    rw [scan_nil] at h
    cases h
    exact ⟨[], p, by simp, by simp⟩
  | 0, _ :: _, _, _, _, h, _ => by simp at h
  | N + 1, c :: t, p, acc, l, hN, h => by
    have hl : t.length ≤ N := by simpa using hN
    have hd : ∀ k, (t.drop k).length ≤ N := fun k => by rw [List.length_drop]; omega
    rw [scan_cons] at h
    cases hg : gap (c :: t) with
    | some g =>
      rw [hg] at h
      cases g with
      | none => cases h
      | some k => exact scan_good N _ _ _ _ (hd _) h
    | none =>
      rw [hg] at h
      simp only at h
      cases hw : word (c :: t) with
      | inl e => rw [hw] at h; cases h
      | inr k =>
        rw [hw] at h
        simp only at h
        obtain ⟨m, q, e, hm⟩ := scan_good N _ _ _ _ (hd _) h
        refine ⟨((c :: t).take k, p) :: m, q, by rw [e]; simp, ?_⟩
        intro x hx
        rcases List.mem_cons.1 hx with rfl | hx
        · intro s hs y
          obtain ⟨u, e1, e2, e3, e4⟩ := word_again hg hw hs y
          refine ⟨c, u, e1, ?_, ?_⟩
          · rw [e1]; exact e2
          · rw [e1]
            simp only [List.cons_append, List.length_cons]
            rw [← e4]
            exact e3
        · exact hm x hx
/-- The text made of words, each with b behind it. -/
def joined (b : List UInt8) (l : List Tok) : List UInt8 := l.flatMap fun t => t.1 ++ b
theorem scan_sep {b : List UInt8} (hb : Between b) (r : List UInt8) (p : Nat) (acc : List Tok) : scan (b ++ r) p acc = scan r (p + b.length) acc := by
  have hg := hb.gap_all r
  have h1 := hb.one
  obtain ⟨c, u, e, _⟩ := hb.head
  rw [e] at hg h1 ⊢
  simp only [List.cons_append] at hg ⊢
  rw [scan_cons, hg]
  simp
theorem scan_joined {b : List UInt8} (hb : Between b) : ∀ (m : List Tok) (q p : Nat) (acc : List Tok), (∀ t ∈ m, Good t.1) →
    ∃ m', scan (joined b (m ++ [([], q)])) p acc = .ok (acc ++ m') ∧ m'.map (·.1) = m.map (·.1) ++ [[]]
  | [], q, p, acc, _ => by
    refine ⟨[([], p + b.length)], ?_, by simp⟩
    have := scan_sep hb [] p acc
    rw [List.append_nil] at this
    simp only [joined, List.nil_append, List.flatMap_cons, List.flatMap_nil, List.append_nil]
    rw [this, scan_nil]
  | t :: m, q, p, acc, hm => by
    obtain ⟨c, u, e, hc⟩ := hb.head
    have hj : joined b ((t :: m) ++ [([], q)]) = t.1 ++ (b ++ joined b (m ++ [([], q)])) := by simp [joined]
    rw [hj]
    obtain ⟨a, v, ea, g1, g2⟩ := hm t (by simp) c hc (u ++ joined b (m ++ [([], q)]))
    have hx : t.1 ++ (b ++ joined b (m ++ [([], q)])) = t.1 ++ c :: (u ++ joined b (m ++ [([], q)])) := by rw [e]; simp
    rw [← hx] at g1 g2
    obtain ⟨m', e1, e2⟩ := scan_joined hb m q (p + t.1.length + b.length) (acc ++ [(t.1, p)]) (fun x hx => hm x (by simp [hx]))
    refine ⟨(t.1, p) :: m', ?_, by simp [e2]⟩
    have hs : scan (t.1 ++ (b ++ joined b (m ++ [([], q)]))) p acc = scan (b ++ joined b (m ++ [([], q)])) (p + t.1.length) (acc ++ [(t.1, p)]) := by
      have hlen : t.1.length = v.length + 1 := by rw [ea]; rfl
      have ht : (t.1 ++ (b ++ joined b (m ++ [([], q)]))).take t.1.length = t.1 := List.take_left
      have hdr : (v ++ (b ++ joined b (m ++ [([], q)]))).drop (t.1.length - 1) = b ++ joined b (m ++ [([], q)]) := by
        rw [hlen, Nat.add_sub_cancel]; exact List.drop_left
      rw [ea] at g1 g2 ht hdr ⊢
      simp only [List.cons_append] at g1 g2 ht ⊢
      rw [scan_cons, g1]
      simp only
      rw [g2]
      simp only
      rw [ht, hdr]
    rw [hs, scan_sep hb, e1]
    simp
/-- ████ THE LAW. -/
theorem words_again {b : List UInt8} (hb : Between b) {l : List UInt8} {r : List Tok} (h : words l = .ok r) (hlen : (joined b r).length ≤ 4000) :
    ∃ r', words (joined b r) = .ok r' ∧ r'.map (·.1) = r.map (·.1) := by
  unfold words at h
  split at h
  · cases h
  · obtain ⟨m, q, e, hm⟩ := scan_good _ _ _ _ _ (Nat.le_refl _) h
    rw [List.nil_append] at e
    subst e
    obtain ⟨m', e1, e2⟩ := scan_joined hb m q 0 [] hm
    refine ⟨m', ?_, by rw [e2]; simp⟩
    unfold words
    rw [if_neg (by omega), e1, List.nil_append]
end Go.Proofs.YtneohanphabneaaDoor.Sc

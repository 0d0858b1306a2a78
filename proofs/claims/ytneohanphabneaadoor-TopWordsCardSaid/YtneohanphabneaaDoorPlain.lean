/-
  The plain law of words: what the words of a text are, as a Lean function on lists of bytes. No program in sight.
-/
import Derived.Lib.Strings
import Derived.Lib.IndexBytes
import Derived.Lib.Hide
import Derived.Laws.Cover1
namespace Go.Proofs.YtneohanphabneaaDoor.Sc

def isL (c : UInt8) : Bool := (97 ≤ c && c ≤ 122) || (65 ≤ c && c ≤ 90)
def isD (c : UInt8) : Bool := 48 ≤ c && c ≤ 57
def isLD (c : UInt8) : Bool := isL c || isD c
def isBlank (c : UInt8) : Bool := c == 32 || c == 9 || c == 10 || c == 13
def isSign (c : UInt8) : Bool := List.contains [61, 35, 60, 62, 43, 45, 42, 38, 126, 40, 41, 91, 93, 123, 125, 44, 59, 58, 46, 94] c
/-- A number without noughts ahead. -/
def bare : List UInt8 → List UInt8
  | [] => []
  | c :: t => if c = 48 then bare t else c :: t
def maxNum : List UInt8 := [50, 49, 52, 55, 52, 56, 51, 54, 52, 55]
def over (l : List UInt8) : Bool := !Op.bytesLess l maxNum && !(l == maxNum)
def isBig (l : List UInt8) : Bool := 10 < (bare l).length || ((bare l).length == 10 && over (bare l))
/-- Is a number too great, as bytes? -/
def bigB (s : ByteArray) : Bool := isBig s.data.toList
/-- How many bytes there are up to behind the end of a comment, d levels deep (k have been read). -/
def cmt : List UInt8 → Nat → Nat → Option Nat
  | [], _, _ => none
  | [_], _, _ => none
  | a :: b :: r, d, k =>
    if a = 40 ∧ b = 42 then cmt r (d + 1) (k + 2)
    else if a = 42 ∧ b = 41 then (if d = 1 then some (k + 2) else cmt r (d - 1) (k + 2))
    else cmt (b :: r) d (k + 1)
/-- How many bytes of a gap there are (a blank, a comment); some none: a comment without an end. -/
def gap : List UInt8 → Option (Option Nat)
  | [] => none
  | c :: t => if isBlank c then some (some 1) else if c = 40 ∧ t.head? = some 42 then some (cmt t.tail 1 2) else none
/-- A word: how many bytes, or what is wrong. -/
def word : List UInt8 → Nat ⊕ Nat
  | [] => .inl 1
  | c :: t =>
    if isL c then (let n := 1 + (t.takeWhile isLD).length; if 12 < n then .inl 3 else .inr n)
    else if isD c then (let n := 1 + (t.takeWhile isD).length; if isBig ((c :: t).take n) then .inl 3 else .inr n)
    else if t.head? = some 61 ∧ (c = 58 ∨ c = 60 ∨ c = 62) then .inr 2
    else if isSign c then .inr 1 else .inl 1

abbrev Tok := List UInt8 × Nat
inductive Res where
  | limit
  | bad (e at_ : Nat)
  | ok (l : List Tok)

def scan (r : List UInt8) (p : Nat) (acc : List Tok) : Res :=
  match r with
  | [] => .ok (acc ++ [([], p)])
  | c :: t =>
    match gap (c :: t) with
    | some none => .bad 2 p
    | some (some n) => scan (t.drop (n - 1)) (p + n) acc
    | none =>
      match word (c :: t) with
      | .inl e => .bad e p
      | .inr n => scan (t.drop (n - 1)) (p + n) (acc ++ [((c :: t).take n, p)])
  termination_by r.length
  decreasing_by all_goals (simp only [List.length_drop, List.length_cons]; omega)
def words (l : List UInt8) : Res := if 4000 < l.length then .limit else scan l 0 []

theorem scan_nil (p : Nat) (acc : List Tok) : scan [] p acc = .ok (acc ++ [([], p)]) := by rw [scan]
theorem scan_cons (c : UInt8) (t : List UInt8) (p : Nat) (acc : List Tok) : scan (c :: t) p acc =
    match gap (c :: t) with
    | some none => .bad 2 p
    | some (some n) => scan (t.drop (n - 1)) (p + n) acc
    | none =>
      match word (c :: t) with
      | .inl e => .bad e p
      | .inr n => scan (t.drop (n - 1)) (p + n) (acc ++ [((c :: t).take n, p)]) := by rw [scan]

theorem cmt_le : ∀ (l : List UInt8) (d k n : Nat), cmt l d k = some n → k + 2 ≤ n ∧ n ≤ k + l.length
  | [], _, _, _, h => by simp [cmt] at h
  | [_], _, _, _, h => by simp [cmt] at h
  | a :: b :: r, d, k, n, h => by
    rw [cmt] at h
    by_cases h1 : a = 40 ∧ b = 42
    · rw [if_pos h1] at h
      have := cmt_le r _ _ n h
      simp only [List.length_cons]; omega
    · rw [if_neg h1] at h
      by_cases h2 : a = 42 ∧ b = 41
      · rw [if_pos h2] at h
        by_cases h3 : d = 1
        · rw [if_pos h3] at h
          simp only [Option.some.injEq] at h
          simp only [List.length_cons]; omega
        · rw [if_neg h3] at h
          have := cmt_le r _ _ n h
          simp only [List.length_cons]; omega
      · rw [if_neg h2] at h
        have := cmt_le (b :: r) _ _ n h
        simp only [List.length_cons] at this ⊢; omega

theorem take_snoc (s : ByteArray) (k : Nat) (h : k < s.size) : s.data.toList.take (k + 1) = s.data.toList.take k ++ [s[k]] := by
  rw [List.take_succ_eq_append_getElem (by simpa using h)]; rfl
theorem drop_cons (s : ByteArray) (k : Nat) (h : k < s.size) : s.data.toList.drop k = s[k] :: s.data.toList.drop (k + 1) := by
  rw [List.drop_eq_getElem_cons (by simpa using h)]; rfl
theorem len_size (s : ByteArray) : s.data.toList.length = s.size := (Go.Lib.size_eq s).symm
theorem drop_end (s : ByteArray) (k : Nat) (h : s.size ≤ k) : s.data.toList.drop k = [] := List.drop_eq_nil_iff.2 (by rw [len_size]; exact h)

theorem contains_snoc (l : List UInt8) (x c : UInt8) : (l ++ [x]).contains c = (l.contains c || x == c) := by
  rw [Bool.eq_iff_iff]
  simp only [List.contains_iff_mem, List.mem_append, List.mem_singleton, Bool.or_eq_true, beq_iff_eq]
  constructor
  · rintro (h | h)
    · exact .inl h
    · exact .inr h.symm
  · rintro (h | h)
    · exact .inl h
    · exact .inr h.symm

theorem cmt_end (s : ByteArray) (i d k : Nat) (h : s.size ≤ i + 1) : cmt (s.data.toList.drop i) d k = none := by
  rcases Nat.lt_or_ge i s.size with h1 | h1
  · rw [drop_cons s i h1, drop_end s (i + 1) h, cmt]
  · rw [drop_end s i h1, cmt]
theorem cmt_two (s : ByteArray) (i d k : Nat) (h : i + 1 < s.size) : cmt (s.data.toList.drop i) d k =
    if s[i] = 40 ∧ s[i + 1] = 42 then cmt (s.data.toList.drop (i + 2)) (d + 1) (k + 2)
    else if s[i] = 42 ∧ s[i + 1] = 41 then (if d = 1 then some (k + 2) else cmt (s.data.toList.drop (i + 2)) (d - 1) (k + 2))
    else cmt (s.data.toList.drop (i + 1)) d (k + 1) := by
  rw [drop_cons s i (by omega), drop_cons s (i + 1) h, cmt]
theorem bare_cons0 (s : ByteArray) (k : Nat) (h : k < s.size) (h0 : s[k] = 48) : bare (s.data.toList.drop k) = bare (s.data.toList.drop (k + 1)) := by
  rw [drop_cons s k h, bare, if_pos h0]
theorem bare_cons1 (s : ByteArray) (k : Nat) (h : k < s.size) (h0 : ¬ s[k] = 48) : bare (s.data.toList.drop k) = s.data.toList.drop k := by
  rw [drop_cons s k h, bare, if_neg h0]

theorem cmt_shift : ∀ (l : List UInt8) (d k j : Nat), cmt l d (k + j) = (cmt l d k).map (· + j)
  | [], _, _, _ => by simp [cmt]
  | [_], _, _, _ => by simp [cmt]
  | a :: b :: r, d, k, j => by
    rw [cmt, cmt]
    by_cases h1 : a = 40 ∧ b = 42
    · rw [if_pos h1, if_pos h1, show k + j + 2 = k + 2 + j from by omega]; exact cmt_shift r _ _ _
    · rw [if_neg h1, if_neg h1]
      by_cases h2 : a = 42 ∧ b = 41
      · rw [if_pos h2, if_pos h2]
        by_cases h3 : d = 1
        · rw [if_pos h3, if_pos h3]; simp; omega
        · rw [if_neg h3, if_neg h3, show k + j + 2 = k + 2 + j from by omega]; exact cmt_shift r _ _ _
      · rw [if_neg h2, if_neg h2, show k + j + 1 = k + 1 + j from by omega]; exact cmt_shift (b :: r) _ _ _

/-- The comment that begins at k (its two signs are at k and k + 1): where it ends. -/
def cmtAt (s : ByteArray) (k : Nat) : Option Nat := cmt (s.data.toList.drop (k + 2)) 1 (k + 2)
theorem cmtAt_le {s : ByteArray} {k e : Nat} (hk : k + 2 ≤ s.size) (h : cmtAt s k = some e) : k + 4 ≤ e ∧ e ≤ s.size := by
  have h1 := cmt_le _ _ _ _ h
  rw [List.length_drop, len_size] at h1
  omega

/-! ### One step of the words, at a place k of a text -/
section
variable (s : ByteArray) (k : Nat) (acc : List Tok)
theorem scan_end (h : s.size ≤ k) : scan (s.data.toList.drop k) k acc = .ok (acc ++ [([], k)]) := by rw [drop_end s k h, scan_nil]
theorem scan_blank (h : k < s.size) (hb : isBlank s[k] = true) : scan (s.data.toList.drop k) k acc = scan (s.data.toList.drop (k + 1)) (k + 1) acc := by
  rw [drop_cons s k h, scan_cons, gap, if_pos hb]; simp
theorem gap_comment (h : k + 1 < s.size) (hb : isBlank s[k] = false) (h1 : s[k] = 40) (h2 : s[k + 1] = 42) :
    gap (s.data.toList.drop k) = some (cmt (s.data.toList.drop (k + 2)) 1 2) := by
  rw [drop_cons s k (by omega), gap, if_neg (by rw [hb]; decide), if_pos ⟨h1, by rw [drop_cons s (k + 1) h, List.head?_cons, h2]⟩, drop_cons s (k + 1) h, List.tail_cons]
theorem gap_none (h : k < s.size) (hb : isBlank s[k] = false) (hc : ¬ (s[k] = 40 ∧ ∃ h : k + 1 < s.size, s[k + 1] = 42)) : gap (s.data.toList.drop k) = none := by
  rw [drop_cons s k h, gap, if_neg (by rw [hb]; decide), if_neg]
  rintro ⟨e1, e2⟩
  refine hc ⟨e1, ?_⟩
  by_cases h1 : k + 1 < s.size
  · refine ⟨h1, ?_⟩
    rw [drop_cons s (k + 1) h1, List.head?_cons] at e2
    exact Option.some.inj e2
  · rw [drop_end s (k + 1) (by omega)] at e2; cases e2
theorem scan_open (h : k + 1 < s.size) (hb : isBlank s[k] = false) (h1 : s[k] = 40) (h2 : s[k + 1] = 42) (hn : cmtAt s k = none) : scan (s.data.toList.drop k) k acc = .bad 2 k := by
  have hg := gap_comment s k h hb h1 h2
  have e : cmt (s.data.toList.drop (k + 2)) 1 2 = none := by
    unfold cmtAt at hn
    rw [show k + 2 = 2 + k from by omega, cmt_shift] at hn
    rw [show k + 2 = 2 + k from by omega]
    simpa using hn
  rw [e] at hg
  rw [drop_cons s k (by omega)] at hg ⊢
  rw [scan_cons, hg]
theorem scan_comment {e : Nat} (h : k + 1 < s.size) (hb : isBlank s[k] = false) (h1 : s[k] = 40) (h2 : s[k + 1] = 42) (hn : cmtAt s k = some e) :
    scan (s.data.toList.drop k) k acc = scan (s.data.toList.drop e) e acc := by
  have hg := gap_comment s k h hb h1 h2
  have hle := cmtAt_le (by omega) hn
  have e1 : cmt (s.data.toList.drop (k + 2)) 1 2 = some (e - k) := by
    unfold cmtAt at hn
    rw [show k + 2 = 2 + k from by omega, cmt_shift] at hn
    rw [show k + 2 = 2 + k from by omega]
    cases hx : cmt (List.drop (2 + k) s.data.toList) 1 2 with
    | none => rw [hx] at hn; cases hn
    | some x => rw [hx] at hn; simp at hn ⊢; omega
  rw [e1] at hg
  have hd : s.data.toList.drop e = (s.data.toList.drop (k + 1)).drop (e - k - 1) := by rw [List.drop_drop]; congr 1; omega
  rw [drop_cons s k (by omega)] at hg ⊢
  rw [scan_cons, hg, hd]
  show scan _ (k + (e - k)) acc = _
  rw [show k + (e - k) = e from by omega]
theorem scan_bad {e : Nat} (h : k < s.size) (hg : gap (s.data.toList.drop k) = none) (hw : word (s.data.toList.drop k) = .inl e) : scan (s.data.toList.drop k) k acc = .bad e k := by
  rw [drop_cons s k h] at hg hw ⊢
  rw [scan_cons, hg]
  show (match word _ with | .inl e => _ | .inr n => _) = _
  rw [hw]
theorem scan_word {n : Nat} (h : k < s.size) (hn : 1 ≤ n) (hg : gap (s.data.toList.drop k) = none) (hw : word (s.data.toList.drop k) = .inr n) :
    scan (s.data.toList.drop k) k acc = scan (s.data.toList.drop (k + n)) (k + n) (acc ++ [((s.extract k (k + n)).data.toList, k)]) := by
  have hd : s.data.toList.drop (k + n) = (s.data.toList.drop (k + 1)).drop (n - 1) := by rw [List.drop_drop]; congr 1; omega
  rw [Go.Lib.extract_data, hd, show k + n - k = n from by omega]
  rw [drop_cons s k h] at hg hw ⊢
  rw [scan_cons, hg]
  show (match word _ with | .inl e => _ | .inr n => _) = _
  rw [hw]

/-! ### Which word: by the byte at k -/
theorem tw_step (p : UInt8 → Bool) (h : k < s.size) (hp : p s[k] = true) : ((s.data.toList.drop k).takeWhile p).length = 1 + ((s.data.toList.drop (k + 1)).takeWhile p).length := by
  rw [drop_cons s k h, List.takeWhile_cons, if_pos hp, List.length_cons]; omega
theorem tw_stop (p : UInt8 → Bool) (h : k < s.size) (hp : p s[k] = false) : ((s.data.toList.drop k).takeWhile p).length = 0 := by
  rw [drop_cons s k h, List.takeWhile_cons, if_neg (by rw [hp]; decide), List.length_nil]
theorem tw_end (p : UInt8 → Bool) (h : s.size ≤ k) : ((s.data.toList.drop k).takeWhile p).length = 0 := by
  rw [drop_end s k h]; rfl
def lenLD : Nat := ((s.data.toList.drop (k + 1)).takeWhile isLD).length
def lenD : Nat := ((s.data.toList.drop (k + 1)).takeWhile isD).length
theorem word_letter_long (h : k < s.size) (hl : isL s[k] = true) (hn : 12 < 1 + lenLD s k) : word (s.data.toList.drop k) = .inl 3 := by
  rw [drop_cons s k h, word, if_pos hl]; exact if_pos hn
theorem word_letter (h : k < s.size) (hl : isL s[k] = true) (hn : ¬ 12 < 1 + lenLD s k) : word (s.data.toList.drop k) = .inr (1 + lenLD s k) := by
  rw [drop_cons s k h, word, if_pos hl]; exact if_neg hn
theorem take_extract (n : Nat) : (s.data.toList.drop k).take n = (s.extract k (k + n)).data.toList := by
  rw [Go.Lib.extract_data, show k + n - k = n from by omega]
theorem word_big (h : k < s.size) (hl : isL s[k] = false) (hd : isD s[k] = true) (hn : isBig (s.extract k (k + (1 + lenD s k))).data.toList = true) : word (s.data.toList.drop k) = .inl 3 := by
  rw [← take_extract, drop_cons s k h] at hn
  rw [drop_cons s k h, word, if_neg (by rw [hl]; decide), if_pos hd]; exact if_pos hn
theorem word_digit (h : k < s.size) (hl : isL s[k] = false) (hd : isD s[k] = true) (hn : isBig (s.extract k (k + (1 + lenD s k))).data.toList = false) : word (s.data.toList.drop k) = .inr (1 + lenD s k) := by
  rw [← take_extract, drop_cons s k h] at hn
  rw [drop_cons s k h, word, if_neg (by rw [hl]; decide), if_pos hd]; unfold lenD at hn; exact if_neg (by rw [hn]; decide)
/-- Is there a word of two signs at k? -/
def pairAt : Prop := ∃ h : k + 1 < s.size, s[k + 1] = 61 ∧ (s[k] = 58 ∨ s[k] = 60 ∨ s[k] = 62)
theorem pair_iff (h : k < s.size) : ((s.data.toList.drop (k + 1)).head? = some 61 ∧ (s[k] = 58 ∨ s[k] = 60 ∨ s[k] = 62)) ↔ pairAt s k := by
  unfold pairAt
  by_cases h1 : k + 1 < s.size
  · rw [drop_cons s (k + 1) h1, List.head?_cons]
    constructor
    · rintro ⟨a, b⟩; exact ⟨h1, Option.some.inj a, b⟩
    · rintro ⟨_, a, b⟩; exact ⟨by rw [a], b⟩
  · rw [drop_end s (k + 1) (by omega)]
    constructor
    · rintro ⟨a, _⟩; cases a
    · rintro ⟨a, _⟩; exact absurd a h1
theorem word_pair (h : k < s.size) (hl : isL s[k] = false) (hd : isD s[k] = false) (hp : pairAt s k) : word (s.data.toList.drop k) = .inr 2 := by
  rw [drop_cons s k h, word, if_neg (by rw [hl]; decide), if_neg (by rw [hd]; decide), if_pos ((pair_iff s k h).2 hp)]
theorem word_sign (h : k < s.size) (hl : isL s[k] = false) (hd : isD s[k] = false) (hp : ¬ pairAt s k) (hs : isSign s[k] = true) : word (s.data.toList.drop k) = .inr 1 := by
  rw [drop_cons s k h, word, if_neg (by rw [hl]; decide), if_neg (by rw [hd]; decide), if_neg (fun x => hp ((pair_iff s k h).1 x)), if_pos hs]
theorem word_none (h : k < s.size) (hl : isL s[k] = false) (hd : isD s[k] = false) (hp : ¬ pairAt s k) (hs : isSign s[k] = false) : word (s.data.toList.drop k) = .inl 1 := by
  rw [drop_cons s k h, word, if_neg (by rw [hl]; decide), if_neg (by rw [hd]; decide), if_neg (fun x => hp ((pair_iff s k h).1 x)), if_neg (by rw [hs]; decide)]
end

/-! ### The program's words: by a rest of the text -/
def bareB (s : ByteArray) : ByteArray := ⟨(bare s.data.toList).toArray⟩
theorem dropWhile_bare : ∀ l : List UInt8, l.dropWhile (· == 48) = bare l
  | [] => rfl
  | c :: t => by
    rw [List.dropWhile_cons, bare]
    by_cases h : c = 48
    · rw [if_pos h, if_pos (by rw [h]; rfl), dropWhile_bare t]
    · rw [if_neg h, if_neg (by simpa using h)]
theorem bareB_size (s : ByteArray) : (bareB s).size = (bare s.data.toList).length := by
  unfold bareB; rw [← len_size]
/-- Do the two signs a, b stand at j? -/
def at2 (s : ByteArray) (j : Nat) (a b : UInt8) : Bool := decide (∃ h : j + 1 < s.size, s[j] = a ∧ s[j + 1] = b)
theorem at2_prefix (s : ByteArray) (j : Nat) (a b : UInt8) : Go.Lib.hasPrefix (s.extract j s.size).data.toList [a, b] = at2 s j a b := by
  rw [Go.Lib.extract_to_end]
  unfold Go.Lib.hasPrefix at2
  rw [Bool.eq_iff_iff, decide_eq_true_eq, List.isPrefixOf_iff_prefix]
  by_cases h : j + 1 < s.size
  · rw [drop_cons s j (by omega), drop_cons s (j + 1) h, List.cons_prefix_cons, List.cons_prefix_cons]
    constructor
    · rintro ⟨e1, e2, _⟩; exact ⟨h, e1.symm, e2.symm⟩
    · rintro ⟨_, e1, e2⟩; exact ⟨e1.symm, e2.symm, List.nil_prefix⟩
  · constructor
    · intro hp
      have := hp.length_le
      rw [List.length_drop, len_size] at this
      simp only [List.length_cons, List.length_nil] at this
      omega
    · rintro ⟨h', _⟩; exact absurd h' h
theorem cmt_at2_open {s : ByteArray} {j n : Nat} (h : at2 s j 40 42 = true) : cmt (s.data.toList.drop j) n j = cmt (s.data.toList.drop (j + 2)) (n + 1) (j + 2) := by
  obtain ⟨h1, e1, e2⟩ := of_decide_eq_true h
  rw [cmt_two s j n j h1, if_pos ⟨e1, e2⟩]
theorem cmt_at2_shut {s : ByteArray} {j n : Nat} (h : at2 s j 40 42 = false) (h2 : at2 s j 42 41 = true) : cmt (s.data.toList.drop j) n j = if n = 1 then some (j + 2) else cmt (s.data.toList.drop (j + 2)) (n - 1) (j + 2) := by
  obtain ⟨h1, e1, e2⟩ := of_decide_eq_true h2
  rw [cmt_two s j n j h1, if_neg (fun x => of_decide_eq_false h ⟨h1, x.1, x.2⟩), if_pos ⟨e1, e2⟩]
theorem cmt_at2_none {s : ByteArray} {j n : Nat} (hj : j < s.size) (h : at2 s j 40 42 = false) (h2 : at2 s j 42 41 = false) : cmt (s.data.toList.drop j) n j = cmt (s.data.toList.drop (j + 1)) n (j + 1) := by
  by_cases h1 : j + 1 < s.size
  · rw [cmt_two s j n j h1, if_neg (fun x => of_decide_eq_false h ⟨h1, x.1, x.2⟩), if_neg (fun x => of_decide_eq_false h2 ⟨h1, x.1, x.2⟩)]
  · rw [cmt_end s j n j (by omega), cmt_end s (j + 1) n (j + 1) (by omega)]
theorem at2_room {s : ByteArray} {j : Nat} {a b : UInt8} (h : at2 s j a b = true) : j + 2 ≤ s.size := by
  obtain ⟨h1, _⟩ := of_decide_eq_true h
  omega
end Go.Proofs.YtneohanphabneaaDoor.Sc

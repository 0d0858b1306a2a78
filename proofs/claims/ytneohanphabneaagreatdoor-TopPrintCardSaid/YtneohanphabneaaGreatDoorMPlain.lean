/-
  The plain law of words: what the words of a text are, as a Lean function on lists of bytes. No program in sight.
-/
import Derived.Lib.Strings
import Derived.Lib.IndexBytes
import Derived.Lib.Hide
import Derived.Laws.Cover1
import Derived.Lib.AtoiAll
namespace Go.Proofs.YtneohanphabneaaGreatDoor.Sc
def isL (c : UInt8) : Bool := (97 ≤ c && c ≤ 122) || (65 ≤ c && c ≤ 90)
def isD (c : UInt8) : Bool := 48 ≤ c && c ≤ 57
def isLD (c : UInt8) : Bool := isL c || isD c
def isBlank (c : UInt8) : Bool := c == 32 || c == 9 || c == 10 || c == 13
def isSign (c : UInt8) : Bool := List.contains [61,35,60,62,43,45,42,38,126,40,41,91,93,123,125,44,59,58,46,94] c
def bare : List UInt8 → List UInt8
 | [] => []
 | c :: t => if c = 48 then bare t else c :: t
def maxNum : List UInt8 := [50,49,52,55,52,56,51,54,52,55]
def over (l : List UInt8) : Bool := !Op.bytesLess l maxNum && !(l == maxNum)
def isBig (l : List UInt8) : Bool := 10 < (bare l).length || ((bare l).length == 10 && over (bare l))
def bigB (s : ByteArray) : Bool := isBig s.data.toList
def cmt : List UInt8 → Nat → Nat → Option Nat
 | [],_,_ => none
 | [_],_,_ => none
 | a :: b :: r,d,k =>
  if a = 40 ∧ b = 42 then cmt r (d + 1) (k + 2)
  else if a = 42 ∧ b = 41 then (if d = 1 then some (k + 2) else cmt r (d - 1) (k + 2))
  else cmt (b :: r) d (k + 1)
def gap : List UInt8 → Option (Option Nat)
 | [] => none
 | c :: t => if isBlank c then some (some 1) else if c = 40 ∧ t.head? = some 42 then some (cmt t.tail 1 2) else none
def word : List UInt8 → Nat ⊕ Nat
 | [] => .inl 1
 | c :: t =>
  if isL c then (let n := 1 + (t.takeWhile isLD).length; if 12 < n then .inl 3 else .inr n)
  else if isD c then (let n := 1 + (t.takeWhile isD).length; if isBig ((c :: t).take n) then .inl 3 else .inr n)
  else if t.head? = some 61 ∧ (c = 58 ∨ c = 60 ∨ c = 62) then .inr 2
  else if isSign c then .inr 1 else .inl 1
abbrev Tok := List UInt8 × Nat
inductive Res where
 | limit
 | bad (e at_ : Nat)
 | ok (l : List Tok)
def scan (r : List UInt8) (p : Nat) (acc : List Tok) : Res :=
 match r with
 | [] => .ok (acc ++ [([],p)])
 | c :: t =>
  match gap (c :: t) with
  | some none => .bad 2 p
  | some (some n) => scan (t.drop (n - 1)) (p + n) acc
  | none =>
   match word (c :: t) with
   | .inl e => .bad e p
   | .inr n => scan (t.drop (n - 1)) (p + n) (acc ++ [((c :: t).take n,p)])
 termination_by r.length
 decreasing_by all_goals (simp only [List.length_drop,List.length_cons]; omega)
def words (l : List UInt8) : Res := if 4000 < l.length then .limit else scan l 0 []
theorem scan_nil (p : Nat) (acc : List Tok) : scan [] p acc = .ok (acc ++ [([],p)]) := by rw [scan]
theorem scan_cons (c : UInt8) (t : List UInt8) (p : Nat) (acc : List Tok) : scan (c :: t) p acc =
  match gap (c :: t) with
  | some none => .bad 2 p
  | some (some n) => scan (t.drop (n - 1)) (p + n) acc
  | none =>
   match word (c :: t) with
   | .inl e => .bad e p
   | .inr n => scan (t.drop (n - 1)) (p + n) (acc ++ [((c :: t).take n,p)]) := by rw [scan]
theorem cmt_le : ∀ (l : List UInt8) (d k n : Nat),cmt l d k = some n → k + 2 ≤ n ∧ n ≤ k + l.length
 | [],_,_,_,h => by simp [cmt] at h
 | [_],_,_,_,h => by simp [cmt] at h
 | a :: b :: r,d,k,n,h => by
  rw [cmt] at h
  by_cases h1 : a = 40 ∧ b = 42
  ·rw [if_pos h1] at h
   have := cmt_le r _ _ n h
   simp only [List.length_cons]; omega
  ·rw [if_neg h1] at h
   by_cases h2 : a = 42 ∧ b = 41
   ·rw [if_pos h2] at h
    by_cases h3 : d = 1
    ·rw [if_pos h3] at h
     simp only [Option.some.injEq] at h
     simp only [List.length_cons]; omega
    ·rw [if_neg h3] at h
     have := cmt_le r _ _ n h
     simp only [List.length_cons]; omega
   ·rw [if_neg h2] at h
    have := cmt_le (b :: r) _ _ n h
    simp only [List.length_cons] at this ⊢; omega
theorem drop_cons (s : ByteArray) (k : Nat) (h : k < s.size) : s.data.toList.drop k = s[k] :: s.data.toList.drop (k + 1) := by
 rw [List.drop_eq_getElem_cons (by simpa using h)]; rfl
theorem len_size (s : ByteArray) : s.data.toList.length = s.size := (Go.Lib.size_eq s).symm
theorem drop_end (s : ByteArray) (k : Nat) (h : s.size ≤ k) : s.data.toList.drop k = [] := List.drop_eq_nil_iff.2 (by rw [len_size]; exact h)
theorem cmt_end (s : ByteArray) (i d k : Nat) (h : s.size ≤ i + 1) : cmt (s.data.toList.drop i) d k = none := by
 rcases Nat.lt_or_ge i s.size with h1 | h1
 ·rw [drop_cons s i h1,drop_end s (i + 1) h,cmt]
 ·rw [drop_end s i h1,cmt]
theorem cmt_two (s : ByteArray) (i d k : Nat) (h : i + 1 < s.size) : cmt (s.data.toList.drop i) d k =
  if s[i] = 40 ∧ s[i + 1] = 42 then cmt (s.data.toList.drop (i + 2)) (d + 1) (k + 2)
  else if s[i] = 42 ∧ s[i + 1] = 41 then (if d = 1 then some (k + 2) else cmt (s.data.toList.drop (i + 2)) (d - 1) (k + 2))
  else cmt (s.data.toList.drop (i + 1)) d (k + 1) := by
 rw [drop_cons s i (by omega),drop_cons s (i + 1) h,cmt]
theorem cmt_shift : ∀ (l : List UInt8) (d k j : Nat),cmt l d (k + j) = (cmt l d k).map (· + j)
 | [],_,_,_ => by simp [cmt]
 | [_],_,_,_ => by simp [cmt]
 | a :: b :: r,d,k,j => by
  rw [cmt,cmt]
  by_cases h1 : a = 40 ∧ b = 42
  ·rw [if_pos h1,if_pos h1,show k + j + 2 = k + 2 + j from by omega]; exact cmt_shift r _ _ _
  ·rw [if_neg h1,if_neg h1]
   by_cases h2 : a = 42 ∧ b = 41
   ·rw [if_pos h2,if_pos h2]
    by_cases h3 : d = 1
    ·rw [if_pos h3,if_pos h3]; simp; omega
    ·rw [if_neg h3,if_neg h3,show k + j + 2 = k + 2 + j from by omega]; exact cmt_shift r _ _ _
   ·rw [if_neg h2,if_neg h2,show k + j + 1 = k + 1 + j from by omega]; exact cmt_shift (b :: r) _ _ _
def cmtAt (s : ByteArray) (k : Nat) : Option Nat := cmt (s.data.toList.drop (k + 2)) 1 (k + 2)
theorem cmtAt_le {s : ByteArray} {k e : Nat} (hk : k + 2 ≤ s.size) (h : cmtAt s k = some e) : k + 4 ≤ e ∧ e ≤ s.size := by
 have h1 := cmt_le _ _ _ _ h
 rw [List.length_drop,len_size] at h1
 omega
section
variable (s : ByteArray) (k : Nat) (acc : List Tok)
theorem scan_end (h : s.size ≤ k) : scan (s.data.toList.drop k) k acc = .ok (acc ++ [([],k)]) := by rw [drop_end s k h,scan_nil]
theorem scan_blank (h : k < s.size) (hb : isBlank s[k] = true) : scan (s.data.toList.drop k) k acc = scan (s.data.toList.drop (k + 1)) (k + 1) acc := by
 rw [drop_cons s k h,scan_cons,gap,if_pos hb]; simp
theorem gap_comment (h : k + 1 < s.size) (hb : isBlank s[k] = false) (h1 : s[k] = 40) (h2 : s[k + 1] = 42) :
  gap (s.data.toList.drop k) = some (cmt (s.data.toList.drop (k + 2)) 1 2) := by
 rw [drop_cons s k (by omega),gap,if_neg (by rw [hb]; decide),if_pos ⟨h1,by rw [drop_cons s (k + 1) h,List.head?_cons,h2]⟩,drop_cons s (k + 1) h,List.tail_cons]
theorem gap_none (h : k < s.size) (hb : isBlank s[k] = false) (hc : ¬ (s[k] = 40 ∧ ∃ h : k + 1 < s.size,s[k + 1] = 42)) : gap (s.data.toList.drop k) = none := by
 rw [drop_cons s k h,gap,if_neg (by rw [hb]; decide),if_neg]
 rintro ⟨e1,e2⟩
 refine hc ⟨e1,?_⟩
 by_cases h1 : k + 1 < s.size
 ·refine ⟨h1,?_⟩
  rw [drop_cons s (k + 1) h1,List.head?_cons] at e2
  exact Option.some.inj e2
 ·rw [drop_end s (k + 1) (by omega)] at e2; cases e2
theorem scan_open (h : k + 1 < s.size) (hb : isBlank s[k] = false) (h1 : s[k] = 40) (h2 : s[k + 1] = 42) (hn : cmtAt s k = none) : scan (s.data.toList.drop k) k acc = .bad 2 k := by
 have hg := gap_comment s k h hb h1 h2
 have e : cmt (s.data.toList.drop (k + 2)) 1 2 = none := by
  unfold cmtAt at hn
  rw [show k + 2 = 2 + k from by omega,cmt_shift] at hn
  rw [show k + 2 = 2 + k from by omega]
  simpa using hn
 rw [e] at hg
 rw [drop_cons s k (by omega)] at hg ⊢
 rw [scan_cons,hg]
theorem scan_comment {e : Nat} (h : k + 1 < s.size) (hb : isBlank s[k] = false) (h1 : s[k] = 40) (h2 : s[k + 1] = 42) (hn : cmtAt s k = some e) :
  scan (s.data.toList.drop k) k acc = scan (s.data.toList.drop e) e acc := by
 have hg := gap_comment s k h hb h1 h2
 have hle := cmtAt_le (by omega) hn
 have e1 : cmt (s.data.toList.drop (k + 2)) 1 2 = some (e - k) := by
  unfold cmtAt at hn
  rw [show k + 2 = 2 + k from by omega,cmt_shift] at hn
  rw [show k + 2 = 2 + k from by omega]
  cases hx : cmt (List.drop (2 + k) s.data.toList) 1 2 with
  | none => rw [hx] at hn; cases hn
  | some x => rw [hx] at hn; simp at hn ⊢; omega
 rw [e1] at hg
 have hd : s.data.toList.drop e = (s.data.toList.drop (k + 1)).drop (e - k - 1) := by rw [List.drop_drop]; congr 1; omega
 rw [drop_cons s k (by omega)] at hg ⊢
 rw [scan_cons,hg,hd]
 show scan _ (k + (e - k)) acc = _
 rw [show k + (e - k) = e from by omega]
theorem scan_bad {e : Nat} (h : k < s.size) (hg : gap (s.data.toList.drop k) = none) (hw : word (s.data.toList.drop k) = .inl e) : scan (s.data.toList.drop k) k acc = .bad e k := by
 rw [drop_cons s k h] at hg hw ⊢
 rw [scan_cons,hg]
 show (match word _ with | .inl e => _ | .inr n => _) = _
 rw [hw]
theorem scan_word {n : Nat} (h : k < s.size) (hn : 1 ≤ n) (hg : gap (s.data.toList.drop k) = none) (hw : word (s.data.toList.drop k) = .inr n) :
  scan (s.data.toList.drop k) k acc = scan (s.data.toList.drop (k + n)) (k + n) (acc ++ [((s.extract k (k + n)).data.toList,k)]) := by
 have hd : s.data.toList.drop (k + n) = (s.data.toList.drop (k + 1)).drop (n - 1) := by rw [List.drop_drop]; congr 1; omega
 rw [Go.Lib.extract_data,hd,show k + n - k = n from by omega]
 rw [drop_cons s k h] at hg hw ⊢
 rw [scan_cons,hg]
 show (match word _ with | .inl e => _ | .inr n => _) = _
 rw [hw]
theorem tw_step (p : UInt8 → Bool) (h : k < s.size) (hp : p s[k] = true) : ((s.data.toList.drop k).takeWhile p).length = 1 + ((s.data.toList.drop (k + 1)).takeWhile p).length := by
 rw [drop_cons s k h,List.takeWhile_cons,if_pos hp,List.length_cons]; omega
theorem tw_stop (p : UInt8 → Bool) (h : k < s.size) (hp : p s[k] = false) : ((s.data.toList.drop k).takeWhile p).length = 0 := by
 rw [drop_cons s k h,List.takeWhile_cons,if_neg (by rw [hp]; decide),List.length_nil]
theorem tw_end (p : UInt8 → Bool) (h : s.size ≤ k) : ((s.data.toList.drop k).takeWhile p).length = 0 := by
 rw [drop_end s k h]; rfl
def lenLD : Nat := ((s.data.toList.drop (k + 1)).takeWhile isLD).length
def lenD : Nat := ((s.data.toList.drop (k + 1)).takeWhile isD).length
theorem word_letter_long (h : k < s.size) (hl : isL s[k] = true) (hn : 12 < 1 + lenLD s k) : word (s.data.toList.drop k) = .inl 3 := by
 rw [drop_cons s k h,word,if_pos hl]; exact if_pos hn
theorem word_letter (h : k < s.size) (hl : isL s[k] = true) (hn : ¬ 12 < 1 + lenLD s k) : word (s.data.toList.drop k) = .inr (1 + lenLD s k) := by
 rw [drop_cons s k h,word,if_pos hl]; exact if_neg hn
theorem take_extract (n : Nat) : (s.data.toList.drop k).take n = (s.extract k (k + n)).data.toList := by
 rw [Go.Lib.extract_data,show k + n - k = n from by omega]
theorem word_big (h : k < s.size) (hl : isL s[k] = false) (hd : isD s[k] = true) (hn : isBig (s.extract k (k + (1 + lenD s k))).data.toList = true) : word (s.data.toList.drop k) = .inl 3 := by
 rw [← take_extract,drop_cons s k h] at hn
 rw [drop_cons s k h,word,if_neg (by rw [hl]; decide),if_pos hd]; exact if_pos hn
theorem word_digit (h : k < s.size) (hl : isL s[k] = false) (hd : isD s[k] = true) (hn : isBig (s.extract k (k + (1 + lenD s k))).data.toList = false) : word (s.data.toList.drop k) = .inr (1 + lenD s k) := by
 rw [← take_extract,drop_cons s k h] at hn
 rw [drop_cons s k h,word,if_neg (by rw [hl]; decide),if_pos hd]; unfold lenD at hn; exact if_neg (by rw [hn]; decide)
def pairAt : Prop := ∃ h : k + 1 < s.size,s[k + 1] = 61 ∧ (s[k] = 58 ∨ s[k] = 60 ∨ s[k] = 62)
theorem pair_iff (h : k < s.size) : ((s.data.toList.drop (k + 1)).head? = some 61 ∧ (s[k] = 58 ∨ s[k] = 60 ∨ s[k] = 62)) ↔ pairAt s k := by
 unfold pairAt
 by_cases h1 : k + 1 < s.size
 ·rw [drop_cons s (k + 1) h1,List.head?_cons]
  constructor
  ·rintro ⟨a,b⟩; exact ⟨h1,Option.some.inj a,b⟩
  ·rintro ⟨_,a,b⟩; exact ⟨by rw [a],b⟩
 ·rw [drop_end s (k + 1) (by omega)]
  constructor
  ·rintro ⟨a,_⟩; cases a
  ·rintro ⟨a,_⟩; exact absurd a h1
theorem word_pair (h : k < s.size) (hl : isL s[k] = false) (hd : isD s[k] = false) (hp : pairAt s k) : word (s.data.toList.drop k) = .inr 2 := by
 rw [drop_cons s k h,word,if_neg (by rw [hl]; decide),if_neg (by rw [hd]; decide),if_pos ((pair_iff s k h).2 hp)]
theorem word_sign (h : k < s.size) (hl : isL s[k] = false) (hd : isD s[k] = false) (hp : ¬ pairAt s k) (hs : isSign s[k] = true) : word (s.data.toList.drop k) = .inr 1 := by
 rw [drop_cons s k h,word,if_neg (by rw [hl]; decide),if_neg (by rw [hd]; decide),if_neg (fun x => hp ((pair_iff s k h).1 x)),if_pos hs]
theorem word_none (h : k < s.size) (hl : isL s[k] = false) (hd : isD s[k] = false) (hp : ¬ pairAt s k) (hs : isSign s[k] = false) : word (s.data.toList.drop k) = .inl 1 := by
 rw [drop_cons s k h,word,if_neg (by rw [hl]; decide),if_neg (by rw [hd]; decide),if_neg (fun x => hp ((pair_iff s k h).1 x)),if_neg (by rw [hs]; decide)]
end
def bareB (s : ByteArray) : ByteArray := ⟨(bare s.data.toList).toArray⟩
theorem dropWhile_bare : ∀ l : List UInt8,l.dropWhile (· == 48) = bare l
 | [] => rfl
 | c :: t => by
  rw [List.dropWhile_cons,bare]
  by_cases h : c = 48
  ·rw [if_pos h,if_pos (by rw [h]; rfl),dropWhile_bare t]
  ·rw [if_neg h,if_neg (by simpa using h)]
theorem bareB_size (s : ByteArray) : (bareB s).size = (bare s.data.toList).length := by
 unfold bareB; rw [← len_size]
def at2 (s : ByteArray) (j : Nat) (a b : UInt8) : Bool := decide (∃ h : j + 1 < s.size,s[j] = a ∧ s[j + 1] = b)
theorem at2_prefix (s : ByteArray) (j : Nat) (a b : UInt8) : Go.Lib.hasPrefix (s.extract j s.size).data.toList [a,b] = at2 s j a b := by
 rw [Go.Lib.extract_to_end]
 unfold Go.Lib.hasPrefix at2
 rw [Bool.eq_iff_iff,decide_eq_true_eq,List.isPrefixOf_iff_prefix]
 by_cases h : j + 1 < s.size
 ·rw [drop_cons s j (by omega),drop_cons s (j + 1) h,List.cons_prefix_cons,List.cons_prefix_cons]
  constructor
  ·rintro ⟨e1,e2,_⟩; exact ⟨h,e1.symm,e2.symm⟩
  ·rintro ⟨_,e1,e2⟩; exact ⟨e1.symm,e2.symm,List.nil_prefix⟩
 ·constructor
  ·intro hp
   have := hp.length_le
   rw [List.length_drop,len_size] at this
   simp only [List.length_cons,List.length_nil] at this
   omega
  ·rintro ⟨h',_⟩; exact absurd h' h
theorem cmt_at2_open {s : ByteArray} {j n : Nat} (h : at2 s j 40 42 = true) : cmt (s.data.toList.drop j) n j = cmt (s.data.toList.drop (j + 2)) (n + 1) (j + 2) := by
 obtain ⟨h1,e1,e2⟩ := of_decide_eq_true h
 rw [cmt_two s j n j h1,if_pos ⟨e1,e2⟩]
theorem cmt_at2_shut {s : ByteArray} {j n : Nat} (h : at2 s j 40 42 = false) (h2 : at2 s j 42 41 = true) : cmt (s.data.toList.drop j) n j = if n = 1 then some (j + 2) else cmt (s.data.toList.drop (j + 2)) (n - 1) (j + 2) := by
 obtain ⟨h1,e1,e2⟩ := of_decide_eq_true h2
 rw [cmt_two s j n j h1,if_neg (fun x => of_decide_eq_false h ⟨h1,x.1,x.2⟩),if_pos ⟨e1,e2⟩]
theorem cmt_at2_none {s : ByteArray} {j n : Nat} (hj : j < s.size) (h : at2 s j 40 42 = false) (h2 : at2 s j 42 41 = false) : cmt (s.data.toList.drop j) n j = cmt (s.data.toList.drop (j + 1)) n (j + 1) := by
 by_cases h1 : j + 1 < s.size
 ·rw [cmt_two s j n j h1,if_neg (fun x => of_decide_eq_false h ⟨h1,x.1,x.2⟩),if_neg (fun x => of_decide_eq_false h2 ⟨h1,x.1,x.2⟩)]
 ·rw [cmt_end s j n j (by omega),cmt_end s (j + 1) n (j + 1) (by omega)]
theorem at2_room {s : ByteArray} {j : Nat} {a b : UInt8} (h : at2 s j a b = true) : j + 2 ≤ s.size := by
 obtain ⟨h1,_⟩ := of_decide_eq_true h
 omega
end Go.Proofs.YtneohanphabneaaGreatDoor.Sc
namespace Go.Proofs.YtneohanphabneaaGreatDoor.Ps
inductive Tree where
 | node (kind : Nat) (name : ByteArray) (num : Nat) (at_ : Nat) (subs : List Tree)
inductive R (α : Type) where
 | bad (e a : Nat)
 | ok (v : α) (i : Nat)
def R.bind {α β : Type} (r : R α) (f : α → Nat → R β) : R β := match r with
 | .bad e a => .bad e a
 | .ok v i => f v i
theorem R.bind_ok {α β : Type} (v : α) (i : Nat) (f : α → Nat → R β) : (R.ok v i).bind f = f v i := rfl
def kept : List ByteArray := [⟨#[77,79,68,85,76,69]⟩,⟨#[73,77,80,79,82,84]⟩,⟨#[67,79,78,83,84]⟩,⟨#[84,89,80,69]⟩,⟨#[86,65,82]⟩,⟨#[80,82,79,67,69,68,85,82,69]⟩,⟨#[66,69,71,73,78]⟩,⟨#[69,78,68]⟩,⟨#[73,70]⟩,
 ⟨#[84,72,69,78]⟩,⟨#[69,76,83,73,70]⟩,⟨#[69,76,83,69]⟩,⟨#[87,72,73,76,69]⟩,⟨#[68,79]⟩,⟨#[82,69,80,69,65,84]⟩,⟨#[85,78,84,73,76]⟩,⟨#[82,69,84,85,82,78]⟩,⟨#[65,82,82,65,89]⟩,⟨#[79,70]⟩,⟨#[82,69,67,79,82,68]⟩,
 ⟨#[80,79,73,78,84,69,82]⟩,⟨#[84,79]⟩,⟨#[78,73,76]⟩,⟨#[84,82,85,69]⟩,⟨#[70,65,76,83,69]⟩,⟨#[68,73,86]⟩,⟨#[77,79,68]⟩,⟨#[79,82]⟩,⟨#[73,83]⟩,⟨#[78,69,87]⟩,⟨#[79,85,84]⟩,⟨#[71,69,84]⟩,⟨#[65,83,83,69,82,84]⟩]
def isKept (s : ByteArray) : Bool := kept.any (fun k => decide (k = s))
def lettered (s : ByteArray) : Bool := match s.data.toList with
 | [] => false
 | c :: t => Sc.isL c && t.all Sc.isLD
def isName (s : ByteArray) : Bool := !decide (s = ⟨#[]⟩) && decide (s.size ≤ 12) && !isKept s && lettered s
def isNum (s : ByteArray) : Bool := match s.data.toList with
 | [] => false
 | c :: _ => Sc.isD c
def fold (n : Nat) : List UInt8 → Nat
 | [] => n
 | c :: t => fold (n * 10 + (c.toNat - 48)) t
def numVal (s : ByteArray) : Nat := fold 0 s.data.toList
variable (l : List Sc.Tok)
def W (i : Nat) : ByteArray := match l[i]? with
 | some t => ⟨t.1.toArray⟩
 | none => ⟨#[]⟩
def A (i : Nat) : Nat := match l[i]? with
 | some t => t.2
 | none => 0
def isW (i : Nat) (s : ByteArray) : Bool := decide (W l i = s)
def Last : Prop := ∀ i,i + 1 = l.length → W l i = ⟨#[]⟩
def Good : Prop := ∀ i,i < l.length → (W l i).size ≤ 100000 ∧ (isNum (W l i) = true → (W l i).data.toList.all Sc.isD = true ∧ Sc.isBig (W l i).data.toList = false)
def wantN (i : Nat) : Nat := if isW l i ⟨#[]⟩ then 2 else 4
def want {α : Type} (i : Nat) : R α := .bad (wantN l i) (A l i)
def must (s : ByteArray) (i : Nat) : R Unit := if isW l i s then .ok () (i + 1) else want l i
def nameR (i : Nat) : R ByteArray := if isName (W l i) then .ok (W l i) (i + 1) else want l i
def number (i : Nat) : R Nat := if isNum (W l i) then .ok (numVal (W l i)) (i + 1) else want l i
def typeName (i : Nat) : R Tree := (nameR l i).bind fun nm i1 =>
 if isW l i1 ⟨#[46]⟩ then (nameR l (i1 + 1)).bind fun n2 i2 => .ok (.node 13 n2 0 (A l i) [.node 24 nm 0 (A l i) []]) i2
 else .ok (.node 13 nm 0 (A l i) []) i1
def star (s : ByteArray) (i : Nat) : Nat × Nat := if isW l i s then (1,i + 1) else (0,i)
def declared (kind : Nat) (sign : ByteArray) (what : Nat → R Tree) (i : Nat) : R Tree := (nameR l i).bind fun nm i1 =>
 (must l sign (star l ⟨#[42]⟩ i1).2).bind fun _ i2 => (what i2).bind fun t i3 => .ok (.node kind nm (star l ⟨#[42]⟩ i1).1 (A l i) [t]) i3
def sectionLoop (one : Nat → R Tree) : Nat → Nat → List Tree → R (List Tree)
 | 0,i,acc => .ok acc i
 | F + 1,i,acc => if isName (W l i) then (one i).bind fun t i1 => (must l ⟨#[59]⟩ i1).bind fun _ i2 => sectionLoop one F i2 (acc ++ [t]) else .ok acc i
def section_ (word : ByteArray) (one : Nat → R Tree) (i : Nat) : R Tree :=
 if isW l i word then (sectionLoop l one l.length (i + 1) []).bind fun ts i1 => .ok (.node 1 ⟨#[]⟩ 0 (A l i) ts) i1
 else .ok (.node 1 ⟨#[]⟩ 0 (A l i) []) i
def fieldsLoop : Nat → Nat → List Tree → R (List Tree)
 | 0,i,acc => .ok acc i
 | F + 1,i,acc => if isW l i ⟨#[69,78,68]⟩ then .ok acc (i + 1)
  else (declared l 11 ⟨#[58]⟩ (typeName l) i).bind fun t i1 => (must l ⟨#[59]⟩ i1).bind fun _ i2 => fieldsLoop F i2 (acc ++ [t])
def baseR (i : Nat) : R Tree :=
 if isW l i ⟨#[40]⟩ then (typeName l (i + 1)).bind fun t i1 => (must l ⟨#[41]⟩ i1).bind fun _ i2 => .ok t i2
 else .ok (.node 0 ⟨#[]⟩ 0 (A l i) []) i
def typ (i : Nat) : R Tree :=
 if isW l i ⟨#[65,82,82,65,89]⟩ then (number l (i + 1)).bind fun k i1 => (must l ⟨#[79,70]⟩ i1).bind fun _ i2 => (typeName l i2).bind fun t i3 => .ok (.node 9 ⟨#[]⟩ k (A l i) [t]) i3
 else if isW l i ⟨#[80,79,73,78,84,69,82]⟩ then (must l ⟨#[84,79]⟩ (i + 1)).bind fun _ i1 => (typeName l i1).bind fun t i2 => .ok (.node 12 ⟨#[]⟩ 0 (A l i) [t]) i2
 else if isW l i ⟨#[82,69,67,79,82,68]⟩ then (baseR l (i + 1)).bind fun b i1 => (fieldsLoop l l.length i1 [b]).bind fun ts i2 => .ok (.node 10 ⟨#[]⟩ 0 (A l i) ts) i2
 else want l i
def levels : List (List ByteArray) := [[⟨#[61]⟩,⟨#[35]⟩,⟨#[60]⟩,⟨#[60,61]⟩,⟨#[62]⟩,⟨#[62,61]⟩],[⟨#[43]⟩,⟨#[45]⟩,⟨#[79,82]⟩],[⟨#[42]⟩,⟨#[68,73,86]⟩,⟨#[77,79,68]⟩,⟨#[38]⟩]]
def isOp (lev : Nat) (i : Nat) : Bool := ((levels[lev]?).getD []).any fun s => isW l i s
def Tree.at_ : Tree → Nat
 | .node _ _ _ a _ => a
def chain (lev : Nat) (f : Nat → R Tree) : Nat → Tree → Nat → R Tree
 | k,a,i => if isOp l lev i then
   (match k with
   | 0 => .bad 3 (A l (i + 1))
   | k + 1 => (f (i + 1)).bind fun b i1 => chain lev f k (.node 36 (W l i) 0 a.at_ [a,b]) i1)
  else .ok a i
def term (fac : Nat → R Tree) (i : Nat) : R Tree := (fac i).bind fun a i1 => chain l 2 fac 20 a i1
def simple (fac : Nat → R Tree) (i : Nat) : R Tree :=
 if isW l i ⟨#[45]⟩ then (term l fac (i + 1)).bind fun a i1 => chain l 1 (term l fac) 20 (.node 35 ⟨#[]⟩ 0 (A l i) [a]) i1
 else (term l fac i).bind fun a i1 => chain l 1 (term l fac) 20 a i1
def exprOf (fac : Nat → R Tree) (i : Nat) : R Tree := (simple l fac i).bind fun a i1 =>
 if isW l i1 ⟨#[73,83]⟩ then (typeName l (i1 + 1)).bind fun t i2 => .ok (.node 37 ⟨#[]⟩ 0 a.at_ [a,t]) i2
 else if isOp l 0 i1 then (simple l fac (i1 + 1)).bind fun b i2 => .ok (.node 36 (W l i1) 0 a.at_ [a,b]) i2
 else .ok a i1
def argsLoop (ex : Nat → R Tree) : Nat → Nat → List Tree → R (List Tree)
 | 0,i,acc => .ok acc i
 | F + 1,i,acc => (ex i).bind fun t i1 => if isW l i1 ⟨#[44]⟩ then argsLoop ex F (i1 + 1) (acc ++ [t]) else .ok (acc ++ [t]) i1
def args (ex : Nat → R Tree) (i : Nat) : R (List Tree) :=
 if isW l i ⟨#[40]⟩ then (if isW l (i + 1) ⟨#[41]⟩ then .ok [] (i + 2) else (argsLoop l ex l.length (i + 1) []).bind fun ts i1 => (must l ⟨#[41]⟩ i1).bind fun _ i2 => .ok ts i2)
 else .ok [] i
def step (ex : Nat → R Tree) (a : Nat) (d : Tree) (i : Nat) : R (Option Tree) :=
 if isW l i ⟨#[46]⟩ then (nameR l (i + 1)).bind fun nm i1 => .ok (some (.node 25 nm 0 a [d])) i1
 else if isW l i ⟨#[91]⟩ then (ex (i + 1)).bind fun t i1 => (must l ⟨#[93]⟩ i1).bind fun _ i2 => .ok (some (.node 26 ⟨#[]⟩ 0 a [d,t])) i2
 else if isW l i ⟨#[94]⟩ then .ok (some (.node 27 ⟨#[]⟩ 0 a [d])) (i + 1)
 else if isW l i ⟨#[123]⟩ then (typeName l (i + 1)).bind fun t i1 => (must l ⟨#[125]⟩ i1).bind fun _ i2 => .ok (some (.node 28 ⟨#[]⟩ 0 a [d,t])) i2
 else .ok none i
def desigLoop (ex : Nat → R Tree) (a : Nat) : Nat → Tree → Nat → R Tree
 | k,d,i => (step l ex a d i).bind fun o i1 => match o with
  | none => .ok d i1
  | some d1 => match k with
   | 0 => .bad 3 (A l i1)
   | k + 1 => desigLoop ex a k d1 i1
def desig (ex : Nat → R Tree) (i : Nat) : R Tree := (nameR l i).bind fun nm i1 => desigLoop l ex (A l i) 20 (.node 24 nm 0 (A l i) []) i1
def factorOf (ex down : Nat → R Tree) (i : Nat) : R Tree :=
 if isNum (W l i) then (number l i).bind fun k i1 => .ok (.node 29 ⟨#[]⟩ k (A l i) []) i1
 else if isW l i ⟨#[84,82,85,69]⟩ then .ok (.node 30 ⟨#[]⟩ 0 (A l i) []) (i + 1)
 else if isW l i ⟨#[70,65,76,83,69]⟩ then .ok (.node 31 ⟨#[]⟩ 0 (A l i) []) (i + 1)
 else if isW l i ⟨#[78,73,76]⟩ then .ok (.node 32 ⟨#[]⟩ 0 (A l i) []) (i + 1)
 else if isW l i ⟨#[126]⟩ then (down (i + 1)).bind fun t i1 => .ok (.node 34 ⟨#[]⟩ 0 (A l i) [t]) i1
 else if isW l i ⟨#[40]⟩ then (ex (i + 1)).bind fun t i1 => (must l ⟨#[41]⟩ i1).bind fun _ i2 => .ok t i2
 else (desig l ex i).bind fun d i1 => if isW l i1 ⟨#[40]⟩ then (args l ex i1).bind fun ts i2 => .ok (.node 33 ⟨#[]⟩ 0 (A l i) (d :: ts)) i2 else .ok d i1
def tooDeep (i : Nat) : R Tree := .bad 3 (A l i)
def F : Nat → Nat → R Tree
 | 0 => factorOf l (tooDeep l) (tooDeep l)
 | L + 1 => factorOf l (exprOf l (F L)) (F L)
def E : Nat → Nat → R Tree
 | 0 => tooDeep l
 | L + 1 => exprOf l (F l L)
def follows (s : ByteArray) : Bool := decide (s = ⟨#[]⟩) || decide (s = ⟨#[69,78,68]⟩) || decide (s = ⟨#[69,76,83,73,70]⟩) || decide (s = ⟨#[69,76,83,69]⟩) || decide (s = ⟨#[85,78,84,73,76]⟩)
def noStmt (i : Nat) : Bool := isW l i ⟨#[59]⟩ || follows (W l i)
def stmtsLoop (st : Nat → R Tree) : Nat → Nat → List Tree → R (List Tree)
 | 0,i,acc => .ok acc i
 | G + 1,i,acc => if noStmt l i then (if isW l i ⟨#[59]⟩ then stmtsLoop st G (i + 1) acc else .ok acc i)
  else (st i).bind fun t i1 => if isW l i1 ⟨#[59]⟩ then stmtsLoop st G (i1 + 1) (acc ++ [t]) else .ok (acc ++ [t]) i1
def stmtsOf (st : Nat → R Tree) (i : Nat) : R Tree := (stmtsLoop l st l.length i []).bind fun ts i1 => .ok (.node 1 ⟨#[]⟩ 0 (A l i) ts) i1
def ifLoop (ex sts : Nat → R Tree) : Nat → Nat → List Tree → R (List Tree)
 | 0,i,acc => .ok acc i
 | G + 1,i,acc => (ex i).bind fun c i1 => (must l ⟨#[84,72,69,78]⟩ i1).bind fun _ i2 => (sts i2).bind fun b i3 =>
  if isW l i3 ⟨#[69,76,83,73,70]⟩ then ifLoop ex sts G (i3 + 1) (acc ++ [c,b]) else .ok (acc ++ [c,b]) i3
def built (kind at_ : Nat) (what : Nat → R Tree) (i : Nat) : R Tree := (must l ⟨#[40]⟩ i).bind fun _ i1 => (what i1).bind fun t i2 => (must l ⟨#[41]⟩ i2).bind fun _ i3 => .ok (.node kind ⟨#[]⟩ 0 at_ [t]) i3
def elseR (sts : Nat → R Tree) (a : Nat) (ts : List Tree) (i : Nat) : R Tree :=
 if isW l i ⟨#[69,76,83,69]⟩ then (sts (i + 1)).bind fun b i1 => (must l ⟨#[69,78,68]⟩ i1).bind fun _ i2 => .ok (.node 16 ⟨#[]⟩ 1 a (ts ++ [b])) i2
 else (must l ⟨#[69,78,68]⟩ i).bind fun _ i2 => .ok (.node 16 ⟨#[]⟩ 0 a ts) i2
def stmtOf (ex sts : Nat → R Tree) (i : Nat) : R Tree :=
 if isW l i ⟨#[73,70]⟩ then (ifLoop l ex sts l.length (i + 1) []).bind fun ts i1 => elseR l sts (A l i) ts i1
 else if isW l i ⟨#[87,72,73,76,69]⟩ then (ex (i + 1)).bind fun c i1 => (must l ⟨#[68,79]⟩ i1).bind fun _ i2 => (sts i2).bind fun b i3 => (must l ⟨#[69,78,68]⟩ i3).bind fun _ i4 => .ok (.node 17 ⟨#[]⟩ 0 (A l i) [c,b]) i4
 else if isW l i ⟨#[82,69,80,69,65,84]⟩ then (sts (i + 1)).bind fun b i1 => (must l ⟨#[85,78,84,73,76]⟩ i1).bind fun _ i2 => (ex i2).bind fun c i3 => .ok (.node 18 ⟨#[]⟩ 0 (A l i) [b,c]) i3
 else if isW l i ⟨#[82,69,84,85,82,78]⟩ then (if noStmt l (i + 1) then .ok (.node 19 ⟨#[]⟩ 0 (A l i) []) (i + 1) else (ex (i + 1)).bind fun t i1 => .ok (.node 19 ⟨#[]⟩ 0 (A l i) [t]) i1)
 else if isW l i ⟨#[78,69,87]⟩ then built l 20 (A l i) (desig l ex) (i + 1)
 else if isW l i ⟨#[79,85,84]⟩ then built l 21 (A l i) ex (i + 1)
 else if isW l i ⟨#[71,69,84]⟩ then built l 22 (A l i) (desig l ex) (i + 1)
 else if isW l i ⟨#[65,83,83,69,82,84]⟩ then built l 23 (A l i) ex (i + 1)
 else (desig l ex i).bind fun d i1 =>
  if isW l i1 ⟨#[58,61]⟩ then (ex (i1 + 1)).bind fun t i2 => .ok (.node 14 ⟨#[]⟩ 0 (A l i) [d,t]) i2
  else (args l ex i1).bind fun ts i2 => .ok (.node 15 ⟨#[]⟩ 0 (A l i) (d :: ts)) i2
def S : Nat → Nat → R Tree
 | 0 => tooDeep l
 | L + 1 => stmtsOf l (stmtOf l (E l L) (S L))
def param (i : Nat) : R Tree := (nameR l (star l ⟨#[86,65,82]⟩ i).2).bind fun nm i1 => (must l ⟨#[58]⟩ i1).bind fun _ i2 => (typeName l i2).bind fun t i3 => .ok (.node 8 nm (star l ⟨#[86,65,82]⟩ i).1 (A l i) [t]) i3
def paramsLoop : Nat → Nat → List Tree → R (List Tree)
 | 0,i,acc => .ok acc i
 | G + 1,i,acc => (param l i).bind fun t i1 => if isW l i1 ⟨#[59]⟩ then paramsLoop G (i1 + 1) (acc ++ [t]) else .ok (acc ++ [t]) i1
def params (i : Nat) : R Tree :=
 if isW l i ⟨#[40]⟩ then (if isW l (i + 1) ⟨#[41]⟩ then .ok (.node 1 ⟨#[]⟩ 0 (A l i) []) (i + 2)
  else (paramsLoop l l.length (i + 1) []).bind fun ts i1 => (must l ⟨#[41]⟩ i1).bind fun _ i2 => .ok (.node 1 ⟨#[]⟩ 0 (A l i) ts) i2)
 else .ok (.node 1 ⟨#[]⟩ 0 (A l i) []) i
def result (i : Nat) : R Tree := if isW l i ⟨#[58]⟩ then typeName l (i + 1) else .ok (.node 0 ⟨#[]⟩ 0 (A l i) []) i
def variable_ (i : Nat) : R Tree := (nameR l i).bind fun nm i1 => (must l ⟨#[58]⟩ i1).bind fun _ i2 => (typeName l i2).bind fun t i3 => .ok (.node 6 nm 0 (A l i) [t]) i3
def ends (nm : ByteArray) (i : Nat) : R Unit := (must l ⟨#[69,78,68]⟩ i).bind fun _ i1 => must l nm i1
def proc (i : Nat) : R Tree := (must l ⟨#[80,82,79,67,69,68,85,82,69]⟩ i).bind fun _ i1 => (nameR l i1).bind fun nm i2 => (params l (star l ⟨#[42]⟩ i2).2).bind fun ps i3 =>
 (result l i3).bind fun r i4 => (must l ⟨#[59]⟩ i4).bind fun _ i5 => (section_ l ⟨#[86,65,82]⟩ (variable_ l) i5).bind fun vs i6 => (must l ⟨#[66,69,71,73,78]⟩ i6).bind fun _ i7 =>
 (S l 20 i7).bind fun b i8 => (ends l nm i8).bind fun _ i9 => .ok (.node 7 nm (star l ⟨#[42]⟩ i2).1 (A l i) [ps,r,vs,b]) i9
def importsLoop : Nat → Nat → List Tree → R (List Tree)
 | 0,i,acc => .ok acc i
 | G + 1,i,acc => (nameR l i).bind fun nm i1 => if isW l i1 ⟨#[44]⟩ then importsLoop G (i1 + 1) (acc ++ [.node 3 nm 0 (A l i) []]) else .ok (acc ++ [.node 3 nm 0 (A l i) []]) i1
def imports (i : Nat) : R Tree :=
 if isW l i ⟨#[73,77,80,79,82,84]⟩ then (importsLoop l l.length (i + 1) []).bind fun ts i1 => (must l ⟨#[59]⟩ i1).bind fun _ i2 => .ok (.node 1 ⟨#[]⟩ 0 (A l i) ts) i2
 else .ok (.node 1 ⟨#[]⟩ 0 (A l i) []) i
def procsLoop : Nat → Nat → List Tree → R (List Tree)
 | 0,i,acc => .ok acc i
 | G + 1,i,acc => if isW l i ⟨#[80,82,79,67,69,68,85,82,69]⟩ then (proc l i).bind fun t i1 => (must l ⟨#[59]⟩ i1).bind fun _ i2 => procsLoop G i2 (acc ++ [t]) else .ok acc i
def procs (i : Nat) : R Tree := (procsLoop l l.length i []).bind fun ts i1 => .ok (.node 1 ⟨#[]⟩ 0 (A l i) ts) i1
def body (i : Nat) : R Tree := if isW l i ⟨#[66,69,71,73,78]⟩ then S l 20 (i + 1) else .ok (.node 1 ⟨#[]⟩ 0 (A l i) []) i
def module (i : Nat) : R Tree := (must l ⟨#[77,79,68,85,76,69]⟩ i).bind fun _ i1 => (nameR l i1).bind fun nm i2 => (must l ⟨#[59]⟩ i2).bind fun _ i3 => (imports l i3).bind fun im i4 =>
 (section_ l ⟨#[67,79,78,83,84]⟩ (declared l 4 ⟨#[61]⟩ (E l 20)) i4).bind fun cs i5 => (section_ l ⟨#[84,89,80,69]⟩ (declared l 5 ⟨#[61]⟩ (typ l)) i5).bind fun ty i6 =>
 (section_ l ⟨#[86,65,82]⟩ (declared l 6 ⟨#[58]⟩ (typeName l)) i6).bind fun vs i7 => (procs l i7).bind fun ps i8 => (body l i8).bind fun b i9 => (ends l nm i9).bind fun _ i10 =>
 (must l ⟨#[46]⟩ i10).bind fun _ i11 => .ok (.node 2 nm 0 (A l i) [im,cs,ty,vs,ps,b]) i11
def tree : R Tree := (module l 0).bind fun t i => if isW l i ⟨#[]⟩ then .ok t i else want l i
theorem isW_lt {l : List Sc.Tok} {i : Nat} {s : ByteArray} (hl : Last l) (hi : i < l.length) (h : isW l i s = true) (hs : s ≠ ⟨#[]⟩) : i + 1 < l.length := by
 unfold isW at h
 rw [decide_eq_true_eq] at h
 rcases Nat.lt_or_ge (i + 1) l.length with h' | h'
 ·exact h'
 ·exact absurd (h.symm.trans (hl i (by omega))) hs
theorem must_ok {l : List Sc.Tok} {i j : Nat} {s : ByteArray} {u : Unit} (h : must l s i = .ok u j) : j = i + 1 := by
 unfold must at h
 split at h
 ·injection h with _ h; exact h.symm
 ·unfold want at h; cases h
theorem name_ok {l : List Sc.Tok} {i j : Nat} {s : ByteArray} (h : nameR l i = .ok s j) : j = i + 1 ∧ isName (W l i) = true ∧ s = W l i := by
 unfold nameR at h
 split at h
 ·rename_i hn
  injection h with h1 h; exact ⟨h.symm,hn,h1.symm⟩
 ·unfold want at h; cases h
theorem must_yes {l : List Sc.Tok} {i : Nat} {s : ByteArray} (h : isW l i s = true) : must l s i = .ok () (i + 1) := by unfold must; rw [h]; rfl
theorem must_no {l : List Sc.Tok} {i : Nat} {s : ByteArray} (h : isW l i s = false) : must l s i = .bad (wantN l i) (A l i) := by unfold must; rw [h]; rfl
theorem name_yes {l : List Sc.Tok} {i : Nat} (h : isName (W l i) = true) : nameR l i = .ok (W l i) (i + 1) := by unfold nameR; rw [h]; rfl
theorem name_no {l : List Sc.Tok} {i : Nat} (h : isName (W l i) = false) : nameR l i = .bad (wantN l i) (A l i) := by unfold nameR; rw [h]; rfl
theorem number_yes {l : List Sc.Tok} {i : Nat} (h : isNum (W l i) = true) : number l i = .ok (numVal (W l i)) (i + 1) := by unfold number; rw [h]; rfl
theorem number_no {l : List Sc.Tok} {i : Nat} (h : isNum (W l i) = false) : number l i = .bad (wantN l i) (A l i) := by unfold number; rw [h]; rfl
theorem isName_ne {s : ByteArray} (h : isName s = true) : s ≠ ⟨#[]⟩ := by
 intro e; rw [e] at h; unfold isName at h; simp at h
theorem isW_self (l : List Sc.Tok) (i : Nat) : isW l i (W l i) = true := by unfold isW; exact decide_eq_true rfl
theorem drop_at (s : ByteArray) (k : Nat) (h : k < s.size) : s.data.toList.drop k = s[k] :: s.data.toList.drop (k + 1) := by
 rw [List.drop_eq_getElem_cons (by rw [Sc.len_size]; exact h)]; rfl
theorem lettered_no (s : ByteArray) (h : 0 < s.size) (hl : Sc.isL s[0] = false) : lettered s = false := by
 have e := drop_at s 0 h
 rw [List.drop_zero] at e
 unfold lettered; rw [e]; simp [hl]
theorem lettered_yes (s : ByteArray) (h : 0 < s.size) (hl : Sc.isL s[0] = true) : lettered s = (s.data.toList.drop 1).all Sc.isLD := by
 have e := drop_at s 0 h
 rw [List.drop_zero] at e
 unfold lettered; rw [e]; simp [hl]
theorem all_no (s : ByteArray) (k : Nat) (h : k < s.size) (hl : Sc.isLD s[k] = false) : (s.data.toList.drop k).all Sc.isLD = false := by
 rw [drop_at s k h,List.all_cons,hl]; rfl
theorem all_yes (s : ByteArray) (k : Nat) (h : k < s.size) (hl : Sc.isLD s[k] = true) : (s.data.toList.drop k).all Sc.isLD = (s.data.toList.drop (k + 1)).all Sc.isLD := by
 rw [drop_at s k h,List.all_cons,hl]; rfl
theorem all_end (s : ByteArray) (k : Nat) (h : s.size ≤ k) : (s.data.toList.drop k).all Sc.isLD = true := by
 rw [List.drop_of_length_le (by rw [Sc.len_size]; exact h)]; rfl
theorem size_pos {s : ByteArray} (h : s ≠ ⟨#[]⟩) : 0 < s.size := by
 rcases Nat.eq_zero_or_pos s.size with h0 | h0
 ·refine absurd ?_ h
  rcases s with ⟨⟨l⟩⟩
  cases l with
  | nil => rfl
  | cons _ _ => exact absurd h0 (Nat.succ_ne_zero _)
 ·exact h0
theorem isD_nat {c : UInt8} (h : Sc.isD c = true) : 48 ≤ c.toNat ∧ c.toNat ≤ 57 := by
 unfold Sc.isD at h
 simp only [Bool.and_eq_true,decide_eq_true_eq,UInt8.le_iff_toNat_le,UInt8.reduceToNat] at h
 exact h
theorem parse_fold : ∀ (t : List UInt8) (n : Nat),t.all Sc.isD = true → (n + 1) * 10 ^ t.length ≤ 100000000000 → Lib.parseUint10 n t = .ok (fold n t) ∧ fold n t < (n + 1) * 10 ^ t.length
 | [],n,_,_ => ⟨by unfold Lib.parseUint10 fold; rfl,by unfold fold; rw [List.length_nil,Nat.pow_zero]; omega⟩
 | c :: t,n,hd,h => by
  rw [List.all_cons,Bool.and_eq_true] at hd
  obtain ⟨h1,h2⟩ := isD_nat hd.1
  rw [List.length_cons,Nat.pow_succ] at h ⊢
  have hp : 1 ≤ 10 ^ t.length := Nat.pos_of_ne_zero (by simp)
  have hn : n + 1 ≤ 100000000000 := Nat.le_trans (Nat.le_mul_of_pos_right _ (by omega)) h
  have hle : (n * 10 + (c.toNat - 48) + 1) * 10 ^ t.length ≤ (n + 1) * (10 ^ t.length * 10) := by
   rw [Nat.mul_comm (10 ^ t.length) 10,← Nat.mul_assoc]
   exact Nat.mul_le_mul_right _ (by omega)
  obtain ⟨ih1,ih2⟩ := parse_fold t (n * 10 + (c.toNat - 48)) hd.2 (Nat.le_trans hle h)
  unfold Lib.parseUint10 fold
  rw [if_pos ⟨h1,h2⟩,if_neg (by omega),if_neg (by omega)]
  exact ⟨ih1,by omega⟩
theorem bare_fold : ∀ (t : List UInt8),t.all Sc.isD = true → (Sc.bare t).length ≤ 10 → Lib.parseUint10 0 t = .ok (fold 0 t) ∧ fold 0 t < 100000000000
 | [],_,_ => ⟨by unfold Lib.parseUint10 fold; rfl,by unfold fold; omega⟩
 | c :: t,hd,h => by
  by_cases hc : c = 48
  ·subst hc
   unfold Sc.bare at h
   rw [if_pos rfl] at h
   rw [List.all_cons,Bool.and_eq_true] at hd
   have ih := bare_fold t hd.2 h
   unfold Lib.parseUint10 fold
   simpa using ih
  ·unfold Sc.bare at h
   rw [if_neg hc] at h
   have hb : (0 + 1) * 10 ^ (c :: t).length ≤ 100000000000 := by
    have : 10 ^ (c :: t).length ≤ 10 ^ 10 := Nat.pow_le_pow_right (by omega) h
    omega
   have := parse_fold (c :: t) 0 hd hb
   exact ⟨this.1,by omega⟩
theorem num_ok {s : ByteArray} (h : s.data.toList.all Sc.isD = true) (hb : Sc.isBig s.data.toList = false) : Lib.parseUint10 0 s.data.toList = .ok (numVal s) ∧ numVal s < 100000000000 := by
 refine bare_fold _ h ?_
 unfold Sc.isBig at hb
 rw [Bool.or_eq_false_iff,decide_eq_false_iff_not] at hb
 omega
theorem atoi_ok {s : ByteArray} (hn : isNum s = true) (h : s.data.toList.all Sc.isD = true) (hb : Sc.isBig s.data.toList = false) : Lib.atoiAll s.data.toList = .ok (numVal s : Nat) := by
 obtain ⟨h1,h2⟩ := num_ok h hb
 unfold isNum at hn
 revert hn h1
 generalize s.data.toList = t at *
 intro hn h1
 cases t with
 | nil => cases hn
 | cons c t =>
  rw [List.all_cons,Bool.and_eq_true] at h
  obtain ⟨g1,g2⟩ := isD_nat h.1
  have e : Lib.parseMag (c :: t) = .ok (numVal s) := by unfold Lib.parseMag; rw [if_neg (by simp)]; exact h1
  have n2 : ¬ c.toNat = 45 := by omega
  have n4 : ¬ c.toNat = 43 := by omega
  have n3 : ¬ 9223372036854775808 ≤ numVal s := by omega
  simp only [Lib.atoiAll,e,n2,n3,n4,or_false,and_false,false_and,if_false]
end Go.Proofs.YtneohanphabneaaGreatDoor.Ps

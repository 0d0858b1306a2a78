/-
  The plain law of TopWords: the words of a text, one behind the other with a blank or a comment between, are its words.
-/
import Derived.Test.YtneohanphabneaaGreatDoorMPlain
import Derived.Lib.ItoaNum
namespace Go.Proofs.YtneohanphabneaaGreatDoor.Sc
def scanF : Nat → List UInt8 → Nat → List Tok → Res
 | 0,_,p,acc => .ok (acc ++ [([],p)])
 | _ + 1,[],p,acc => .ok (acc ++ [([],p)])
 | n + 1,c :: t,p,acc =>
  match gap (c :: t) with
  | some none => .bad 2 p
  | some (some k) => scanF n (t.drop (k - 1)) (p + k) acc
  | none =>
   match word (c :: t) with
   | .inl e => .bad e p
   | .inr k => scanF n (t.drop (k - 1)) (p + k) (acc ++ [((c :: t).take k,p)])
theorem scan_scanF : ∀ (n : Nat) (r : List UInt8) (p : Nat) (acc : List Tok),r.length ≤ n → scan r p acc = scanF n r p acc
 | 0,[],p,acc,_ => by rw [scan_nil]; rfl
 | 0,_ :: _,_,_,h => by simp at h
 | n + 1,[],p,acc,_ => by rw [scan_nil]; rfl
 | n + 1,c :: t,p,acc,h => by
  have hl : t.length ≤ n := by simpa using h
  have hd : ∀ k,(t.drop k).length ≤ n := fun k => by rw [List.length_drop]; omega
  rw [scan_cons,scanF]
  cases gap (c :: t) with
  | some g =>
   cases g with
   | none => rfl
   | some k => exact scan_scanF n _ _ _ (hd _)
  | none =>
   show (match word (c :: t) with | .inl e => _ | .inr n => _) = (match word (c :: t) with | .inl e => _ | .inr n => _)
   cases word (c :: t) with
   | inl e => rfl
   | inr k => exact scan_scanF n _ _ _ (hd _)
def small : List UInt8 := [77,79,68,85,76,69,32,77,59,32,66,69,71,73,78,32,79,85,84,40,49,41,32,69,78,68,32,77,46]
theorem word_le : ∀ (r : List UInt8) (n : Nat),word r = .inr n → 1 ≤ n ∧ n ≤ r.length
 | [],n,h => by cases h
 | c :: t,n,h => by
  have ht : ∀ p : UInt8 → Bool,(t.takeWhile p).length ≤ t.length := fun p => (List.takeWhile_prefix p).length_le
  have h1 := ht isLD
  have h2 := ht isD
  rw [word] at h
  simp only [List.length_cons]
  by_cases hl : isL c = true
  ·rw [if_pos hl] at h
   by_cases h12 : 12 < 1 + (t.takeWhile isLD).length
   ·have h : Sum.inl 3 = Sum.inr n := (if_pos h12).symm.trans h
    cases h
   ·have h : Sum.inr (1 + (t.takeWhile isLD).length) = Sum.inr n := (if_neg h12).symm.trans h
    cases h; omega
  ·rw [if_neg hl] at h
   by_cases hd : isD c = true
   ·rw [if_pos hd] at h
    by_cases hbig : isBig ((c :: t).take (1 + (t.takeWhile isD).length)) = true
    ·have h : Sum.inl 3 = Sum.inr n := (if_pos hbig).symm.trans h
     cases h
    ·have h : Sum.inr (1 + (t.takeWhile isD).length) = Sum.inr n := (if_neg hbig).symm.trans h
     cases h; omega
   ·rw [if_neg hd] at h
    by_cases hp : t.head? = some 61 ∧ (c = 58 ∨ c = 60 ∨ c = 62)
    ·rw [if_pos hp] at h
     cases h
     cases t with
     | nil => exact absurd hp.1 (by simp)
     | cons a b => simp
    ·rw [if_neg hp] at h
     by_cases hs : isSign c = true
     ·rw [if_pos hs] at h; cases h; omega
     ·rw [if_neg hs] at h; cases h
theorem gap_le : ∀ (r : List UInt8) (n : Nat),gap r = some (some n) → 1 ≤ n ∧ n ≤ r.length
 | [],n,h => by cases h
 | c :: t,n,h => by
  rw [gap] at h
  simp only [List.length_cons]
  by_cases hb : isBlank c = true
  ·rw [if_pos hb] at h; cases h; omega
  ·rw [if_neg hb] at h
   by_cases hp : c = 40 ∧ t.head? = some 42
   ·rw [if_pos hp] at h
    simp only [Option.some.injEq] at h
    have hc := cmt_le _ _ _ _ h
    have : t.tail.length + 1 = t.length := by
     cases t with
     | nil => exact absurd hp.2 (by simp)
     | cons a b => simp
    omega
   ·rw [if_neg hp] at h; cases h
theorem isLD_sep {c : UInt8} (h : c = 32 ∨ c = 40) : isLD c = false ∧ isD c = false ∧ ¬ c = 61 ∧ ¬ c = 42 := by
 rcases h with rfl | rfl <;> decide
theorem takeWhile_stop (p : UInt8 → Bool) : ∀ (t x : List UInt8) (c : UInt8),p c = false → (t.takeWhile p ++ c :: x).takeWhile p = t.takeWhile p
 | [],x,c,hc => by simp [hc]
 | a :: t,x,c,hc => by
  by_cases ha : p a = true
  ·rw [List.takeWhile_cons,if_pos ha]
   simp only [List.cons_append]
   rw [List.takeWhile_cons,if_pos ha,takeWhile_stop p t x c hc]
  ·rw [List.takeWhile_cons,if_neg ha]
   simp [hc]
theorem take_takeWhile (p : UInt8 → Bool) (t : List UInt8) : t.take (t.takeWhile p).length = t.takeWhile p := by
 exact (List.prefix_iff_eq_take.1 (List.takeWhile_prefix p)).symm
theorem word_again {c : UInt8} {t : List UInt8} {n : Nat} (hg : gap (c :: t) = none) (hw : word (c :: t) = .inr n) {s : UInt8} (hs : s = 32 ∨ s = 40) (x : List UInt8) :
  ∃ u,(c :: t).take n = c :: u ∧ gap (c :: (u ++ s :: x)) = none ∧ word (c :: (u ++ s :: x)) = .inr n ∧ n = u.length + 1 := by
 obtain ⟨s1,s2,s3,s4⟩ := isLD_sep hs
 have hb : isBlank c = false := by
  rw [gap] at hg
  by_cases h : isBlank c = true
  ·rw [if_pos h] at hg; cases hg
  ·exact Bool.eq_false_iff.2 h
 have hcm : ¬ (c = 40 ∧ t.head? = some 42) := by
  intro h
  rw [gap] at hg
  rw [if_neg (by rw [hb]; decide),if_pos h] at hg
  cases hg
 have gapN : ∀ r : List UInt8,¬ (c = 40 ∧ r.head? = some 42) → gap (c :: r) = none := fun r h => by
  rw [gap]
  rw [if_neg (by rw [hb]; decide),if_neg h]
 have hsh : ∀ y : List UInt8,([] ++ s :: y).head? = some s := fun _ => rfl
 rw [word] at hw
 by_cases hl : isL c = true
 ·rw [if_pos hl] at hw
  by_cases h12 : 12 < 1 + (t.takeWhile isLD).length
  ·have hw : Sum.inl 3 = Sum.inr n := (if_pos h12).symm.trans hw
   cases hw
  ·have hw : Sum.inr (1 + (t.takeWhile isLD).length) = Sum.inr n := (if_neg h12).symm.trans hw
   cases hw
   refine ⟨t.takeWhile isLD,?_,gapN _ ?_,?_,by omega⟩
   ·rw [show 1 + (t.takeWhile isLD).length = (t.takeWhile isLD).length + 1 from by omega,List.take_succ_cons,take_takeWhile]
   ·rintro ⟨rfl,_⟩; exact absurd hl (by decide)
   ·rw [word,if_pos hl,takeWhile_stop isLD t x s s1]
    exact if_neg h12
 ·rw [if_neg hl] at hw
  by_cases hd : isD c = true
  ·rw [if_pos hd] at hw
   by_cases hbig : isBig ((c :: t).take (1 + (t.takeWhile isD).length)) = true
   ·have hw : Sum.inl 3 = Sum.inr n := (if_pos hbig).symm.trans hw
    cases hw
   ·have hw : Sum.inr (1 + (t.takeWhile isD).length) = Sum.inr n := (if_neg hbig).symm.trans hw
    cases hw
    have ht : (c :: t).take (1 + (t.takeWhile isD).length) = c :: t.takeWhile isD := by
     rw [show 1 + (t.takeWhile isD).length = (t.takeWhile isD).length + 1 from by omega,List.take_succ_cons,take_takeWhile]
    refine ⟨t.takeWhile isD,ht,gapN _ ?_,?_,by omega⟩
    ·rintro ⟨rfl,_⟩; exact absurd hd (by decide)
    ·rw [word,if_neg hl,if_pos hd,takeWhile_stop isD t x s s2]
     rw [ht] at hbig
     have e : (c :: (t.takeWhile isD ++ s :: x)).take (1 + (t.takeWhile isD).length) = c :: t.takeWhile isD := by
      rw [show 1 + (t.takeWhile isD).length = (t.takeWhile isD).length + 1 from by omega,List.take_succ_cons,List.take_left]
     exact if_neg (by rw [e]; exact hbig)
  ·rw [if_neg hd] at hw
   by_cases hp : t.head? = some 61 ∧ (c = 58 ∨ c = 60 ∨ c = 62)
   ·rw [if_pos hp] at hw
    cases hw
    cases t with
    | nil => exact absurd hp.1 (by simp)
    | cons a b =>
     have ha : a = 61 := by simpa using hp.1
     subst ha
     refine ⟨[61],rfl,gapN _ (by rintro ⟨_,h⟩; simp at h),?_,rfl⟩
     rw [word,if_neg hl,if_neg hd,if_pos ⟨rfl,hp.2⟩]
   ·rw [if_neg hp] at hw
    by_cases hsg : isSign c = true
    ·rw [if_pos hsg] at hw
     cases hw
     refine ⟨[],rfl,gapN _ ?_,?_,rfl⟩
     ·rintro ⟨_,h⟩; exact s4 (by simpa using h)
     ·rw [word,if_neg hl,if_neg hd,if_neg (by rintro ⟨h,_⟩; exact s3 (by simpa using h)),if_pos hsg]
    ·rw [if_neg hsg] at hw; cases hw
def Good (w : List UInt8) : Prop := ∀ (s : UInt8),(s = 32 ∨ s = 40) → ∀ x,∃ c u,w = c :: u ∧ gap (w ++ s :: x) = none ∧ word (w ++ s :: x) = .inr w.length
theorem scan_good : ∀ (N : Nat) (r : List UInt8) (p : Nat) (acc l : List Tok),r.length ≤ N → scan r p acc = .ok l → ∃ m q,l = acc ++ m ++ [([],q)] ∧ ∀ t ∈ m,Good t.1
 | N,[],p,acc,l,_,h => by
  rw [scan_nil] at h
  cases h
  exact ⟨[],p,by simp,by simp⟩
 | 0,_ :: _,_,_,_,h,_ => by simp at h
 | N + 1,c :: t,p,acc,l,hN,h => by
  have hl : t.length ≤ N := by simpa using hN
  have hd : ∀ k,(t.drop k).length ≤ N := fun k => by rw [List.length_drop]; omega
  rw [scan_cons] at h
  cases hg : gap (c :: t) with
  | some g =>
   rw [hg] at h
   cases g with
   | none => cases h
   | some k => exact scan_good N _ _ _ _ (hd _) h
  | none =>
   rw [hg] at h
   simp only at h
   cases hw : word (c :: t) with
   | inl e => rw [hw] at h; cases h
   | inr k =>
    rw [hw] at h
    simp only at h
    obtain ⟨m,q,e,hm⟩ := scan_good N _ _ _ _ (hd _) h
    refine ⟨((c :: t).take k,p) :: m,q,by rw [e]; simp,?_⟩
    intro x hx
    rcases List.mem_cons.1 hx with rfl | hx
    ·intro s hs y
     obtain ⟨u,e1,e2,e3,e4⟩ := word_again hg hw hs y
     refine ⟨c,u,e1,?_,?_⟩
     ·rw [e1]; exact e2
     ·rw [e1]
      simp only [List.cons_append,List.length_cons]
      rw [← e4]
      exact e3
    ·exact hm x hx
end Go.Proofs.YtneohanphabneaaGreatDoor.Sc
namespace Go.Proofs.YtneohanphabneaaGreatDoor.Sc
def safe (c d : UInt8) : Bool := !(isLD c && isLD d) && !((c == 58 || c == 60 || c == 62) && d == 61) && !(c == 40 && d == 42)
def Safe (b r : List UInt8) : Prop := ∀ c d,b.getLast? = some c → r.head? = some d → safe c d = true
theorem cmt_append : ∀ (l r : List UInt8) (d k n : Nat),cmt l d k = some n → cmt (l ++ r) d k = some n
 | [],_,_,_,_,h => by simp [cmt] at h
 | [_],_,_,_,_,h => by simp [cmt] at h
 | a :: b :: t,r,d,k,n,h => by
  show cmt (a :: b :: (t ++ r)) d k = some n
  rw [cmt] at h ⊢
  by_cases h1 : a = 40 ∧ b = 42
  ·rw [if_pos h1] at h ⊢; exact cmt_append t r _ _ n h
  ·rw [if_neg h1] at h ⊢
   by_cases h2 : a = 42 ∧ b = 41
   ·rw [if_pos h2] at h ⊢
    by_cases h3 : d = 1
    ·rw [if_pos h3] at h ⊢; exact h
    ·rw [if_neg h3] at h ⊢; exact cmt_append t r _ _ n h
   ·rw [if_neg h2] at h ⊢; exact cmt_append (b :: t) r _ _ n h
theorem takeWhile_app (p : UInt8 → Bool) : ∀ (t r : List UInt8),(t.all p = true → ∀ d,r.head? = some d → p d = false) → (t ++ r).takeWhile p = t.takeWhile p
 | [],r,h => by
  cases r with
  | nil => rfl
  | cons d r => simp [h rfl d rfl]
 | c :: t,r,h => by
  rw [List.cons_append,List.takeWhile_cons,List.takeWhile_cons]
  by_cases hc : p c = true
  ·rw [if_pos hc,if_pos hc,takeWhile_app p t r (fun ht => h (by rw [List.all_cons,hc,ht]; rfl))]
  ·rw [if_neg hc,if_neg hc]
theorem head_app {t r : List UInt8} (h : t ≠ []) : (t ++ r).head? = t.head? := by
 cases t with
 | nil => exact absurd rfl h
 | cons c t => rfl
theorem last_all {p : UInt8 → Bool} {c x : UInt8} {t : List UInt8} (hc : p c = true) (ht : t.all p = true) (hx : (c :: t).getLast? = some x) : p x = true := by
 have hm : x ∈ c :: t := List.mem_of_getLast? hx
 rcases List.mem_cons.1 hm with rfl | hm
 ·exact hc
 ·exact List.all_eq_true.1 ht x hm
theorem last_some (c : UInt8) (t : List UInt8) : ∃ x,(c :: t).getLast? = some x := ⟨(c :: t).getLast (by simp),by rw [List.getLast?_eq_some_getLast]⟩
theorem isD_LD {c : UInt8} (h : isD c = true) : isLD c = true := by unfold isLD; rw [h,Bool.or_true]
theorem isL_LD {c : UInt8} (h : isL c = true) : isLD c = true := by unfold isLD; rw [h,Bool.true_or]
theorem safe_LD {c d : UInt8} (h : safe c d = true) (hc : isLD c = true) : isLD d = false := by
 unfold safe at h
 rw [hc] at h
 simp only [Bool.true_and,Bool.and_eq_true,Bool.not_eq_true'] at h
 exact h.1.1
theorem safe_eq {c d : UInt8} (h : safe c d = true) (hc : c = 58 ∨ c = 60 ∨ c = 62) : d ≠ 61 := by
 unfold safe at h
 rintro rfl
 rcases hc with rfl | rfl | rfl <;> simp at h
theorem safe_par {d : UInt8} (h : safe 40 d = true) : d ≠ 42 := by
 rintro rfl
 revert h; decide
theorem Safe.tail {c : UInt8} {t r : List UInt8} (h : Safe (c :: t) r) (k : Nat) : Safe (t.drop k) r := by
 intro x d hx hd
 refine h x d ?_ hd
 have hne : t.drop k ≠ [] := by intro e; rw [e] at hx; cases hx
 have e2 : c :: t = (c :: t.take k) ++ t.drop k := by rw [List.cons_append,List.take_append_drop]
 rw [e2,List.getLast?_append,hx]; rfl
theorem gap_app {c : UInt8} {t r : List UInt8} (hs : Safe (c :: t) r) : (∀ n,gap (c :: t) = some (some n) → gap (c :: (t ++ r)) = some (some n)) ∧ (gap (c :: t) = none → gap (c :: (t ++ r)) = none) := by
 rw [gap,gap]
 by_cases hb : isBlank c = true
 ·rw [if_pos hb,if_pos hb]
  exact ⟨fun n h => h,fun h => by cases h⟩
 ·rw [if_neg hb,if_neg hb]
  by_cases hp : c = 40 ∧ t.head? = some 42
  ·have hp2 : c = 40 ∧ (t ++ r).head? = some 42 := ⟨hp.1,by rw [head_app (by intro e; rw [e] at hp; cases hp.2)]; exact hp.2⟩
   rw [if_pos hp,if_pos hp2]
   refine ⟨fun n h => ?_,fun h => by cases h⟩
   cases t with
   | nil => cases hp.2
   | cons a t =>
    simp only [Option.some.injEq] at h ⊢
    exact cmt_append t r 1 2 n h
  ·have hp2 : ¬ (c = 40 ∧ (t ++ r).head? = some 42) := by
    rintro ⟨h1,h2⟩
    cases t with
    | nil =>
     subst h1
     exact safe_par (hs 40 42 rfl h2) rfl
    | cons a t => exact hp ⟨h1,h2⟩
   rw [if_neg hp,if_neg hp2]
   exact ⟨fun n h => by (cases h),fun _ => rfl⟩
theorem word_app {c : UInt8} {t r : List UInt8} {n : Nat} (hs : Safe (c :: t) r) (h : word (c :: t) = .inr n) : word (c :: (t ++ r)) = .inr n := by
 obtain ⟨x,hx⟩ := last_some c t
 have hn := (word_le _ _ h).2
 rw [word] at h ⊢
 by_cases hl : isL c = true
 ·rw [if_pos hl] at h ⊢
  rw [takeWhile_app isLD t r (fun ht d hd => safe_LD (hs x d hx hd) (last_all (isL_LD hl) ht hx))]
  exact h
 ·rw [if_neg hl] at h ⊢
  by_cases hd : isD c = true
  ·rw [if_pos hd] at h ⊢
   rw [takeWhile_app isD t r (fun ht d hd2 => by
    have := safe_LD (hs x d hx hd2) (isD_LD (last_all hd ht hx))
    unfold isLD at this
    simp only [Bool.or_eq_false_iff] at this
    exact this.2)]
   have e : (c :: (t ++ r)).take (1 + (t.takeWhile isD).length) = (c :: t).take (1 + (t.takeWhile isD).length) := by
    have : 1 + (t.takeWhile isD).length ≤ (c :: t).length := by
     have := (List.takeWhile_prefix isD (l := t)).length_le
     simp only [List.length_cons]; omega
    rw [← List.cons_append,List.take_append_of_le_length this]
   show (if isBig ((c :: (t ++ r)).take (1 + (t.takeWhile isD).length)) = true then Sum.inl 3 else Sum.inr (1 + (t.takeWhile isD).length)) = Sum.inr n
   rw [e]; exact h
  ·rw [if_neg hd] at h ⊢
   by_cases hp : t.head? = some 61 ∧ (c = 58 ∨ c = 60 ∨ c = 62)
   ·have hp2 : (t ++ r).head? = some 61 ∧ (c = 58 ∨ c = 60 ∨ c = 62) := ⟨by rw [head_app (by intro e; rw [e] at hp; cases hp.1)]; exact hp.1,hp.2⟩
    rw [if_pos hp] at h
    rw [if_pos hp2]; exact h
   ·have hp2 : ¬ ((t ++ r).head? = some 61 ∧ (c = 58 ∨ c = 60 ∨ c = 62)) := by
     rintro ⟨h1,h2⟩
     cases t with
     | nil => exact safe_eq (hs c 61 rfl h1) h2 rfl
     | cons a t => exact hp ⟨h1,h2⟩
    rw [if_neg hp] at h
    rw [if_neg hp2]; exact h
theorem scan_append (r : List UInt8) : ∀ (N : Nat) (b : List UInt8) (p : Nat) (acc l0 : List Tok),b.length ≤ N → Safe b r → scan b p acc = .ok l0 →
  ∃ l,l0 = l ++ [([],p + b.length)] ∧ scan (b ++ r) p acc = scan r (p + b.length) l
 | N,[],p,acc,l0,_,_,h => by
  rw [scan_nil] at h
  cases h
  exact ⟨acc,rfl,rfl⟩
 | 0,_ :: _,_,_,_,h,_,_ => by simp at h
 | N + 1,c :: t,p,acc,l0,hN,hs,h => by
  have hl : t.length ≤ N := by simpa using hN
  have hd : ∀ k,(t.drop k).length ≤ N := fun k => by rw [List.length_drop]; omega
  obtain ⟨hg1,hg2⟩ := gap_app hs
  rw [List.cons_append,scan_cons]
  rw [scan_cons] at h
  cases hg : gap (c :: t) with
  | some g =>
   rw [hg] at h
   cases g with
   | none => cases h
   | some k =>
    have hk := gap_le _ _ hg
    simp only [List.length_cons] at hk
    rw [hg1 k hg]
    obtain ⟨l,h1,h2⟩ := scan_append r N _ _ _ _ (hd _) (hs.tail (k - 1)) h
    have e : p + k + (t.drop (k - 1)).length = p + (c :: t).length := by rw [List.length_drop,List.length_cons]; omega
    rw [e] at h1 h2
    refine ⟨l,h1,?_⟩
    show scan ((t ++ r).drop (k - 1)) (p + k) acc = _
    rw [List.drop_append_of_le_length (by omega)]; exact h2
  | none =>
   rw [hg] at h
   simp only at h
   rw [hg2 hg]
   cases hw : word (c :: t) with
   | inl e => rw [hw] at h; cases h
   | inr k =>
    rw [hw] at h
    simp only at h
    have hk := word_le _ _ hw
    simp only [List.length_cons] at hk
    simp only [word_app hs hw]
    obtain ⟨l,h1,h2⟩ := scan_append r N _ _ _ _ (hd _) (hs.tail (k - 1)) h
    have e : p + k + (t.drop (k - 1)).length = p + (c :: t).length := by rw [List.length_drop,List.length_cons]; omega
    rw [e] at h1 h2
    refine ⟨l,h1,?_⟩
    rw [List.drop_append_of_le_length (by omega),← List.cons_append,List.take_append_of_le_length (by simp only [List.length_cons]; omega)]
    exact h2
theorem scan_base : ∀ (N : Nat) (r : List UInt8) (p q : Nat) (acc acc2 l : List Tok),r.length ≤ N → scan r p acc = .ok l → ∃ m m2,l = acc ++ m ∧ scan r q acc2 = .ok (acc2 ++ m2) ∧ m.map (·.1) = m2.map (·.1)
 | N,[],p,q,acc,acc2,l,_,h => by
  rw [scan_nil] at h
  cases h
  exact ⟨[([],p)],[([],q)],rfl,scan_nil _ _,rfl⟩
 | 0,_ :: _,_,_,_,_,_,h,_ => by simp at h
 | N + 1,c :: t,p,q,acc,acc2,l,hN,h => by
  have hl : t.length ≤ N := by simpa using hN
  have hd : ∀ k,(t.drop k).length ≤ N := fun k => by rw [List.length_drop]; omega
  rw [scan_cons] at h ⊢
  cases hg : gap (c :: t) with
  | some g =>
   rw [hg] at h
   cases g with
   | none => cases h
   | some k => exact scan_base N _ _ _ _ _ _ (hd _) h
  | none =>
   rw [hg] at h
   simp only at h ⊢
   cases hw : word (c :: t) with
   | inl e => rw [hw] at h; cases h
   | inr k =>
    rw [hw] at h
    simp only at h ⊢
    obtain ⟨m,m2,h1,h2,h3⟩ := scan_base N _ _ (q + k) _ (acc2 ++ [((c :: t).take k,q)]) _ (hd _) h
    refine ⟨((c :: t).take k,p) :: m,((c :: t).take k,q) :: m2,by rw [h1,List.append_assoc]; rfl,by rw [h2,List.append_assoc]; rfl,?_⟩
    rw [List.map_cons,List.map_cons,h3]
def Reads (b : List UInt8) (ws : List (List UInt8)) : Prop := ∃ l q,scan b 0 [] = .ok (l ++ [([],q)]) ∧ l.map (·.1) = ws
theorem Reads.nil : Reads [] [] := ⟨[],0,scan_nil 0 [],rfl⟩
theorem Reads.append {b1 b2 : List UInt8} {w1 w2 : List (List UInt8)} (h1 : Reads b1 w1) (h2 : Reads b2 w2) (hs : Safe b1 b2) : Reads (b1 ++ b2) (w1 ++ w2) := by
 obtain ⟨l1,q1,e1,rfl⟩ := h1
 obtain ⟨l2,q2,e2,rfl⟩ := h2
 obtain ⟨l,h3,h4⟩ := scan_append b2 b1.length b1 0 [] _ (Nat.le_refl _) hs e1
 obtain ⟨h5,_⟩ := List.append_inj' h3 rfl
 subst h5
 obtain ⟨m,m2,h6,h7,h8⟩ := scan_base b2.length b2 0 (0 + b1.length) [] l1 _ (Nat.le_refl _) e2
 rw [List.nil_append] at h6
 subst h6
 have hm2 : ∃ m3 x,m2 = m3 ++ [x] := by
  rcases List.eq_nil_or_concat m2 with rfl | ⟨m3,x,rfl⟩
  ·simp at h8
  ·exact ⟨m3,x,by simp⟩
 obtain ⟨m3,x,rfl⟩ := hm2
 rw [List.map_append,List.map_append] at h8
 obtain ⟨h9,h10⟩ := List.append_inj' h8 rfl
 rcases x with ⟨xw,xq⟩
 simp only [List.map_cons,List.map_nil,List.cons.injEq,and_true] at h10
 subst h10
 refine ⟨l1 ++ m3,xq,?_,by rw [List.map_append,h9]⟩
 rw [h4,h7,List.append_assoc]
def wordsF (n : Nat) (b : List UInt8) : Option (List (List UInt8)) := match scanF n b 0 [] with
 | .ok l => some (l.dropLast.map (·.1))
 | _ => none
theorem Reads.of {b : List UInt8} {ws : List (List UInt8)} (h : wordsF b.length b = some ws) : Reads b ws := by
 unfold wordsF at h
 rw [← scan_scanF b.length b 0 [] (Nat.le_refl _)] at h
 cases hs : scan b 0 [] with
 | limit => rw [hs] at h; cases h
 | bad e a => rw [hs] at h; cases h
 | ok l =>
  rw [hs] at h
  simp only [Option.some.injEq] at h
  obtain ⟨l1,h1,_⟩ := scan_append [] b.length b 0 [] l (Nat.le_refl _) (fun _ _ _ h => by cases h) hs
  subst h1
  rw [List.dropLast_concat] at h
  exact ⟨l1,_,hs,h⟩
end Go.Proofs.YtneohanphabneaaGreatDoor.Sc
namespace Go.Proofs.YtneohanphabneaaGreatDoor.Pr
open Ps
inductive Pc where
 | w (b : List UInt8)
 | sp
 | nl
def Pc.b : Pc → List UInt8
 | .w b => b
 | .sp => [32]
 | .nl => [10]
def Pc.ws : Pc → List (List UInt8)
 | .w b => [b]
 | _ => []
def txt (ps : List Pc) : List UInt8 := ps.flatMap Pc.b
def wds (ps : List Pc) : List (List UInt8) := ps.flatMap Pc.ws
abbrev kMODULE : Pc := .w [77,79,68,85,76,69]
abbrev kIMPORT : Pc := .w [73,77,80,79,82,84]
abbrev kCONST : Pc := .w [67,79,78,83,84]
abbrev kTYPE : Pc := .w [84,89,80,69]
abbrev kVAR : Pc := .w [86,65,82]
abbrev kPROCEDURE : Pc := .w [80,82,79,67,69,68,85,82,69]
abbrev kBEGIN : Pc := .w [66,69,71,73,78]
abbrev kEND : Pc := .w [69,78,68]
abbrev kIF : Pc := .w [73,70]
abbrev kTHEN : Pc := .w [84,72,69,78]
abbrev kELSIF : Pc := .w [69,76,83,73,70]
abbrev kELSE : Pc := .w [69,76,83,69]
abbrev kWHILE : Pc := .w [87,72,73,76,69]
abbrev kDO : Pc := .w [68,79]
abbrev kREPEAT : Pc := .w [82,69,80,69,65,84]
abbrev kUNTIL : Pc := .w [85,78,84,73,76]
abbrev kRETURN : Pc := .w [82,69,84,85,82,78]
abbrev kARRAY : Pc := .w [65,82,82,65,89]
abbrev kOF : Pc := .w [79,70]
abbrev kRECORD : Pc := .w [82,69,67,79,82,68]
abbrev kPOINTER : Pc := .w [80,79,73,78,84,69,82]
abbrev kTO : Pc := .w [84,79]
abbrev kNIL : Pc := .w [78,73,76]
abbrev kTRUE : Pc := .w [84,82,85,69]
abbrev kFALSE : Pc := .w [70,65,76,83,69]
abbrev kIS : Pc := .w [73,83]
abbrev kNEW : Pc := .w [78,69,87]
abbrev kOUT : Pc := .w [79,85,84]
abbrev kGET : Pc := .w [71,69,84]
abbrev kASSERT : Pc := .w [65,83,83,69,82,84]
abbrev s_semi : Pc := .w [59]
abbrev s_colon : Pc := .w [58]
abbrev s_comma : Pc := .w [44]
abbrev s_dot : Pc := .w [46]
abbrev s_lp : Pc := .w [40]
abbrev s_rp : Pc := .w [41]
abbrev s_lb : Pc := .w [91]
abbrev s_rb : Pc := .w [93]
abbrev s_lc : Pc := .w [123]
abbrev s_rc : Pc := .w [125]
abbrev s_hat : Pc := .w [94]
abbrev s_tilde : Pc := .w [126]
abbrev s_minus : Pc := .w [45]
abbrev s_eq : Pc := .w [61]
abbrev s_asg : Pc := .w [58,61]
abbrev s_star : Pc := .w [42]
def kindT : Tree → Nat
 | .node k _ _ _ _ => k
def nameT : Tree → ByteArray
 | .node _ n _ _ _ => n
def numT : Tree → Nat
 | .node _ _ n _ _ => n
def subsT : Tree → List Tree
 | .node _ _ _ _ ts => ts
abbrev nm (n : ByteArray) : Pc := .w n.data.toList
abbrev dec (n : Nat) : List UInt8 := Lib.decDigits n
def star (num : Nat) : List Pc := if num = 1 then [s_star] else []
def typeName : Tree → List Pc
 | .node _ n _ _ [] => [nm n]
 | .node _ n _ _ (.node _ n2 _ _ _ :: _) => [nm n2,s_dot,nm n]
def joinP (sep : List Pc) : List (List Pc) → List Pc
 | [] => []
 | [a] => a
 | a :: b :: r => a ++ sep ++ joinP sep (b :: r)
def ops1 : List ByteArray := [⟨#[43]⟩,⟨#[45]⟩,⟨#[79,82]⟩]
def ops2 : List ByteArray := [⟨#[42]⟩,⟨#[68,73,86]⟩,⟨#[77,79,68]⟩,⟨#[38]⟩]
def level (n : ByteArray) : Nat := if ops1.any (fun k => decide (k = n)) then 1 else if ops2.any (fun k => decide (k = n)) then 2 else 0
def own (k : Nat) (n : ByteArray) : Nat := if k = 35 then 1 else if k = 37 then 0 else if k = 36 then level n else 3
def ex (es : List (Nat → List Pc)) (i lv : Nat) : List Pc := match es[i]? with
 | some f => f lv
 | none => []
def tn (ts : List Tree) (i : Nat) : List Pc := match ts[i]? with
 | some t => typeName t
 | none => []
def argsP (es : List (Nat → List Pc)) : List Pc := [s_lp] ++ joinP [s_comma,.sp] (es.map fun f => f 0) ++ [s_rp]
def bodyE (k : Nat) (n : ByteArray) (num : Nat) (ts : List Tree) (es : List (Nat → List Pc)) : List Pc := match k with
 | 24 => [nm n]
 | 25 => ex es 0 3 ++ [s_dot,nm n]
 | 26 => ex es 0 3 ++ [s_lb] ++ ex es 1 0 ++ [s_rb]
 | 27 => ex es 0 3 ++ [s_hat]
 | 28 => ex es 0 3 ++ [s_lc] ++ tn ts 1 ++ [s_rc]
 | 29 => [.w (dec num)]
 | 30 => [kTRUE]
 | 31 => [kFALSE]
 | 32 => [kNIL]
 | 33 => ex es 0 3 ++ argsP (es.drop 1)
 | 34 => [s_tilde] ++ ex es 0 3
 | 35 => [s_minus] ++ ex es 0 2
 | 36 => ex es 0 (if level n = 0 then 1 else level n) ++ [.sp,nm n,.sp] ++ ex es 1 (level n + 1)
 | 37 => ex es 0 1 ++ [.sp,kIS,.sp] ++ tn ts 1
 | _ => []
def wrap (own at_ : Nat) (s : List Pc) : List Pc := if own < at_ then [s_lp] ++ s ++ [s_rp] else s
mutual
def expr : Tree → Nat → List Pc
 | .node k n num _ ts => fun at_ => wrap (own k n) at_ (bodyE k n num ts (exprL ts))
def exprL : List Tree → List (Nat → List Pc)
 | [] => []
 | t :: ts => expr t :: exprL ts
end
theorem exprL_map : ∀ ts : List Tree,exprL ts = ts.map expr
 | [] => by unfold exprL; rfl
 | t :: ts => by unfold exprL; rw [exprL_map ts]; rfl
theorem expr_node (k : Nat) (n : ByteArray) (num a v : Nat) (ts : List Tree) : expr (.node k n num a ts) v = wrap (own k n) v (bodyE k n num ts (ts.map expr)) := by unfold expr; rw [exprL_map]
def ind (d : Nat) : List Pc := List.replicate (2 * d) .sp
def line (d : Nat) (s : List Pc) : List Pc := ind d ++ s ++ [.nl]
def blk (bs : List (Nat → List Pc)) (i d : Nat) : List Pc := match bs[i]? with
 | some f => f d
 | none => []
def ifs (d : Nat) : Pc → List Tree → List (Nat → List Pc) → List Pc
 | w,c :: _ :: ts,_ :: b :: bs => line d ([w,.sp] ++ expr c 0 ++ [.sp,kTHEN]) ++ b d ++ ifs d kELSIF ts bs
 | _,_,_ => []
def e0 (ts : List Tree) (i lv : Nat) : List Pc := match ts[i]? with
 | some t => expr t lv
 | none => []
def word4 (k : Nat) : Pc := if k = 20 then kNEW else if k = 21 then kOUT else if k = 22 then kGET else kASSERT
def stmtK (k num : Nat) (ts : List Tree) (bs : List (Nat → List Pc)) (d : Nat) (e : List Pc) : List Pc := match k with
 | 16 => ifs d kIF ts bs ++ (if num = 1 then line d [kELSE] ++ blk bs (ts.length - 1) d else []) ++ line d ([kEND] ++ e)
 | 17 => line d ([kWHILE,.sp] ++ e0 ts 0 0 ++ [.sp,kDO]) ++ blk bs 1 d ++ line d ([kEND] ++ e)
 | 18 => line d [kREPEAT] ++ blk bs 0 d ++ line d ([kUNTIL,.sp] ++ e0 ts 1 0 ++ e)
 | 19 => if ts.isEmpty then line d ([kRETURN] ++ e) else line d ([kRETURN,.sp] ++ e0 ts 0 0 ++ e)
 | 14 => line d (e0 ts 0 3 ++ [.sp,s_asg,.sp] ++ e0 ts 1 0 ++ e)
 | 15 => line d (e0 ts 0 3 ++ (if (ts.drop 1).isEmpty then [] else argsP ((ts.drop 1).map expr)) ++ e)
 | _ => line d ([word4 k,s_lp] ++ e0 ts 0 0 ++ [s_rp] ++ e)
mutual
def stmt : Tree → Nat → List Pc → List Pc
 | .node k _ num _ ts => fun d e => stmtK k num ts (blockL ts) d e
def blockL : List Tree → List (Nat → List Pc)
 | [] => []
 | t :: ts => block t :: blockL ts
def block : Tree → Nat → List Pc
 | .node _ _ _ _ ts => fun d => seqS ts (d + 1)
def seqS : List Tree → Nat → List Pc
 | [] => fun _ => []
 | t :: ts => fun d => stmt t d (if ts.isEmpty then [] else [s_semi]) ++ seqS ts d
end
theorem blockL_map : ∀ ts : List Tree,blockL ts = ts.map block
 | [] => by unfold blockL; rfl
 | t :: ts => by unfold blockL; rw [blockL_map ts]; rfl
def sub (t : Tree) (i : Nat) : Tree := ((subsT t)[i]?).getD (.node 0 ⟨#[]⟩ 0 0 [])
def variable_ (x : Tree) : List Pc := [nm (nameT x)] ++ star (numT x) ++ [s_colon,.sp] ++ typeName (sub x 0)
def typ (t : Tree) : List Pc :=
 if kindT t = 9 then [kARRAY,.sp,.w (dec (numT t)),.sp,kOF,.sp] ++ typeName (sub t 0)
 else if kindT t = 12 then [kPOINTER,.sp,kTO,.sp] ++ typeName (sub t 0)
 else [kRECORD] ++ (if kindT (sub t 0) = 0 then [] else [.sp,s_lp] ++ typeName (sub t 0) ++ [s_rp]) ++ ((subsT t).drop 1).flatMap (fun f => [.sp] ++ variable_ f ++ [s_semi]) ++ [.sp,kEND]
def const_ (x : Tree) : List Pc := [nm (nameT x)] ++ star (numT x) ++ [.sp,s_eq,.sp] ++ expr (sub x 0) 0
def named (x : Tree) : List Pc := [nm (nameT x)] ++ star (numT x) ++ [.sp,s_eq,.sp] ++ typ (sub x 0)
def param (x : Tree) : List Pc := (if numT x = 1 then [kVAR,.sp] else []) ++ [nm (nameT x),s_colon,.sp] ++ typeName (sub x 0)
def section_ (d : Nat) (word : Pc) (l : List Tree) (one : Tree → List Pc) : List Pc :=
 if l.isEmpty then [] else line d [word] ++ l.flatMap fun x => line (d + 1) (one x ++ [s_semi])
def proc (t : Tree) : List Pc :=
 line 0 ([kPROCEDURE,.sp,nm (nameT t)] ++ star (numT t) ++
  (if (subsT (sub t 0)).isEmpty && kindT (sub t 1) = 0 then [] else [s_lp] ++ joinP [s_semi,.sp] ((subsT (sub t 0)).map param) ++ [s_rp]) ++
  (if kindT (sub t 1) = 0 then [] else [s_colon,.sp] ++ typeName (sub t 1)) ++ [s_semi]) ++
 section_ 0 kVAR (subsT (sub t 2)) variable_ ++ line 0 [kBEGIN] ++ block (sub t 3) 0 ++ line 0 [kEND,.sp,nm (nameT t),s_semi]
def module (t : Tree) : List Pc :=
 line 0 [kMODULE,.sp,nm (nameT t),s_semi] ++
 (if (subsT (sub t 0)).isEmpty then [] else line 0 ([kIMPORT,.sp] ++ joinP [s_comma,.sp] ((subsT (sub t 0)).map fun i => [nm (nameT i)]) ++ [s_semi])) ++
 section_ 0 kCONST (subsT (sub t 1)) const_ ++ section_ 0 kTYPE (subsT (sub t 2)) named ++ section_ 0 kVAR (subsT (sub t 3)) variable_ ++
 (subsT (sub t 4)).flatMap proc ++
 (if (subsT (sub t 5)).isEmpty then [] else line 0 [kBEGIN] ++ block (sub t 5) 0) ++
 line 0 [kEND,.sp,nm (nameT t),s_dot]
end Go.Proofs.YtneohanphabneaaGreatDoor.Pr
namespace Go.Proofs.YtneohanphabneaaGreatDoor.Ps
open Sc
def GW (w : List UInt8) : Prop := ∀ c r,w = c :: r → isD c = true → w.all isD = true ∧ isBig w = false
theorem take_tw (p : UInt8 → Bool) (c : UInt8) (t : List UInt8) : (c :: t).take (1 + (t.takeWhile p).length) = c :: t.takeWhile p := by
 rw [Nat.add_comm,List.take_succ_cons]
 congr 1
 exact (List.prefix_iff_eq_take.1 (List.takeWhile_prefix p)).symm
theorem tw_all (p : UInt8 → Bool) : ∀ t : List UInt8,(t.takeWhile p).all p = true
 | [] => rfl
 | c :: t => by
  rw [List.takeWhile_cons]
  split
  ·rename_i h; rw [List.all_cons,h,tw_all p t]; rfl
  ·rfl
theorem word_good {c : UInt8} {t : List UInt8} {n : Nat} (h : word (c :: t) = .inr n) : GW ((c :: t).take n) ∧ 1 ≤ n := by
 have hw : word (c :: t) = (if isL c = true then (if 12 < 1 + (t.takeWhile isLD).length then .inl 3 else .inr (1 + (t.takeWhile isLD).length))
  else if isD c = true then (if isBig ((c :: t).take (1 + (t.takeWhile isD).length)) = true then .inl 3 else .inr (1 + (t.takeWhile isD).length))
  else if t.head? = some 61 ∧ (c = 58 ∨ c = 60 ∨ c = 62) then .inr 2 else if isSign c = true then .inr 1 else .inl 1) := rfl
 rw [hw] at h
 clear hw
 by_cases hl : isL c = true
 ·rw [if_pos hl] at h
  by_cases h12 : 12 < 1 + (t.takeWhile isLD).length
  ·rw [if_pos h12] at h; cases h
  ·rw [if_neg h12] at h
   injection h with h
   subst h
   refine ⟨?_,by omega⟩
   rw [take_tw]
   intro d r e hd
   injection e with e1 _
   subst e1
   unfold isL at hl
   unfold isD at hd
   simp only [Bool.and_eq_true,decide_eq_true_eq,Bool.or_eq_true,UInt8.le_iff_toNat_le,UInt8.reduceToNat] at hl hd
   omega
 ·rw [if_neg hl] at h
  by_cases hd : isD c = true
  ·rw [if_pos hd] at h
   by_cases hb : isBig ((c :: t).take (1 + (t.takeWhile isD).length)) = true
   ·rw [if_pos hb] at h; cases h
   ·rw [if_neg hb] at h
    injection h with h
    subst h
    refine ⟨?_,by omega⟩
    rw [take_tw] at hb ⊢
    intro d r e _
    refine ⟨?_,by simpa using hb⟩
    rw [List.all_cons,hd,Bool.true_and]
    exact tw_all isD t
  ·rw [if_neg hd] at h
   have hg : ∀ m,1 ≤ m → GW ((c :: t).take m) := fun m hm d r e hd2 => by
    cases m with
    | zero => omega
    | succ m =>
     rw [List.take_succ_cons] at e
     injection e with e1 _
     subst e1
     exact absurd hd2 hd
   by_cases h1 : t.head? = some 61 ∧ (c = 58 ∨ c = 60 ∨ c = 62)
   ·rw [if_pos h1] at h; injection h with h; subst h; exact ⟨hg _ (by omega),by omega⟩
   ·rw [if_neg h1] at h
    by_cases h2 : isSign c = true
    ·rw [if_pos h2] at h; injection h with h; subst h; exact ⟨hg _ (by omega),by omega⟩
    ·rw [if_neg h2] at h; cases h
theorem scan_good : ∀ (n : Nat) (r : List UInt8),r.length ≤ n → ∀ (p : Nat) (acc l : List Tok),scan r p acc = .ok l → ∃ pre q,l = acc ++ pre ++ [([],q)] ∧ (∀ t ∈ pre,GW t.1 ∧ t.1.length ≤ n) ∧ pre.length ≤ n
 | n,[],hn,p,acc,l,h => by
  rw [scan_nil] at h
  injection h with h
  exact ⟨[],p,by rw [← h,List.append_nil],(fun t ht => by cases ht),Nat.zero_le _⟩
 | 0,c :: t,hn,p,acc,l,h => absurd hn (by simp)
 | n + 1,c :: t,hn,p,acc,l,h => by
  have ht : t.length ≤ n := by simpa using hn
  rw [scan_cons] at h
  cases hg : gap (c :: t) with
  | some g =>
   rw [hg] at h
   cases g with
   | none => cases h
   | some m =>
    obtain ⟨pre,q,h1,h2,h3⟩ := scan_good n (t.drop (m - 1)) (by rw [List.length_drop]; omega) _ _ _ h
    exact ⟨pre,q,h1,fun t ht => ⟨(h2 t ht).1,by have := (h2 t ht).2; omega⟩,by omega⟩
  | none =>
   rw [hg] at h
   cases hw : word (c :: t) with
   | inl e => rw [hw] at h; cases h
   | inr m =>
    rw [hw] at h
    obtain ⟨pre,q,h1,h2,h3⟩ := scan_good n (t.drop (m - 1)) (by rw [List.length_drop]; omega) _ _ _ h
    refine ⟨((c :: t).take m,p) :: pre,q,by rw [h1]; simp,fun x hx => ?_,by simpa using h3⟩
    rcases List.mem_cons.1 hx with rfl | hx
    ·exact ⟨(word_good hw).1,by rw [List.length_take]; simp only [List.length_cons]; omega⟩
    ·exact ⟨(h2 x hx).1,by have := (h2 x hx).2; omega⟩
theorem words_good {s : List UInt8} {l : List Tok} (h : words s = .ok l) : Last l ∧ Good l ∧ l.length ≤ 100000 ∧ 0 < l.length := by
 unfold words at h
 split at h
 ·cases h
 ·rename_i hs
  obtain ⟨pre,q,h1,h2,h3⟩ := scan_good s.length s (Nat.le_refl _) 0 [] l h
  rw [List.nil_append] at h1
  subst h1
  refine ⟨fun i hi => ?_,fun i hi => ?_,by simp; omega,by simp⟩
  ·rw [List.length_append,List.length_singleton] at hi
   have e : i = pre.length := by omega
   subst e
   unfold W
   rw [List.getElem?_append_right (Nat.le_refl _),Nat.sub_self]
   rfl
  ·rw [List.length_append,List.length_singleton] at hi
   rcases Nat.lt_or_ge i pre.length with hlt | hge
   ·have hm := h2 pre[i] (List.getElem_mem hlt)
    have hW : W (pre ++ [([],q)]) i = ⟨pre[i].1.toArray⟩ := by
     unfold W
     rw [List.getElem?_append_left hlt,List.getElem?_eq_getElem hlt]
    rw [hW]
    refine ⟨by show pre[i].1.toArray.size ≤ _; have := hm.2; simp; omega,fun hn => ?_⟩
    generalize pre[i].1 = w at *
    cases w with
    | nil => cases hn
    | cons c r =>
     have := hm.1 c r rfl hn
     simpa using this
   ·have e : i = pre.length := by omega
    subst e
    have hW : W (pre ++ [([],q)]) pre.length = ⟨#[]⟩ := by
     unfold W
     rw [List.getElem?_append_right (Nat.le_refl _),Nat.sub_self]
     rfl
    rw [hW]
    exact ⟨by decide,fun hn => absurd hn (by decide)⟩
end Go.Proofs.YtneohanphabneaaGreatDoor.Ps

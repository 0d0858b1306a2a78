/-
  The reference's Tree: a text's tree, or what is wrong.
-/
import Derived.Test.YtneohanphabneaaGreatDoorR18
import Derived.Test.YtneohanphabneaaGreatDoorMP20
import Derived.Test.YtneohanphabneaaGreatDoorWords
namespace Go.Proofs.YtneohanphabneaaGreatDoor
open Go.RowKit Ps

abbrev badV (n t p : Int) : Value := .agg #[.int .i64 n, .int .i64 t, .int .i64 p]
/-- What the reference's Tree hands back. -/
def TreeGives (B : Nat) (r : PRes) (e : Ending) (w : World) : Prop := match r with
  | .limit => e = .returned (.tuple #[zeroV, badV 3 (-1) (-1)])
  | .bad n a => e = .returned (.tuple #[zeroV, badV n 0 a])
  | .ok t => ∃ v, e = .returned (.tuple #[v, badV 0 (-1) (-1)]) ∧ TreeIn w (fun b => B ≤ b) v t
theorem resTree {tmps : Array Value} {u : World} {N E : Nat} {x0 x1 x2 x3 x4 y0 y1 y2 : Value} (h2 : tmps.getD 2 undef = .pointer (some ⟨N, 0, none⟩)) (h3 : tmps.getD 3 undef = .pointer (some ⟨E, 0, none⟩)) (hN : Blk u N 25 #[x0, x1, x2, x3, x4]) (hE : Blk u E 28 #[y0, y1, y2]) :
    (results Tryz.f6 tmps).run Tryz.prog u = .ok (.tuple #[.agg #[x0, x1, x2, x3, x4], .agg #[y0, y1, y2]]) u := by
  obtain ⟨⟨q0, q1, q2, q3, q4⟩, _⟩ := hN.five
  obtain ⟨⟨q5, q6, q7⟩, _⟩ := hE.three
  have g2 : tmps[2]?.getD undef = .pointer (some ⟨N, 0, none⟩) := by simpa using h2
  have g3 : tmps[3]?.getD undef = .pointer (some ⟨E, 0, none⟩) := by simpa using h3
  simp [results, Tryz.results6, g2, g3, go_sem, q0, q1, q2, q3, q4, q5, q6, q7]
theorem below_drew {B : Nat} {w0 w : World} (h : Below B w0 w) : Below B w0 w.drew := ⟨h.os, h.tape, h.output, h.size, h.block⟩
theorem drew_heap (u : World) : u.drew.heap = u.heap := rfl
theorem put5 {w0 w : World} {N B : Nat} {x0 x1 x2 x3 x4 : Value} (h : Blk w N 25 #[x0, x1, x2, x3, x4]) (hb : Below B w0 w) (hB : B ≤ N) (y0 y1 y2 y3 y4 : Value) : ∃ w5, (((((w.setCell ⟨N, 0, none⟩ y0).setCell ⟨N, 1, none⟩ y1).setCell ⟨N, 2, none⟩ y2).setCell ⟨N, 3, none⟩ y3).setCell ⟨N, 4, none⟩ y4).drew = w5 ∧
    Blk w5 N 25 #[y0, y1, y2, y3, y4] ∧ (∀ k, k ≠ N → w5.heap[k]? = w.heap[k]?) ∧ Below B w0 w5 := by
  have h5 : Blk (((((w.setCell ⟨N, 0, none⟩ y0).setCell ⟨N, 1, none⟩ y1).setCell ⟨N, 2, none⟩ y2).setCell ⟨N, 3, none⟩ y3).setCell ⟨N, 4, none⟩ y4) N 25 #[y0, y1, y2, y3, y4] := ((((h.set 0 y0).set 1 y1).set 2 y2).set 3 y3).set 4 y4
  have ho : ∀ k, k ≠ N → (((((w.setCell ⟨N, 0, none⟩ y0).setCell ⟨N, 1, none⟩ y1).setCell ⟨N, 2, none⟩ y2).setCell ⟨N, 3, none⟩ y3).setCell ⟨N, 4, none⟩ y4).heap[k]? = w.heap[k]? := fun k hk => by
    rw [Below.heap_setCell _ _ _ _ hk, Below.heap_setCell _ _ _ _ hk, Below.heap_setCell _ _ _ _ hk, Below.heap_setCell _ _ _ _ hk, Below.heap_setCell _ _ _ _ hk]
  have hb5 := ((((hb.setCell (p := ⟨N, 0, none⟩) hB y0).setCell (p := ⟨N, 1, none⟩) hB y1).setCell (p := ⟨N, 2, none⟩) hB y2).setCell (p := ⟨N, 3, none⟩) hB y3).setCell (p := ⟨N, 4, none⟩) hB y4
  generalize (((((w.setCell ⟨N, 0, none⟩ y0).setCell ⟨N, 1, none⟩ y1).setCell ⟨N, 2, none⟩ y2).setCell ⟨N, 3, none⟩ y3).setCell ⟨N, 4, none⟩ y4) = w5 at *
  exact ⟨w5.drew, rfl, h5, ho, below_drew hb5⟩
theorem put5n {w0 w : World} {N B : Nat} {x0 x1 x2 x3 x4 : Value} (h : Blk w N 25 #[x0, x1, x2, x3, x4]) (hb : Below B w0 w) (hB : B ≤ N) (y0 y1 y2 y3 y4 : Value) : ∃ w5, (((((w.setCell ⟨N, 0, none⟩ y0).setCell ⟨N, 1, none⟩ y1).setCell ⟨N, 2, none⟩ y2).setCell ⟨N, 3, none⟩ y3).setCell ⟨N, 4, none⟩ y4) = w5 ∧
    Blk w5 N 25 #[y0, y1, y2, y3, y4] ∧ (∀ k, k ≠ N → w5.heap[k]? = w.heap[k]?) ∧ Below B w0 w5 := by
  have h5 : Blk (((((w.setCell ⟨N, 0, none⟩ y0).setCell ⟨N, 1, none⟩ y1).setCell ⟨N, 2, none⟩ y2).setCell ⟨N, 3, none⟩ y3).setCell ⟨N, 4, none⟩ y4) N 25 #[y0, y1, y2, y3, y4] := ((((h.set 0 y0).set 1 y1).set 2 y2).set 3 y3).set 4 y4
  have ho : ∀ k, k ≠ N → (((((w.setCell ⟨N, 0, none⟩ y0).setCell ⟨N, 1, none⟩ y1).setCell ⟨N, 2, none⟩ y2).setCell ⟨N, 3, none⟩ y3).setCell ⟨N, 4, none⟩ y4).heap[k]? = w.heap[k]? := fun k hk => by
    rw [Below.heap_setCell _ _ _ _ hk, Below.heap_setCell _ _ _ _ hk, Below.heap_setCell _ _ _ _ hk, Below.heap_setCell _ _ _ _ hk, Below.heap_setCell _ _ _ _ hk]
  have hb5 := ((((hb.setCell (p := ⟨N, 0, none⟩) hB y0).setCell (p := ⟨N, 1, none⟩) hB y1).setCell (p := ⟨N, 2, none⟩) hB y2).setCell (p := ⟨N, 3, none⟩) hB y3).setCell (p := ⟨N, 4, none⟩) hB y4
  generalize (((((w.setCell ⟨N, 0, none⟩ y0).setCell ⟨N, 1, none⟩ y1).setCell ⟨N, 2, none⟩ y2).setCell ⟨N, 3, none⟩ y3).setCell ⟨N, 4, none⟩ y4) = w5 at *
  exact ⟨w5, rfl, h5, ho, hb5⟩
theorem word_bad {r : List UInt8} {e : Nat} (h : Sc.word r = .inl e) (hr : r ≠ []) : e ≠ 0 := by
  cases r with
  | nil => exact absurd rfl hr
  | cons c t =>
    rw [Sc.word] at h
    split at h
    · revert h; dsimp only; split
      · intro h; cases h; decide
      · intro h; cases h
    · split at h
      · revert h; dsimp only; split
        · intro h; cases h; decide
        · intro h; cases h
      · split at h
        · cases h
        · split at h
          · cases h
          · cases h; decide
theorem scan_bad_ne : ∀ (N : Nat) (r : List UInt8) (p : Nat) (acc : List Sc.Tok) {n a : Nat}, r.length ≤ N → Sc.scan r p acc = .bad n a → n ≠ 0
  | N, [], p, acc, n, a, _, h => by rw [Sc.scan_nil] at h; cases h
  | 0, _ :: _, _, _, _, _, h, _ => by simp at h
  | N + 1, c :: t, p, acc, n, a, hN, h => by
    have hN : t.length ≤ N := by simpa using hN
    rw [Sc.scan_cons] at h
    split at h
    · cases h; decide
    · exact scan_bad_ne N _ _ _ (by rw [List.length_drop]; omega) h
    · split at h
      · rename_i e he
        cases h
        exact word_bad he (by simp)
      · exact scan_bad_ne N _ _ _ (by rw [List.length_drop]; omega) h
theorem words_bad {s : List UInt8} {rw : Sc.Res} {n p : Nat} (h : Sc.words s = rw) (h2 : rw = .bad n p) : n ≠ 0 := by
  rw [h2] at h
  unfold Sc.words at h
  split at h
  · cases h
  · exact scan_bad_ne _ _ _ _ (Nat.le_refl _) h
set_option maxRecDepth 100000 in
set_option maxHeartbeats 1000000 in
theorem rtree_any (s : ByteArray) (w : World) (hkl : Kl w w.heap.size) : Calls Tryz.prog 6 #[.string s] w fun e w' =>
    TreeGives w.heap.size (parseR s.data.toList) e w' ∧ Below w.heap.size w w' := by
  obtain ⟨w2, hw2⟩ : ∃ w2, w2 = (w.alloc (.cells #[.int .i64 0, .string ⟨#[]⟩, .int .i64 0, .int .i64 0, .slice none 0 0] 25)).alloc (.cells #[.int .i64 0, .int .i64 0, .int .i64 0] 28) := ⟨_, rfl⟩
  obtain ⟨r, hr⟩ : ∃ r, r = parseR s.data.toList := ⟨_, rfl⟩
  rw [← hr]
  unfold parseR at hr
  have HR := Lib.hid hr
  clear hr
  have HT := Lib.hid (words_any s w2)
  go_enter Tryz.func6, Tryz.ntmps6
  go_wp2_with fail
  have hN2 : Blk w2 w.heap.size 25 #[.int .i64 0, .string ⟨#[]⟩, .int .i64 0, .int .i64 0, .slice none 0 0] := by rw [hw2]; exact (Blk.new w _ _).alloc _
  have hE2 : Blk w2 (w.heap.size + 1) 28 #[.int .i64 0, .int .i64 0, .int .i64 0] := by
    rw [hw2]
    have h := Blk.new (w.alloc (.cells #[.int .i64 0, .string ⟨#[]⟩, .int .i64 0, .int .i64 0, .slice none 0 0] 25)) 28 #[.int .i64 0, .int .i64 0, .int .i64 0]
    rw [show (w.alloc (.cells #[.int .i64 0, .string ⟨#[]⟩, .int .i64 0, .int .i64 0, .slice none 0 0] 25)).heap.size = w.heap.size + 1 from by simp] at h
    exact h
  have hb2 : Below w.heap.size w w2 := by rw [hw2]; exact ((Below.refl _ _).alloc (Nat.le_refl _) _).alloc (by simp) _
  have hz2 : w2.heap.size = w.heap.size + 2 := by rw [hw2]; simp
  rw [← hw2]
  clear hw2
  refine HT.out.mono ?_
  rintro e w3 ⟨ht, hb3⟩
  rw [hz2] at ht hb3
  clear HT
  have hN3 := hN2.below hb3 (by omega)
  have hE3 := hE2.below hb3 (by omega)
  have hz3 : w.heap.size + 2 ≤ w3.heap.size := by have := hb3.size; omega
  have hb03 : Below w.heap.size w w3 := hb2.trans (hb3.mono (by omega))
  have hkl3 : Kl w3 w.heap.size := hkl.same (fun k hk => hb03.block k hk)
  clear hN2 hE2 hb2 hz2 hb3 w2
  obtain ⟨rw, hrw⟩ : ∃ rw, rw = Sc.words s.data.toList := ⟨_, rfl⟩
  rw [← hrw] at ht HR
  cases hres : rw with
  | limit =>
    rw [hres] at ht HR
    obtain rfl := ht
    have hr : r = .limit := HR.out
    subst hr
    obtain ⟨w4, hw4⟩ : ∃ w4, w4 = w3.alloc (.cells #[.int .i64 3, .int .i64 (-1), .int .i64 (-1)] 28) := ⟨_, rfl⟩
    have hb4 : Below w.heap.size w w4 := by rw [hw4]; exact hb03.alloc (by omega) _
    have hX : Blk w4 w3.heap.size 28 #[.int .i64 3, .int .i64 (-1), .int .i64 (-1)] := by rw [hw4]; exact Blk.new w3 _ _
    have hN4 := hN3.alloc (.cells #[.int .i64 3, .int .i64 (-1), .int .i64 (-1)] 28)
    have hE4 := hE3.alloc (.cells #[.int .i64 3, .int .i64 (-1), .int .i64 (-1)] 28)
    rw [← hw4] at hN4 hE4
    go_wp2_with fail
    rw [← hw4]
    clear hw4
    refine Ch.wp_region_run (fun u => Blk u w3.heap.size 28 #[.int .i64 3, .int .i64 (-1), .int .i64 (-1)]) [1] [0, 1] [2, 3] [3] (by kernel_rfl) (by kernel_rfl) (fun _ _ d _ _ h => by cases d <;> exact h) hX ?_
    refine Ch.take0 (v := ?v03) rfl (by rfl) ?y03 ?_
    case y03 => intro u; go_simp; rfl
    simp only [Act.put, List.setIfInBounds_toArray, List.set_cons_zero, List.set_cons_succ]
    refine Ch.load1 (v := ?v13) rfl (by rfl) ?y13 ?_
    case y13 => intro u hC; obtain ⟨⟨c0, c1, c2⟩, _⟩ := Blk.three hC; go_simp; rfl
    simp only [Act.put, List.setIfInBounds_toArray, List.set_cons_zero, List.set_cons_succ]
    obtain ⟨q1, q2⟩ := hN4.five
    have l1 := hN4.lt
    refine Ch.mid2 (by rfl) (fun K hK => ?_)
    go_simp
    clear q1 q2 l1
    obtain ⟨w50, hw50, hN50, ho50, hb50⟩ := put5 hN4 hb4 (Nat.le_refl _) (.int .i64 0) (.string ⟨#[]⟩) (.int .i64 0) (.int .i64 0) (.slice none 0 0)
    rw [hw50]
    clear hw50
    have hE50 : Blk w50 (w.heap.size + 1) 28 #[.int .i64 0, .int .i64 0, .int .i64 0] := (ho50 _ (by omega)).trans hE4
    have hX50 : Blk w50 w3.heap.size 28 #[.int .i64 3, .int .i64 (-1), .int .i64 (-1)] := (ho50 _ (by omega)).trans hX
    refine hK _ _ hX50 ?_
    clear hK K
    try simp only [Act.put, List.setIfInBounds_toArray, List.set_cons_zero, List.set_cons_succ]
    obtain ⟨⟨q1, q2, q3⟩, q4, q5, q6⟩ := hE50.three
    have l1 := hE50.lt
    refine Ch.post3 rfl (by rfl) (fun K hK => ?_)
    go_simp
    clear q1 q2 q3 q4 q5 q6 l1
    refine hK _ _ ?_
    clear hK K
    try simp only [Act.put, List.setIfInBounds_toArray, List.set_cons_zero, List.set_cons_succ]
    refine Ch.run_end ?_
    go_wp2_with fail
    have hne : ¬ w.heap.size = w.heap.size + 1 := by omega
    refine bodyPost_ret (resTree rfl rfl (((hN50.setOther _ _ hne).setOther _ _ hne).setOther _ _ hne) (((hE50.set 0 _).set 1 _).set 2 _)) rfl ⟨rfl, ?_⟩
    exact ((hb50.setCell (by simp) _).setCell (by simp) _).setCell (by simp) _
  | bad n p =>
    rw [hres] at ht HR
    obtain rfl := ht
    have hr : r = .bad n p := HR.out
    subst hr
    have hn0 : ((n : Int) == 0) = false := beq_eq_false_iff_ne.2 (by have := words_bad hrw.symm hres; omega)
    obtain ⟨w4, hw4⟩ : ∃ w4, w4 = w3.alloc (.cells #[.int .i64 n, .int .i64 0, .int .i64 p] 28) := ⟨_, rfl⟩
    have hb4 : Below w.heap.size w w4 := by rw [hw4]; exact hb03.alloc (by omega) _
    have hX : Blk w4 w3.heap.size 28 #[.int .i64 n, .int .i64 0, .int .i64 p] := by rw [hw4]; exact Blk.new w3 _ _
    have hN4 := hN3.alloc (.cells #[.int .i64 n, .int .i64 0, .int .i64 p] 28)
    have hE4 := hE3.alloc (.cells #[.int .i64 n, .int .i64 0, .int .i64 p] 28)
    rw [← hw4] at hN4 hE4
    go_wp2_with fail
    rw [← hw4]
    clear hw4
    refine Ch.wp_region_run (fun u => Blk u w3.heap.size 28 #[.int .i64 n, .int .i64 0, .int .i64 p]) [1] [0, 1] [2, 3] [3] (by kernel_rfl) (by kernel_rfl) (fun _ _ d _ _ h => by cases d <;> exact h) hX ?_
    refine Ch.take0 (v := ?v0n) rfl (by rfl) ?y0n ?_
    case y0n => intro u; go_simp; rfl
    simp only [Act.put, List.setIfInBounds_toArray, List.set_cons_zero, List.set_cons_succ]
    refine Ch.load1 (v := ?v1n) rfl (by rfl) ?y1n ?_
    case y1n => intro u hC; obtain ⟨⟨c0, c1, c2⟩, _⟩ := Blk.three hC; go_simp; rfl
    simp only [Act.put, List.setIfInBounds_toArray, List.set_cons_zero, List.set_cons_succ]
    obtain ⟨q1, q2⟩ := hN4.five
    have l1 := hN4.lt
    refine Ch.mid2 (by rfl) (fun K hK => ?_)
    go_simp
    clear q1 q2 l1
    obtain ⟨w50, hw50, hN50, ho50, hb50⟩ := put5 hN4 hb4 (Nat.le_refl _) (.int .i64 0) (.string ⟨#[]⟩) (.int .i64 0) (.int .i64 0) (.slice none 0 0)
    rw [hw50]
    clear hw50
    have hE50 : Blk w50 (w.heap.size + 1) 28 #[.int .i64 0, .int .i64 0, .int .i64 0] := (ho50 _ (by omega)).trans hE4
    have hX50 : Blk w50 w3.heap.size 28 #[.int .i64 n, .int .i64 0, .int .i64 p] := (ho50 _ (by omega)).trans hX
    refine hK _ _ hX50 ?_
    clear hK K
    try simp only [Act.put, List.setIfInBounds_toArray, List.set_cons_zero, List.set_cons_succ]
    obtain ⟨⟨q1, q2, q3⟩, q4, q5, q6⟩ := hE50.three
    have l1 := hE50.lt
    refine Ch.post3 rfl (by rfl) (fun K hK => ?_)
    go_simp
    clear q1 q2 q3 q4 q5 q6 l1
    refine hK _ _ ?_
    clear hK K
    try simp only [Act.put, List.setIfInBounds_toArray, List.set_cons_zero, List.set_cons_succ]
    refine Ch.run_end ?_
    go_wp2_with fail
    have hne : ¬ w.heap.size = w.heap.size + 1 := by omega
    refine bodyPost_ret (resTree rfl rfl (((hN50.setOther _ _ hne).setOther _ _ hne).setOther _ _ hne) (((hE50.set 0 _).set 1 _).set 2 _)) rfl ⟨rfl, ?_⟩
    exact ((hb50.setCell (by simp) _).setCell (by simp) _).setCell (by simp) _
  | ok l =>
    rw [hres] at ht HR
    obtain ⟨v, rfl, hrow⟩ := ht
    obtain ⟨hl1, hl2, hl3, hl4⟩ := Ps.words_good (hrw.symm.trans hres)
    obtain ⟨hr1, ⟨rfl, hr2⟩ | ⟨T, cap, cur, rfl, hTB, hT, hcap, hcap2, hsz, htake⟩⟩ := hrow
    · omega
    have HR : Hid (r = match Ps.tree l with
      | .bad n a => .bad n a
      | .ok t _ => .ok t) := HR
    clear hres hrw
    obtain ⟨w4, hw4⟩ : ∃ w4, w4 = w3.alloc (.cells #[.int .i64 0, .int .i64 (-1), .int .i64 (-1)] 28) := ⟨_, rfl⟩
    have hb4 : Below w.heap.size w w4 := by rw [hw4]; exact hb03.alloc (by omega) _
    have hX : Blk w4 w3.heap.size 28 #[.int .i64 0, .int .i64 (-1), .int .i64 (-1)] := by rw [hw4]; exact Blk.new w3 _ _
    have hN4 := hN3.alloc (.cells #[.int .i64 0, .int .i64 (-1), .int .i64 (-1)] 28)
    have hE4 := hE3.alloc (.cells #[.int .i64 0, .int .i64 (-1), .int .i64 (-1)] 28)
    have hlT : T < w3.heap.size := by
      rcases Nat.lt_or_ge T w3.heap.size with h | h
      · exact h
      · rw [Array.getElem?_eq_none h] at hT; cases hT
    have hT4 : w4.heap[T]? = some (.cells cur 87 (0, 0)) := by rw [hw4]; exact (Below.heap_alloc w3 _ T hlT).trans hT
    have hz4 : w4.heap.size = w3.heap.size + 1 := by rw [hw4]; simp
    rw [← hw4] at hN4 hE4
    clear hT hN3 hE3
    go_wp2_with fail
    rw [← hw4]
    clear hw4
    refine (fine_any _).mono ?_
    rintro e w5 ⟨rfl, hb5⟩
    have hX5 := hX.below hb5 hX.lt
    have hN5 := hN4.below hb5 hN4.lt
    have hE5 := hE4.below hb5 hE4.lt
    have hT5 := (hb5.block T (by omega)).trans hT4
    have hz5 : w4.heap.size ≤ w5.heap.size := hb5.size
    have hb05 : Below w.heap.size w w5 := hb4.trans (hb5.mono (by omega))
    clear hX hN4 hE4 hT4 hb4 hb5
    go_wp2_with fail
    obtain ⟨w6, hw6⟩ : ∃ w6, w6 = w5.alloc (.cells #[.slice (some ⟨T, 0, none⟩) l.length cap, .int .i64 0, .int .i64 0, .int .i64 0, .int .i64 (-1), .int .i64 (-1)] 52) := ⟨_, rfl⟩
    have hb6 : Below w.heap.size w w6 := by rw [hw6]; exact hb05.alloc (by omega) _
    have hP6 : Blk w6 w5.heap.size 52 #[.slice (some ⟨T, 0, none⟩) l.length cap, .int .i64 0, .int .i64 0, .int .i64 0, .int .i64 (-1), .int .i64 (-1)] := by rw [hw6]; exact Blk.new w5 _ _
    have hN6 := hN5.alloc (.cells #[.slice (some ⟨T, 0, none⟩) l.length cap, .int .i64 0, .int .i64 0, .int .i64 0, .int .i64 (-1), .int .i64 (-1)] 52)
    have hE6 := hE5.alloc (.cells #[.slice (some ⟨T, 0, none⟩) l.length cap, .int .i64 0, .int .i64 0, .int .i64 0, .int .i64 (-1), .int .i64 (-1)] 52)
    have hz6 : w6.heap.size = w5.heap.size + 1 := by rw [hw6]; simp
    have hT6 : w6.heap[T]? = some (.cells cur 87 (0, 0)) := by rw [hw6]; exact (Below.heap_alloc w5 _ T (by omega)).trans hT5
    rw [← hw6] at hN6 hE6
    rw [← hw6]
    clear hw6 hN5 hE5 hT5 hX5
    have hS6 : RS w6 w5.heap.size T l (.ok () 0) 0 0 := ⟨⟨cap, hcap, hP6⟩, ⟨cur, hT6, by rw [Nat.mul_comm]; exact htake⟩, by omega, hl4, Nat.zero_le _, hl1, hl2, hl3, fun k hk => (by injection hk with _ hk; exact hk.symm), fun n a h => (by cases h), (hkl.same fun k hk => hb6.block k hk).mono (by omega)⟩
    have HM := Lib.hid (rmodule_any hS6 (rlevels 20 0 rfl).1 (rstlevels 20 0 rfl))
    clear hP6 hT6 hS6
    unfold pp at HM
    refine HM.out.mono ?_
    clear HM
    rintro e w7 ⟨ht, hk7⟩
    obtain ⟨k, nm, num, a, ts, so, sc, i', rfl, hrow, h7, le, hv⟩ := ht.or
    clear ht
    have hN7 := hk7.blk hN6 (by omega)
    have hE7 := hk7.blk hE6 (by omega)
    have hz7 : w6.heap.size ≤ w7.heap.size := hk7.size
    have hb7 : Below w.heap.size w w7 := hb6.trans ⟨hk7.os, hk7.tape, hk7.output, hk7.size, fun k hk => hk7.block k (by omega) (by omega)⟩
    clear hk7 hN6 hE6 hb6
    unfold nodeV
    go_wp2_with fail
    obtain ⟨w8, hw8⟩ : ∃ w8, w8 = w7.alloc (.cells #[.int .i64 k, .string nm, .int .i64 num, .int .i64 a, .slice so ts.length sc] 25) := ⟨_, rfl⟩
    have hb8 : Below w.heap.size w w8 := by rw [hw8]; exact hb7.alloc (by omega) _
    have hQ8 : Blk w8 w7.heap.size 25 #[.int .i64 k, .string nm, .int .i64 num, .int .i64 a, .slice so ts.length sc] := by rw [hw8]; exact Blk.new w7 _ _
    have hN8 := hN7.alloc (.cells #[.int .i64 k, .string nm, .int .i64 num, .int .i64 a, .slice so ts.length sc] 25)
    have hE8 := hE7.alloc (.cells #[.int .i64 k, .string nm, .int .i64 num, .int .i64 a, .slice so ts.length sc] 25)
    have h8 := h7.alloc (.cells #[.int .i64 k, .string nm, .int .i64 num, .int .i64 a, .slice so ts.length sc] 25)
    have hz8 : w8.heap.size = w7.heap.size + 1 := by rw [hw8]; simp
    have hrow8 : RowIn w8 (fun b => w.heap.size + 2 ≤ b) (.slice so ts.length sc) ts := hrow.turn fun b h1 h2 => ⟨by omega, by rw [hw8]; exact Below.heap_alloc w7 _ b h1⟩
    rw [← hw8] at hN8 hE8 h8
    rw [← hw8]
    clear hw8 hN7 hE7 hb7 h7 hrow
    have hq : ((R.ok () 0 : R Unit).bind fun _ k => Ps.module l k).u = (Ps.module l 0).u := rfl
    rw [hq] at h8
    have hv : ∀ t0 i0, Ps.module l 0 = .ok t0 i0 → (.node k nm num a ts : Tree) = t0 := hv
    clear hq
    cases hmod : Ps.module l 0 with
    | bad n0 a0 =>
      rw [hmod] at h8
      have h8 : RS w8 w5.heap.size T l (.bad n0 a0) i' 0 := h8
      have hr : r = .bad n0 a0 := HR.out.trans (by rw [show Ps.tree l = .bad n0 a0 from by unfold Ps.tree; rw [hmod]; rfl])
      have hn0 := h8.bad n0 a0 rfl
      have hdn : decide (eC (R.bad n0 a0) = 0) = false := decide_eq_false (show ¬ ((n0 : Nat) : Int) = 0 by omega)
      have HOk := Lib.hid (rok_any h8)
      rw [hdn] at HOk
      unfold pp at HOk
      refine HOk.out.mono ?_
      rintro e w9 ⟨rfl, rfl⟩
      go_wp2_with fail
      refine HOk.out.mono ?_
      rintro e w9 ⟨rfl, rfl⟩
      obtain ⟨c, hc, hP9⟩ := h8.blk
      have hP9 : Blk w8 w5.heap.size 52 #[.slice (some ⟨T, 0, none⟩) l.length c, .int .i64 i', .int .i64 0, .int .i64 n0, .int .i64 0, .int .i64 a0] := hP9
      go_wp2_with fail
      refine Ch.wp_region_run (fun u => Blk u w5.heap.size 52 #[.slice (some ⟨T, 0, none⟩) l.length c, .int .i64 i', .int .i64 0, .int .i64 n0, .int .i64 0, .int .i64 a0]) [4] [0, 1, 2, 3, 4] [5, 6] [6] (by kernel_rfl) (by kernel_rfl) (fun _ _ d _ _ h => by cases d <;> exact h) hP9 ?_
      refine Ch.take0 (v := ?v0b) rfl (by rfl) ?y0b ?_
      case y0b => intro u; go_simp; rfl
      simp only [Act.put, List.setIfInBounds_toArray, List.set_cons_zero, List.set_cons_succ]
      refine Ch.take1 (v := ?v1b) rfl (by rfl) ?y1b ?_
      case y1b => intro u; go_simp; rfl
      simp only [Act.put, List.setIfInBounds_toArray, List.set_cons_zero, List.set_cons_succ]
      refine Ch.take2 (v := ?v2b) rfl (by rfl) ?y2b ?_
      case y2b => intro u; go_simp; rfl
      simp only [Act.put, List.setIfInBounds_toArray, List.set_cons_zero, List.set_cons_succ]
      refine Ch.take3 (v := ?v3b) rfl (by rfl) ?y3b ?_
      case y3b => intro u; go_simp; rfl
      simp only [Act.put, List.setIfInBounds_toArray, List.set_cons_zero, List.set_cons_succ]
      refine Ch.load4 (v := ?v4b) rfl (by rfl) ?y4b ?_
      case y4b => intro u hC; obtain ⟨⟨c0, c1, c2, c3, c4, c5⟩, _⟩ := Blk.six hC; go_simp; rfl
      simp only [Act.put, List.setIfInBounds_toArray, List.set_cons_zero, List.set_cons_succ]
      obtain ⟨q1, q2⟩ := hN8.five
      have l1 := hN8.lt
      refine Ch.mid5 (by rfl) (fun K hK => ?_)
      go_simp
      clear q1 q2 l1
      obtain ⟨w50, hw50, hN50, ho50, hb50⟩ := put5 hN8 hb8 (Nat.le_refl _) (.int .i64 0) (.string ⟨#[]⟩) (.int .i64 0) (.int .i64 0) (.slice none 0 0)
      rw [hw50]
      clear hw50
      have hE50 : Blk w50 (w.heap.size + 1) 28 #[.int .i64 0, .int .i64 0, .int .i64 0] := (ho50 _ (by omega)).trans hE8
      have hX50 : Blk w50 w5.heap.size 52 #[.slice (some ⟨T, 0, none⟩) l.length c, .int .i64 i', .int .i64 0, .int .i64 n0, .int .i64 0, .int .i64 a0] := (ho50 _ (by omega)).trans hP9
      refine hK _ _ hX50 ?_
      clear hK K
      try simp only [Act.put, List.setIfInBounds_toArray, List.set_cons_zero, List.set_cons_succ]
      obtain ⟨⟨q1, q2, q3⟩, q4, q5, q6⟩ := hE50.three
      have l1 := hE50.lt
      refine Ch.post6 rfl (by rfl) (fun K hK => ?_)
      go_simp
      clear q1 q2 q3 q4 q5 q6 l1
      refine hK _ _ ?_
      clear hK K
      try simp only [Act.put, List.setIfInBounds_toArray, List.set_cons_zero, List.set_cons_succ]
      refine Ch.run_end ?_
      go_wp2_with fail
      have hne : ¬ w.heap.size = w.heap.size + 1 := by omega
      refine bodyPost_ret (resTree rfl rfl (((hN50.setOther _ _ hne).setOther _ _ hne).setOther _ _ hne) (((hE50.set 0 _).set 1 _).set 2 _)) rfl ⟨by rw [hr]; rfl, ?_⟩
      exact ((hb50.setCell (by simp) _).setCell (by simp) _).setCell (by simp) _
    | ok t0 j0 =>
      obtain rfl := hv _ _ hmod
      rw [hmod] at h8
      have h8 : RS w8 w5.heap.size T l (.ok () j0) i' 0 := h8
      obtain rfl := h8.ok j0 rfl
      have htr : Ps.tree l = if Ps.isW l j0 ⟨#[]⟩ then .ok (.node k nm num a ts) j0 else Ps.want l j0 := by unfold Ps.tree; rw [hmod]; rfl
      have hdn : decide (eC (R.ok () j0) = 0) = true := rfl
      have HOk := Lib.hid (rok_any h8)
      have HW := Lib.hid (rword_any h8)
      have HOt := Lib.hid (rother_any h8)
      rw [hdn] at HOk
      unfold pp at HOk HW HOt
      have hbq := isW_empty l j0
      refine HOk.out.mono ?_
      rintro e w9 ⟨rfl, rfl⟩
      rcases hw : Ps.isW l j0 ⟨#[]⟩ with _ | _
      · skip
        rw [hw] at hbq htr
        obtain ⟨n0, hn0⟩ : ∃ n0, n0 = Ps.wantN l j0 := ⟨_, rfl⟩
        obtain ⟨a0, ha0⟩ : ∃ a0, a0 = Ps.A l j0 := ⟨_, rfl⟩
        have hr : r = .bad n0 a0 := HR.out.trans (by rw [htr, hn0, ha0]; rfl)
        go_wp2_with fail
        refine HW.out.mono ?_
        rintro e w10 ⟨rfl, hb10⟩
        have h10 := h8.below hb10
        have hN10 := hN8.below hb10 hN8.lt
        have hE10 := hE8.below hb10 hE8.lt
        have hz10 := hb10.size
        have hb010 : Below w.heap.size w w10 := hb8.trans (hb10.mono (by omega))
        clear hb10 h8 hN8 hE8 hb8 HOk HW HOt
        go_wp2_with fail
        have HOt := Lib.hid (rother_any h10)
        unfold pp at HOt
        refine HOt.out.mono ?_
        rintro e w11 ⟨rfl, h11, hk11⟩
        have h11 : RS w11 w5.heap.size T l (.bad n0 a0) j0 0 := by rw [hn0, ha0]; exact h11
        have hN11 := hk11.blk hN10 (by omega)
        have hE11 := hk11.blk hE10 (by omega)
        have hz11 : w10.heap.size ≤ w11.heap.size := hk11.size
        have hb11 : Below w.heap.size w w11 := hb010.trans ⟨hk11.os, hk11.tape, hk11.output, hk11.size, fun k hk => hk11.block k (by omega) (by omega)⟩
        clear hn0 ha0 hk11 h10 hN10 hE10 hb010 HOt
        have hne0 := h11.bad n0 a0 rfl
        have hdn : decide (eC (R.bad n0 a0) = 0) = false := decide_eq_false (show ¬ ((n0 : Nat) : Int) = 0 by omega)
        have HOk := Lib.hid (rok_any h11)
        rw [hdn] at HOk
        unfold pp at HOk
        go_wp2_with fail
        refine HOk.out.mono ?_
        rintro e w12 ⟨rfl, rfl⟩
        obtain ⟨c, hc, hP9⟩ := h11.blk
        have hP9 : Blk w11 w5.heap.size 52 #[.slice (some ⟨T, 0, none⟩) l.length c, .int .i64 j0, .int .i64 0, .int .i64 n0, .int .i64 0, .int .i64 a0] := hP9
        go_wp2_with fail
        refine Ch.wp_region_run (fun u => Blk u w5.heap.size 52 #[.slice (some ⟨T, 0, none⟩) l.length c, .int .i64 j0, .int .i64 0, .int .i64 n0, .int .i64 0, .int .i64 a0]) [4] [0, 1, 2, 3, 4] [5, 6] [6] (by kernel_rfl) (by kernel_rfl) (fun _ _ d _ _ h => by cases d <;> exact h) hP9 ?_
        refine Ch.take0 (v := ?v0c) rfl (by rfl) ?y0c ?_
        case y0c => intro u; go_simp; rfl
        simp only [Act.put, List.setIfInBounds_toArray, List.set_cons_zero, List.set_cons_succ]
        refine Ch.take1 (v := ?v1c) rfl (by rfl) ?y1c ?_
        case y1c => intro u; go_simp; rfl
        simp only [Act.put, List.setIfInBounds_toArray, List.set_cons_zero, List.set_cons_succ]
        refine Ch.take2 (v := ?v2c) rfl (by rfl) ?y2c ?_
        case y2c => intro u; go_simp; rfl
        simp only [Act.put, List.setIfInBounds_toArray, List.set_cons_zero, List.set_cons_succ]
        refine Ch.take3 (v := ?v3c) rfl (by rfl) ?y3c ?_
        case y3c => intro u; go_simp; rfl
        simp only [Act.put, List.setIfInBounds_toArray, List.set_cons_zero, List.set_cons_succ]
        refine Ch.load4 (v := ?v4c) rfl (by rfl) ?y4c ?_
        case y4c => intro u hC; obtain ⟨⟨c0, c1, c2, c3, c4, c5⟩, _⟩ := Blk.six hC; go_simp; rfl
        simp only [Act.put, List.setIfInBounds_toArray, List.set_cons_zero, List.set_cons_succ]
        obtain ⟨q1, q2⟩ := hN11.five
        have l1 := hN11.lt
        refine Ch.mid5 (by rfl) (fun K hK => ?_)
        go_simp
        clear q1 q2 l1
        obtain ⟨w50, hw50, hN50, ho50, hb50⟩ := put5 hN11 hb11 (Nat.le_refl _) (.int .i64 0) (.string ⟨#[]⟩) (.int .i64 0) (.int .i64 0) (.slice none 0 0)
        rw [hw50]
        clear hw50
        have hE50 : Blk w50 (w.heap.size + 1) 28 #[.int .i64 0, .int .i64 0, .int .i64 0] := (ho50 _ (by omega)).trans hE11
        have hX50 : Blk w50 w5.heap.size 52 #[.slice (some ⟨T, 0, none⟩) l.length c, .int .i64 j0, .int .i64 0, .int .i64 n0, .int .i64 0, .int .i64 a0] := (ho50 _ (by omega)).trans hP9
        refine hK _ _ hX50 ?_
        clear hK K
        try simp only [Act.put, List.setIfInBounds_toArray, List.set_cons_zero, List.set_cons_succ]
        obtain ⟨⟨q1, q2, q3⟩, q4, q5, q6⟩ := hE50.three
        have l1 := hE50.lt
        refine Ch.post6 rfl (by rfl) (fun K hK => ?_)
        go_simp
        clear q1 q2 q3 q4 q5 q6 l1
        refine hK _ _ ?_
        clear hK K
        try simp only [Act.put, List.setIfInBounds_toArray, List.set_cons_zero, List.set_cons_succ]
        refine Ch.run_end ?_
        go_wp2_with fail
        have hne : ¬ w.heap.size = w.heap.size + 1 := by omega
        refine bodyPost_ret (resTree rfl rfl (((hN50.setOther _ _ hne).setOther _ _ hne).setOther _ _ hne) (((hE50.set 0 _).set 1 _).set 2 _)) rfl ⟨by rw [hr]; rfl, ?_⟩
        exact ((hb50.setCell (by simp) _).setCell (by simp) _).setCell (by simp) _
      · skip
        rw [hw] at hbq htr
        have hr : r = .ok (.node k nm num a ts) := HR.out.trans (by rw [htr]; rfl)
        go_wp2_with fail
        refine HW.out.mono ?_
        rintro e w10 ⟨rfl, hb10⟩
        have h10 := h8.below hb10
        have hN10 := hN8.below hb10 hN8.lt
        have hE10 := hE8.below hb10 hE8.lt
        have hQ10 := hQ8.below hb10 hQ8.lt
        have hz10 := hb10.size
        have hrow10 : RowIn w10 (fun b => w.heap.size + 2 ≤ b) (.slice so ts.length sc) ts := hrow8.turn fun b h1 h2 => ⟨h2, hb10.block b h1⟩
        have hb010 : Below w.heap.size w w10 := hb8.trans (hb10.mono (by omega))
        clear hb10 h8 hN8 hE8 hb8 HOk HW HOt hrow8 hQ8
        have HOk := Lib.hid (rok_any h10)
        rw [hdn] at HOk
        unfold pp at HOk
        go_wp2_with fail
        refine HOk.out.mono ?_
        rintro e w12 ⟨rfl, rfl⟩
        go_wp2_with fail
        refine Ch.wp_region_run (fun u => Blk u w7.heap.size 25 #[.int .i64 k, .string nm, .int .i64 num, .int .i64 a, .slice so ts.length sc]) [0] [0] [1, 2, 3] [3] (by kernel_rfl) (by kernel_rfl) (fun _ _ d _ _ h => by cases d <;> exact h) hQ10 ?_
        refine Ch.load0 (v := ?v0d) rfl (by rfl) ?y0d ?_
        case y0d => intro u hC; obtain ⟨⟨c0, c1, c2, c3, c4⟩, _⟩ := Blk.five hC; go_simp; rfl
        simp only [Act.put, List.setIfInBounds_toArray, List.set_cons_zero, List.set_cons_succ]
        refine Ch.mid1 (by rfl) (fun K hK => ?_)
        go_simp
        refine (fine_any _).mono ?_
        rintro e w13 ⟨rfl, hb13⟩
        have hb13 : Below w10.heap.size w10 w13 := ⟨hb13.os, hb13.tape, hb13.output, hb13.size, hb13.block⟩
        have hQ13 := hQ10.below hb13 hQ10.lt
        have hN13 := hN10.below hb13 hN10.lt
        have hE13 := hE10.below hb13 hE10.lt
        have hz13 := hb13.size
        have hrow13 : RowIn w13 (fun b => w.heap.size + 2 ≤ b) (.slice so ts.length sc) ts := hrow10.turn fun b h1 h2 => ⟨h2, hb13.block b h1⟩
        have hb013 : Below w.heap.size w w13 := hb010.trans (hb13.mono (by omega))
        refine hK _ _ hQ13 ?_
        clear hK K
        try simp only [Act.put, List.setIfInBounds_toArray, List.set_cons_zero, List.set_cons_succ]
        clear hb13 h10 hN10 hE10 hQ10 hrow10 hb010 HOk
        obtain ⟨q1, q2⟩ := hN13.five
        have l1 := hN13.lt
        refine Ch.mid2 (by rfl) (fun K hK => ?_)
        go_simp
        clear q1 q2 l1
        obtain ⟨w50, hw50, hN50, ho50, hb50⟩ := put5n hN13 hb013 (Nat.le_refl _) (.int .i64 k) (.string nm) (.int .i64 num) (.int .i64 a) (.slice so ts.length sc)
        rw [hw50]
        clear hw50
        have hE50 : Blk w50 (w.heap.size + 1) 28 #[.int .i64 0, .int .i64 0, .int .i64 0] := (ho50 _ (by omega)).trans hE13
        have hX50 : Blk w50 w7.heap.size 25 #[.int .i64 k, .string nm, .int .i64 num, .int .i64 a, .slice so ts.length sc] := (ho50 _ (by omega)).trans hQ13
        refine hK _ _ hX50 ?_
        clear hK K
        try simp only [Act.put, List.setIfInBounds_toArray, List.set_cons_zero, List.set_cons_succ]
        obtain ⟨⟨q1, q2, q3⟩, q4, q5, q6⟩ := hE50.three
        have l1 := hE50.lt
        refine Ch.post3 rfl (by rfl) (fun K hK => ?_)
        go_simp
        clear q1 q2 q3 q4 q5 q6 l1
        refine hK _ _ ?_
        clear hK K
        try simp only [Act.put, List.setIfInBounds_toArray, List.set_cons_zero, List.set_cons_succ]
        refine Ch.run_end ?_
        go_wp2_with fail
        have hne : ¬ w.heap.size = w.heap.size + 1 := by omega
        refine bodyPost_ret (resTree rfl rfl (((hN50.setOther _ _ hne).setOther _ _ hne).setOther _ _ hne) (((hE50.set 0 _).set 1 _).set 2 _)) rfl ⟨by rw [hr]; exact ⟨_, rfl, TreeIn.of (hrow13.turn fun b h1 h2 => ⟨by omega, by rw [Below.heap_setCell _ _ _ _ (by show b ≠ w.heap.size + 1; omega), Below.heap_setCell _ _ _ _ (by show b ≠ w.heap.size + 1; omega), Below.heap_setCell _ _ _ _ (by show b ≠ w.heap.size + 1; omega)]; exact ho50 b (by omega)⟩)⟩, ?_⟩
        exact ((hb50.setCell (by simp) _).setCell (by simp) _).setCell (by simp) _
end Go.Proofs.YtneohanphabneaaGreatDoor

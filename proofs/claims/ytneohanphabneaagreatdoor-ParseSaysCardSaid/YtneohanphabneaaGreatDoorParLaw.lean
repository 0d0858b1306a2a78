/-
  The law ParseSays, walked: it says yes.
-/
import Derived.Test.YtneohanphabneaaGreatDoorR19
import Derived.Test.YtneohanphabneaaGreatDoorEq
import Derived.Test.YtneohanphabneaaGreatDoorMTell
namespace Go.Proofs.YtneohanphabneaaGreatDoor
open Go.RowKit Ps

theorem zero_tree (w : World) (S : Nat → Prop) : TreeIn w S zeroV (.node 0 ⟨#[]⟩ 0 0 []) := TreeIn.of (k := 0) (nm := ⟨#[]⟩) (num := 0) (a := 0) (RowIn.nil w S)
set_option maxRecDepth 100000 in
theorem says_huge (s : ByteArray) (w : World) (h : 4200 < s.size) : Calls Tryz.prog 3 #[.string s] w fun e w' => e = .returned (.bool true) ∧ Below w.heap.size w w' := by
  have hb : decide (4200 < s.size) = true := decide_eq_true h
  go_enter Tryz.func3, Tryz.ntmps3
  go_wp2_with (first | (go_at_call 5; refine (huge_any _ _).mono ?_; rintro e w' ⟨rfl, rfl⟩))
  go_ret
  exact ⟨rfl, Below.refl _ _⟩
set_option maxRecDepth 100000 in
set_option maxHeartbeats 4000000 in
theorem says_go (s : ByteArray) (m : Int) (w : World) (hs : s.size ≤ 4200) (hE : ErrType w) (hm : w.cell? ⟨3, 0, none⟩ = some (.int .i64 m)) (hkl : Kl w w.heap.size) (hlv : Lv w w.heap.size) : Calls Tryz.prog 3 #[.string s] w fun e w' => e = .returned (.bool true) ∧ Below w.heap.size w w' := by
  have hb : decide (4200 < s.size) = false := decide_eq_false (by omega)
  have hlt1 : 3 < w.heap.size := by
    rcases Nat.lt_or_ge 3 w.heap.size with h | h
    · exact h
    · simp [World.cell?, Array.getElem?_eq_none h] at hm
  have hlt0 := hE.lt
  -- what the two readers hand over, in one way
  have hcase : ∀ (W1 : World) (e1 : Ending), TreeGives w.heap.size (parseR s.data.toList) e1 W1 → Below w.heap.size w W1 →
      ∃ (k num a en et ep : Int) (nm : ByteArray) (so : Option Addr) (n sc : Nat), e1 = .returned (.tuple #[.agg #[.int .i64 k, .string nm, .int .i64 num, .int .i64 a, .slice so n sc], badV en et ep]) ∧ ∀ (W2 : World) (e2 : Ending) (B : Nat), ParGives B (parseR s.data.toList) e2 W2 → Below W1.heap.size W1 W2 →
      ∃ (k' num' a' : Int) (nm' : ByteArray) (so' : Option Addr) (n' sc' : Nat) (err : Value) (t : Tree) (S S' : Nat → Prop), e2 = .returned (.tuple #[.agg #[.int .i64 k', .string nm', .int .i64 num', .int .i64 a', .slice so' n' sc'], err]) ∧
        TreeIn W2 S (.agg #[.int .i64 k, .string nm, .int .i64 num, .int .i64 a, .slice so n sc]) t ∧ TreeIn W2 S' (.agg #[.int .i64 k', .string nm', .int .i64 num', .int .i64 a', .slice so' n' sc']) t ∧
        ∀ W : World, Below W2.heap.size W2 W → Calls Tryz.prog 8 #[err, badV en et ep] W fun e w' => e = .returned (.bool true) ∧ Below W.heap.size W w' := by
    intro W1 e1 h1 hb1
    have hE2 : ∀ W2, Below W1.heap.size W1 W2 → ErrType W2 := fun W2 hb12 => (hE.below hb1 hlt0).below hb12 (by have := hb1.size; omega)
    cases hr : parseR s.data.toList with
    | limit =>
      rw [hr] at h1
      obtain rfl := h1
      refine ⟨0, 0, 0, 3, -1, -1, ⟨#[]⟩, none, 0, 0, rfl, fun W2 e2 B h2 hb12 => ?_⟩
      obtain rfl := h2
      exact ⟨0, 0, 0, ⟨#[]⟩, none, 0, 0, _, _, fun _ => True, fun _ => True, rfl, zero_tree _ _, zero_tree _ _, fun W hW => is_errno W 3 ((hE2 W2 hb12).below hW (hE2 W2 hb12).lt)⟩
    | bad n p =>
      rw [hr] at h1
      obtain rfl := h1
      refine ⟨0, 0, 0, n, 0, p, ⟨#[]⟩, none, 0, 0, rfl, fun W2 e2 B h2 hb12 => ?_⟩
      obtain ⟨g, rfl, hg⟩ := h2
      exact ⟨0, 0, 0, ⟨#[]⟩, none, 0, 0, _, _, fun _ => True, fun _ => True, rfl, zero_tree _ _, zero_tree _ _, fun W hW => is_fault W g 0 p n ((hE2 W2 hb12).below hW (hE2 W2 hb12).lt) (hg.below hW hg.lt)⟩
    | ok t =>
      rw [hr] at h1
      obtain ⟨v1, rfl, t1⟩ := h1
      obtain ⟨k, nm, num, a, ts, sv, e, rfl, r1⟩ := t1.parts
      obtain ⟨o, c, rfl⟩ := r1.form
      refine ⟨k, num, a, 0, -1, -1, nm, o, _, c, rfl, fun W2 e2 B h2 hb12 => ?_⟩
      obtain ⟨v2, rfl, t2⟩ := h2
      have t1 := TreeIn.turn (S' := fun b => w.heap.size ≤ b) t1 (fun b hlt hs => ⟨hs, hb12.block b hlt⟩)
      obtain ⟨k', nm', num', a', ts', sv', e', rfl, r2⟩ := t2.parts
      obtain ⟨o', c', rfl⟩ := r2.form
      exact ⟨k', num', a', nm', o', _, c', .nilIface, t, _, _, rfl, t1, t2, fun W _ => is_nil W⟩
  have HC := Lib.hid hcase
  have HE := Lib.hid hE
  have HM := Lib.hid hm
  have HL := Lib.hid hlv
  have HT := Lib.hid (rtree_any s w hkl)
  clear hE hm hkl hlv hcase
  go_enter Tryz.func3, Tryz.ntmps3
  go_wp2_with (first | (go_at_call 5; refine (huge_any _ _).mono ?_; rintro e w' ⟨rfl, rfl⟩))
  refine HT.out.mono ?_
  rintro e1 w1 ⟨hr1, hb1⟩
  obtain ⟨k, num, a, en, et, ep, nm, so, n, sc, rfl, hnext⟩ := HC.out w1 e1 hr1 hb1
  have HN := Lib.hid hnext
  clear hr1 HC HT hnext
  obtain ⟨w2, hw2⟩ : ∃ w2, w2 = (w1.alloc (.cells #[.int .i64 k, .string nm, .int .i64 num, .int .i64 a, .slice so n sc] 25)).alloc (.cells #[.int .i64 en, .int .i64 et, .int .i64 ep] 28) := ⟨_, rfl⟩
  have hA : Blk w2 w1.heap.size 25 #[.int .i64 k, .string nm, .int .i64 num, .int .i64 a, .slice so n sc] := by rw [hw2]; exact (Blk.new w1 _ _).alloc _
  have hD : Blk w2 (w1.heap.size + 1) 28 #[.int .i64 en, .int .i64 et, .int .i64 ep] := by
    rw [hw2]
    have h := Blk.new (w1.alloc (.cells #[.int .i64 k, .string nm, .int .i64 num, .int .i64 a, .slice so n sc] 25)) 28 #[.int .i64 en, .int .i64 et, .int .i64 ep]
    rw [show (w1.alloc (.cells #[.int .i64 k, .string nm, .int .i64 num, .int .i64 a, .slice so n sc] 25)).heap.size = w1.heap.size + 1 from by simp] at h
    exact h
  have hb12 : Below w1.heap.size w1 w2 := by rw [hw2]; exact ((Below.refl _ _).alloc (Nat.le_refl _) _).alloc (by simp) _
  have hz2 : w2.heap.size = w1.heap.size + 2 := by rw [hw2]; simp
  have hb2 : Below w.heap.size w w2 := hb1.trans (hb12.mono hb1.size)
  have hm2 : w2.cell? ⟨3, 0, none⟩ = some (.int .i64 m) := (hb2.cell (p := ⟨3, 0, none⟩) hlt1).trans HM.out
  have hlv2 : Lv w2 w2.heap.size := (HL.out.same (fun k hk => hb2.block k hk)).mono hb2.size
  have HP := Lib.hid (pparse_any s w2 m hm2 hlv2)
  clear hm2 hlv2
  go_wp2_with fail
  rw [← hw2]
  clear hw2
  refine HP.out.mono ?_
  rintro e2 w3 ⟨hr2, hb23⟩
  obtain ⟨k', num', a', nm', so', n', sc', err, t, S, S', rfl, t1, t2, his⟩ := HN.out w3 e2 _ hr2 (hb12.trans (hb23.mono (by omega)))
  have hA3 := hA.below hb23 hA.lt
  have hD3 := hD.below hb23 hD.lt
  have hz3 := hb23.size
  have hb3 : Below w.heap.size w w3 := hb2.trans (hb23.mono hb2.size)
  clear hr2 HN HP hA hD hb12 hb2 hb23
  obtain ⟨w4, hw4⟩ : ∃ w4, w4 = w3.alloc (.cells #[.int .i64 k', .string nm', .int .i64 num', .int .i64 a', .slice so' n' sc'] 25) := ⟨_, rfl⟩
  have hA4 := hA3.alloc (.cells #[.int .i64 k', .string nm', .int .i64 num', .int .i64 a', .slice so' n' sc'] 25)
  have hD4 := hD3.alloc (.cells #[.int .i64 k', .string nm', .int .i64 num', .int .i64 a', .slice so' n' sc'] 25)
  have hF4 : Blk w4 w3.heap.size 25 #[.int .i64 k', .string nm', .int .i64 num', .int .i64 a', .slice so' n' sc'] := by rw [hw4]; exact Blk.new w3 _ _
  have hb34 : Below w3.heap.size w3 w4 := by rw [hw4]; exact (Below.refl _ _).alloc (Nat.le_refl _) _
  obtain ⟨⟨d0, d1, d2⟩, d3, d4, d5⟩ := hD4.three
  rw [← hw4] at hA4 hD4
  have hb4 : Below w.heap.size w w4 := hb3.trans (hb34.mono hb3.size)
  have t14 := TreeIn.turn (S' := S) t1 (fun b hlt hs => ⟨hs, hb34.block b hlt⟩)
  have t24 := TreeIn.turn (S' := S') t2 (fun b hlt hs => ⟨hs, hb34.block b hlt⟩)
  have HI := Lib.hid (his w4 hb34)
  have hz4 := hb34.size
  clear t1 t2 his hA3 hD3 hb3 hb34
  go_wp2_with fail
  rw [← hw4]
  clear hw4 d0 d1 d2 d3 d4 d5
  refine HI.out.mono ?_
  rintro e w5 ⟨rfl, hb5⟩
  have hA5 := hA4.below hb5 hA4.lt
  have hF5 := hF4.below hb5 hF4.lt
  obtain ⟨⟨p0, p1, p2, p3, p4⟩, _⟩ := hA5.five
  obtain ⟨⟨q0, q1, q2, q3, q4⟩, _⟩ := hF5.five
  have t15 := TreeIn.turn (S' := S) t14 (fun b hlt hs => ⟨hs, hb5.block b hlt⟩)
  have t25 := TreeIn.turn (S' := S') t24 (fun b hlt hs => ⟨hs, hb5.block b hlt⟩)
  have HQ := Lib.hid (eqtree_any t w5 S' S _ _ t25 t15)
  have hb05 : Below w.heap.size w w5 := hb4.trans (hb5.mono hb4.size)
  clear t14 t24 t15 t25 HI hb4 hb5 hA4 hD4 hF4 hA5 hF5
  go_wp2_with fail
  refine HQ.out.mono ?_
  rintro e w6 ⟨rfl, hb6⟩
  go_wp2_with fail
  go_ret
  exact ⟨rfl, hb05.trans (hb6.mono hb05.size)⟩
theorem says_any (s : ByteArray) (m : Int) (w : World) (hE : ErrType w) (hm : w.cell? ⟨3, 0, none⟩ = some (.int .i64 m)) (hkl : Kl w w.heap.size) (hlv : Lv w w.heap.size) : Calls Tryz.prog 3 #[.string s] w fun e w' => e = .returned (.bool true) ∧ Below w.heap.size w w' := by
  by_cases h : 4200 < s.size
  · exact says_huge s w h
  · exact says_go s m w (by omega) hE hm hkl hlv
end Go.Proofs.YtneohanphabneaaGreatDoor

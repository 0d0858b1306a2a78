/-
  Trees in memory: what a row holds at a place; the reference's EqualTree says yes for one tree.
-/
import Derived.Test.YtneohanphabneaaGreatDoorMFn
import Derived.Test.YtneohanphabneaaGreatDoorMP1
import Derived.Test.YtneohanphabneaaGreatDoorChain
import Derived.Test.YtneohanphabneaaGreatDoorSt
namespace Go.Proofs.YtneohanphabneaaGreatDoor
open Go.RowKit Ps

theorem CellsIn.nth {w : World} {S : Nat → Prop} : ∀ {ts : List Tree} {xs : List Value} (i : Nat) (t : Tree), CellsIn w S ts xs → ts[i]? = some t → ∃ k nm num a us sv, t = .node k nm num a us ∧ SubsIn w S t sv ∧
    xs[i * 5]? = some (.int .i64 (k : Nat)) ∧ xs[i * 5 + 1]? = some (.string nm) ∧ xs[i * 5 + 2]? = some (.int .i64 (num : Nat)) ∧ xs[i * 5 + 3]? = some (.int .i64 (a : Nat)) ∧ xs[i * 5 + 4]? = some sv
  | [], xs, i, t, _, h => by simp at h
  | u :: ts, xs, 0, t, hc, h => by
    unfold CellsIn at hc
    obtain ⟨k, nm, num, a, us, sv, rest, e, rfl, h1, h2⟩ := hc
    obtain rfl : u = t := by simpa using h
    exact ⟨k, nm, num, a, us, sv, e, h1, rfl, rfl, rfl, rfl, rfl⟩
  | u :: ts, xs, i + 1, t, hc, h => by
    unfold CellsIn at hc
    obtain ⟨k, nm, num, a, us, sv, rest, e, rfl, h1, h2⟩ := hc
    obtain ⟨k, nm, num, a, us, sv2, e2, g0, g1, g2, g3, g4, g5⟩ := CellsIn.nth i t h2 (by simpa using h)
    have hx : ∀ j, (i + 1) * 5 + j = (i * 5 + j) + 5 := fun j => by omega
    refine ⟨k, nm, num, a, us, sv2, e2, g0, ?_, ?_, ?_, ?_, ?_⟩
    · rw [show (i + 1) * 5 = i * 5 + 5 from by omega]; exact g1
    · rw [hx]; exact g2
    · rw [hx]; exact g3
    · rw [hx]; exact g4
    · rw [hx]; exact g5
/-- The five cells of a node in a row. -/
def Five (w : World) (g i k : Nat) (nm : ByteArray) (num a : Nat) (sv : Value) : Prop :=
  w.cell? ⟨g, i * 5, none⟩ = some (.int .i64 k) ∧ w.cell? ⟨g, i * 5 + 1, none⟩ = some (.string nm) ∧ w.cell? ⟨g, i * 5 + 2, none⟩ = some (.int .i64 num) ∧ w.cell? ⟨g, i * 5 + 3, none⟩ = some (.int .i64 a) ∧ w.cell? ⟨g, i * 5 + 4, none⟩ = some sv
theorem Five.below {w w' : World} {B g i k : Nat} {nm : ByteArray} {num a : Nat} {sv : Value} (h : Five w g i k nm num a sv) (hb : Below B w w') (hg : g < B) : Five w' g i k nm num a sv := by
  obtain ⟨h0, h1, h2, h3, h4⟩ := h
  exact ⟨(hb.cell (p := ⟨g, i * 5, none⟩) hg).trans h0, (hb.cell (p := ⟨g, i * 5 + 1, none⟩) hg).trans h1, (hb.cell (p := ⟨g, i * 5 + 2, none⟩) hg).trans h2, (hb.cell (p := ⟨g, i * 5 + 3, none⟩) hg).trans h3, (hb.cell (p := ⟨g, i * 5 + 4, none⟩) hg).trans h4⟩
theorem RowIn.max {w : World} {S : Nat → Prop} {sv : Value} {ts : List Tree} (h : RowIn w S sv ts) : (ts.length : Int) ≤ 9223372036854775807 := by
  obtain ⟨xs, h, _, _⟩ := h
  rcases h.2 with ⟨_, h⟩ | ⟨_, cap, _, _, _, _, h1, h2, _⟩
  · omega
  · simp only [maxLen] at h2; omega
/-- What a row of trees holds at i. -/
theorem RowIn.nth {w : World} {S : Nat → Prop} {so : Option Addr} {n sc : Nat} {ts : List Tree} (h : RowIn w S (.slice so n sc) ts) (i : Nat) (hi : i < ts.length) : ∃ g k nm num a sv us, so = some ⟨g, 0, none⟩ ∧ g < w.heap.size ∧ ts[i] = .node k nm num a us ∧ Five w g i k nm num a sv ∧ TreeIn w S (nodeV k nm num a sv) ts[i] := by
  obtain ⟨xs, hown, hS, hc⟩ := h
  obtain ⟨g, cap, hf, hg⟩ := hown.form (by omega)
  injection hf with h1 h2 h3
  subst h1
  obtain ⟨k, nm, num, a, us, sv, e, h0, g1, g2, g3, g4, g5⟩ := hc.nth i ts[i] (by simp [hi])
  have ha : ∀ j, (⟨g, 0, none⟩ : Addr).add j = ⟨g, j, none⟩ := by
    intro j
    unfold Addr.add
    by_cases hj : j = 0
    · rw [if_pos hj, hj]
    · rw [if_neg hj]; simp
  have c1 := hown.cells (g := g) rfl _ _ g1
  have c2 := hown.cells (g := g) rfl _ _ g2
  have c3 := hown.cells (g := g) rfl _ _ g3
  have c4 := hown.cells (g := g) rfl _ _ g4
  have c5 := hown.cells (g := g) rfl _ _ g5
  rw [ha] at c1 c2 c3 c4 c5
  exact ⟨g, k, nm, num, a, sv, us, rfl, (own_lt hown g rfl), e, ⟨c1, c2, c3, c4, c5⟩, ⟨k, nm, num, a, us, sv, e, rfl, h0⟩⟩
def EqC (N : Nat) : Prop := ∀ (t : Tree), SizeOf.sizeOf t ≤ N → ∀ (w : World) (S S' : Nat → Prop) (v v' : Value), TreeIn w S v t → TreeIn w S' v' t → Calls Tryz.prog 9 #[v, v'] w fun e w' => e = .returned (.bool true) ∧ Below w.heap.size w w'
set_option maxRecDepth 100000 in
set_option maxHeartbeats 1000000 in
theorem eqtree_step (N : Nat) (ih : EqC N) : EqC (N + 1) := by
    intro t hN w S S' v v' h1 h2
    obtain ⟨k, nm, num, a, ts, sv, rfl, rfl, r1⟩ := h1.parts
    obtain ⟨k', nm', num', a, ts, sv', e, rfl, r2⟩ := h2.parts
    injection e with e1 e2 e3 e4 e5
    subst e1 e2 e3 e4 e5
    clear h1 h2
    obtain ⟨o, c, rfl⟩ := r1.form
    obtain ⟨o', c', rfl⟩ := r2.form
    have hmax := r1.max
    have IH := Lib.hid ih
    have R1 := Lib.hid r1
    have R2 := Lib.hid r2
    clear ih r1 r2
    unfold nodeV
    go_enter Tryz.func9, Tryz.ntmps9
    go_wp2_with fail
    obtain ⟨w2, hw2⟩ : ∃ w2, w2 = (w.alloc (.cells #[.int .i64 k, .string nm, .int .i64 num, .int .i64 a, .slice o ts.length c] 25)).alloc (.cells #[.int .i64 k, .string nm, .int .i64 num, .int .i64 a, .slice o' ts.length c'] 25) := ⟨_, rfl⟩
    have hN : Blk w2 w.heap.size 25 #[.int .i64 k, .string nm, .int .i64 num, .int .i64 a, .slice o ts.length c] := by rw [hw2]; exact (Blk.new w _ _).alloc _
    have hM : Blk w2 (w.heap.size + 1) 25 #[.int .i64 k, .string nm, .int .i64 num, .int .i64 a, .slice o' ts.length c'] := by
      rw [hw2]
      have h := Blk.new (w.alloc (.cells #[.int .i64 k, .string nm, .int .i64 num, .int .i64 a, .slice o ts.length c] 25)) 25 #[.int .i64 k, .string nm, .int .i64 num, .int .i64 a, .slice o' ts.length c']
      rw [show (w.alloc (.cells #[.int .i64 k, .string nm, .int .i64 num, .int .i64 a, .slice o ts.length c] 25)).heap.size = w.heap.size + 1 from by simp] at h
      exact h
    have hb2 : Below w.heap.size w w2 := by rw [hw2]; exact ((Below.refl _ _).alloc (Nat.le_refl _) _).alloc (by simp) _
    have hz2 : w2.heap.size = w.heap.size + 2 := by rw [hw2]; simp
    rw [← hw2]
    clear hw2
    have HN := Lib.hid hN
    have HM := Lib.hid hM
    have HB2 := Lib.hid hb2
    clear hN hM hb2
    go_loopw [5] (fun i wr => ∃ j : Nat, j ≤ ts.length ∧ i = .int .i64 j ∧ Hid (Below w2.heap.size w2 wr)) (fun i _ => ts.length - (intOf i).toNat)
    case atStart => exact ⟨0, Nat.zero_le _, rfl, Lib.hid (Below.refl _ _)⟩
    case round =>
      obtain ⟨j, hj, rfl, HB⟩ := hrel
      have hN := HN.out.below HB.out (by omega)
      have hM := HM.out.below HB.out (by omega)
      have hb : Below w.heap.size w wr := HB2.out.trans (HB.out.mono (by omega))
      obtain ⟨q1, q2⟩ := hN.five
      obtain ⟨q3, q4⟩ := hM.five
      have l1 := hN.lt
      have l2 := hM.lt
      by_cases hlt : j < ts.length
      · obtain ⟨g, kk, nn, nu, na, ns, us, rfl, hg, et, f5, t1⟩ := R1.out.nth j hlt
        obtain ⟨g', kk', nn', nu', na', ns', us', rfl, hg', et', f5', t2⟩ := R2.out.nth j (by omega)
        rw [et] at et'
        injection et' with e1 e2 e3 e4 e5
        subst e1 e2 e3 e4 e5
        have hsz : SizeOf.sizeOf ts[j] ≤ N := by
          have := List.sizeOf_lt_of_mem (List.getElem_mem hlt)
          have e : SizeOf.sizeOf (Tree.node k nm num a ts) = 1 + SizeOf.sizeOf k + SizeOf.sizeOf nm + SizeOf.sizeOf num + SizeOf.sizeOf a + SizeOf.sizeOf ts := Tree.node.sizeOf_spec _ _ _ _ _
          omega
        have f5 := f5.below hb hg
        have f5' := f5'.below hb hg'
        have t1 := TreeIn.turn (w' := wr.drew) (S' := S) t1 (fun b hlt hs => ⟨hs, hb.block b hlt⟩)
        have t2 := TreeIn.turn (w' := wr.drew) (S' := S') t2 (fun b hlt hs => ⟨hs, hb.block b hlt⟩)
        have CC := Lib.hid (IH.out ts[j] hsz wr.drew S S' _ _ t1 t2)
        clear t1 t2
        unfold nodeV at CC
        have i0 : (0 : Int) ≤ (j : Int) := by omega
        have i1 : (j : Int) < (ts.length : Int) := by omega
        have i2 : (j : Int) < (ts.length : Int) := by omega
        go_wp2_with fail
        refine Ch.wp_region_run (fun u => (Blk u w.heap.size 25 #[.int .i64 k, .string nm, .int .i64 num, .int .i64 a, .slice (some ⟨g, 0, none⟩) ts.length c] ∧ Blk u (w.heap.size + 1) 25 #[.int .i64 k, .string nm, .int .i64 num, .int .i64 a, .slice (some ⟨g', 0, none⟩) ts.length c']) ∧ Five u g j kk nn nu na ns ∧ Five u g' j kk nn nu na ns') [1, 4, 6, 9] [0, 1, 2, 3, 4, 5, 6, 7, 8, 9] [10, 11] [] (by kernel_rfl) (by kernel_rfl) (fun _ _ d _ _ h => by cases d <;> exact h) ⟨⟨hN, hM⟩, f5, f5'⟩ ?_
        refine Ch.take0 (v := ?v0) rfl (by rfl) ?y0 ?_
        case y0 => intro u; go_simp; rfl
        simp only [Act.put, List.setIfInBounds_toArray, List.set_cons_zero, List.set_cons_succ]
        refine Ch.load1 (v := ?v1) rfl (by rfl) ?y1 ?_
        case y1 => rintro u ⟨⟨hC, hD⟩, ⟨x0, x1, x2, x3, x4⟩, ⟨b0, b1, b2, b3, b4⟩⟩; obtain ⟨c5, _⟩ := Blk.five hC; obtain ⟨d5, _⟩ := Blk.five hD; go_simp; rfl
        simp only [Act.put, List.setIfInBounds_toArray, List.set_cons_zero, List.set_cons_succ]
        refine Ch.take2 (v := ?v2) rfl (by rfl) ?y2 ?_
        case y2 => intro u; go_simp; rfl
        simp only [Act.put, List.setIfInBounds_toArray, List.set_cons_zero, List.set_cons_succ]
        refine Ch.take3 (v := ?v3) rfl (by rfl) ?y3 ?_
        case y3 => intro u; go_simp; rfl
        simp only [Act.put, List.setIfInBounds_toArray, List.set_cons_zero, List.set_cons_succ]
        refine Ch.load4 (v := ?v4) rfl (by rfl) ?y4 ?_
        case y4 => rintro u ⟨⟨hC, hD⟩, ⟨x0, x1, x2, x3, x4⟩, ⟨b0, b1, b2, b3, b4⟩⟩; obtain ⟨c5, _⟩ := Blk.five hC; obtain ⟨d5, _⟩ := Blk.five hD; go_simp; rfl
        simp only [Act.put, List.setIfInBounds_toArray, List.set_cons_zero, List.set_cons_succ]
        refine Ch.take5 (v := ?v5) rfl (by rfl) ?y5 ?_
        case y5 => intro u; go_simp; rfl
        simp only [Act.put, List.setIfInBounds_toArray, List.set_cons_zero, List.set_cons_succ]
        refine Ch.load6 (v := ?v6) rfl (by rfl) ?y6 ?_
        case y6 => rintro u ⟨⟨hC, hD⟩, ⟨x0, x1, x2, x3, x4⟩, ⟨b0, b1, b2, b3, b4⟩⟩; obtain ⟨c5, _⟩ := Blk.five hC; obtain ⟨d5, _⟩ := Blk.five hD; go_simp; rfl
        simp only [Act.put, List.setIfInBounds_toArray, List.set_cons_zero, List.set_cons_succ]
        refine Ch.take7 (v := ?v7) rfl (by rfl) ?y7 ?_
        case y7 => intro u; go_simp; rfl
        simp only [Act.put, List.setIfInBounds_toArray, List.set_cons_zero, List.set_cons_succ]
        refine Ch.take8 (v := ?v8) rfl (by rfl) ?y8 ?_
        case y8 => intro u; go_simp; rfl
        simp only [Act.put, List.setIfInBounds_toArray, List.set_cons_zero, List.set_cons_succ]
        refine Ch.load9 (v := ?v9) rfl (by rfl) ?y9 ?_
        case y9 => rintro u ⟨⟨hC, hD⟩, ⟨x0, x1, x2, x3, x4⟩, ⟨b0, b1, b2, b3, b4⟩⟩; obtain ⟨c5, _⟩ := Blk.five hC; obtain ⟨d5, _⟩ := Blk.five hD; go_simp; rfl
        simp only [Act.put, List.setIfInBounds_toArray, List.set_cons_zero, List.set_cons_succ]
        refine Ch.mid10 (by rfl) (fun K hK => ?_)
        go_simp
        refine CC.out.mono ?_
        rintro e w5 ⟨rfl, hb5⟩
        have hC5 : (Blk w5 w.heap.size 25 #[.int .i64 k, .string nm, .int .i64 num, .int .i64 a, .slice (some ⟨g, 0, none⟩) ts.length c] ∧ Blk w5 (w.heap.size + 1) 25 #[.int .i64 k, .string nm, .int .i64 num, .int .i64 a, .slice (some ⟨g', 0, none⟩) ts.length c']) ∧ Five w5 g j kk nn nu na ns ∧ Five w5 g' j kk nn nu na ns' := ⟨⟨Blk.below (w := wr.drew) hN hb5 l1, Blk.below (w := wr.drew) hM hb5 l2⟩, Five.below (w := wr.drew) f5 hb5 (show g < wr.heap.size from by have := hb.size; omega), Five.below (w := wr.drew) f5' hb5 (show g' < wr.heap.size from by have := hb.size; omega)⟩
        refine hK _ _ hC5 ?_
        clear hK K
        try simp only [Act.put, List.setIfInBounds_toArray, List.set_cons_zero, List.set_cons_succ]
        refine Ch.mid11 (by rfl) (fun K hK => ?_)
        go_simp
        refine hK _ _ hC5 ?_
        clear hK K
        try simp only [Act.put, List.setIfInBounds_toArray, List.set_cons_zero, List.set_cons_succ]
        refine Ch.run_end ?_
        go_wp2_with fail
        go_roundw
        case rel => exact ⟨j + 1, by omega, by go_num, Lib.hid ((HB.out.trans ((⟨rfl, rfl, rfl, Nat.le_refl _, fun _ _ => rfl⟩ : Below wr.heap.size wr wr.drew).mono HB.out.size)).trans (hb5.mono HB.out.size))⟩
        case measure => simp [intOf]; omega
      · have i1 : ¬ (j : Int) < (ts.length : Int) := by omega
        go_wp2_with fail
        go_ret
        exact ⟨rfl, hb⟩
theorem eqtree_all : ∀ N : Nat, EqC N
  | 0 => fun t h => by cases t; simp at h
  | N + 1 => eqtree_step N (eqtree_all N)
theorem eqtree_any (t : Tree) (w : World) (S S' : Nat → Prop) (v v' : Value) (h : TreeIn w S v t) (h' : TreeIn w S' v' t) : Calls Tryz.prog 9 #[v, v'] w fun e w' => e = .returned (.bool true) ∧ Below w.heap.size w w' := eqtree_all _ t (Nat.le_refl _) w S S' v v' h h'
end Go.Proofs.YtneohanphabneaaGreatDoor

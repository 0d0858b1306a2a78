/-
  Contracts of the reference's reader: statements.
-/
import Derived.Test.YtneohanphabneaaGreatDoorR13
import Derived.Test.YtneohanphabneaaGreatDoorMP1
namespace Go.Proofs.YtneohanphabneaaGreatDoor
open Go.RowKit Ps
set_option maxRecDepth 100000 in
set_option maxHeartbeats 4000000 in
theorem rstmts_any {w : World} {p T : Nat} {l : List Sc.Tok} {s : R Unit} {i d : Nat} (h : RS w p T l s i d) (hd : d ≤ 20) (st : List Sc.Tok → Nat → R Tree) (hst : d + 1 ≤ 20 → RCT (fun s => ∃ k, s = .ok () k) 104 (d + 1) st) : Calls Tryz.prog 45 #[pp p] w fun e w' =>
    RT (fun b => w.heap.size ≤ b) p T l i d (s.bind fun _ k => (if d < 20 then Ps.stmtsOf l (st l) k else Ps.tooDeep l k)) e w' ∧ Kp w.heap.size p w w' := by
  obtain ⟨r, hr⟩ : ∃ r, r = s.bind fun _ k => (if d < 20 then Ps.stmtsOf l (st l) k else Ps.tooDeep l k) := ⟨_, rfl⟩
  rw [← hr]
  have HR := rhere h _ hr
  clear hr
  unfold pp
  go_enter Tryz.func45, Tryz.ntmps45
  go_wp2_with fail
  have s1 := (Rs.start h).allocAt (w.heap.size) 25 #[.int .i64 0, .string ⟨#[]⟩, .int .i64 0, .int .i64 0, .slice none 0 0] (by simp)
  refine (rat_any s1.ps).mono ?_
  rintro e w2 ⟨rfl, hb3⟩
  have s4 := s1.below hb3
  go_wp2_with fail
  have s5 := s4.allocAt (w2.heap.size) 25 #[.int .i64 1, .string ⟨#[]⟩, .int .i64 0, .int .i64 (Ps.A l i), .slice none 0 0] (by simp)
  refine (rdeep_on s5.ps (.inl hd) (by omega)).mono ?_
  rintro e w6 ⟨q7, rfl, h8, hk9, hp10, hdp11⟩
  replace HR := hdp11 (Y := Ps.stmtsOf l (st l) i) (fun h => if_pos h) (fun h => by rw [if_neg (by omega)]; rfl) HR
  clear hdp11
  have s12 := s5.call hk9 h8
  unfold Ps.stmtsOf at HR
  go_wp2_with fail
  go_loopg [] l.length (fun F wr => ∃ (q : R Unit) (j : Nat) (acc : List Tree) (go : Option Addr) (gn gc : Nat), (∀ k, q = .ok () k → l.length ≤ k + F) ∧ i ≤ j ∧ acc.length + F ≤ l.length + 1 ∧ Okp (d + 1 ≤ 20) q ∧ Rs w wr p T l q j (d + 1) [(w2.heap.size, 25, #[.int .i64 1, .string ⟨#[]⟩, .int .i64 0, .int .i64 (Ps.A l i), .slice go gn gc]), (w.heap.size, 25, #[.int .i64 0, .string ⟨#[]⟩, .int .i64 0, .int .i64 0, .slice none 0 0])] (.slice go gn gc, acc) [] ∧
    Hid (r = q.bind fun _ _ => (Ps.stmtsLoop l (st l) F j acc).bind fun ts i1 => R.ok (Tree.node 1 ⟨#[]⟩ 0 (Ps.A l i) ts) i1))
  case atStart =>
    skip
    exact ⟨_, i, [], none, 0, 0, fun k hk => by omega, by omega, by simp, hp10, s12, HR⟩
  case round =>
    obtain ⟨q, j, acc, go, gn, gc, hF, hij, hacc, hPq, s5, HR⟩ := hrel
    have hjl := s5.ps.hi
    have hsm := s5.ps.small
    have hOk := Lib.hid (rok_any s5.ps)
    unfold pp at hOk
    rcases rokB q s5.ps.bad with ⟨ho16, k13, rfl⟩ | ⟨ho16, n14, a15, rfl⟩
    · have hkj := (s5.ps.ok k13 rfl).symm
      subst hkj
      rw [ho16] at hOk
      clear ho16
      have hF1 := hF _ rfl
      have hd20 : d + 1 ≤ 20 := hPq.get
      have hST := hst hd20
      cases gk with
      | zero => omega
      | succ F =>
        unfold Ps.stmtsLoop at HR
        go_wp2_with (go_at_call 18; refine hOk.out.mono ?_; rintro e w' ⟨rfl, rfl⟩)
        refine (rword_any s5.ps).mono ?_
        rintro e w17 ⟨rfl, hb18⟩
        have s19 := s5.below hb18
        have hq := isW_lit l j ⟨#[59]⟩ [59] (by rw [Lib.toList_data])
        cases hs1 : Ps.isW l j ⟨#[59]⟩ with
        | true =>
          have hns : Ps.noStmt l j = true := by unfold Ps.noStmt; rw [hs1]; rfl
          rw [hs1] at hq
          replace HR := rokX (Y := (Ps.stmtsLoop l (st l) F (j + 1) acc).bind fun ts i1 => R.ok (Tree.node 1 ⟨#[]⟩ 0 (Ps.A l i) ts) i1) (by rw [if_pos hns, if_pos hs1]) HR
          go_wp2_with fail
          refine (ris_any s19.ps (⟨#[59]⟩) (fun _ => by decide)).mono ?_
          rintro e w20 ⟨⟨hq21, hw22, rfl, h23⟩ | ⟨hw22, rfl, h23⟩, hk24⟩
          · have s25 := s19.call hk24 h23
            replace HR := ryes' (j := j + 1) hq21 rfl HR
            go_wp2_with fail
            go_roundg F
            case measure => omega
            case rel => exact ⟨_, (j + 1), acc, go, gn, gc, fun k hk => by injection hk with _ hk; omega, by omega, by omega, .inl hd20, s25, HR⟩
          · have s26 := s19.call hk24 h23
            have hx := hw22 j rfl
            rw [hs1] at hx
            cases hx
        | false =>
          rw [hs1] at hq
          go_wp2_with fail
          refine (rword_any s19.ps).mono ?_
          rintro e w27 ⟨rfl, hb28⟩
          have s29 := s19.below hb28
          cases hs2 : Ps.follows (Ps.W l j) with
          | true =>
            have hns : Ps.noStmt l j = true := by unfold Ps.noStmt; rw [hs1, hs2]; rfl
            have hB := Lib.hid (rbehind_any (Ps.W l j) w27)
            rw [hs2] at hB
            replace HR := rokX (Y := R.ok (Tree.node 1 ⟨#[]⟩ 0 (Ps.A l i) acc) j) (by rw [if_pos hns, if_neg (by rw [hs1]; decide)] <;> rfl) HR
            go_wp2_with (go_at_call 103; refine hB.out.mono ?_; rintro e w' ⟨rfl, rfl⟩)
            refine (ris_any s29.ps (⟨#[59]⟩) (fun _ => by decide)).mono ?_
            rintro e w30 ⟨⟨hq31, hw32, rfl, h33⟩ | ⟨hw32, rfl, h33⟩, hk34⟩
            · have s35 := s29.call hk34 h33
              rw [hs1] at hw32
              cases hw32
            · have s36 := s29.call hk34 h33
              obtain ⟨c37, hc38, hb39, ⟨qa40, qb41⟩, hlt42⟩ := s36.ps.facts
              obtain ⟨⟨h43, h44, h45, h46, h47, h48⟩, f49, f50, f51, f52, f53, f54⟩ := hb39.six
              have c55 := s36.n0.2.five
              have l56 := s36.n0.2.lt
              have np57 := s36.np 0 rfl
              have c58 := s36.n1.2.five
              have l59 := s36.n1.2.lt
              have np60 := s36.np 1 rfl
              have d61 := s36.d01
              go_wp2_with fail
              clear hb39 qa40 qb41 hlt42 h43 h44 h45 h46 h47 h48 f49 f50 f51 f52 f53 f54 c55 l56 np57 c58 l59 np60 d61
              have s62 := s36.grown
              have s63 := rupX s62
              have s64 := s63.p1 (.int .i64 1) (.string ⟨#[]⟩) (.int .i64 0) (.int .i64 (Ps.A l i)) (.slice go gn gc)
              exact bodyPost_ret (res5 Tryz.results45 rfl s64.n1.2) rfl ⟨rend s64.ps HR (s64.treeOf (sv := .slice go gn gc) (by simp)) (by skip; omega), s64.kp⟩
          | false =>
            have hns : Ps.noStmt l j = false := by unfold Ps.noStmt; rw [hs1, hs2]; rfl
            have hB := Lib.hid (rbehind_any (Ps.W l j) w27)
            rw [hs2] at hB
            replace HR := rokX (Y := ((st l j).bind fun t i1 => if Ps.isW l i1 ⟨#[59]⟩ then Ps.stmtsLoop l (st l) F (i1 + 1) (acc ++ [t]) else R.ok (acc ++ [t]) i1).bind fun ts i1 => R.ok (Tree.node 1 ⟨#[]⟩ 0 (Ps.A l i) ts) i1) (by rw [if_neg (by rw [hns]; decide)]) HR
            replace HR := rassoc HR
            go_upto_region 5 with (go_at_call 103; refine hB.out.mono ?_; rintro e w' ⟨rfl, rfl⟩)
            have c65 := s29.n0.2.five
            have l66 := s29.n0.2.lt
            go_wp2_with fail
            clear c65 l66
            have hC := s29.n0.2
            refine Ch.wp_region_run (fun u => Blk u (w2.heap.size) 25 #[.int .i64 1, .string ⟨#[]⟩, .int .i64 0, .int .i64 (Ps.A l i), .slice go gn gc]) [1] [0, 1, 2] [3, 4, 5, 6, 7] [5, 6, 7] (by kernel_rfl) (by kernel_rfl) (fun _ _ d _ _ h => by cases d <;> exact h) (hC) ?_
            clear hC
            have s67 := s29.drew
            refine Ch.take0 (v := ?v68) rfl (by rfl) ?y69 ?_
            case y69 => intro u; go_simp; rfl
            simp only [Act.put, List.setIfInBounds_toArray, List.set_cons_zero, List.set_cons_succ]
            refine Ch.load1 (v := ?v70) rfl (by rfl) ?y71 ?_
            case y71 => intro u hC; have c5 := Blk.five hC; go_simp; rfl
            simp only [Act.put, List.setIfInBounds_toArray, List.set_cons_zero, List.set_cons_succ]
            refine Ch.take2 (v := ?v72) rfl (by rfl) ?y73 ?_
            case y73 => intro u; go_simp; rfl
            simp only [Act.put, List.setIfInBounds_toArray, List.set_cons_zero, List.set_cons_succ]
            refine Ch.mid3 (by rfl) (fun K hK => ?_)
            go_simp
            refine (rt_on s67.ps (hST _ p T l _ _ ⟨_, rfl⟩ s67.ps)).mono ?_
            rintro e w82 ⟨k74, nm75, num76, a77, ts78, so79, sc80, q83, i84, rfl, hrow81, h85, le86, hk87, ho88⟩
            replace HR := ho88 HR
            clear ho88
            have le86 := Lib.hid le86
            have s89 := s67.callKeep hk87 h85 hrow81
            unfold nodeV
            refine hK _ _ (s89.n0.2) ?_
            clear hK K
            try simp only [Act.put, List.setIfInBounds_toArray, List.set_cons_zero, List.set_cons_succ]
            refine Ch.mid4 (by rfl) (fun K hK => ?_)
            go_simp
            refine hK _ _ ((s89.other _).n0.2) ?_
            clear hK K
            try simp only [Act.put, List.setIfInBounds_toArray, List.set_cons_zero, List.set_cons_succ]
            refine Ch.post5 rfl (by rfl) (fun K hK => ?_)
            refine s89.app1n (List.mem_cons_self ..) (.tmp 21) (.tmp 24) rfl rfl rfl (by omega) (fun go90 gn91 gc92 w93 s94 => ?_)
            refine hK _ _ ?_
            clear hK K
            try simp only [Act.put, List.setIfInBounds_toArray, List.set_cons_zero, List.set_cons_succ]
            have c7 := s94.n0.2.five
            refine Ch.post6 rfl (by rfl) (fun K hK => ?_)
            go_simp
            refine hK _ _ ?_
            clear hK K
            try simp only [Act.put, List.setIfInBounds_toArray, List.set_cons_zero, List.set_cons_succ]
            refine Ch.post7 rfl (by rfl) (fun K hK => ?_)
            go_simp
            refine hK _ _ ?_
            clear hK K
            try simp only [Act.put, List.setIfInBounds_toArray, List.set_cons_zero, List.set_cons_succ]
            refine Ch.run_end ?_
            have s95 := s94.s04 (.slice go90 gn91 gc92)
            clear c7
            go_wp2_with fail
            refine (ris_any s95.ps (⟨#[59]⟩) (fun _ => by decide)).mono ?_
            rintro e w96 ⟨⟨hq97, hw98, rfl, h99⟩ | ⟨hw98, rfl, h99⟩, hk100⟩
            · replace HR := ryesB (j := i84 + 1) hq97 hw98 HR
              have s101 := s95.call hk100 h99
              go_wp2_with fail
              go_roundg F
              case measure => omega
              case rel => have a0 := le86.out; exact ⟨_, (i84 + 1), acc ++ [Tree.node k74 nm75 num76 a77 ts78], _, _, _, fun k hk => by injection hk with _ hk; omega, by omega, by simp; omega, .inl hd20, s101.lose, HR⟩
            · replace HR := rnoB s95.ps hw98 HR
              have s102 := s95.call hk100 h99
              obtain ⟨c103, hc104, hb105, ⟨qa106, qb107⟩, hlt108⟩ := s102.ps.facts
              obtain ⟨⟨h109, h110, h111, h112, h113, h114⟩, f115, f116, f117, f118, f119, f120⟩ := hb105.six
              have c121 := s102.n0.2.five
              have l122 := s102.n0.2.lt
              have np123 := s102.np 0 rfl
              have c124 := s102.n1.2.five
              have l125 := s102.n1.2.lt
              have np126 := s102.np 1 rfl
              have d127 := s102.d01
              go_wp2_with fail
              clear hb105 qa106 qb107 hlt108 h109 h110 h111 h112 h113 h114 f115 f116 f117 f118 f119 f120 c121 l122 np123 c124 l125 np126 d127
              have s128 := s102.grown
              have s129 := rupX s128
              have s130 := s129.p1 (.int .i64 1) (.string ⟨#[]⟩) (.int .i64 0) (.int .i64 (Ps.A l i)) (.slice go90 gn91 gc92)
              exact bodyPost_ret (res5 Tryz.results45 rfl s130.n1.2) rfl ⟨rend s130.ps HR (s130.treeOf (sv := .slice go90 gn91 gc92) (by simp)) (by have a0 := le86.out; omega), s130.kp⟩
    · rw [ho16] at hOk
      clear ho16
      replace HR := rbad (Y := R.ok (Tree.node 1 ⟨#[]⟩ 0 (Ps.A l i) acc) j) ⟨n14, a15, rfl⟩ HR
      obtain ⟨c131, hc132, hb133, ⟨qa134, qb135⟩, hlt136⟩ := s5.ps.facts
      obtain ⟨⟨h137, h138, h139, h140, h141, h142⟩, f143, f144, f145, f146, f147, f148⟩ := hb133.six
      have c149 := s5.n0.2.five
      have l150 := s5.n0.2.lt
      have np151 := s5.np 0 rfl
      have c152 := s5.n1.2.five
      have l153 := s5.n1.2.lt
      have np154 := s5.np 1 rfl
      have d155 := s5.d01
      go_wp2_with (go_at_call 18; refine hOk.out.mono ?_; rintro e w' ⟨rfl, rfl⟩)
      clear hb133 qa134 qb135 hlt136 h137 h138 h139 h140 h141 h142 f143 f144 f145 f146 f147 f148 c149 l150 np151 c152 l153 np154 d155
      have s156 := s5.grown
      have s157 := rupX s156
      have s158 := s157.p1 (.int .i64 1) (.string ⟨#[]⟩) (.int .i64 0) (.int .i64 (Ps.A l i)) (.slice go gn gc)
      exact bodyPost_ret (res5 Tryz.results45 rfl s158.n1.2) rfl ⟨rend s158.ps HR (s158.treeOf (sv := .slice go gn gc) (by simp)) (by skip; omega), s158.kp⟩
end Go.Proofs.YtneohanphabneaaGreatDoor
/-
  A map literal from words to numbers: what it holds.
-/
namespace Go.Proofs.YtneohanphabneaaGreatDoor
open Go.RowKit

def entsI : List (ByteArray × Nat) → Nat → List MapEntry
  | [], _ => []
  | k :: r, n => { key := .string k.1, val := .int .i64 k.2, born := n } :: entsI r (n + 1)
theorem entsI_snoc (k : ByteArray × Nat) : ∀ (ks : List (ByteArray × Nat)) (n : Nat), entsI (ks ++ [k]) n = entsI ks n ++ [{ key := .string k.1, val := .int .i64 k.2, born := n + ks.length }]
  | [], n => by simp [entsI]
  | x :: ks, n => by simp [entsI, entsI_snoc k ks (n + 1)]; omega
/-- The block g is the map of those words. -/
def MBI (w : World) (g : Nat) (ks : List (ByteArray × Nat)) : Prop := w.heap[g]? = some (.map (entsI ks 0).toArray ks.length)
theorem findNow_entsI (k : ByteArray) : ∀ (ks : List (ByteArray × Nat)) (n i : Nat), (ks.find? (fun x => decide (x.1 = k)) = none → Instr.findNow .string (.string k) (entsI ks n) i = some none) ∧ (∀ y, ks.find? (fun x => decide (x.1 = k)) = some y → ∃ j, Instr.findNow .string (.string k) (entsI ks n) i = some (some (j, .int .i64 y.2)))
  | [], n, i => ⟨fun _ => rfl, fun _ h => by cases h⟩
  | x :: ks, n, i => by
    have ih := findNow_entsI k ks (n + 1) (i + 1)
    by_cases hx : x.1 = k
    · subst hx
      refine ⟨fun h => by simp at h, fun y hy => ⟨i, ?_⟩⟩
      simp at hy
      subst hy
      simp only [entsI, Instr.findNow, Instr.sameNow, ba_beq, decide_true]
    · have hx' : ¬ k = x.1 := fun e => hx e.symm
      refine ⟨fun h => ?_, fun y hy => ?_⟩
      · rw [List.find?_cons_of_neg (by simpa using hx)] at h
        have := ih.1 h
        simp only [entsI, Instr.findNow, Instr.sameNow, ba_beq, decide_eq_false hx', this]
      · rw [List.find?_cons_of_neg (by simpa using hx)] at hy
        obtain ⟨j, hj⟩ := ih.2 y hy
        exact ⟨j, by simp only [entsI, Instr.findNow, Instr.sameNow, ba_beq, decide_eq_false hx', hj]⟩
theorem run_putI {w : World} {g : Nat} {ks : List (ByteArray × Nat)} (h : MBI w g ks) (k : ByteArray) (v : Nat) (hk : ks.find? (fun x => decide (x.1 = k)) = none) :
    ∃ w', (Instr.mapUpdate 151 (.map (some g)) (.string k) (.int .i64 v)).run Tryz.prog w = .ok () w' ∧ MBI w' g (ks ++ [(k, v)]) ∧ Below g w w' := by
  have hf := (findNow_entsI k ks 0 0).1 hk
  unfold MBI at h
  have hset := MapKept.heap_set (o' := .map (entsI (ks ++ [(k, v)]) 0).toArray (ks ++ [(k, v)]).length) h
  refine ⟨{ w with heap := w.heap.setIfInBounds g (.map (entsI (ks ++ [(k, v)]) 0).toArray (ks ++ [(k, v)]).length) }, ?_, hset.1, ⟨rfl, rfl, rfl, by simp, fun i hi => hset.2 i (by omega)⟩⟩
  unfold Instr.mapUpdate
  simp only [Sem.run_bind, run_underlying Tryz.underlying151, Result.andThen, MapKept.run_getObj_map h, MapKept.run_checkKey Tryz.underlying9 (k := .string k) trivial, MapKept.run_findKey Tryz.underlying9 hf, MapKept.run_setObj_map _ h]
  simp [entsI_snoc]
theorem run_getI {w : World} {g : Nat} {ks : List (ByteArray × Nat)} (h : MBI w g ks) (k : ByteArray) (y : ByteArray × Nat) (hk : ks.find? (fun x => decide (x.1 = k)) = some y) :
    (Instr.lookup 151 (.map (some g)) (.string k) false).run Tryz.prog w = .ok (.int .i64 y.2) w := by
  unfold MBI at h
  obtain ⟨j, hf⟩ := (findNow_entsI k ks 0 0).2 y hk
  unfold Instr.lookup
  simp only [Sem.run_bind, run_underlying Tryz.underlying151, Result.andThen, MapKept.run_getObj_map h, MapKept.run_checkKey Tryz.underlying9 (k := .string k) trivial]
  simp [go_sem, MapKept.run_findKey Tryz.underlying9 hf]
/-- A word put into a map literal, at the operation. -/
theorem wp_putI {ops : Array Oper} {rest : List Oper} {o : Oper} {a : Act} {Q : Exit → Act → World → Prop} {B : Nat} (w0 w : World) (hg : o.guard = none) (m x v : Operand) (hop : o.op = .insert 151 m x v) (g : Nat) (ks : List (ByteArray × Nat)) (k : ByteArray) (y : Nat)
    (hm : a.eval m = .map (some g)) (hx : a.eval x = .string k) (hv : a.eval v = .int .i64 y) (h : MBI w g ks) (hk : ks.find? (fun x => decide (x.1 = k)) = none) (hB : B ≤ g) (hb : Below B w0 w)
    (hK : ∀ w', MBI w' g (ks ++ [(k, y)]) → Below B w0 w' → wpList Tryz.prog ops Q rest (a.put o.dst undef) w') : wpList Tryz.prog ops Q (o :: rest) a w := by
  refine wpList_plain hg fun K' hK' => ?_
  obtain ⟨w', hrun, r1, r2⟩ := run_putI h k y hk
  unfold Oper.wp
  simp [execOp, hop, hm, hx, hv, hrun, Result.andThen]
  exact hK' _ _ (hK w' r1 (hb.trans (r2.mono hB)))
end Go.Proofs.YtneohanphabneaaGreatDoor

/-
  Contracts of the reference's reader: part.
-/
import Derived.Test.YtneohanphabneaaGreatDoorR5
namespace Go.Proofs.YtneohanphabneaaGreatDoor
open Go.RowKit Ps
theorem rbad {β : Type} {total : R β} {s : R Unit} {X Y : R β} (h : ∃ n a, s = .bad n a) (HR : Hid (total = s.bind fun _ _ => X)) : Hid (total = s.bind fun _ _ => Y) := Lib.hid (by
  obtain ⟨n, a, rfl⟩ := h
  exact HR.out)
theorem rokX {β : Type} {total : R β} {s : R Unit} {X Y : R β} (hX : X = Y) (HR : Hid (total = s.bind fun _ _ => X)) : Hid (total = s.bind fun _ _ => Y) := hX ▸ HR
theorem rneed_up {w : World} {p T : Nat} {l : List Sc.Tok} {s : R Unit} {i d : Nat} (h : RS w p T l s i d) (x : ByteArray) (hx : (∃ k, s = .ok () k) → x ≠ ⟨#[]⟩) : Calls Tryz.prog 40 #[pp p, .string x] w fun e w' =>
    ∃ q j, e = .returned (.tuple #[]) ∧ RS w' p T l q j d ∧ i ≤ j ∧ Kp w.heap.size p w w' ∧ On s (Ps.must l x i) () q j ∧ ∀ k, q = .ok () k → k = i + 1 := by
  refine (rneed_any h x hx).mono ?_
  rintro e w' ⟨j, rfl, h', le, hk⟩
  rw [rneed_u] at h'
  refine ⟨_, j, rfl, h', le, hk, fun HR => rstep h h' (fun _ _ _ => rfl) HR, fun k hk => ?_⟩
  rw [← rneed_u] at hk
  cases s with
  | bad n a => cases hk
  | ok u k0 => rw [← h.ok k0 rfl]; exact Ps.must_ok hk
set_option maxRecDepth 100000 in
set_option maxHeartbeats 4000000 in
theorem rpart_any {w : World} {p T : Nat} {l : List Sc.Tok} {s : R Unit} {i d : Nat} (h : RS w p T l s i d) (x : ByteArray) (hx : x ≠ ⟨#[]⟩) (kind : Nat) (f : Nat → R Tree)
    (hdecl : ∀ (w : World) (s : R Unit) (i : Nat), RS w p T l s i d → Calls Tryz.prog 100 #[pp p, .int .i64 kind] w fun e w' => RT (fun b => w.heap.size ≤ b) p T l i d (s.bind fun _ k => f k) e w' ∧ Kp w.heap.size p w w') :
    Calls Tryz.prog 43 #[pp p, .string x, .int .i64 kind] w fun e w' =>
    RT (fun b => w.heap.size ≤ b) p T l i d (s.bind fun _ k => Ps.section_ l x f k) e w' ∧ Kp w.heap.size p w w' := by
  obtain ⟨r, hr⟩ : ∃ r, r = s.bind fun _ k => Ps.section_ l x f k := ⟨_, rfl⟩
  rw [← hr]
  have HR := rhere h _ hr
  clear hr
  unfold Ps.section_ at HR
  have HC := Lib.hid hdecl
  clear hdecl
  unfold pp
  go_enter Tryz.func43, Tryz.ntmps43
  go_wp2_with fail
  have s1 := (Rs.start h).allocAt (w.heap.size) 25 #[.int .i64 0, .string ⟨#[]⟩, .int .i64 0, .int .i64 0, .slice none 0 0] (by simp)
  refine (rat_any s1.ps).mono ?_
  rintro e w2 ⟨rfl, hb2⟩
  have s2 := s1.below hb2
  go_wp2_with fail
  have s3 := s2.allocAt (w2.heap.size) 25 #[.int .i64 1, .string ⟨#[]⟩, .int .i64 0, .int .i64 (Ps.A l i), .slice none 0 0] (by simp)
  refine (ris_any s3.ps x (fun _ => hx)).mono ?_
  rintro e w4 ⟨⟨hq, hw, rfl, h4⟩ | ⟨hn, rfl, h4⟩, hk4⟩
  · replace HR := ryes (j := i + 1) hq hw HR
    have s4 := s3.call hk4 h4
    go_wp2_with fail
    go_loopg [] l.length (fun F wr => ∃ (q : R Unit) (j : Nat) (acc : List Tree) (go : Option Addr) (gn gc : Nat), (∀ k, q = .ok () k → l.length ≤ k + F) ∧ i ≤ j ∧ acc.length + F ≤ l.length + 1 ∧ Rs w wr p T l q j d [(w2.heap.size, 25, #[.int .i64 1, .string ⟨#[]⟩, .int .i64 0, .int .i64 (Ps.A l i), .slice go gn gc]), (w.heap.size, 25, #[.int .i64 0, .string ⟨#[]⟩, .int .i64 0, .int .i64 0, .slice none 0 0])] (.slice go gn gc, acc) [] ∧
      Hid (r = q.bind fun _ _ => (sectionLoop l f F j acc).bind fun ts i1 => R.ok (Tree.node 1 ⟨#[]⟩ 0 (A l i) ts) i1))
    case atStart => exact ⟨.ok () (i + 1), i + 1, [], none, 0, 0, fun k _ => by omega, by omega, by simp, s4, HR⟩
    case round =>
      obtain ⟨q, j, acc, go, gn, gc, hF, hij, hacc, s5, HR5⟩ := hrel
      have hOk := Lib.hid (rok_any s5.ps)
      have hjl := s5.ps.hi
      have hsm := s5.ps.small
      rcases rokB q s5.ps.bad with ⟨ho, k, rfl⟩ | ⟨ho, n, a, rfl⟩
      · have hkj := s5.ps.ok k rfl
        subst hkj
        rw [ho] at hOk
        have hF1 := hF k rfl
        cases gk with
        | zero => omega
        | succ F =>
          unfold sectionLoop at HR5
          have hW := Lib.hid (rword_any s5.ps)
          unfold pp at hOk hW
          go_wp2_with (go_at_call 18; refine hOk.out.mono ?_; rintro e w' ⟨rfl, rfl⟩)
          refine hW.out.mono ?_
          rintro e w6 ⟨rfl, hb6⟩
          have s6 := s5.below hb6
          have hN := Lib.hid (rName_any s6.ps.kl (Ps.W l k))
          clear hW hOk
          cases hw : isName (W l k) with
          | false =>
            rw [hw] at hN
            replace HR5 := rokX (Y := R.ok (Tree.node 1 ⟨#[]⟩ 0 (A l i) acc) k) (by rw [if_neg (by rw [hw]; decide)] <;> rfl) HR5
            have c0 := s6.n0.2.five
            have c1 := s6.n1.2.five
            have c2 := s6.n0.2.lt
            have c3 := s6.n1.2.lt
            have c4 := s6.d01
            go_wp2_with (go_at_call 99; refine hN.out.mono ?_; rintro e w' ⟨rfl, rfl⟩)
            clear c0 c1 c2 c3 c4
            have s7 := (s6.p1 (.int .i64 1) (.string ⟨#[]⟩) (.int .i64 0) (.int .i64 (Ps.A l i)) (.slice go gn gc)).grown
            exact bodyPost_ret (res5 Tryz.results43 rfl s7.n1.2) rfl ⟨rend s7.ps HR5 (s7.treeOf (List.mem_cons_self ..)) hij, s7.kp⟩
          | true =>
            rw [hw] at hN
            replace HR5 := rokX (Y := ((f k).bind fun t i1 => (must l ⟨#[59]⟩ i1).bind fun _ i2 => sectionLoop l f F i2 (acc ++ [t])).bind fun ts i1 => R.ok (Tree.node 1 ⟨#[]⟩ 0 (A l i) ts) i1) (by rw [if_pos hw] <;> rfl) HR5
            go_wp2_with (go_at_call 99; refine hN.out.mono ?_; rintro e w' ⟨rfl, rfl⟩)
            clear hN
            have hC6 : Blk w6.drew w2.heap.size 25 #[.int .i64 1, .string ⟨#[]⟩, .int .i64 0, .int .i64 (Ps.A l i), .slice go gn gc] := s6.n0.2
            refine Ch.wp_region_run (fun u => Blk u w2.heap.size 25 #[.int .i64 1, .string ⟨#[]⟩, .int .i64 0, .int .i64 (Ps.A l i), .slice go gn gc]) [1] [0, 1, 2, 3] [4, 5, 6, 7, 8] [6, 7, 8] (by kernel_rfl) (by kernel_rfl) (fun _ _ d _ _ h => by cases d <;> exact h) hC6 ?_
            refine Ch.take0 (v := ?v0) rfl (by rfl) ?y0 ?_
            case y0 => intro u; go_simp; rfl
            simp only [Act.put, List.setIfInBounds_toArray, List.set_cons_zero, List.set_cons_succ]
            refine Ch.load1 (v := ?v1) rfl (by rfl) ?y1 ?_
            case y1 => intro u hC; have c5 := Blk.five hC; go_simp; rfl
            simp only [Act.put, List.setIfInBounds_toArray, List.set_cons_zero, List.set_cons_succ]
            refine Ch.take2 (v := ?v2) rfl (by rfl) ?y2 ?_
            case y2 => intro u; go_simp; rfl
            simp only [Act.put, List.setIfInBounds_toArray, List.set_cons_zero, List.set_cons_succ]
            refine Ch.take3 (v := ?v3) rfl (by rfl) ?y3 ?_
            case y3 => intro u; go_simp; rfl
            simp only [Act.put, List.setIfInBounds_toArray, List.set_cons_zero, List.set_cons_succ]
            refine Ch.mid4 (by rfl) (fun K hK => ?_)
            go_simp
            have s6d := s6.drew
            refine (rt_on s6d.ps (HC.out _ _ _ s6d.ps)).mono ?_
            rintro e w7 ⟨k1, nm, num, at_, ts, so, sc, q7, i7, rfl, hrow, h7, le7, hk7, ho⟩
            replace HR5 := ho (rassoc HR5)
            clear ho
            have s7 := s6d.callKeep hk7 h7 hrow
            unfold nodeV
            refine hK _ _ s7.n0.2 ?_
            clear hK K
            refine Ch.mid5 (by rfl) (fun K hK => ?_)
            go_simp
            refine hK _ _ (s7.other _).n0.2 ?_
            clear hK K
            refine Ch.post6 rfl (by rfl) (fun K hK => ?_)
            refine s7.app1 (List.mem_cons_self ..) (.tmp 24) (.tmp 28) rfl rfl rfl (by omega) (fun go' gc' w8 s8 => ?_)
            refine hK _ _ ?_
            clear hK K
            simp only [Act.put, List.setIfInBounds_toArray, List.set_cons_zero, List.set_cons_succ]
            have c7 := s8.n0.2.five
            refine Ch.post7 rfl (by rfl) (fun K hK => ?_)
            go_simp
            refine hK _ _ ?_
            clear hK K
            refine Ch.post8 rfl (by rfl) (fun K hK => ?_)
            go_simp
            refine hK _ _ ?_
            clear hK K
            refine Ch.run_end ?_
            have s9 := s8.s04 (.slice go' (acc.length + 1) gc')
            clear c7
            go_wp2_with fail
            refine (rneed_up s9.ps ⟨#[59]⟩ (fun _ => by decide)).mono ?_
            rintro e w10 ⟨q10, j10, rfl, h10, le10, hk10, ho, hup⟩
            replace HR5 := ho (rassoc HR5)
            clear ho
            have s10 := s9.call hk10 h10
            go_wp2_with fail
            go_roundg F
            case measure => omega
            case rel => exact ⟨q10, j10, acc ++ [Tree.node k1 nm num at_ ts], go', acc.length + 1, gc', fun k' hk' => by (have := hup k' hk'; omega), by omega, by simp; omega, s10.lose, HR5⟩
      · rw [ho] at hOk
        unfold pp at hOk
        have c0 := s5.n0.2.five
        have c1 := s5.n1.2.five
        have c2 := s5.n0.2.lt
        have c3 := s5.n1.2.lt
        have c4 := s5.d01
        go_wp2_with (go_at_call 18; refine hOk.out.mono ?_; rintro e w' ⟨rfl, rfl⟩)
        clear c0 c1 c2 c3 c4
        have s6 := (s5.p1 (.int .i64 1) (.string ⟨#[]⟩) (.int .i64 0) (.int .i64 (Ps.A l i)) (.slice go gn gc)).grown
        exact bodyPost_ret (res5 Tryz.results43 rfl s6.n1.2) rfl ⟨rend s6.ps (rbad ⟨n, a, rfl⟩ HR5) (s6.treeOf (List.mem_cons_self ..)) hij, s6.kp⟩
  · replace HR := rno s3.ps hn HR
    have s4 := (s3.call hk4 h4).keepNil
    have c1 := s4.n0.2.five
    have c2 := s4.n0.2.lt
    have c3 := s4.n1.2.five
    have c5 := s4.n1.2.lt
    have c4 := s4.d01
    go_wp2_with fail
    clear c1 c2 c3 c4 c5
    have s7 := s4.p1 (.int .i64 1) (.string ⟨#[]⟩) (.int .i64 0) (.int .i64 (Ps.A l i)) (.slice none 0 0)
    exact bodyPost_ret (res5 Tryz.results43 rfl s7.n1.2) rfl ⟨rend s7.ps HR (s7.treeOf (sv := .slice none 0 0) (by simp)) (by omega), s7.kp⟩
end Go.Proofs.YtneohanphabneaaGreatDoor
/-
  Contracts of the reference's reader: kind.
-/
namespace Go.Proofs.YtneohanphabneaaGreatDoor
open Go.RowKit Ps
theorem ifmust {β : Type} (l : List Sc.Tok) (x : ByteArray) (i : Nat) (X : Nat → R β) : (if Ps.isW l i x then X (i + 1) else Ps.want l i) = (Ps.must l x i).bind fun _ j => X j := by
  unfold Ps.must
  cases Ps.isW l i x <;> rfl
section
variable {w : World} {p T : Nat} {l : List Sc.Tok} {s : R Unit} {i d : Nat} {α β : Type} {total : R β}
theorem ryesB {x : ByteArray} {X Y : R α} {K : α → Nat → R β} {j : Nat} (hs : s = .ok () i) (hw : Ps.isW l i x = true) (HR : Hid (total = s.bind fun _ _ => (if Ps.isW l i x then X else Y).bind K)) : Hid (total = (R.ok () j).bind fun _ _ => X.bind K) := Lib.hid (by
  rw [HR.out, hs, hw]; rfl)
theorem rnoB {x : ByteArray} {X Y : R α} {K : α → Nat → R β} (h : RS w p T l s i d) (hn : ∀ k, s = .ok () k → Ps.isW l k x = false) (HR : Hid (total = s.bind fun _ _ => (if Ps.isW l i x then X else Y).bind K)) : Hid (total = s.bind fun _ _ => Y.bind K) := Lib.hid (by
  rw [HR.out]
  cases s with
  | bad n a => rfl
  | ok u k =>
    have hk := h.ok k rfl
    subst hk
    show (if Ps.isW l k x then X else Y).bind K = Y.bind K
    rw [hn k rfl]; rfl)
/-- Of the levels some are left, or something is wrong already. -/
def Okp (g : Prop) (s : R Unit) : Prop := g ∨ ∃ n a, s = .bad n a
theorem On.bad {f : R α} {v : α} {q : R Unit} {j : Nat} (ho : On s f v q j) (hs : ∃ n a, s = .bad n a) : ∃ n a, q = .bad n a := by
  obtain ⟨n, a, rfl⟩ := hs
  have h := (ho (K := fun _ j => (R.ok () j : R Unit)) (total := .bad n a) (Lib.hid rfl)).out
  cases q with
  | bad m b => exact ⟨m, b, rfl⟩
  | ok u k => cases h
theorem Okp.on {g : Prop} {f : R α} {v : α} {q : R Unit} {j : Nat} (hP : Okp g s) (ho : On s f v q j) : Okp g q := hP.imp id ho.bad
theorem Okp.good {g : Prop} {s' : R Unit} {k : Nat} (hP : Okp g s) (hs : s = .ok () k) : Okp g s' := by
  rcases hP with h | ⟨n, a, rfl⟩
  · exact .inl h
  · cases hs
end
set_option maxRecDepth 100000 in
set_option maxHeartbeats 4000000 in
theorem rkind_any {w : World} {p T : Nat} {l : List Sc.Tok} {s : R Unit} {i d : Nat} (h : RS w p T l s i d) : Calls Tryz.prog 149 #[pp p] w fun e w' =>
    RT (fun b => w.heap.size ≤ b) p T l i d (s.bind fun _ k => Ps.typ l k) e w' ∧ Kp w.heap.size p w w' := by
  obtain ⟨r, hr⟩ : ∃ r, r = s.bind fun _ k => Ps.typ l k := ⟨_, rfl⟩
  rw [← hr]
  have HR := rhere h _ hr
  clear hr
  unfold Ps.typ at HR
  unfold pp
  go_enter Tryz.func149, Tryz.ntmps149
  go_wp2_with fail
  have s1 := (Rs.start h).allocAt (w.heap.size) 25 #[.int .i64 0, .string ⟨#[]⟩, .int .i64 0, .int .i64 0, .slice none 0 0] (by simp)
  refine (rat_any s1.ps).mono ?_
  rintro e w2 ⟨rfl, hb3⟩
  have s4 := s1.below hb3
  go_wp2_with fail
  have s5 := s4.allocAt (w2.heap.size) 25 #[.int .i64 0, .string ⟨#[]⟩, .int .i64 0, .int .i64 (Ps.A l i), .slice none 0 0] (by simp)
  refine (ris_any s5.ps (⟨#[65, 82, 82, 65, 89]⟩) (fun _ => by decide)).mono ?_
  rintro e w6 ⟨⟨hq7, hw8, rfl, h9⟩ | ⟨hw8, rfl, h9⟩, hk10⟩
  · replace HR := ryes (j := i + 1) hq7 hw8 HR
    have s11 := s5.call hk10 h9
    have c12 := s11.n0.2.five
    have l13 := s11.n0.2.lt
    have c14 := s11.n1.2.five
    have l15 := s11.n1.2.lt
    have d16 := s11.d01
    go_wp2_with fail
    clear c12 l13 c14 l15 d16
    have s17 := s11.s00 (.int .i64 9)
    refine (rvalue_on s17.ps).mono ?_
    rintro e w19 ⟨v18, q20, i21, rfl, h22, le23, hk24, ho25⟩
    replace HR := ho25 HR
    clear ho25
    have le23 := Lib.hid le23
    have s26 := s17.call hk24 h22
    have c27 := s26.n0.2.five
    have l28 := s26.n0.2.lt
    have c29 := s26.n1.2.five
    have l30 := s26.n1.2.lt
    have d31 := s26.d01
    go_wp2_with fail
    clear c27 l28 c29 l30 d31
    have s32 := s26.s02 (.int .i64 v18)
    refine (rneed_on s32.ps (⟨#[79, 70]⟩) (fun _ => by decide)).mono ?_
    rintro e w33 ⟨q34, i35, rfl, h36, le37, hk38, ho39⟩
    replace HR := ho39 HR
    clear ho39
    have le37 := Lib.hid le37
    have s40 := s32.call hk38 h36
    have c41 := s40.n0.2.five
    have l42 := s40.n0.2.lt
    have c43 := s40.n1.2.five
    have l44 := s40.n1.2.lt
    have d45 := s40.d01
    go_wp2_with fail
    clear c41 l42 c43 l44 d45
    refine (rt_on s40.ps (rtypeName_any s40.ps)).mono ?_
    rintro e w54 ⟨k46, nm47, num48, a49, ts50, so51, sc52, q55, i56, rfl, hrow53, h57, le58, hk59, ho60⟩
    replace HR := ho60 HR
    clear ho60
    have le58 := Lib.hid le58
    have s61 := s40.callKeep hk59 h57 hrow53
    unfold nodeV
    have c62 := s61.n0.2.five
    have l63 := s61.n0.2.lt
    have c64 := s61.n1.2.five
    have l65 := s61.n1.2.lt
    have d66 := s61.d01
    go_wp2_with fail
    clear c62 l63 c64 l65 d66
    have s67 := s61.s04 (.slice (some ⟨w54.heap.size, 0, none⟩) 1 1)
    have s68 := s67.p1 (.int .i64 9) (.string ⟨#[]⟩) (.int .i64 v18) (.int .i64 (Ps.A l i)) (.slice (some ⟨w54.heap.size, 0, none⟩) 1 1)
    have s69 := s68.built1 (k0 := k46) (nm0 := nm47) (num0 := num48) (a0 := a49) (sv0 := .slice so51 ts50.length sc52) (ts0 := ts50) (by simp) (w54.heap.size) (by simp)
    exact bodyPost_ret (res5 Tryz.results149 rfl s69.n1.2) rfl ⟨rend s69.ps HR (s69.treeOf (sv := .slice (some ⟨w54.heap.size, 0, none⟩) 1 1) (by simp)) (by have := le23.out; have := le37.out; have := le58.out; omega), s69.kp⟩
  · replace HR := rno s5.ps hw8 HR
    have s70 := s5.call hk10 h9
    have c71 := s70.n0.2.five
    have l72 := s70.n0.2.lt
    have c73 := s70.n1.2.five
    have l74 := s70.n1.2.lt
    have d75 := s70.d01
    go_wp2_with fail
    clear c71 l72 c73 l74 d75
    refine (ris_any s70.ps (⟨#[80, 79, 73, 78, 84, 69, 82]⟩) (fun _ => by decide)).mono ?_
    rintro e w76 ⟨⟨hq77, hw78, rfl, h79⟩ | ⟨hw78, rfl, h79⟩, hk80⟩
    · replace HR := ryes (j := i + 1) hq77 hw78 HR
      have s81 := s70.call hk80 h79
      have c82 := s81.n0.2.five
      have l83 := s81.n0.2.lt
      have c84 := s81.n1.2.five
      have l85 := s81.n1.2.lt
      have d86 := s81.d01
      go_wp2_with fail
      clear c82 l83 c84 l85 d86
      have s87 := s81.s00 (.int .i64 12)
      refine (rneed_on s87.ps (⟨#[84, 79]⟩) (fun _ => by decide)).mono ?_
      rintro e w88 ⟨q89, i90, rfl, h91, le92, hk93, ho94⟩
      replace HR := ho94 HR
      clear ho94
      have le92 := Lib.hid le92
      have s95 := s87.call hk93 h91
      have c96 := s95.n0.2.five
      have l97 := s95.n0.2.lt
      have c98 := s95.n1.2.five
      have l99 := s95.n1.2.lt
      have d100 := s95.d01
      go_wp2_with fail
      clear c96 l97 c98 l99 d100
      refine (rt_on s95.ps (rtypeName_any s95.ps)).mono ?_
      rintro e w109 ⟨k101, nm102, num103, a104, ts105, so106, sc107, q110, i111, rfl, hrow108, h112, le113, hk114, ho115⟩
      replace HR := ho115 HR
      clear ho115
      have le113 := Lib.hid le113
      have s116 := s95.callKeep hk114 h112 hrow108
      unfold nodeV
      have c117 := s116.n0.2.five
      have l118 := s116.n0.2.lt
      have c119 := s116.n1.2.five
      have l120 := s116.n1.2.lt
      have d121 := s116.d01
      go_wp2_with fail
      clear c117 l118 c119 l120 d121
      have s122 := s116.s04 (.slice (some ⟨w109.heap.size, 0, none⟩) 1 1)
      have s123 := s122.p1 (.int .i64 12) (.string ⟨#[]⟩) (.int .i64 0) (.int .i64 (Ps.A l i)) (.slice (some ⟨w109.heap.size, 0, none⟩) 1 1)
      have s124 := s123.built1 (k0 := k101) (nm0 := nm102) (num0 := num103) (a0 := a104) (sv0 := .slice so106 ts105.length sc107) (ts0 := ts105) (by simp) (w109.heap.size) (by simp)
      exact bodyPost_ret (res5 Tryz.results149 rfl s124.n1.2) rfl ⟨rend s124.ps HR (s124.treeOf (sv := .slice (some ⟨w109.heap.size, 0, none⟩) 1 1) (by simp)) (by have := le92.out; have := le113.out; omega), s124.kp⟩
    · replace HR := rno s70.ps hw78 HR
      have s125 := s70.call hk80 h79
      have c126 := s125.n0.2.five
      have l127 := s125.n0.2.lt
      have c128 := s125.n1.2.five
      have l129 := s125.n1.2.lt
      have d130 := s125.d01
      go_wp2_with fail
      clear c126 l127 c128 l129 d130
      have s131 := s125.s00 (.int .i64 10)
      replace HR := rokX (ifmust l _ i (fun j => (Ps.baseR l j).bind fun b i1 => (Ps.fieldsLoop l l.length i1 [b]).bind fun ts i2 => R.ok (Tree.node 10 ⟨#[]⟩ 0 (Ps.A l i) ts) i2)) HR
      refine (rneed_on s131.ps (⟨#[82, 69, 67, 79, 82, 68]⟩) (fun _ => by decide)).mono ?_
      rintro e w132 ⟨q133, i134, rfl, h135, le136, hk137, ho138⟩
      replace HR := ho138 HR
      clear ho138
      have le136 := Lib.hid le136
      have s139 := s131.call hk137 h135
      unfold Ps.baseR at HR
      go_wp2_with fail
      refine (rat_any s139.ps).mono ?_
      rintro e w140 ⟨rfl, hb141⟩
      have s142 := s139.below hb141
      go_wp2_with fail
      have s143 := s142.allocAt (w140.heap.size) 25 #[.int .i64 0, .string ⟨#[]⟩, .int .i64 0, .int .i64 (Ps.A l i134), .slice none 0 0] (by simp)
      refine (ris_any s143.ps (⟨#[40]⟩) (fun _ => by decide)).mono ?_
      rintro e w144 ⟨⟨hq145, hw146, rfl, h147⟩ | ⟨hw146, rfl, h147⟩, hk148⟩
      · replace HR := ryesB (j := i134 + 1) hq145 hw146 HR
        have s149 := s143.call hk148 h147
        go_wp2_with fail
        refine (rt_on s149.ps (rtypeName_any s149.ps)).mono ?_
        rintro e w158 ⟨k150, nm151, num152, a153, ts154, so155, sc156, q159, i160, rfl, hrow157, h161, le162, hk163, ho164⟩
        replace HR := ho164 (rassoc HR)
        clear ho164
        have le162 := Lib.hid le162
        have s165 := s149.callKeep hk163 h161 hrow157
        unfold nodeV
        have c166 := s165.n0.2.five
        have l167 := s165.n0.2.lt
        go_wp2_with fail
        clear c166 l167
        have s168 := s165.p0 (.int .i64 k150) (.string nm151) (.int .i64 num152) (.int .i64 a153) (.slice so155 ts154.length sc156)
        refine (rneed_on s168.ps (⟨#[41]⟩) (fun _ => by decide)).mono ?_
        rintro e w169 ⟨q170, i171, rfl, h172, le173, hk174, ho175⟩
        replace HR := ho175 (rassoc HR)
        clear ho175
        have le173 := Lib.hid le173
        have s176 := s168.call hk174 h172
        have c177 := s176.n0.2.five
        have l178 := s176.n0.2.lt
        have c179 := s176.n1.2.five
        have l180 := s176.n1.2.lt
        have d181 := s176.d01
        go_wp2_with fail
        clear c177 l178 c179 l180 d181
        have s182 := s176.s14 (.slice (some ⟨w169.heap.size, 0, none⟩) 1 1)
        have s183 := s182.builtG1 (k0 := k150) (nm0 := nm151) (num0 := num152) (a0 := a153) (sv0 := .slice so155 ts154.length sc156) (ts0 := ts154) (by simp) (w169.heap.size) (by simp)
        go_loopg [] l.length (fun F wr => ∃ (q : R Unit) (j : Nat) (acc : List Tree) (go : Option Addr) (gn gc : Nat), (∀ k, q = .ok () k → l.length ≤ k + F) ∧ i ≤ j ∧ acc.length + F ≤ l.length + 2 ∧ Rs w wr p T l q j d [(w140.heap.size, 25, #[.int .i64 k150, .string nm151, .int .i64 num152, .int .i64 a153, .slice so155 ts154.length sc156]), (w2.heap.size, 25, #[.int .i64 10, .string ⟨#[]⟩, .int .i64 0, .int .i64 (Ps.A l i), .slice go gn gc]), (w.heap.size, 25, #[.int .i64 0, .string ⟨#[]⟩, .int .i64 0, .int .i64 0, .slice none 0 0])] (.slice go gn gc, acc) [] ∧
          Hid (r = q.bind fun _ _ => (Ps.fieldsLoop l F j acc).bind fun ts i2 => R.ok (Tree.node 10 ⟨#[]⟩ 0 (Ps.A l i) ts) i2))
        case atStart =>
          have a0 := le136.out; have a1 := le162.out; have a2 := le173.out
          exact ⟨_, i171, [Tree.node k150 nm151 num152 a153 ts154], _, _, _, fun k hk => by omega, by omega, by simp; omega, s183.rowsOf (fun _ h => by cases h), HR⟩
        case round =>
          obtain ⟨q, j, acc, go, gn, gc, hF, hij, hacc, s5, HR⟩ := hrel
          have hjl := s5.ps.hi
          have hsm := s5.ps.small
          have hOk := Lib.hid (rok_any s5.ps)
          unfold pp at hOk
          rcases rokB q s5.ps.bad with ⟨ho187, k184, rfl⟩ | ⟨ho187, n185, a186, rfl⟩
          · have hkj := (s5.ps.ok k184 rfl).symm
            subst hkj
            rw [ho187] at hOk
            clear ho187
            have hF1 := hF _ rfl
            cases gk with
            | zero => omega
            | succ F =>
              unfold Ps.fieldsLoop at HR
              go_wp2_with (go_at_call 18; refine hOk.out.mono ?_; rintro e w' ⟨rfl, rfl⟩)
              refine (ris_any s5.ps (⟨#[69, 78, 68]⟩) (fun _ => by decide)).mono ?_
              rintro e w188 ⟨⟨hq189, hw190, rfl, h191⟩ | ⟨hw190, rfl, h191⟩, hk192⟩
              · replace HR := ryesB (j := j + 1) hq189 hw190 HR
                have s193 := s5.call hk192 h191
                have c194 := s193.n1.2.five
                have l195 := s193.n1.2.lt
                have c196 := s193.n2.2.five
                have l197 := s193.n2.2.lt
                have d198 := s193.d12
                go_wp2_with fail
                clear c194 l195 c196 l197 d198
                have s199 := s193.grown
                have s200 := s199.p2 (.int .i64 10) (.string ⟨#[]⟩) (.int .i64 0) (.int .i64 (Ps.A l i)) (.slice go gn gc)
                exact bodyPost_ret (res5 Tryz.results149 rfl s200.n2.2) rfl ⟨rend s200.ps HR (s200.treeOf (sv := .slice go gn gc) (by simp)) (by omega), s200.kp⟩
              · replace HR := rnoB s5.ps hw190 HR
                have s201 := s5.call hk192 h191
                replace HR := rassoc HR
                have c202 := s201.n1.2.five
                have l203 := s201.n1.2.lt
                go_wp2_with fail
                clear c202 l203
                have hC := s201.n1.2
                refine Ch.wp_region_run (fun u => Blk u (w2.heap.size) 25 #[.int .i64 10, .string ⟨#[]⟩, .int .i64 0, .int .i64 (Ps.A l i), .slice go gn gc]) [1] [0, 1, 2] [3, 4, 5, 6, 7] [5, 6, 7] (by kernel_rfl) (by kernel_rfl) (fun _ _ d _ _ h => by cases d <;> exact h) (hC) ?_
                clear hC
                have s204 := s201.drew
                refine Ch.take0 (v := ?v205) rfl (by rfl) ?y206 ?_
                case y206 => intro u; go_simp; rfl
                simp only [Act.put, List.setIfInBounds_toArray, List.set_cons_zero, List.set_cons_succ]
                refine Ch.load1 (v := ?v207) rfl (by rfl) ?y208 ?_
                case y208 => intro u hC; have c5 := Blk.five hC; go_simp; rfl
                simp only [Act.put, List.setIfInBounds_toArray, List.set_cons_zero, List.set_cons_succ]
                refine Ch.take2 (v := ?v209) rfl (by rfl) ?y210 ?_
                case y210 => intro u; go_simp; rfl
                simp only [Act.put, List.setIfInBounds_toArray, List.set_cons_zero, List.set_cons_succ]
                refine Ch.mid3 (by rfl) (fun K hK => ?_)
                go_simp
                refine (rt_on s204.ps (rdecl_field s204.ps)).mono ?_
                rintro e w219 ⟨k211, nm212, num213, a214, ts215, so216, sc217, q220, i221, rfl, hrow218, h222, le223, hk224, ho225⟩
                replace HR := ho225 HR
                clear ho225
                have le223 := Lib.hid le223
                have s226 := s204.callKeep hk224 h222 hrow218
                unfold nodeV
                refine hK _ _ (s226.n1.2) ?_
                clear hK K
                try simp only [Act.put, List.setIfInBounds_toArray, List.set_cons_zero, List.set_cons_succ]
                refine Ch.mid4 (by rfl) (fun K hK => ?_)
                go_simp
                refine hK _ _ ((s226.other _).n1.2) ?_
                clear hK K
                try simp only [Act.put, List.setIfInBounds_toArray, List.set_cons_zero, List.set_cons_succ]
                refine Ch.post5 rfl (by rfl) (fun K hK => ?_)
                refine s226.app1 (List.mem_cons_self ..) (.tmp 52) (.tmp 55) rfl rfl rfl (by omega) (fun go227 gc228 w229 s230 => ?_)
                refine hK _ _ ?_
                clear hK K
                try simp only [Act.put, List.setIfInBounds_toArray, List.set_cons_zero, List.set_cons_succ]
                have c7 := s230.n1.2.five
                refine Ch.post6 rfl (by rfl) (fun K hK => ?_)
                go_simp
                refine hK _ _ ?_
                clear hK K
                try simp only [Act.put, List.setIfInBounds_toArray, List.set_cons_zero, List.set_cons_succ]
                refine Ch.post7 rfl (by rfl) (fun K hK => ?_)
                go_simp
                refine hK _ _ ?_
                clear hK K
                try simp only [Act.put, List.setIfInBounds_toArray, List.set_cons_zero, List.set_cons_succ]
                refine Ch.run_end ?_
                have s231 := s230.s14 (.slice go227 (acc.length + 1) gc228)
                clear c7
                go_wp2_with fail
                replace HR := rassoc HR
                refine (rneed_up s231.ps (⟨#[59]⟩) (fun _ => by decide)).mono ?_
                rintro e w232 ⟨q233, j234, rfl, h235, le236, hk237, ho238, hup239⟩
                replace HR := ho238 HR
                clear ho238
                have le236 := Lib.hid le236
                have s240 := s231.call hk237 h235
                go_wp2_with fail
                go_roundg F
                case measure => omega
                case rel =>
                  have a0 := le223.out; have a1 := le236.out
                  exact ⟨_, j234, acc ++ [Tree.node k211 nm212 num213 a214 ts215], go227, acc.length + 1, gc228, fun k hk => (by have := hup239 k hk; omega), by omega, by simp; omega, s240.rowsOf (fun _ h => by cases h), HR⟩
          · rw [ho187] at hOk
            clear ho187
            have c241 := s5.n1.2.five
            have l242 := s5.n1.2.lt
            have c243 := s5.n2.2.five
            have l244 := s5.n2.2.lt
            have d245 := s5.d12
            go_wp2_with (go_at_call 18; refine hOk.out.mono ?_; rintro e w' ⟨rfl, rfl⟩)
            clear c241 l242 c243 l244 d245
            have s246 := s5.grown
            replace HR := rbad (Y := R.ok (Tree.node 10 ⟨#[]⟩ 0 (Ps.A l i) acc) j) ⟨n185, a186, rfl⟩ HR
            have s247 := s246.p2 (.int .i64 10) (.string ⟨#[]⟩) (.int .i64 0) (.int .i64 (Ps.A l i)) (.slice go gn gc)
            exact bodyPost_ret (res5 Tryz.results149 rfl s247.n2.2) rfl ⟨rend s247.ps HR (s247.treeOf (sv := .slice go gn gc) (by simp)) (by omega), s247.kp⟩
      · replace HR := rnoB s143.ps hw146 HR
        have s248 := s143.call hk148 h147
        have c249 := s248.n0.2.five
        have l250 := s248.n0.2.lt
        have c251 := s248.n1.2.five
        have l252 := s248.n1.2.lt
        have d253 := s248.d01
        go_wp2_with fail
        clear c249 l250 c251 l252 d253
        have s254 := s248.s14 (.slice (some ⟨w144.heap.size, 0, none⟩) 1 1)
        have s255 := s254.keepNil
        have s256 := s255.builtG1 (k0 := 0) (nm0 := ⟨#[]⟩) (num0 := 0) (a0 := (Ps.A l i134)) (sv0 := .slice none 0 0) (ts0 := []) (by simp) (w144.heap.size) (by simp)
        go_loopg [] l.length (fun F wr => ∃ (q : R Unit) (j : Nat) (acc : List Tree) (go : Option Addr) (gn gc : Nat), (∀ k, q = .ok () k → l.length ≤ k + F) ∧ i ≤ j ∧ acc.length + F ≤ l.length + 2 ∧ Rs w wr p T l q j d [(w140.heap.size, 25, #[.int .i64 0, .string ⟨#[]⟩, .int .i64 0, .int .i64 (Ps.A l i134), .slice none 0 0]), (w2.heap.size, 25, #[.int .i64 10, .string ⟨#[]⟩, .int .i64 0, .int .i64 (Ps.A l i), .slice go gn gc]), (w.heap.size, 25, #[.int .i64 0, .string ⟨#[]⟩, .int .i64 0, .int .i64 0, .slice none 0 0])] (.slice go gn gc, acc) [] ∧
          Hid (r = q.bind fun _ _ => (Ps.fieldsLoop l F j acc).bind fun ts i2 => R.ok (Tree.node 10 ⟨#[]⟩ 0 (Ps.A l i) ts) i2))
        case atStart =>
          have a0 := le136.out
          exact ⟨_, i134, [Tree.node 0 ⟨#[]⟩ 0 (Ps.A l i134) []], _, _, _, fun k hk => by omega, by omega, by simp; omega, s256.rowsOf (fun _ h => by cases h), HR⟩
        case round =>
          obtain ⟨q, j, acc, go, gn, gc, hF, hij, hacc, s5, HR⟩ := hrel
          have hjl := s5.ps.hi
          have hsm := s5.ps.small
          have hOk := Lib.hid (rok_any s5.ps)
          unfold pp at hOk
          rcases rokB q s5.ps.bad with ⟨ho260, k257, rfl⟩ | ⟨ho260, n258, a259, rfl⟩
          · have hkj := (s5.ps.ok k257 rfl).symm
            subst hkj
            rw [ho260] at hOk
            clear ho260
            have hF1 := hF _ rfl
            cases gk with
            | zero => omega
            | succ F =>
              unfold Ps.fieldsLoop at HR
              go_wp2_with (go_at_call 18; refine hOk.out.mono ?_; rintro e w' ⟨rfl, rfl⟩)
              refine (ris_any s5.ps (⟨#[69, 78, 68]⟩) (fun _ => by decide)).mono ?_
              rintro e w261 ⟨⟨hq262, hw263, rfl, h264⟩ | ⟨hw263, rfl, h264⟩, hk265⟩
              · replace HR := ryesB (j := j + 1) hq262 hw263 HR
                have s266 := s5.call hk265 h264
                have c267 := s266.n1.2.five
                have l268 := s266.n1.2.lt
                have c269 := s266.n2.2.five
                have l270 := s266.n2.2.lt
                have d271 := s266.d12
                go_wp2_with fail
                clear c267 l268 c269 l270 d271
                have s272 := s266.grown
                have s273 := s272.p2 (.int .i64 10) (.string ⟨#[]⟩) (.int .i64 0) (.int .i64 (Ps.A l i)) (.slice go gn gc)
                exact bodyPost_ret (res5 Tryz.results149 rfl s273.n2.2) rfl ⟨rend s273.ps HR (s273.treeOf (sv := .slice go gn gc) (by simp)) (by omega), s273.kp⟩
              · replace HR := rnoB s5.ps hw263 HR
                have s274 := s5.call hk265 h264
                replace HR := rassoc HR
                have c275 := s274.n1.2.five
                have l276 := s274.n1.2.lt
                go_wp2_with fail
                clear c275 l276
                have hC := s274.n1.2
                refine Ch.wp_region_run (fun u => Blk u (w2.heap.size) 25 #[.int .i64 10, .string ⟨#[]⟩, .int .i64 0, .int .i64 (Ps.A l i), .slice go gn gc]) [1] [0, 1, 2] [3, 4, 5, 6, 7] [5, 6, 7] (by kernel_rfl) (by kernel_rfl) (fun _ _ d _ _ h => by cases d <;> exact h) (hC) ?_
                clear hC
                have s277 := s274.drew
                refine Ch.take0 (v := ?v278) rfl (by rfl) ?y279 ?_
                case y279 => intro u; go_simp; rfl
                simp only [Act.put, List.setIfInBounds_toArray, List.set_cons_zero, List.set_cons_succ]
                refine Ch.load1 (v := ?v280) rfl (by rfl) ?y281 ?_
                case y281 => intro u hC; have c5 := Blk.five hC; go_simp; rfl
                simp only [Act.put, List.setIfInBounds_toArray, List.set_cons_zero, List.set_cons_succ]
                refine Ch.take2 (v := ?v282) rfl (by rfl) ?y283 ?_
                case y283 => intro u; go_simp; rfl
                simp only [Act.put, List.setIfInBounds_toArray, List.set_cons_zero, List.set_cons_succ]
                refine Ch.mid3 (by rfl) (fun K hK => ?_)
                go_simp
                refine (rt_on s277.ps (rdecl_field s277.ps)).mono ?_
                rintro e w292 ⟨k284, nm285, num286, a287, ts288, so289, sc290, q293, i294, rfl, hrow291, h295, le296, hk297, ho298⟩
                replace HR := ho298 HR
                clear ho298
                have le296 := Lib.hid le296
                have s299 := s277.callKeep hk297 h295 hrow291
                unfold nodeV
                refine hK _ _ (s299.n1.2) ?_
                clear hK K
                try simp only [Act.put, List.setIfInBounds_toArray, List.set_cons_zero, List.set_cons_succ]
                refine Ch.mid4 (by rfl) (fun K hK => ?_)
                go_simp
                refine hK _ _ ((s299.other _).n1.2) ?_
                clear hK K
                try simp only [Act.put, List.setIfInBounds_toArray, List.set_cons_zero, List.set_cons_succ]
                refine Ch.post5 rfl (by rfl) (fun K hK => ?_)
                refine s299.app1 (List.mem_cons_self ..) (.tmp 52) (.tmp 55) rfl rfl rfl (by omega) (fun go300 gc301 w302 s303 => ?_)
                refine hK _ _ ?_
                clear hK K
                try simp only [Act.put, List.setIfInBounds_toArray, List.set_cons_zero, List.set_cons_succ]
                have c7 := s303.n1.2.five
                refine Ch.post6 rfl (by rfl) (fun K hK => ?_)
                go_simp
                refine hK _ _ ?_
                clear hK K
                try simp only [Act.put, List.setIfInBounds_toArray, List.set_cons_zero, List.set_cons_succ]
                refine Ch.post7 rfl (by rfl) (fun K hK => ?_)
                go_simp
                refine hK _ _ ?_
                clear hK K
                try simp only [Act.put, List.setIfInBounds_toArray, List.set_cons_zero, List.set_cons_succ]
                refine Ch.run_end ?_
                have s304 := s303.s14 (.slice go300 (acc.length + 1) gc301)
                clear c7
                go_wp2_with fail
                replace HR := rassoc HR
                refine (rneed_up s304.ps (⟨#[59]⟩) (fun _ => by decide)).mono ?_
                rintro e w305 ⟨q306, j307, rfl, h308, le309, hk310, ho311, hup312⟩
                replace HR := ho311 HR
                clear ho311
                have le309 := Lib.hid le309
                have s313 := s304.call hk310 h308
                go_wp2_with fail
                go_roundg F
                case measure => omega
                case rel =>
                  have a0 := le296.out; have a1 := le309.out
                  exact ⟨_, j307, acc ++ [Tree.node k284 nm285 num286 a287 ts288], go300, acc.length + 1, gc301, fun k hk => (by have := hup312 k hk; omega), by omega, by simp; omega, s313.rowsOf (fun _ h => by cases h), HR⟩
          · rw [ho260] at hOk
            clear ho260
            have c314 := s5.n1.2.five
            have l315 := s5.n1.2.lt
            have c316 := s5.n2.2.five
            have l317 := s5.n2.2.lt
            have d318 := s5.d12
            go_wp2_with (go_at_call 18; refine hOk.out.mono ?_; rintro e w' ⟨rfl, rfl⟩)
            clear c314 l315 c316 l317 d318
            have s319 := s5.grown
            replace HR := rbad (Y := R.ok (Tree.node 10 ⟨#[]⟩ 0 (Ps.A l i) acc) j) ⟨n258, a259, rfl⟩ HR
            have s320 := s319.p2 (.int .i64 10) (.string ⟨#[]⟩) (.int .i64 0) (.int .i64 (Ps.A l i)) (.slice go gn gc)
            exact bodyPost_ret (res5 Tryz.results149 rfl s320.n2.2) rfl ⟨rend s320.ps HR (s320.treeOf (sv := .slice go gn gc) (by simp)) (by omega), s320.kp⟩
end Go.Proofs.YtneohanphabneaaGreatDoor

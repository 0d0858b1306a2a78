/-
  Contracts of the program's parser: a designator.
-/
import Derived.Test.YtneohanphabneaaGreatDoorMP7
namespace Go.Proofs.YtneohanphabneaaGreatDoor
open Go.RowKit Ps

set_option maxRecDepth 100000 in
set_option maxHeartbeats 1000000 in
theorem pover_bad {w u : World} {p T : Nat} {l : List Sc.Tok} {j d : Nat} {B1 B2 B3 B4 B5 st at_ k num : Nat} {nm : ByteArray} {so : Option Addr} {sn sc : Nat} {rs : List Rw} (h : St w u p T l j d [(B5, 3, #[.int .i64 (st : Nat)]), (B4, 3, #[.int .i64 (at_ : Nat)]), (B3, 25, #[.int .i64 (k : Nat), .string nm, .int .i64 (num : Nat), .int .i64 (at_ : Nat), .slice so sn sc]), (B2, 25, #[.int .i64 0, .string ⟨#[]⟩, .int .i64 0, .int .i64 0, .slice none 0 0]), (B1, 62, #[.pointer (some ⟨p, 0, none⟩)])] g0 rs) (hst : st = 20) (kind : Nat) (nm' : ByteArray) (lo : Option Addr) (ln lc : Nat) : Calls Tryz.prog 189 #[.int .i64 kind, .string nm', .slice lo ln lc, .pointer (some ⟨B5, 0, none⟩), .pointer (some ⟨B1, 0, none⟩), .pointer (some ⟨B4, 0, none⟩), .pointer (some ⟨B3, 0, none⟩)] u fun e u' =>
    Pan u' p 3 (Ps.A l j) e ∧ Kp w.heap.size p w u' := by
  subst hst
  have q0 := h.n0.2.one
  have q1 := h.n0.2.lt
  have q2 := h.n4.2.one
  have q3 := h.n4.2.lt
  have q4 := h.d04
  go_enter Tryz.func189, Tryz.ntmps189
  go_wp2_with fail
  clear q0 q1 q2 q3 q4
  have s1 := h.o0 (.int .i64 21)
  refine (pfail_any s1.ps 3).mono ?_
  rintro e w2 ⟨⟨g, rfl, hg⟩, hk3⟩
  exact ⟨rfl, ⟨g, rfl, hg⟩, s1.pan hk3⟩
set_option maxRecDepth 100000 in
set_option maxHeartbeats 1000000 in
theorem pover_ok {w u : World} {p T : Nat} {l : List Sc.Tok} {j d : Nat} {B1 B2 B3 B4 B5 st at_ k num : Nat} {nm : ByteArray} {so : Option Addr} {sn sc : Nat} {ts us : List Tree} {rs : List Rw} (h : St w u p T l j d [(B5, 3, #[.int .i64 (st : Nat)]), (B4, 3, #[.int .i64 (at_ : Nat)]), (B3, 25, #[.int .i64 (k : Nat), .string nm, .int .i64 (num : Nat), .int .i64 (at_ : Nat), .slice so sn sc]), (B2, 25, #[.int .i64 0, .string ⟨#[]⟩, .int .i64 0, .int .i64 0, .slice none 0 0]), (B1, 62, #[.pointer (some ⟨p, 0, none⟩)])] g0 rs) (hm : (.slice so sn sc, ts) ∈ rs) (hst : st < 20) (hul : us.length ≤ 1000) (kind : Nat) (nm' : ByteArray) (lo : Option Addr) (ln lc : Nat) (hl : (.slice lo ln lc, us) ∈ rs) : Calls Tryz.prog 189 #[.int .i64 kind, .string nm', .slice lo ln lc, .pointer (some ⟨B5, 0, none⟩), .pointer (some ⟨B1, 0, none⟩), .pointer (some ⟨B4, 0, none⟩), .pointer (some ⟨B3, 0, none⟩)] u fun e u' =>
    e = .returned (.tuple #[]) ∧ ∃ go gn gc, St w u' p T l j d [(B5, 3, #[.int .i64 (st + 1 : Nat)]), (B4, 3, #[.int .i64 (at_ : Nat)]), (B3, 25, #[.int .i64 (kind : Nat), .string nm', .int .i64 (0 : Nat), .int .i64 (at_ : Nat), .slice go gn gc]), (B2, 25, #[.int .i64 0, .string ⟨#[]⟩, .int .i64 0, .int .i64 0, .slice none 0 0]), (B1, 62, #[.pointer (some ⟨p, 0, none⟩)])] g0 [(.slice go gn gc, Tree.node k nm num at_ ts :: us)] := by
  have q0 := h.n0.2.one
  have q1 := h.n0.2.lt
  have q2 := h.n4.2.one
  have q3 := h.n4.2.lt
  have q4 := h.d04
  go_enter Tryz.func189, Tryz.ntmps189
  go_wp2_with fail
  clear q0 q1 q2 q3 q4
  have s4 := h.o0 (.int .i64 (st + 1 : Nat))
  refine Ch.wp_region_run (fun u => Blk u B4 3 #[.int .i64 (at_ : Nat)] ∧ Blk u B3 25 #[.int .i64 (k : Nat), .string nm, .int .i64 (num : Nat), .int .i64 (at_ : Nat), .slice so sn sc]) [2, 3] [0, 1, 2, 3, 5] [4, 6, 7, 8] [8] (by kernel_rfl) (by kernel_rfl) (fun _ _ d _ _ h => by cases d <;> exact h) (⟨s4.n1.2, s4.n2.2⟩) ?_
  refine Ch.take0 (v := ?v5) rfl (by rfl) ?y6 ?_
  case y6 => intro u; go_simp; rfl
  simp only [Act.put, List.setIfInBounds_toArray, List.set_cons_zero, List.set_cons_succ]
  refine Ch.take1 (v := ?v7) rfl (by rfl) ?y8 ?_
  case y8 => intro u; go_simp; rfl
  simp only [Act.put, List.setIfInBounds_toArray, List.set_cons_zero, List.set_cons_succ]
  refine Ch.load2 (v := ?v9) rfl (by rfl) ?y10 ?_
  case y10 => intro u hC; have c5 := Blk.one hC.1; go_simp; rfl
  simp only [Act.put, List.setIfInBounds_toArray, List.set_cons_zero, List.set_cons_succ]
  refine Ch.load3 (v := ?v11) rfl (by rfl) ?y12 ?_
  case y12 => intro u hC; have c5 := Blk.five hC.2; go_simp; rfl
  simp only [Act.put, List.setIfInBounds_toArray, List.set_cons_zero, List.set_cons_succ]
  refine Ch.take5 (v := ?v13) rfl (by rfl) ?y14 ?_
  case y14 => intro u; go_simp; rfl
  simp only [Act.put, List.setIfInBounds_toArray, List.set_cons_zero, List.set_cons_succ]
  refine Ch.mid4 (by rfl) (fun K hK => ?_)
  go_simp
  have s15 := s4.builtG1 (k0 := k) (nm0 := nm) (num0 := num) (a0 := at_) (sv0 := .slice so sn sc) (ts0 := ts) hm (u.heap.size) (by simp)
  have s16 := s15.drew
  refine hK _ _ (⟨s16.n1.2, s16.n2.2⟩) ?_
  clear hK K
  try simp only [Act.put, List.setIfInBounds_toArray, List.set_cons_zero, List.set_cons_succ]
  refine Ch.mid6 (by rfl) (fun K hK => ?_)
  refine s16.appAll hl (.tmp 20) (.tmp 21) rfl rfl rfl (Nat.succ_pos _) (by show 1 + us.length ≤ 1000000; omega) (fun go17 gn18 gc19 w20 s21 => ?_)
  refine hK _ _ (⟨s21.n1.2, s21.n2.2⟩) ?_
  clear hK K
  try simp only [Act.put, List.setIfInBounds_toArray, List.set_cons_zero, List.set_cons_succ]
  refine Ch.mid7 (by rfl) (fun K hK => ?_)
  go_simp
  refine hK _ _ (⟨s21.n1.2, s21.n2.2⟩) ?_
  clear hK K
  try simp only [Act.put, List.setIfInBounds_toArray, List.set_cons_zero, List.set_cons_succ]
  have c7 := s21.n2.2.five
  refine Ch.post8 rfl (by rfl) (fun K hK => ?_)
  go_simp
  refine hK _ _ ?_
  clear hK K
  try simp only [Act.put, List.setIfInBounds_toArray, List.set_cons_zero, List.set_cons_succ]
  refine Ch.run_end ?_
  have s22 := s21.p2 (.int .i64 (kind : Nat)) (.string nm') (.int .i64 (0 : Nat)) (.int .i64 (at_ : Nat)) (.slice go17 gn18 gc19)
  have s23 := s22.grown
  go_wp2_with fail
  go_end0
  exact ⟨rfl, go17, gn18, gc19, s23.rowsOf (fun _ h => by simp at h; simp [h])⟩
set_option maxRecDepth 100000 in
set_option maxHeartbeats 1000000 in
theorem pdesignator_any {w : World} {p T : Nat} {l : List Sc.Tok} {i d : Nat} (h : PS w p T l i d) (ex : List Sc.Tok → Nat → R Tree) (hex : CT 59 d ex) : Calls Tryz.prog 165 #[pp p] w fun e w' =>
    PT (fun b => w.heap.size ≤ b) p T l i d (Ps.desig l (ex l) i) e w' ∧ Kp w.heap.size p w w' := by
  obtain ⟨r, hr⟩ : ∃ r, r = Ps.desig l (ex l) i := ⟨_, rfl⟩
  rw [← hr]
  unfold Ps.desig at hr
  have HR := Lib.hid hr
  clear hr
  have hmf : ∀ (fn : Fn) (first cap : Array Value) (w : World), (Instr.makeFunc fn first cap).run Tryz.prog w = .ok (.func fn first cap) w := fun _ _ _ _ => rfl
  unfold pp
  go_enter Tryz.func165, Tryz.ntmps165
  go_wp2_with fail
  have s24 := (St.start h).allocAt (w.heap.size) 62 #[.pointer (some ⟨p, 0, none⟩)] (by simp)
  have s25 := s24.allocAt (w.heap.size + 1) 25 #[.int .i64 0, .string ⟨#[]⟩, .int .i64 0, .int .i64 0, .slice none 0 0] (by simp)
  refine (pnode_any s25.ps 24).mono ?_
  rintro e w26 ⟨rfl, hb27⟩
  have s28 := s25.below hb27
  unfold nodeV
  have c29 := s28.n1.2.one
  have l30 := s28.n1.2.lt
  go_wp2_with fail
  clear c29 l30
  have s31 := s28.allocAt (w26.heap.size) 25 #[.int .i64 24, .string ⟨#[]⟩, .int .i64 0, .int .i64 (Ps.A l i), .slice none 0 0] (by simp)
  have s32 := s31.allocAt (w26.heap.size + 1) 3 #[.int .i64 (Ps.A l i)] (by simp)
  refine (pname_any s32.ps).mono ?_
  rintro e w37 ⟨ht38, hk39⟩
  rcases ht38.or with ⟨n, a, hr40, g, rfl, hg⟩ | ⟨nm33, i34, hn35, rfl, hp36⟩
  · exact ⟨rfl, .bad (step_bad HR hr40) ⟨g, rfl, hg⟩, s32.pan hk39⟩
  clear ht38
  replace HR := step_ok HR hn35
  have le41 := Lib.hid (Ps.name_ok hn35).1
  have s42 := s32.call hk39 hp36
  have c43 := s42.n1.2.five
  have l44 := s42.n1.2.lt
  go_wp2_with fail
  clear c43 l44
  have s45 := s42.s11 (.string nm33)
  have s46 := s45.allocAt (w37.heap.size) 3 #[.int .i64 0] (by simp)
  go_loopg [] 20 (fun F wr => ∃ (j k : Nat) (nm : ByteArray) (num : Nat) (so : Option Addr) (sn sc : Nat) (ts : List Tree), F ≤ 20 ∧ i ≤ j ∧ St w wr p T l j d [(w37.heap.size, 3, #[.int .i64 (20 - F : Nat)]), (w26.heap.size + 1, 3, #[.int .i64 (Ps.A l i)]), (w26.heap.size, 25, #[.int .i64 (k : Nat), .string nm, .int .i64 (num : Nat), .int .i64 (Ps.A l i : Nat), .slice so sn sc]), (w.heap.size + 1, 25, #[.int .i64 0, .string ⟨#[]⟩, .int .i64 0, .int .i64 0, .slice none 0 0]), (w.heap.size, 62, #[.pointer (some ⟨p, 0, none⟩)])] g0 [(.slice so sn sc, ts)] ∧
    Hid (r = desigLoop l (ex l) (Ps.A l i) F (.node k nm num (Ps.A l i) ts) j))
  case atStart => have a0 := le41.out; exact ⟨i34, 24, nm33, 0, none, 0, 0, [], by omega, by omega, s46.keepNil, HR⟩
  case round =>
    obtain ⟨j, k, nm, num, so, sn, sc, ts, hF, hij, s4, HR⟩ := hrel
    unfold desigLoop Ps.step at HR
    have c47 := s4.n4.2.one
    have l48 := s4.n4.2.lt
    go_wp2_with fail
    clear c47 l48
    refine (ptake_or s4.ps (⟨#[46]⟩) (by decide)).mono ?_
    rintro e w49 (⟨hi50, rfl, hp51, hk52⟩ | ⟨hi50, rfl, hp51, hk52⟩)
    · have s53 := s4.call hk52 hp51
      replace HR := step_elseB HR hi50
      have c54 := s53.n4.2.one
      have l55 := s53.n4.2.lt
      go_wp2_with fail
      clear c54 l55
      refine (ptake_or s53.ps (⟨#[91]⟩) (by decide)).mono ?_
      rintro e w56 (⟨hi57, rfl, hp58, hk59⟩ | ⟨hi57, rfl, hp58, hk59⟩)
      · have s60 := s53.call hk59 hp58
        replace HR := step_elseB HR hi57
        have c61 := s60.n4.2.one
        have l62 := s60.n4.2.lt
        go_wp2_with fail
        clear c61 l62
        refine (ptake_or s60.ps (⟨#[94]⟩) (by decide)).mono ?_
        rintro e w63 (⟨hi64, rfl, hp65, hk66⟩ | ⟨hi64, rfl, hp65, hk66⟩)
        · have s67 := s60.call hk66 hp65
          replace HR := step_elseB HR hi64
          have c68 := s67.n4.2.one
          have l69 := s67.n4.2.lt
          go_wp2_with fail
          clear c68 l69
          refine (ptake_or s67.ps (⟨#[123]⟩) (by decide)).mono ?_
          rintro e w70 (⟨hi71, rfl, hp72, hk73⟩ | ⟨hi71, rfl, hp72, hk73⟩)
          · have s74 := s67.call hk73 hp72
            replace HR := step_elseB HR hi71
            have c75 := s74.n2.2.five
            have l76 := s74.n2.2.lt
            have c77 := s74.n3.2.five
            have l78 := s74.n3.2.lt
            have d79 := s74.d23
            go_wp2_with fail
            clear c75 l76 c77 l78 d79
            have s80 := s74.p3 (.int .i64 (k : Nat)) (.string nm) (.int .i64 (num : Nat)) (.int .i64 (Ps.A l i : Nat)) (.slice so sn sc)
            exact bodyPost_ret (res5 Tryz.results165 rfl s80.n3.2) rfl ⟨.ok (HR.out.trans rfl) rfl (s80.treeOf (sv := .slice so sn sc) (by simp)) s80.ps (by omega), s80.kp⟩
          · have s81 := s67.call hk73 hp72
            replace HR := step_as (step_ifB HR hi71)
            have c82 := s81.n4.2.one
            have l83 := s81.n4.2.lt
            go_wp2_with fail
            clear c82 l83
            refine (ptypeName_any s81.ps).mono ?_
            rintro e w96 ⟨ht97, hk98⟩
            rcases ht97.or with ⟨n, a, hr99, g, rfl, hg⟩ | ⟨k84, nm85, num86, a87, ts88, so89, sc90, i91, hn92, rfl, hrow93, hp94, le95⟩
            · exact ⟨rfl, .bad (step_bad HR hr99) ⟨g, rfl, hg⟩, s81.pan hk98⟩
            clear ht97
            replace HR := step_as (step_ok HR hn92)
            have le95 := Lib.hid le95
            have s100 := s81.callKeep hk98 hp94 hrow93
            unfold nodeV
            have c101 := s100.n4.2.one
            have l102 := s100.n4.2.lt
            go_wp2_with fail
            clear c101 l102
            have s103 := s100.allocAt (w96.heap.size) 25 #[.int .i64 k84, .string nm85, .int .i64 num86, .int .i64 a87, .slice so89 ts88.length sc90] (by simp)
            refine (pmust_any s103.ps (⟨#[125]⟩) (by decide)).mono ?_
            rintro e w107 ⟨ht108, hk109⟩
            rcases ht108.or with ⟨n, a, hr110, g, rfl, hg⟩ | ⟨i104, hn105, rfl, hp106⟩
            · exact ⟨rfl, .bad (step_bad HR hr110) ⟨g, rfl, hg⟩, s103.pan hk109⟩
            clear ht108
            replace HR := step_ok HR hn105
            have le111 := Lib.hid (Ps.must_ok hn105)
            have s112 := s103.call hk109 hp106
            have c113 := s112.n0.2.five
            have l114 := s112.n0.2.lt
            go_wp2_with fail
            clear c113 l114
            have s115 := s112.built1 (k0 := k84) (nm0 := nm85) (num0 := num86) (a0 := a87) (sv0 := .slice so89 ts88.length sc90) (ts0 := ts88) (by simp) (w107.heap.size) (by simp)
            have s116 := s115.drop
            cases gk with
            | zero =>
              refine (pover_bad s116 (by decide) 28 (⟨#[]⟩) _ _ _).mono ?_
              rintro e w117 ⟨⟨g, rfl, hg⟩, hk118⟩
              exact ⟨rfl, .bad (HR.out.trans rfl) ⟨g, rfl, hg⟩, hk118⟩
            | succ F =>
              refine (pover_ok s116 (ts := ts) (us := [Tree.node k84 nm85 num86 a87 ts88]) (by simp) (by omega) (by simp) 28 (⟨#[]⟩) _ _ _ (List.mem_cons_self ..)).mono ?_
              rintro e w119 ⟨rfl, go121, gn122, gc123, s120⟩
              rw [show 20 - (F + 1) + 1 = 20 - F from by omega] at s120
              go_wp2_with fail
              go_roundg F
              case measure => omega
              case rel => have a0 := le95.out; have a1 := le111.out; exact ⟨i104, 28, ⟨#[]⟩, 0, go121, gn122, gc123, _, by omega, by omega, s120, HR⟩
        · have s124 := s60.call hk66 hp65
          replace HR := step_ifB HR hi64
          go_wp2_with fail
          have s125 := s124.keepNil
          cases gk with
          | zero =>
            refine (pover_bad s125 (by decide) 27 (⟨#[]⟩) _ _ _).mono ?_
            rintro e w126 ⟨⟨g, rfl, hg⟩, hk127⟩
            exact ⟨rfl, .bad (HR.out.trans rfl) ⟨g, rfl, hg⟩, hk127⟩
          | succ F =>
            refine (pover_ok s125 (ts := ts) (us := []) (by simp) (by omega) (by simp) 27 (⟨#[]⟩) _ _ _ (by simp)).mono ?_
            rintro e w128 ⟨rfl, go130, gn131, gc132, s129⟩
            rw [show 20 - (F + 1) + 1 = 20 - F from by omega] at s129
            go_wp2_with fail
            go_roundg F
            case measure => omega
            case rel => skip; exact ⟨(j + 1), 27, ⟨#[]⟩, 0, go130, gn131, gc132, _, by omega, by omega, s129, HR⟩
      · have s133 := s53.call hk59 hp58
        replace HR := step_as (step_ifB HR hi57)
        have c134 := s133.n4.2.one
        have l135 := s133.n4.2.lt
        go_wp2_with fail
        clear c134 l135
        refine (hex _ _ _ _ _ s133.ps).mono ?_
        rintro e w148 ⟨ht149, hk150⟩
        rcases ht149.or with ⟨n, a, hr151, g, rfl, hg⟩ | ⟨k136, nm137, num138, a139, ts140, so141, sc142, i143, hn144, rfl, hrow145, hp146, le147⟩
        · exact ⟨rfl, .bad (step_bad HR hr151) ⟨g, rfl, hg⟩, s133.pan hk150⟩
        clear ht149
        replace HR := step_as (step_ok HR hn144)
        have le147 := Lib.hid le147
        have s152 := s133.callKeep hk150 hp146 hrow145
        unfold nodeV
        have c153 := s152.n4.2.one
        have l154 := s152.n4.2.lt
        go_wp2_with fail
        clear c153 l154
        have s155 := s152.allocAt (w148.heap.size) 25 #[.int .i64 k136, .string nm137, .int .i64 num138, .int .i64 a139, .slice so141 ts140.length sc142] (by simp)
        refine (pmust_any s155.ps (⟨#[93]⟩) (by decide)).mono ?_
        rintro e w159 ⟨ht160, hk161⟩
        rcases ht160.or with ⟨n, a, hr162, g, rfl, hg⟩ | ⟨i156, hn157, rfl, hp158⟩
        · exact ⟨rfl, .bad (step_bad HR hr162) ⟨g, rfl, hg⟩, s155.pan hk161⟩
        clear ht160
        replace HR := step_ok HR hn157
        have le163 := Lib.hid (Ps.must_ok hn157)
        have s164 := s155.call hk161 hp158
        have c165 := s164.n0.2.five
        have l166 := s164.n0.2.lt
        go_wp2_with fail
        clear c165 l166
        have s167 := s164.built1 (k0 := k136) (nm0 := nm137) (num0 := num138) (a0 := a139) (sv0 := .slice so141 ts140.length sc142) (ts0 := ts140) (by simp) (w159.heap.size) (by simp)
        have s168 := s167.drop
        cases gk with
        | zero =>
          refine (pover_bad s168 (by decide) 26 (⟨#[]⟩) _ _ _).mono ?_
          rintro e w169 ⟨⟨g, rfl, hg⟩, hk170⟩
          exact ⟨rfl, .bad (HR.out.trans rfl) ⟨g, rfl, hg⟩, hk170⟩
        | succ F =>
          refine (pover_ok s168 (ts := ts) (us := [Tree.node k136 nm137 num138 a139 ts140]) (by simp) (by omega) (by simp) 26 (⟨#[]⟩) _ _ _ (List.mem_cons_self ..)).mono ?_
          rintro e w171 ⟨rfl, go173, gn174, gc175, s172⟩
          rw [show 20 - (F + 1) + 1 = 20 - F from by omega] at s172
          go_wp2_with fail
          go_roundg F
          case measure => omega
          case rel => have a0 := le147.out; have a1 := le163.out; exact ⟨i156, 26, ⟨#[]⟩, 0, go173, gn174, gc175, _, by omega, by omega, s172, HR⟩
    · have s176 := s4.call hk52 hp51
      replace HR := step_as (step_ifB HR hi50)
      have c177 := s176.n4.2.one
      have l178 := s176.n4.2.lt
      go_wp2_with fail
      clear c177 l178
      refine (pname_any s176.ps).mono ?_
      rintro e w183 ⟨ht184, hk185⟩
      rcases ht184.or with ⟨n, a, hr186, g, rfl, hg⟩ | ⟨nm179, i180, hn181, rfl, hp182⟩
      · exact ⟨rfl, .bad (step_bad HR hr186) ⟨g, rfl, hg⟩, s176.pan hk185⟩
      clear ht184
      replace HR := step_ok HR hn181
      have le187 := Lib.hid (Ps.name_ok hn181).1
      have s188 := s176.call hk185 hp182
      go_wp2_with fail
      have s189 := s188.keepNil
      cases gk with
      | zero =>
        refine (pover_bad s189 (by decide) 25 (nm179) _ _ _).mono ?_
        rintro e w190 ⟨⟨g, rfl, hg⟩, hk191⟩
        exact ⟨rfl, .bad (HR.out.trans rfl) ⟨g, rfl, hg⟩, hk191⟩
      | succ F =>
        refine (pover_ok s189 (ts := ts) (us := []) (by simp) (by omega) (by simp) 25 (nm179) _ _ _ (by simp)).mono ?_
        rintro e w192 ⟨rfl, go194, gn195, gc196, s193⟩
        rw [show 20 - (F + 1) + 1 = 20 - F from by omega] at s193
        go_wp2_with fail
        go_roundg F
        case measure => omega
        case rel => have a0 := le187.out; exact ⟨i180, 25, nm179, 0, go194, gn195, gc196, _, by omega, by omega, s193, HR⟩
end Go.Proofs.YtneohanphabneaaGreatDoor

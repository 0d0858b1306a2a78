/-
  Contracts of the program's parser: the levels; the end of a body.
-/
import Derived.Test.YtneohanphabneaaGreatDoorP15
import Derived.Test.YtneohanphabneaaGreatDoorP6
namespace Go.Proofs.YtneohanphabneaaGreatDoor
open Go.RowKit Ps

/-- The levels, from the deepest up. -/
theorem levels_all : ∀ L, L ≤ 20 → CT 186 (20 - L) (fun l => Ps.F l L) ∧ CT 59 (20 - L) (fun l => Ps.E l L) ∧ CT 65 (20 - L) (fun l => Ps.S l L) := by
  intro L
  induction L with
  | zero =>
    intro _
    have hE : CT 59 (20 - 0) (fun l => Ps.E l 0) := fun w p T l i h => by
      have := pexpr_deep h rfl
      unfold Ps.E; exact this
    refine ⟨fun w p T l i h => ?_, hE, fun w p T l i h => ?_⟩
    · have := pfactor_any h (fun l => tooDeep l) (fun l => tooDeep l) (fun w p T l i h => pexpr_deep h rfl) (fun h => absurd h (by omega)) (fun _ _ _ => rfl)
      unfold Ps.F; exact this
    · have := pstmts_deep h rfl
      unfold Ps.S; exact this
  | succ L ih =>
    intro hL
    obtain ⟨hF, hE, hS⟩ := ih (by omega)
    have hd : 20 - (L + 1) < 20 := by omega
    have hs : 20 - (L + 1) + 1 = 20 - L := by omega
    have hE2 : CT 59 (20 - (L + 1)) (fun l => Ps.exprOf l (Ps.F l L)) := fun w p T l i h => pexpr_any h (fun l => Ps.F l L) (by rw [hs]; exact hF) hd
    refine ⟨fun w p T l i h => ?_, fun w p T l i h => ?_, fun w p T l i h => ?_⟩
    · have := pfactor_any h (fun l => Ps.exprOf l (Ps.F l L)) (fun l => Ps.F l L) hE2 (fun _ => by rw [hs]; exact hF) (fun h => absurd h (by omega))
      exact this
    · have := hE2 w p T l i h
      unfold Ps.E; exact this
    · have hst : CT 119 (20 - (L + 1) + 1) (fun l => Ps.stmtOf l (Ps.E l L) (Ps.S l L)) := by
        rw [hs]
        exact fun w p T l i h => pstmt_any h (fun l => Ps.E l L) (fun l => Ps.S l L) hE hS
      have := pstmts_any h (fun l => Ps.stmtOf l (Ps.E l L) (Ps.S l L)) hst hd
      unfold Ps.S; exact this
theorem expr0 : CT 59 0 (fun l => Ps.E l 20) := (levels_all 20 (Nat.le_refl _)).2.1
theorem stmts0 : CT 65 0 (fun l => Ps.S l 20) := (levels_all 20 (Nat.le_refl _)).2.2
theorem ptake_star {w : World} {p T : Nat} {l : List Sc.Tok} {i d : Nat} (h : PS w p T l i d) (s : ByteArray) (hs : s ≠ ⟨#[]⟩) : Calls Tryz.prog 55 #[.pointer (some ⟨p, 0, none⟩), .string s] w fun e w' =>
    e = .returned (.bool (Ps.isW l i s)) ∧ PS w' p T l (star l s i).2 d ∧ Kp w.heap.size p w w' := by
  refine (ptake_or h s hs).mono ?_
  rintro e w' (⟨hi, rfl, hp, hk⟩ | ⟨hi, rfl, hp, hk⟩)
  · rw [hi, star_no hi]; exact ⟨rfl, hp, hk⟩
  · rw [hi, star_yes hi]; exact ⟨rfl, hp, hk⟩
set_option maxHeartbeats 1000000 in
theorem pends_any {w : World} {p T : Nat} {l : List Sc.Tok} {i d : Nat} (h : PS w p T l i d) (nm : ByteArray) (hnm : isName nm = true) : Calls Tryz.prog 66 #[pp p, .string nm] w fun e w' =>
    PU p T l d (Ps.ends l nm i) e w' ∧ Kp w.heap.size p w w' := by
  obtain ⟨r, hr⟩ : ∃ r, r = Ps.ends l nm i := ⟨_, rfl⟩
  rw [← hr]
  unfold Ps.ends at hr
  have HR := Lib.hid hr
  clear hr
  unfold pp
  go_enter Tryz.func66, Tryz.ntmps66
  go_wp2_with fail
  refine (pmust_any h (⟨#[69, 78, 68]⟩) (by decide)).mono ?_
  rintro e w1 ⟨hm, hk1⟩
  rcases hm.or with ⟨n, a, hr, g, rfl, hg⟩ | ⟨i1, hn, rfl, h1⟩
  · have e1 := step_bad HR hr
    exact ⟨rfl, by rw [e1]; exact ⟨g, rfl, hg⟩, hk1⟩
  clear hm
  replace HR := step_ok HR hn
  go_wp2_with fail
  refine (pis_any h1 nm).mono ?_
  rintro e w2 ⟨rfl, rfl⟩
  cases hi : isW l i1 nm with
  | false =>
    go_wp2_with fail
    refine (pwant_any h1).mono ?_
    rintro e w3 ⟨⟨g, rfl, hg⟩, hk3⟩
    have e1 : r = .bad (wantN l i1) (A l i1) := HR.out.trans (must_no hi)
    exact ⟨rfl, by rw [e1]; exact ⟨g, rfl, hg⟩, hk1.call hk1.size hk3⟩
  | true =>
    have hW : W l i1 = nm := by unfold isW at hi; exact of_decide_eq_true hi
    have hN : nameR l i1 = .ok nm (i1 + 1) := by rw [← hW]; exact name_yes (by rw [hW]; exact hnm)
    clear hW
    have H1 := Lib.hid hN
    clear hN
    go_wp2_with fail
    refine (pname_any h1).mono ?_
    rintro e w3 ⟨hn3, hk3⟩
    rw [H1.out] at hn3
    obtain ⟨rfl, h3⟩ := hn3
    have e1 : r = .ok () (i1 + 1) := HR.out.trans (must_yes hi)
    go_wp2_with fail
    go_end0
    exact ⟨by rw [e1]; exact ⟨rfl, h3⟩, hk1.call hk1.size hk3⟩
end Go.Proofs.YtneohanphabneaaGreatDoor
/-
  Contracts of the program's parser: the closures of a procedure, of a module.
-/
namespace Go.Proofs.YtneohanphabneaaGreatDoor
open Go.RowKit Ps

theorem nm_ok {l : List Sc.Tok} {i j : Nat} {nm : ByteArray} (h : nameR l i = .ok nm j) : isName nm = true := by
  obtain ⟨_, h2, h3⟩ := name_ok h
  rw [h3]; exact h2
/-- A closure that has captured the parser. -/
theorem clo_cap {w : World} {p T : Nat} {l : List Sc.Tok} {d : Nat} {K : FuncId} {B : Nat} {f : Nat → R Tree} (hB : Blk w B 62 #[.pointer (some ⟨p, 0, none⟩)]) (hBp : B ≠ p)
    (hin : ∀ w, (callFunc K #[.pointer (some ⟨B, 0, none⟩)]).run Tryz.prog w = .ok (.enter K #[.pointer (some ⟨B, 0, none⟩)]) w)
    (hc : ∀ u j, Blk u B 62 #[.pointer (some ⟨p, 0, none⟩)] → PS u p T l j d → Calls Tryz.prog K #[.pointer (some ⟨B, 0, none⟩)] u fun e w' => PT (fun b => u.heap.size ≤ b) p T l j d (f j) e w' ∧ Kp u.heap.size p u w') : Clo w p T l d (.func (.func K) #[] #[.pointer (some ⟨B, 0, none⟩)]) f :=
  ⟨K, #[], #[.pointer (some ⟨B, 0, none⟩)], rfl, by simpa using hin, fun u j hk hp => by simpa using hc u j (hk.blk hB hBp) hp⟩
set_option maxRecDepth 100000 in
set_option maxHeartbeats 1000000 in
theorem pvariable_any {w : World} {p T : Nat} {l : List Sc.Tok} {i d : Nat} (h : PS w p T l i d) (B : Nat) (hbox : Blk w B 62 #[.pointer (some ⟨p, 0, none⟩)]) (hBp : B ≠ p) : Calls Tryz.prog 117 #[.pointer (some ⟨B, 0, none⟩)] w fun e w' =>
    PT (fun b => w.heap.size ≤ b) p T l i d (Ps.variable_ l i) e w' ∧ Kp w.heap.size p w w' := by
  obtain ⟨r, hr⟩ : ∃ r, r = Ps.variable_ l i := ⟨_, rfl⟩
  rw [← hr]
  unfold Ps.variable_ at hr
  have HR := Lib.hid hr
  clear hr
  have hmf : ∀ (fn : Fn) (first cap : Array Value) (w : World), (Instr.makeFunc fn first cap).run Tryz.prog w = .ok (.func fn first cap) w := fun _ _ _ _ => rfl
  have hbo := hbox.one
  have hbl := hbox.lt
  go_enter Tryz.func117, Tryz.ntmps117
  go_wp2_with fail
  clear hbo hbl
  have s1 := (St.start h).allocAt (w.heap.size) 25 #[.int .i64 0, .string ⟨#[]⟩, .int .i64 0, .int .i64 0, .slice none 0 0] (by simp)
  refine (pnode_any s1.ps 6).mono ?_
  rintro e w2 ⟨rfl, hb3⟩
  have s4 := s1.below hb3
  unfold nodeV
  have cb5 := Kp.blk s4.kp hbox hBp
  have cb5o := cb5.one
  have cb5l := cb5.lt
  go_wp2_with fail
  clear cb5 cb5o cb5l
  have s6 := s4.allocAt (w2.heap.size) 25 #[.int .i64 6, .string ⟨#[]⟩, .int .i64 0, .int .i64 (Ps.A l i), .slice none 0 0] (by simp)
  refine (pname_any s6.ps).mono ?_
  rintro e w11 ⟨ht12, hk13⟩
  rcases ht12.or with ⟨n, a, hr14, g, rfl, hg⟩ | ⟨nm7, i8, hn9, rfl, hp10⟩
  · exact ⟨rfl, .bad (step_bad HR hr14) ⟨g, rfl, hg⟩, s6.pan hk13⟩
  clear ht12
  replace HR := step_ok HR hn9
  have le15 := Lib.hid (Ps.name_ok hn9).1
  have s16 := s6.call hk13 hp10
  have c17 := s16.n0.2.five
  have l18 := s16.n0.2.lt
  have cb19 := Kp.blk s16.kp hbox hBp
  have cb19o := cb19.one
  have cb19l := cb19.lt
  go_wp2_with fail
  clear c17 l18 cb19 cb19o cb19l
  have s20 := s16.s01 (.string nm7)
  refine (pmust_any s20.ps (⟨#[58]⟩) (by decide)).mono ?_
  rintro e w24 ⟨ht25, hk26⟩
  rcases ht25.or with ⟨n, a, hr27, g, rfl, hg⟩ | ⟨i21, hn22, rfl, hp23⟩
  · exact ⟨rfl, .bad (step_bad HR hr27) ⟨g, rfl, hg⟩, s20.pan hk26⟩
  clear ht25
  replace HR := step_ok HR hn22
  have le28 := Lib.hid (Ps.must_ok hn22)
  have s29 := s20.call hk26 hp23
  have cb30 := Kp.blk s29.kp hbox hBp
  have cb30o := cb30.one
  have cb30l := cb30.lt
  go_wp2_with fail
  clear cb30 cb30o cb30l
  refine (ptypeName_any s29.ps).mono ?_
  rintro e w43 ⟨ht44, hk45⟩
  rcases ht44.or with ⟨n, a, hr46, g, rfl, hg⟩ | ⟨k31, nm32, num33, a34, ts35, so36, sc37, i38, hn39, rfl, hrow40, hp41, le42⟩
  · exact ⟨rfl, .bad (step_bad HR hr46) ⟨g, rfl, hg⟩, s29.pan hk45⟩
  clear ht44
  replace HR := step_ok HR hn39
  have le42 := Lib.hid le42
  have s47 := s29.callKeep hk45 hp41 hrow40
  unfold nodeV
  have c48 := s47.n0.2.five
  have l49 := s47.n0.2.lt
  have c50 := s47.n1.2.five
  have l51 := s47.n1.2.lt
  have d52 := s47.d01
  have cb53 := Kp.blk s47.kp hbox hBp
  have cb53o := cb53.one
  have cb53l := cb53.lt
  go_wp2_with fail
  clear c48 l49 c50 l51 d52 cb53 cb53o cb53l
  have s54 := s47.s04 (.slice (some ⟨w43.heap.size, 0, none⟩) 1 1)
  have s55 := s54.p1 (.int .i64 6) (.string nm7) (.int .i64 0) (.int .i64 (Ps.A l i)) (.slice (some ⟨w43.heap.size, 0, none⟩) 1 1)
  have s56 := s55.built1 (k0 := k31) (nm0 := nm32) (num0 := num33) (a0 := a34) (sv0 := .slice so36 ts35.length sc37) (ts0 := ts35) (by simp) (w43.heap.size) (by simp)
  exact bodyPost_ret (res5 Tryz.results117 rfl s56.n1.2) rfl ⟨.ok (HR.out.trans rfl) rfl (s56.treeOf (sv := .slice (some ⟨w43.heap.size, 0, none⟩) 1 1) (by simp)) s56.ps (by have := le15.out; have := le28.out; have := le42.out; omega), s56.kp⟩
theorem enters_variable (B : Nat) (w : World) : (callFunc 117 #[.pointer (some ⟨B, 0, none⟩)]).run Tryz.prog w = .ok (.enter 117 #[.pointer (some ⟨B, 0, none⟩)]) w := by kernel_rfl
theorem enters_typ (p : Nat) (w : World) : (callFunc 61 #[pp p]).run Tryz.prog w = .ok (.enter 61 #[pp p]) w := by kernel_rfl
theorem clo_typ (w : World) (p T : Nat) (l : List Sc.Tok) (d : Nat) (f : List Sc.Tok → Nat → R Tree) (h : CT 61 d f) : Clo w p T l d (.func (.func 61) #[pp p] #[]) (f l) := clo_of (enters_typ p) fun u j _ hp => h u p T l j hp
set_option maxRecDepth 100000 in
set_option maxHeartbeats 1000000 in
theorem pmodule1_any {w : World} {p T : Nat} {l : List Sc.Tok} {i d : Nat} (h : PS w p T l i d) (B : Nat) (hbox : Blk w B 62 #[.pointer (some ⟨p, 0, none⟩)]) (hBp : B ≠ p) (hex : CT 59 d (fun l => Ps.E l 20)) : Calls Tryz.prog 57 #[.pointer (some ⟨B, 0, none⟩)] w fun e w' =>
    PT (fun b => w.heap.size ≤ b) p T l i d (Ps.declared l 4 ⟨#[61]⟩ (Ps.E l 20) i) e w' ∧ Kp w.heap.size p w w' := by
  obtain ⟨r, hr⟩ : ∃ r, r = Ps.declared l 4 ⟨#[61]⟩ (Ps.E l 20) i := ⟨_, rfl⟩
  rw [← hr]
  have HR := Lib.hid hr
  clear hr
  have hmf : ∀ (fn : Fn) (first cap : Array Value) (w : World), (Instr.makeFunc fn first cap).run Tryz.prog w = .ok (.func fn first cap) w := fun _ _ _ _ => rfl
  have hbo := hbox.one
  have hbl := hbox.lt
  go_enter Tryz.func57, Tryz.ntmps57
  go_wp2_with fail
  clear hbo hbl
  have s57 := (St.start h).allocAt (w.heap.size) 25 #[.int .i64 0, .string ⟨#[]⟩, .int .i64 0, .int .i64 0, .slice none 0 0] (by simp)
  replace HR := step_tail HR
  refine (pdeclared_any s57.ps 4 ⟨#[61]⟩ (by decide) _ _ (clo_expr _ p T l d _ hex)).mono ?_
  rintro e w70 ⟨ht71, hk72⟩
  rcases ht71.or with ⟨n, a, hr73, g, rfl, hg⟩ | ⟨k58, nm59, num60, a61, ts62, so63, sc64, i65, hn66, rfl, hrow67, hp68, le69⟩
  · exact ⟨rfl, .bad (step_bad HR hr73) ⟨g, rfl, hg⟩, s57.pan hk72⟩
  clear ht71
  replace HR := step_ok HR hn66
  have le69 := Lib.hid le69
  have s74 := s57.callKeep hk72 hp68 hrow67
  unfold nodeV
  have c75 := s74.n0.2.five
  have l76 := s74.n0.2.lt
  have cb77 := Kp.blk s74.kp hbox hBp
  have cb77o := cb77.one
  have cb77l := cb77.lt
  go_wp2_with fail
  clear c75 l76 cb77 cb77o cb77l
  have s78 := s74.p0 (.int .i64 k58) (.string nm59) (.int .i64 num60) (.int .i64 a61) (.slice so63 ts62.length sc64)
  exact bodyPost_ret (res5 Tryz.results57 rfl s78.n0.2) rfl ⟨.ok (HR.out) rfl (s78.treeOf (sv := .slice so63 ts62.length sc64) (by simp)) s78.ps (by have := le69.out; omega), s78.kp⟩
theorem enters_module1 (B : Nat) (w : World) : (callFunc 57 #[.pointer (some ⟨B, 0, none⟩)]).run Tryz.prog w = .ok (.enter 57 #[.pointer (some ⟨B, 0, none⟩)]) w := by kernel_rfl
set_option maxRecDepth 100000 in
set_option maxHeartbeats 1000000 in
theorem pmodule2_any {w : World} {p T : Nat} {l : List Sc.Tok} {i d : Nat} (h : PS w p T l i d) (B : Nat) (hbox : Blk w B 62 #[.pointer (some ⟨p, 0, none⟩)]) (hBp : B ≠ p) : Calls Tryz.prog 60 #[.pointer (some ⟨B, 0, none⟩)] w fun e w' =>
    PT (fun b => w.heap.size ≤ b) p T l i d (Ps.declared l 5 ⟨#[61]⟩ (Ps.typ l) i) e w' ∧ Kp w.heap.size p w w' := by
  obtain ⟨r, hr⟩ : ∃ r, r = Ps.declared l 5 ⟨#[61]⟩ (Ps.typ l) i := ⟨_, rfl⟩
  rw [← hr]
  have HR := Lib.hid hr
  clear hr
  have hmf : ∀ (fn : Fn) (first cap : Array Value) (w : World), (Instr.makeFunc fn first cap).run Tryz.prog w = .ok (.func fn first cap) w := fun _ _ _ _ => rfl
  have hbo := hbox.one
  have hbl := hbox.lt
  go_enter Tryz.func60, Tryz.ntmps60
  go_wp2_with fail
  clear hbo hbl
  have s79 := (St.start h).allocAt (w.heap.size) 25 #[.int .i64 0, .string ⟨#[]⟩, .int .i64 0, .int .i64 0, .slice none 0 0] (by simp)
  replace HR := step_tail HR
  refine (pdeclared_any s79.ps 5 ⟨#[61]⟩ (by decide) _ _ (clo_typ _ p T l d _ (fun _ _ _ _ _ h => ptyp_any h))).mono ?_
  rintro e w92 ⟨ht93, hk94⟩
  rcases ht93.or with ⟨n, a, hr95, g, rfl, hg⟩ | ⟨k80, nm81, num82, a83, ts84, so85, sc86, i87, hn88, rfl, hrow89, hp90, le91⟩
  · exact ⟨rfl, .bad (step_bad HR hr95) ⟨g, rfl, hg⟩, s79.pan hk94⟩
  clear ht93
  replace HR := step_ok HR hn88
  have le91 := Lib.hid le91
  have s96 := s79.callKeep hk94 hp90 hrow89
  unfold nodeV
  have c97 := s96.n0.2.five
  have l98 := s96.n0.2.lt
  have cb99 := Kp.blk s96.kp hbox hBp
  have cb99o := cb99.one
  have cb99l := cb99.lt
  go_wp2_with fail
  clear c97 l98 cb99 cb99o cb99l
  have s100 := s96.p0 (.int .i64 k80) (.string nm81) (.int .i64 num82) (.int .i64 a83) (.slice so85 ts84.length sc86)
  exact bodyPost_ret (res5 Tryz.results60 rfl s100.n0.2) rfl ⟨.ok (HR.out) rfl (s100.treeOf (sv := .slice so85 ts84.length sc86) (by simp)) s100.ps (by have := le91.out; omega), s100.kp⟩
theorem enters_module2 (B : Nat) (w : World) : (callFunc 60 #[.pointer (some ⟨B, 0, none⟩)]).run Tryz.prog w = .ok (.enter 60 #[.pointer (some ⟨B, 0, none⟩)]) w := by kernel_rfl
set_option maxRecDepth 100000 in
set_option maxHeartbeats 1000000 in
theorem pmodule3_any {w : World} {p T : Nat} {l : List Sc.Tok} {i d : Nat} (h : PS w p T l i d) (B : Nat) (hbox : Blk w B 62 #[.pointer (some ⟨p, 0, none⟩)]) (hBp : B ≠ p) : Calls Tryz.prog 62 #[.pointer (some ⟨B, 0, none⟩)] w fun e w' =>
    PT (fun b => w.heap.size ≤ b) p T l i d (Ps.declared l 6 ⟨#[58]⟩ (Ps.typeName l) i) e w' ∧ Kp w.heap.size p w w' := by
  obtain ⟨r, hr⟩ : ∃ r, r = Ps.declared l 6 ⟨#[58]⟩ (Ps.typeName l) i := ⟨_, rfl⟩
  rw [← hr]
  have HR := Lib.hid hr
  clear hr
  have hmf : ∀ (fn : Fn) (first cap : Array Value) (w : World), (Instr.makeFunc fn first cap).run Tryz.prog w = .ok (.func fn first cap) w := fun _ _ _ _ => rfl
  have hbo := hbox.one
  have hbl := hbox.lt
  go_enter Tryz.func62, Tryz.ntmps62
  go_wp2_with fail
  clear hbo hbl
  have s101 := (St.start h).allocAt (w.heap.size) 25 #[.int .i64 0, .string ⟨#[]⟩, .int .i64 0, .int .i64 0, .slice none 0 0] (by simp)
  replace HR := step_tail HR
  refine (pdeclared_any s101.ps 6 ⟨#[58]⟩ (by decide) _ _ (clo_typeName _ p T l d)).mono ?_
  rintro e w114 ⟨ht115, hk116⟩
  rcases ht115.or with ⟨n, a, hr117, g, rfl, hg⟩ | ⟨k102, nm103, num104, a105, ts106, so107, sc108, i109, hn110, rfl, hrow111, hp112, le113⟩
  · exact ⟨rfl, .bad (step_bad HR hr117) ⟨g, rfl, hg⟩, s101.pan hk116⟩
  clear ht115
  replace HR := step_ok HR hn110
  have le113 := Lib.hid le113
  have s118 := s101.callKeep hk116 hp112 hrow111
  unfold nodeV
  have c119 := s118.n0.2.five
  have l120 := s118.n0.2.lt
  have cb121 := Kp.blk s118.kp hbox hBp
  have cb121o := cb121.one
  have cb121l := cb121.lt
  go_wp2_with fail
  clear c119 l120 cb121 cb121o cb121l
  have s122 := s118.p0 (.int .i64 k102) (.string nm103) (.int .i64 num104) (.int .i64 a105) (.slice so107 ts106.length sc108)
  exact bodyPost_ret (res5 Tryz.results62 rfl s122.n0.2) rfl ⟨.ok (HR.out) rfl (s122.treeOf (sv := .slice so107 ts106.length sc108) (by simp)) s122.ps (by have := le113.out; omega), s122.kp⟩
theorem enters_module3 (B : Nat) (w : World) : (callFunc 62 #[.pointer (some ⟨B, 0, none⟩)]).run Tryz.prog w = .ok (.enter 62 #[.pointer (some ⟨B, 0, none⟩)]) w := by kernel_rfl
end Go.Proofs.YtneohanphabneaaGreatDoor

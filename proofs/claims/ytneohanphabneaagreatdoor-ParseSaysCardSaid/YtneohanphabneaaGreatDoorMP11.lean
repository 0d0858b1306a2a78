/-
  Contracts of the program's parser: one level down, and up again.
-/
import Derived.Test.YtneohanphabneaaGreatDoorP10
namespace Go.Proofs.YtneohanphabneaaGreatDoor
open Go.RowKit Ps

theorem pfail_gen {w : World} {p T : Nat} {l : List Sc.Tok} {i c : Nat} {y : Int} (hb : Blk w p 64 #[.slice (some ⟨T, 2 * i, none⟩) (l.length - i) c, .int .i64 y]) (ht : TB w T l) (hi : i < l.length) (n : Nat) :
    Calls Tryz.prog 67 #[pp p, .int .i64 n] w fun e w' => Pan w' p n (Ps.A l i) e ∧ Kp w.heap.size p w w' := by
  obtain ⟨⟨h1, h2⟩, h3, h4⟩ := hb.two
  obtain ⟨h5, h6⟩ := ht.cells i hi
  have h7 : (0 : Int) < ((l.length - i : Nat) : Int) ∧ 0 < l.length - i := ⟨by omega, by omega⟩
  unfold pp
  go_enter Tryz.func67, Tryz.ntmps67
  go_wp2
  exact ⟨rfl, ⟨_, rfl, Blk.new _ _ _, _, _, hb.alloc _⟩, (Kp.refl _ _ _).alloc (Nat.le_refl _) _⟩
/-- What is deferred: one level up. -/
abbrev upV (B : Nat) : Value := .func (.func 160) #[] #[.pointer (some ⟨B, 0, none⟩)]
abbrev upD (B : Nat) : Deferred := { target := .fn (.func 160) #[.pointer (some ⟨B, 0, none⟩)], args := #[] }
theorem pdown_bad {w : World} {p T : Nat} {l : List Sc.Tok} {i d : Nat} (h : PS w p T l i d) (hd : d = 20) : Calls Tryz.prog 113 #[pp p] w fun e w' => Pan w' p 3 (Ps.A l i) e ∧ Kp w.heap.size p w w' := by
  obtain ⟨c, hc, hb, ⟨h1, h2⟩, ⟨h3, h4⟩, h5, h6, h7, hlt⟩ := h.facts
  subst hd
  have hi := h.hi
  have hT := h.tok
  have hne := h.ne
  have hmf : ∀ (fn : Fn) (first cap : Array Value) (w : World), (Instr.makeFunc fn first cap).run Tryz.prog w = .ok (.func fn first cap) w := fun _ _ _ _ => rfl
  unfold pp
  go_enter Tryz.func113, Tryz.ntmps113
  go_wp2_with fail
  have hb2 := ((hb.set 1 (.int .i64 21)).alloc (.cells #[pp p] 62))
  refine (pfail_gen (y := 21) hb2 ((hT.same (Below.heap_setCell w _ _ T (by show T ≠ p; omega))).same (Below.heap_alloc _ _ _ (by simp; omega))) hi 3).mono ?_
  rintro e w1 ⟨⟨g, rfl, hg⟩, hk⟩
  exact ⟨rfl, ⟨g, rfl, hg⟩, ((Kp.refl w.heap.size p w).setCell (x := ⟨p, 1, none⟩) (.inr rfl) _).trans (((Kp.refl _ p _).alloc (by simp) _).trans (hk.mono (by simp)))⟩
theorem pdown_ok {w : World} {p T : Nat} {l : List Sc.Tok} {i d : Nat} (h : PS w p T l i d) (hd : d < 20) : Calls Tryz.prog 113 #[pp p] w fun e w' =>
    ∃ B, e = .returned (upV B) ∧ w.heap.size ≤ B ∧ Blk w' B 62 #[.pointer (some ⟨p, 0, none⟩)] ∧ Kp w.heap.size p w w' ∧ PS w' p T l i (d + 1) := by
  obtain ⟨c, hc, hb, ⟨h1, h2⟩, ⟨h3, h4⟩, h5, h6, h7, hlt⟩ := h.facts
  have hne := h.ne
  have hmf : ∀ (fn : Fn) (first cap : Array Value) (w : World), (Instr.makeFunc fn first cap).run Tryz.prog w = .ok (.func fn first cap) w := fun _ _ _ _ => rfl
  unfold pp
  go_enter Tryz.func113, Tryz.ntmps113
  go_wp2_with fail
  go_ret
  have hn := Blk.new (w.setCell ⟨p, 1, none⟩ (.int .i64 ((d + 1 : Nat) : Int))) 62 #[.pointer (some ⟨p, 0, none⟩)]
  rw [show (w.setCell ⟨p, 1, none⟩ (.int .i64 ((d + 1 : Nat) : Int))).heap.size = w.heap.size from by simp] at hn
  refine ⟨w.heap.size, rfl, Nat.le_refl _, hn, (((Kp.refl w.heap.size p w).setCell (x := ⟨p, 1, none⟩) (.inr rfl) _).trans ((Kp.refl _ p _).alloc (by simp) _)), ?_⟩
  have hq : PS (w.setCell ⟨p, 1, none⟩ (.int .i64 ((d + 1 : Nat) : Int))) p T l i (d + 1) :=
    ⟨⟨c, hc, hb.set 1 _⟩, h.tok.same (Below.heap_setCell w _ _ T (by show T ≠ p; omega)), h.ne, h.hi, by omega, h.last, h.good, h.small, h.lv.same fun k hk => Below.heap_setCell w _ _ k (by show k ≠ p; omega)⟩
  exact hq.alloc _
theorem pup_ok {u : FrameMode} {w : World} {p T : Nat} {l : List Sc.Tok} {i d B : Nat} (h : PS w p T l i (d + 1)) (hB : Blk w B 62 #[.pointer (some ⟨p, 0, none⟩)]) : CallsD Tryz.prog 160 #[.pointer (some ⟨B, 0, none⟩)] u w fun e u' w' =>
    u' = u ∧ e = .returned (.tuple #[]) ∧ Kp w.heap.size p w w' ∧ PS w' p T l i d := by
  obtain ⟨c, hc, hb, ⟨h1, h2⟩, ⟨h3, h4⟩, h5, h6, h7, hlt⟩ := h.facts
  have hne := h.ne
  have hd := h.hd
  have hB1 := hB.one
  refine (callsD_of_wp (R := fun e w' => e = .returned (.tuple #[]) ∧ Kp w.heap.size p w w' ∧ PS w' p T l i d) Tryz.func160 rfl ?_).mono fun e u' w' h => h
  go_wp2_with fail
  go_end0
  refine ⟨rfl, ((Kp.refl w.heap.size p w).setCell (x := ⟨p, 1, none⟩) (.inr rfl) _), ?_⟩
  exact ⟨⟨c, hc, by have := hb.set 1 (.int .i64 (d : Nat)); exact this⟩, h.tok.same (Below.heap_setCell w _ _ T (by show T ≠ p; omega)), h.ne, h.hi, by omega, h.last, h.good, h.small, h.lv.same fun k hk => Below.heap_setCell w _ _ k (by show k ≠ p; omega)⟩
theorem pup_bad {u : FrameMode} {w : World} {p n a B : Nat} {e0 : Ending} (h : Pan w p n a e0) (hB : Blk w B 62 #[.pointer (some ⟨p, 0, none⟩)]) : CallsD Tryz.prog 160 #[.pointer (some ⟨B, 0, none⟩)] u w fun e u' w' =>
    u' = u ∧ e = .returned (.tuple #[]) ∧ Kp w.heap.size p w w' ∧ Pan w' p n a e0 := by
  obtain ⟨g, he, hg, x, y, hb⟩ := h
  obtain ⟨⟨h1, h2⟩, h3, h4⟩ := hb.two
  have hB1 := hB.one
  have hgp : g ≠ p := fun e => by
    subst e
    have := hg.symm.trans hb
    simp at this
  refine (callsD_of_wp (R := fun e w' => e = .returned (.tuple #[]) ∧ Kp w.heap.size p w w' ∧ Pan w' p n a e0) Tryz.func160 rfl ?_).mono fun e u' w' h => h
  go_wp2_with fail
  go_end0
  exact ⟨rfl, ((Kp.refl w.heap.size p w).setCell (x := ⟨p, 1, none⟩) (.inr rfl) _), g, he, hg.setOther _ _ hgp, _, _, hb.set 1 _⟩
section
variable {fn : Func} {tmps : Array Value} {R : Ending → World → Prop} {w : World} {p T i d B : Nat} {l : List Sc.Tok}
/-- The end of a function that went one level down. -/
theorem leave_ok (hp : PS w p T l i (d + 1)) (hB : Blk w B 62 #[.pointer (some ⟨p, 0, none⟩)])
    (hfin : ∀ w', PS w' p T l i d → Kp w.heap.size p w w' → ∃ v, (results fn tmps).run Tryz.prog w' = .ok v w' ∧ R (.returned v) w') : Leaves Tryz.prog fn tmps R [upD B] .returning w := by
  refine leaves_cons (f := 160) (args := #[.pointer (some ⟨B, 0, none⟩)]) (by simp) (by simp [go_sem]) ?_
  refine (pup_ok hp hB).mono ?_
  rintro e u' w' ⟨rfl, rfl, hk, hp'⟩
  exact hfin w' hp' hk
theorem leave_bad {n a : Nat} {c : List PanicEntry} (hP : Pan w p n a (.panicked c)) (hB : Blk w B 62 #[.pointer (some ⟨p, 0, none⟩)])
    (hR : ∀ w', Pan w' p n a (.panicked c) → Kp w.heap.size p w w' → R (.panicked c) w') : Leaves Tryz.prog fn tmps R [upD B] (.panicking c) w := by
  refine leaves_cons (f := 160) (args := #[.pointer (some ⟨B, 0, none⟩)]) (by simp) (by simp [go_sem]) ?_
  refine (pup_bad hP hB).mono ?_
  rintro e u' w' ⟨rfl, rfl, hk, hP'⟩
  have hs : settle (.panicking c) = .panicking c := by
    obtain ⟨g, he, _⟩ := hP
    injection he with he
    subst he
    rfl
  show Leaves _ _ _ _ [] (settle (.panicking c)) w'
  rw [hs]
  exact hR w' hP' hk
end
theorem bad_leaves {fn : Func} {R : Ending → World → Prop} {a : Act} {c : List PanicEntry} {w w' : World} {p B : Nat} {r : Ps.R Tree}
    (hb : a.defers = [upD B] ∧ ∃ n a', r = .bad n a' ∧ Pan w' p n a' (.panicked c) ∧ Kp w.heap.size p w w' ∧ Blk w' B 62 #[.pointer (some ⟨p, 0, none⟩)])
    (hR : ∀ n a' w9, r = .bad n a' → Pan w9 p n a' (.panicked c) → Kp w.heap.size p w w9 → R (.panicked c) w9) : Leaves Tryz.prog fn a.tmps R a.defers (.panicking c) w' := by
  obtain ⟨hd, n, a', hr, hP, hk, hB⟩ := hb
  rw [hd]
  exact leave_bad hP hB fun w9 hP9 hk9 => hR n a' w9 hr hP9 (hk.call hk.size hk9)
/-- In a function in which nothing is deferred yet. -/
theorem leave0_ok {fn : Func} {tmps : Array Value} {R : Ending → World → Prop} {w : World} (h : ∃ v, (results fn tmps).run Tryz.prog w = .ok v w ∧ R (.returned v) w) : Leaves Tryz.prog fn tmps R [] .returning w := h
theorem leave0_bad {fn : Func} {tmps : Array Value} {R : Ending → World → Prop} {w : World} {c : List PanicEntry} (h : R (.panicked c) w) : Leaves Tryz.prog fn tmps R [] (.panicking c) w := h
theorem bad_leaves0 {fn : Func} {R : Ending → World → Prop} {a : Act} {c : List PanicEntry} {w w' : World} {p : Nat} {r : Ps.R Tree}
    (hb : a.defers = [] ∧ ∃ n a', r = .bad n a' ∧ Pan w' p n a' (.panicked c) ∧ Kp w.heap.size p w w')
    (hR : ∀ n a' w9, r = .bad n a' → Pan w9 p n a' (.panicked c) → Kp w.heap.size p w w9 → R (.panicked c) w9) : Leaves Tryz.prog fn a.tmps R a.defers (.panicking c) w' := by
  obtain ⟨hd, n, a', hr, hP, hk⟩ := hb
  rw [hd]
  exact hR n a' w' hr hP hk
set_option maxHeartbeats 1000000 in
theorem pfollows_any (s : ByteArray) (w : World) : Calls Tryz.prog 118 #[.string s] w fun e w' => e = .returned (.bool (Ps.follows s)) ∧ w = w' := by
  have h0 : s.toList.isEmpty = decide (s = ⟨#[]⟩) := by
    rw [← bytes_beq, show (ByteArray.mk #[]).toList = [] from by rw [Lib.toList_data], Bool.eq_iff_iff]
    simp
  have h1 := bytes_beq s ⟨#[69, 78, 68]⟩
  have h2 := bytes_beq s ⟨#[69, 76, 83, 73, 70]⟩
  have h3 := bytes_beq s ⟨#[69, 76, 83, 69]⟩
  have h4 := bytes_beq s ⟨#[85, 78, 84, 73, 76]⟩
  rw [show (ByteArray.mk #[69, 78, 68]).toList = [69, 78, 68] from by rw [Lib.toList_data]] at h1
  rw [show (ByteArray.mk #[69, 76, 83, 73, 70]).toList = [69, 76, 83, 73, 70] from by rw [Lib.toList_data]] at h2
  rw [show (ByteArray.mk #[69, 76, 83, 69]).toList = [69, 76, 83, 69] from by rw [Lib.toList_data]] at h3
  rw [show (ByteArray.mk #[85, 78, 84, 73, 76]).toList = [85, 78, 84, 73, 76] from by rw [Lib.toList_data]] at h4
  unfold Ps.follows
  rcases k0 : decide (s = ⟨#[]⟩) with _ | _ <;> rcases k1 : decide (s = ⟨#[69, 78, 68]⟩) with _ | _ <;> rcases k2 : decide (s = ⟨#[69, 76, 83, 73, 70]⟩) with _ | _ <;> rcases k3 : decide (s = ⟨#[69, 76, 83, 69]⟩) with _ | _ <;> rcases k4 : decide (s = ⟨#[85, 78, 84, 73, 76]⟩) with _ | _
  all_goals
    rw [k0] at h0
    rw [k1] at h1
    rw [k2] at h2
    rw [k3] at h3
    rw [k4] at h4
    clear k0 k1 k2 k3 k4
    go_enter Tryz.func118, Tryz.ntmps118
    go_wp2_with fail
    go_ret
    exact ⟨rfl, rfl⟩
end Go.Proofs.YtneohanphabneaaGreatDoor
/-
  Contracts of the program's parser: an expression.
-/
namespace Go.Proofs.YtneohanphabneaaGreatDoor
open Go.RowKit Ps

set_option maxRecDepth 100000 in
set_option maxHeartbeats 1000000 in
theorem pexpr_deep {w : World} {p T : Nat} {l : List Sc.Tok} {i d : Nat} (h : PS w p T l i d) (hd : d = 20) : Calls Tryz.prog 59 #[pp p] w fun e w' =>
    PT (fun b => w.heap.size ≤ b) p T l i d (Ps.tooDeep l i) e w' ∧ Kp w.heap.size p w w' := by
  unfold pp
  go_enter_defers Tryz.func59, Tryz.ntmps59
  go_wp2_with fail
  have s1 := (St.start h).allocAt (w.heap.size) 25 #[.int .i64 0, .string ⟨#[]⟩, .int .i64 0, .int .i64 0, .slice none 0 0] (by simp)
  refine (pdown_bad s1.ps hd).mono ?_
  rintro e w1 ⟨⟨g, rfl, hg⟩, hk⟩
  exact ⟨.bad rfl ⟨g, rfl, hg⟩, s1.pan hk⟩
set_option maxRecDepth 100000 in
set_option maxHeartbeats 1000000 in
theorem pexpr_any {w : World} {p T : Nat} {l : List Sc.Tok} {i d : Nat} (h : PS w p T l i d) (fac : List Sc.Tok → Nat → R Tree) (hfac : CT 186 (d + 1) fac) (hd : d < 20) : Calls Tryz.prog 59 #[pp p] w fun e w' =>
    PT (fun b => w.heap.size ≤ b) p T l i d (Ps.exprOf l (fac l) i) e w' ∧ Kp w.heap.size p w w' := by
  obtain ⟨r, hr⟩ : ∃ r, r = Ps.exprOf l (fac l) i := ⟨_, rfl⟩
  rw [← hr]
  unfold Ps.exprOf at hr
  have HR := Lib.hid hr
  clear hr
  have hsimple : CT 114 (d + 1) (fun l => Ps.simple l (fac l)) := fun _ _ _ _ _ h => psimple_any h fac hfac
  unfold pp
  go_enter_defers Tryz.func59, Tryz.ntmps59
  go_wp2_with fail
  have s2 := (St.start h).allocAt (w.heap.size) 25 #[.int .i64 0, .string ⟨#[]⟩, .int .i64 0, .int .i64 0, .slice none 0 0] (by simp)
  refine (pdown_ok s2.ps hd).mono ?_
  rintro e w3 ⟨Bd, rfl, hB4, hK5, hk6, hp7⟩
  have s8 := s2.callBlk hk6 hp7 Bd _ _ hB4 hK5
  clear hB4 hK5
  go_wp2_with fail
  refine (hsimple _ _ _ _ _ s8.ps).mono ?_
  rintro e w21 ⟨ht22, hk23⟩
  rcases ht22.or with ⟨n, a, hr24, g, rfl, hg⟩ | ⟨k9, nm10, num11, a12, ts13, so14, sc15, i16, hn17, rfl, hrow18, hp19, le20⟩
  · have hBB : w.heap.size ≤ Bd := s8.n0.1
    exact leave_bad ⟨g, rfl, hg⟩ (hk23.blk s8.n0.2 (by have := s8.lt; show Bd ≠ p; omega)) (fun w9 hP9 hk9 => ⟨.bad (step_bad HR hr24) hP9, (s8.pan hk23).call (s8.pan hk23).size hk9⟩)
  clear ht22
  replace HR := step_ok HR hn17
  have le20 := Lib.hid le20
  have s25 := s8.callKeep hk23 hp19 hrow18
  unfold nodeV
  go_wp2_with fail
  have s26 := s25.allocAt (w21.heap.size) 25 #[.int .i64 k9, .string nm10, .int .i64 num11, .int .i64 a12, .slice so14 ts13.length sc15] (by simp)
  refine (ptake_or s26.ps (⟨#[73, 83]⟩) (by decide)).mono ?_
  rintro e w27 (⟨hi28, rfl, hp29, hk30⟩ | ⟨hi28, rfl, hp29, hk30⟩)
  · have s31 := s26.call hk30 hp29
    replace HR := step_else HR hi28
    go_wp2_with fail
    have hO := opK_any s31.ps 0 (by decide)
    refine hO.mono ?_
    rintro e w5 ⟨hno, hyes⟩
    cases hop : isOp l 0 i16 with
    | false =>
      obtain ⟨rfl, rfl⟩ := hno hop
      clear hno hyes hO
      replace HR := step_else HR hop
      have c32 := s31.n0.2.five
      have l33 := s31.n0.2.lt
      have c34 := s31.n2.2.five
      have l35 := s31.n2.2.lt
      have d36 := s31.d02
      go_wp2_with fail
      clear c32 l33 c34 l35 d36
      have s37 := s31.p2 (.int .i64 k9) (.string nm10) (.int .i64 num11) (.int .i64 a12) (.slice so14 ts13.length sc15)
      refine leave_ok s37.ps s37.n1.2 (fun w9 hp9 hk9 => ?_)
      have s38 := s37.call hk9 hp9
      exact ⟨_, res5 Tryz.results59 rfl s38.n2.2, .ok (HR.out.trans rfl) rfl (s38.treeOf (sv := .slice so14 ts13.length sc15) (by simp)) s38.ps (by have := le20.out; omega), s38.kp⟩
    | true =>
      obtain ⟨rfl, hk5, hp5⟩ := hyes hop
      clear hno hyes hO
      replace HR := step_if HR hop
      have hne := op_ne hop
      have s39 := s31.call hk5 hp5
      have c40 := s39.n0.2.five
      have l41 := s39.n0.2.lt
      go_wp2_with fail
      clear c40 l41
      have hC := s39.n0.2
      refine Ch.wp_region_run_d (fun c ds w' => ds = [upD Bd] ∧ ∃ n a, r = .bad n a ∧ Pan w' p n a (.panicked c) ∧ Kp w.heap.size p w w' ∧ Blk w' Bd 62 #[.pointer (some ⟨p, 0, none⟩)]) (fun u => Blk u (w21.heap.size) 25 #[.int .i64 k9, .string nm10, .int .i64 num11, .int .i64 a12, .slice so14 ts13.length sc15]) [2, 3] [0, 1, 2, 3, 4] [5, 6, 7, 8] [] (by kernel_rfl) (by kernel_rfl) (fun _ _ _ hb => bad_leaves hb fun _ _ _ hr hP hk => ⟨.bad hr hP, hk⟩) (hC) ?_
      clear hC
      have s42 := s39.drew
      refine Ch.take0 (v := ?v43) rfl (by rfl) ?y44 ?_
      case y44 => intro u; go_simp; rfl
      simp only [Act.put, List.setIfInBounds_toArray, List.set_cons_zero, List.set_cons_succ]
      refine Ch.take1 (v := ?v45) rfl (by rfl) ?y46 ?_
      case y46 => intro u; go_simp; rfl
      simp only [Act.put, List.setIfInBounds_toArray, List.set_cons_zero, List.set_cons_succ]
      refine Ch.load2 (v := ?v47) rfl (by rfl) ?y48 ?_
      case y48 => intro u hC; have c5 := Blk.five hC; go_simp; rfl
      simp only [Act.put, List.setIfInBounds_toArray, List.set_cons_zero, List.set_cons_succ]
      refine Ch.load3 (v := ?v49) rfl (by rfl) ?y50 ?_
      case y50 => intro u hC; have c5 := Blk.five hC; go_simp; rfl
      simp only [Act.put, List.setIfInBounds_toArray, List.set_cons_zero, List.set_cons_succ]
      refine Ch.take4 (v := ?v51) rfl (by rfl) ?y52 ?_
      case y52 => intro u; go_simp; rfl
      simp only [Act.put, List.setIfInBounds_toArray, List.set_cons_zero, List.set_cons_succ]
      refine Ch.mid5 (by rfl) (fun K hK => ?_)
      go_simp
      refine (hsimple _ _ _ _ _ s42.ps).mono ?_
      rintro e w65 ⟨ht66, hk67⟩
      rcases ht66.or with ⟨n, a, hr68, g, rfl, hg⟩ | ⟨k53, nm54, num55, a56, ts57, so58, sc59, i60, hn61, rfl, hrow62, hp63, le64⟩
      · have hBB : w.heap.size ≤ Bd := s42.n1.1
        exact Ch.qd_bad ⟨rfl, n, a, step_bad HR hr68, ⟨g, rfl, hg⟩, s42.pan hk67, (hk67.blk s42.n1.2 (by have := s42.lt; show Bd ≠ p; omega))⟩
      clear ht66
      replace HR := step_ok HR hn61
      have le64 := Lib.hid le64
      have s69 := s42.callKeep hk67 hp63 hrow62
      unfold nodeV
      refine hK _ _ (s69.n0.2) ?_
      clear hK K
      try simp only [Act.put, List.setIfInBounds_toArray, List.set_cons_zero, List.set_cons_succ]
      refine Ch.mid6 (by rfl) (fun K hK => ?_)
      go_simp
      refine hK _ _ ((s69.other _).n0.2) ?_
      clear hK K
      try simp only [Act.put, List.setIfInBounds_toArray, List.set_cons_zero, List.set_cons_succ]
      refine Ch.mid7 (by rfl) (fun K hK => ?_)
      go_simp
      refine hK _ _ ((s69.other _).n0.2) ?_
      clear hK K
      try simp only [Act.put, List.setIfInBounds_toArray, List.set_cons_zero, List.set_cons_succ]
      have cc := s69.n2.2.five
      have cl := s69.n2.2.lt
      refine Ch.mid8 (by rfl) (fun K hK => ?_)
      go_simp
      have s70 := s69.p2 (.int .i64 36) (.string (W l i16)) (.int .i64 0) (.int .i64 a12) (.slice (some ⟨w65.heap.size, 0, none⟩) 2 2)
      have s71 := s70.built2 (k0 := k9) (nm0 := nm10) (num0 := num11) (a0 := a12) (sv0 := .slice so14 ts13.length sc15) (ts0 := ts13) (k1 := k53) (nm1 := nm54) (num1 := num55) (a1 := a56) (sv1 := .slice so58 ts57.length sc59) (ts1 := ts57) (by simp) (by simp) (w65.heap.size) (by simp)
      refine hK _ _ (s71.n0.2) ?_
      clear hK K
      try simp only [Act.put, List.setIfInBounds_toArray, List.set_cons_zero, List.set_cons_succ]
      refine Ch.run_end_d ?_
      clear cc cl
      go_wp2_with fail
      refine leave_ok s71.ps s71.n1.2 (fun w9 hp9 hk9 => ?_)
      have s72 := s71.call hk9 hp9
      exact ⟨_, res5 Tryz.results59 rfl s72.n2.2, .ok (HR.out.trans rfl) rfl (s72.treeOf (sv := .slice (some ⟨w65.heap.size, 0, none⟩) 2 2) (by simp)) s72.ps (by have := le20.out; have := le64.out; omega), s72.kp⟩
  · have s73 := s26.call hk30 hp29
    replace HR := step_if HR hi28
    have c74 := s73.n0.2.five
    have l75 := s73.n0.2.lt
    go_wp2_with fail
    clear c74 l75
    have hC := s73.n0.2
    refine Ch.wp_region_run_d (fun c ds w' => ds = [upD Bd] ∧ ∃ n a, r = .bad n a ∧ Pan w' p n a (.panicked c) ∧ Kp w.heap.size p w w' ∧ Blk w' Bd 62 #[.pointer (some ⟨p, 0, none⟩)]) (fun u => Blk u (w21.heap.size) 25 #[.int .i64 k9, .string nm10, .int .i64 num11, .int .i64 a12, .slice so14 ts13.length sc15]) [1, 2] [0, 1, 2, 3] [4, 5, 6, 7] [] (by kernel_rfl) (by kernel_rfl) (fun _ _ _ hb => bad_leaves hb fun _ _ _ hr hP hk => ⟨.bad hr hP, hk⟩) (hC) ?_
    clear hC
    have s76 := s73.drew
    refine Ch.take0 (v := ?v77) rfl (by rfl) ?y78 ?_
    case y78 => intro u; go_simp; rfl
    simp only [Act.put, List.setIfInBounds_toArray, List.set_cons_zero, List.set_cons_succ]
    refine Ch.load1 (v := ?v79) rfl (by rfl) ?y80 ?_
    case y80 => intro u hC; have c5 := Blk.five hC; go_simp; rfl
    simp only [Act.put, List.setIfInBounds_toArray, List.set_cons_zero, List.set_cons_succ]
    refine Ch.load2 (v := ?v81) rfl (by rfl) ?y82 ?_
    case y82 => intro u hC; have c5 := Blk.five hC; go_simp; rfl
    simp only [Act.put, List.setIfInBounds_toArray, List.set_cons_zero, List.set_cons_succ]
    refine Ch.take3 (v := ?v83) rfl (by rfl) ?y84 ?_
    case y84 => intro u; go_simp; rfl
    simp only [Act.put, List.setIfInBounds_toArray, List.set_cons_zero, List.set_cons_succ]
    refine Ch.mid4 (by rfl) (fun K hK => ?_)
    go_simp
    refine (ptypeName_any s76.ps).mono ?_
    rintro e w97 ⟨ht98, hk99⟩
    rcases ht98.or with ⟨n, a, hr100, g, rfl, hg⟩ | ⟨k85, nm86, num87, a88, ts89, so90, sc91, i92, hn93, rfl, hrow94, hp95, le96⟩
    · have hBB : w.heap.size ≤ Bd := s76.n1.1
      exact Ch.qd_bad ⟨rfl, n, a, step_bad HR hr100, ⟨g, rfl, hg⟩, s76.pan hk99, (hk99.blk s76.n1.2 (by have := s76.lt; show Bd ≠ p; omega))⟩
    clear ht98
    replace HR := step_ok HR hn93
    have le96 := Lib.hid le96
    have s101 := s76.callKeep hk99 hp95 hrow94
    unfold nodeV
    refine hK _ _ (s101.n0.2) ?_
    clear hK K
    try simp only [Act.put, List.setIfInBounds_toArray, List.set_cons_zero, List.set_cons_succ]
    refine Ch.mid5 (by rfl) (fun K hK => ?_)
    go_simp
    refine hK _ _ ((s101.other _).n0.2) ?_
    clear hK K
    try simp only [Act.put, List.setIfInBounds_toArray, List.set_cons_zero, List.set_cons_succ]
    refine Ch.mid6 (by rfl) (fun K hK => ?_)
    go_simp
    refine hK _ _ ((s101.other _).n0.2) ?_
    clear hK K
    try simp only [Act.put, List.setIfInBounds_toArray, List.set_cons_zero, List.set_cons_succ]
    have cc := s101.n2.2.five
    have cl := s101.n2.2.lt
    refine Ch.mid7 (by rfl) (fun K hK => ?_)
    go_simp
    have s102 := s101.p2 (.int .i64 37) (.string ⟨#[]⟩) (.int .i64 0) (.int .i64 a12) (.slice (some ⟨w97.heap.size, 0, none⟩) 2 2)
    have s103 := s102.built2 (k0 := k9) (nm0 := nm10) (num0 := num11) (a0 := a12) (sv0 := .slice so14 ts13.length sc15) (ts0 := ts13) (k1 := k85) (nm1 := nm86) (num1 := num87) (a1 := a88) (sv1 := .slice so90 ts89.length sc91) (ts1 := ts89) (by simp) (by simp) (w97.heap.size) (by simp)
    refine hK _ _ (s103.n0.2) ?_
    clear hK K
    try simp only [Act.put, List.setIfInBounds_toArray, List.set_cons_zero, List.set_cons_succ]
    refine Ch.run_end_d ?_
    clear cc cl
    go_wp2_with fail
    refine leave_ok s103.ps s103.n1.2 (fun w9 hp9 hk9 => ?_)
    have s104 := s103.call hk9 hp9
    exact ⟨_, res5 Tryz.results59 rfl s104.n2.2, .ok (HR.out.trans rfl) rfl (s104.treeOf (sv := .slice (some ⟨w97.heap.size, 0, none⟩) 2 2) (by simp)) s104.ps (by have := le20.out; have := le96.out; omega), s104.kp⟩
end Go.Proofs.YtneohanphabneaaGreatDoor

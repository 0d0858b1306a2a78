/-
  Contracts of the reference's reader: the levels.
-/
import Derived.Test.YtneohanphabneaaGreatDoorR15
namespace Go.Proofs.YtneohanphabneaaGreatDoor
open Go.RowKit Ps
theorem rfac_bad (f : List Sc.Tok → Nat → R Tree) : RCT (Okp (21 ≤ 20)) 208 21 f := fun w p T l s i hP h => by
  obtain ⟨n, a, rfl⟩ := hP.resolve_left (by decide)
  exact rfactor_any h hP (Nat.le_refl _) (fun l => Ps.tooDeep l) (fun l => Ps.tooDeep l) (fun h => absurd h (by decide)) (fun h => absurd h (by decide)) (fun _ _ _ => rfl)
theorem rlevels : ∀ L d : Nat, d + L = 20 → RCT (fun _ => True) 148 d (fun l => Ps.E l L) ∧ RCT (Okp (d ≤ 20)) 208 d (fun l => Ps.F l L)
  | 0, d, hd => by
    obtain rfl : d = 20 := hd
    have hE : RCT (fun _ => True) 148 20 (fun l => Ps.E l 0) := fun w p T l s i _ h => by
      have := rexpr_any h (Nat.le_refl _) (fun l => Ps.tooDeep l) (rfac_bad _)
      simp only [Nat.lt_irrefl, if_false] at this
      exact this
    exact ⟨hE, fun w p T l s i hP h => rfactor_any h hP (by decide) (fun l => Ps.E l 0) (fun l => Ps.tooDeep l) (fun _ => hE) (fun _ => rfac_bad _) (fun _ _ _ => rfl)⟩
  | L + 1, d, hd => by
    obtain ⟨h1, h2⟩ := rlevels L (d + 1) (by omega)
    have hlt : d < 20 := by omega
    have hE : RCT (fun _ => True) 148 d (fun l => Ps.E l (L + 1)) := fun w p T l s i _ h => by
      have := rexpr_any h (by omega) (fun l => Ps.F l L) h2
      simp only [hlt, if_true] at this
      exact this
    exact ⟨hE, fun w p T l s i hP h => rfactor_any h hP (by omega) (fun l => Ps.E l (L + 1)) (fun l => Ps.F l L) (fun _ => hE) (fun _ => h2) (fun h => absurd h (by omega))⟩
theorem rstlevels : ∀ L d : Nat, d + L = 20 → RCT (fun _ => True) 45 d (fun l => Ps.S l L)
  | 0, d, hd => by
    obtain rfl : d = 20 := hd
    intro w p T l s i _ h
    have := rstmts_any h (Nat.le_refl _) (fun l => Ps.tooDeep l) (fun h => absurd h (by decide))
    simp only [Nat.lt_irrefl, if_false] at this
    exact this
  | L + 1, d, hd => by
    have ih := rstlevels L (d + 1) (by omega)
    have hE := (rlevels L (d + 1) (by omega)).1
    have hlt : d < 20 := by omega
    intro w p T l s i _ h
    have := rstmts_any h (by omega) (fun l => Ps.stmtOf l (Ps.E l L) (Ps.S l L)) (fun _ => fun _ _ _ _ _ _ hs h => rstmt_any h hs _ _ hE ih)
    simp only [hlt, if_true] at this
    exact this
end Go.Proofs.YtneohanphabneaaGreatDoor
/-
  Contracts of the reference's reader: a procedure.
-/
namespace Go.Proofs.YtneohanphabneaaGreatDoor
open Go.RowKit Ps
/-- A sign that may stand there, as a read. -/
def starR (l : List Sc.Tok) (x : ByteArray) (i : Nat) : R Nat := .ok (Ps.star l x i).1 (Ps.star l x i).2
theorem ris_star {w : World} {p T : Nat} {l : List Sc.Tok} {s : R Unit} {i d : Nat} (h : RS w p T l s i d) (x : ByteArray) (hx : (∃ k, s = .ok () k) → x ≠ ⟨#[]⟩) : Calls Tryz.prog 42 #[pp p, .string x] w fun e w' =>
    ∃ (b : Bool) (q : R Unit) (j : Nat), e = .returned (.bool b) ∧ RS w' p T l q j d ∧ i ≤ j ∧ Kp w.heap.size p w w' ∧ On s (starR l x i) b.toNat q j := by
  refine (ris_any h x hx).mono ?_
  rintro e w' ⟨⟨rfl, hw, rfl, h'⟩ | ⟨hn, rfl, h'⟩, hk⟩
  · exact ⟨true, _, _, rfl, h', Nat.le_succ _, hk, fun HR => Lib.hid (HR.out.trans (by unfold starR Ps.star; rw [hw]; rfl))⟩
  · refine ⟨false, s, i, rfl, h', Nat.le_refl _, hk, fun HR => Lib.hid (HR.out.trans ?_)⟩
    cases s with
    | bad n a => rfl
    | ok u k =>
      have hk := h.ok k rfl
      subst hk
      unfold starR Ps.star
      rw [hn k rfl]
      rfl
section
variable (l : List Sc.Tok) (i : Nat) (nm : ByteArray) (num : Nat)
def procC (ps r vs : Tree) (i6 : Nat) : R Tree := (Ps.must l ⟨#[66, 69, 71, 73, 78]⟩ i6).bind fun _ i7 => (Ps.S l 20 i7).bind fun b i8 => (Ps.must l ⟨#[69, 78, 68]⟩ i8).bind fun _ i9 => (Ps.must l nm i9).bind fun _ i10 => .ok (.node 7 nm num (Ps.A l i) [ps, r, vs, b]) i10
def procB (ps r : Tree) (i4 : Nat) : R Tree := (Ps.must l ⟨#[59]⟩ i4).bind fun _ i5 => (Ps.section_ l ⟨#[86, 65, 82]⟩ (Ps.variable_ l) i5).bind fun vs i6 => procC l i nm num ps r vs i6
def procA (ps : Tree) (i3 : Nat) : R Tree := (Ps.result l i3).bind fun r i4 => procB l i nm num ps r i4
def procS (i2 : Nat) : R Tree := (Ps.params l i2).bind fun ps i3 => procA l i nm num ps i3
end
theorem proc_eq (l : List Sc.Tok) (i : Nat) : Ps.proc l i = (Ps.must l ⟨#[80, 82, 79, 67, 69, 68, 85, 82, 69]⟩ i).bind fun _ i1 => (Ps.nameR l i1).bind fun nm i2 => (starR l ⟨#[42]⟩ i2).bind fun num i3 => procS l i nm num i3 := by
  unfold Ps.proc
  congr 1; funext u i1; congr 1; funext nm i2
  unfold starR procS
  rw [R.bind_ok]
  congr 1; funext ps i3
  unfold procA; congr 1; funext r i4
  unfold procB; congr 1; funext u i5; congr 1; funext vs i6
  unfold procC; congr 1; funext u i7; congr 1; funext b i8
  unfold Ps.ends
  rw [R.bind_assoc]
section
variable {w : World} {p T : Nat} {l : List Sc.Tok} {s : R Unit} {i d : Nat}
/-- A name is asked for; it is not empty, if nothing is wrong. -/
theorem rname_ne (h : RS w p T l s i d) : Calls Tryz.prog 41 #[pp p] w fun e w' =>
    ∃ nm q j, e = .returned (.string nm) ∧ RS w' p T l q j d ∧ i ≤ j ∧ Kp w.heap.size p w w' ∧ On s (Ps.nameR l i) nm q j ∧ Okp (nm ≠ ⟨#[]⟩) q := by
  refine (rname_any h).mono ?_
  rintro e w' ⟨nm, j, rfl, hv, h', le, hk⟩
  refine ⟨nm, _, j, rfl, h', le, hk, fun HR => rstep h h' hv HR, ?_⟩
  cases hs : (s.bind fun _ k => Ps.nameR l k) with
  | bad n a => exact .inr ⟨n, a, rfl⟩
  | ok x k =>
    refine .inl ?_
    rw [hv x k hs]
    cases s with
    | bad n a => cases hs
    | ok u m =>
      obtain ⟨_, h1, rfl⟩ := Ps.name_ok hs
      exact Ps.isName_ne h1
theorem rname_up (h : RS w p T l s i d) : Calls Tryz.prog 41 #[pp p] w fun e w' =>
    ∃ nm q j, e = .returned (.string nm) ∧ RS w' p T l q j d ∧ i ≤ j ∧ Kp w.heap.size p w w' ∧ On s (Ps.nameR l i) nm q j ∧ ∀ k, q = .ok () k → s = .ok () i ∧ k = i + 1 := by
  refine (rname_any h).mono ?_
  rintro e w' ⟨nm, j, rfl, hv, h', le, hk⟩
  refine ⟨nm, _, j, rfl, h', le, hk, fun HR => rstep h h' hv HR, fun k hk => ?_⟩
  cases s with
  | bad n a => cases hk
  | ok u m =>
    have hm := h.ok m rfl
    subst hm
    refine ⟨rfl, ?_⟩
    change (Ps.nameR l m).u = .ok () k at hk
    cases hn : Ps.nameR l m with
    | bad n a => rw [hn] at hk; cases hk
    | ok x j2 =>
      rw [hn] at hk
      have hk : (R.ok () j2 : R Unit) = .ok () k := hk
      injection hk with _ hk
      unfold Ps.nameR at hn
      split at hn
      · injection hn with _ hn; omega
      · unfold Ps.want at hn; cases hn
theorem result_eq (l : List Sc.Tok) (i : Nat) : Ps.result l i = (starR l ⟨#[58]⟩ i).bind fun n j => if n = 1 then Ps.typeName l j else .ok (.node 0 ⟨#[]⟩ 0 (Ps.A l i) []) j := by
  unfold Ps.result starR Ps.star
  cases Ps.isW l i ⟨#[58]⟩ <;> rfl
theorem section_eq (l : List Sc.Tok) (x : ByteArray) (f : Nat → R Tree) (i : Nat) : Ps.section_ l x f i = (starR l x i).bind fun n j => if n = 1 then (Ps.sectionLoop l f l.length j []).bind fun ts i1 => .ok (.node 1 ⟨#[]⟩ 0 (Ps.A l i) ts) i1 else .ok (.node 1 ⟨#[]⟩ 0 (Ps.A l i) []) j := by
  unfold Ps.section_ starR Ps.star
  cases Ps.isW l i x <;> rfl
theorem variable_eq (l : List Sc.Tok) (i : Nat) : Ps.variable_ l i = (Ps.nameR l i).bind fun nm i1 => (Ps.must l ⟨#[58]⟩ i1).bind fun _ i2 => (Ps.typeName l i2).bind fun t i3 => .ok (.node 6 nm 0 (Ps.A l i) [t]) i3 := rfl
theorem param_eq (l : List Sc.Tok) (i : Nat) : Ps.param l i = (starR l ⟨#[86, 65, 82]⟩ i).bind fun num j => (Ps.nameR l j).bind fun nm i1 => (Ps.must l ⟨#[58]⟩ i1).bind fun _ i2 => (Ps.typeName l i2).bind fun t i3 => .ok (.node 8 nm num (Ps.A l i) [t]) i3 := rfl
end
set_option maxRecDepth 100000 in
set_option maxHeartbeats 8000000 in
theorem rproc_any {w : World} {p T : Nat} {l : List Sc.Tok} {s : R Unit} {i d : Nat} (h : RS w p T l s i d) (hsts : RCT (fun _ => True) 45 d (fun l => Ps.S l 20)) : Calls Tryz.prog 44 #[pp p] w fun e w' =>
    RT (fun b => w.heap.size ≤ b) p T l i d (s.bind fun _ k => Ps.proc l k) e w' ∧ Kp w.heap.size p w w' := by
  obtain ⟨r, hr⟩ : ∃ r, r = s.bind fun _ k => Ps.proc l k := ⟨_, rfl⟩
  rw [← hr]
  have HR := rhere h _ hr
  clear hr
  unfold pp
  go_enter Tryz.func44, Tryz.ntmps44
  go_wp2_with fail
  replace HR := rokX (proc_eq l i) HR
  have s1 := (Rs.start h).allocAt (w.heap.size) 25 #[.int .i64 0, .string ⟨#[]⟩, .int .i64 0, .int .i64 0, .slice none 0 0] (by simp)
  refine (rat_any s1.ps).mono ?_
  rintro e w2 ⟨rfl, hb3⟩
  have s4 := s1.below hb3
  go_wp2_with fail
  have s5 := s4.allocAt (w2.heap.size) 25 #[.int .i64 7, .string ⟨#[]⟩, .int .i64 0, .int .i64 (Ps.A l i), .slice none 0 0] (by simp)
  refine (rneed_on s5.ps (⟨#[80, 82, 79, 67, 69, 68, 85, 82, 69]⟩) (fun _ => by decide)).mono ?_
  rintro e w6 ⟨q7, i8, rfl, h9, le10, hk11, ho12⟩
  replace HR := ho12 HR
  clear ho12
  have le10 := Lib.hid le10
  have s13 := s5.call hk11 h9
  go_wp2_with fail
  refine (rname_ne s13.ps).mono ?_
  rintro e w15 ⟨nm14, q16, i17, rfl, h18, le19, hk20, ho21, hn22⟩
  replace HR := ho21 HR
  clear ho21
  have le19 := Lib.hid le19
  have s23 := s13.call hk20 h18
  have c24 := s23.n0.2.five
  have l25 := s23.n0.2.lt
  go_wp2_with fail
  clear c24 l25
  have s26 := s23.s01 (.string nm14)
  refine (ris_star s26.ps (⟨#[42]⟩) (fun _ => by decide)).mono ?_
  rintro e w27 ⟨b28, q29, i30, rfl, h31, le32, hk33, ho34⟩
  have hp35 := Okp.on hn22 ho34
  replace HR := ho34 HR
  clear ho34
  have le32 := Lib.hid le32
  have s36 := s26.call hk33 h31
  go_upto_if 18 with fail
  go_cut [18] from 19 to 19 (fun _ wc => Rs w wc p T l q29 i30 d [(w2.heap.size, 25, #[.int .i64 7, .string nm14, .int .i64 (b28.toNat : Nat), .int .i64 (Ps.A l i), .slice none 0 0]), (w.heap.size, 25, #[.int .i64 0, .string ⟨#[]⟩, .int .i64 0, .int .i64 0, .slice none 0 0])] g0 [])
  case first =>
    cases b28 with
    | false =>
      go_wp2_with fail
      go_meet
      case rel => exact s36
    | true =>
      have c37 := s36.n0.2.five
      have l38 := s36.n0.2.lt
      go_wp2_with fail
      clear c37 l38
      go_meet
      case rel => exact s36.s02 (.int .i64 1)
  case rest =>
    have s39 := hcut
    clear hcut
    unfold procS at HR
    go_wp2_with fail
    refine (rat_any s39.ps).mono ?_
    rintro e w40 ⟨rfl, hb41⟩
    have s42 := s39.below hb41
    go_upto_region 7 with fail
    have s43 := s42.allocAt (w40.heap.size) 25 #[.int .i64 1, .string ⟨#[]⟩, .int .i64 0, .int .i64 (Ps.A l i30), .slice none 0 0] (by simp)
    unfold Ps.params at HR
    go_cut [29] from 23 to 28 (fun v wc => ∃ (b : Bool) (q : R Unit) (j : Nat), v = .bool b ∧ Rs w wc p T l q j d [(w40.heap.size, 25, #[.int .i64 1, .string ⟨#[]⟩, .int .i64 0, .int .i64 (Ps.A l i30), .slice none 0 0]), (w2.heap.size, 25, #[.int .i64 7, .string nm14, .int .i64 (b28.toNat : Nat), .int .i64 (Ps.A l i), .slice none 0 0]), (w.heap.size, 25, #[.int .i64 0, .string ⟨#[]⟩, .int .i64 0, .int .i64 0, .slice none 0 0])] g0 [] ∧ i ≤ j ∧ Okp (nm14 ≠ ⟨#[]⟩) q ∧ (b = false → Hid (r = q.bind fun _ _ => procA l i nm14 (b28.toNat) (.node 1 ⟨#[]⟩ 0 (Ps.A l i30) []) j)) ∧ (b = true → q = .ok () j ∧ Hid (r = q.bind fun _ _ => (Ps.paramsLoop l l.length j []).bind fun ts i1 => ((Ps.must l ⟨#[41]⟩ i1).bind fun _ i2 => R.ok (Tree.node 1 ⟨#[]⟩ 0 (Ps.A l i30) ts) i2).bind fun ps i3 => procA l i nm14 (b28.toNat) ps i3)))
    case first =>
      go_wp2_with fail
      refine (ris_any s43.ps (⟨#[40]⟩) (fun _ => by decide)).mono ?_
      rintro e w44 ⟨⟨hq45, hw46, rfl, h47⟩ | ⟨hw46, rfl, h47⟩, hk48⟩
      · replace HR := ryesB (j := i30 + 1) hq45 hw46 HR
        have s49 := s43.call hk48 h47
        have hp50 := Okp.good hp35 hq45 (s' := .ok () (i30 + 1))
        go_wp2_with fail
        refine (ris_any s49.ps (⟨#[41]⟩) (fun _ => by decide)).mono ?_
        rintro e w51 ⟨⟨hq52, hw53, rfl, h54⟩ | ⟨hw53, rfl, h54⟩, hk55⟩
        · replace HR := ryesB (j := (i30 + 1) + 1) hq52 hw53 HR
          have s56 := s49.call hk55 h54
          have hp57 := Okp.good hp50 hq52 (s' := .ok () ((i30 + 1) + 1))
          go_wp2_with fail
          go_meet
          case rel =>
            have a0 := le10.out; have a1 := le19.out; have a2 := le32.out
            exact ⟨false, _, ((i30 + 1) + 1), rfl, s56, by omega, hp57, fun _ => HR, fun h => (by cases h)⟩
        · replace HR := rnoB s49.ps hw53 HR
          have s58 := s49.call hk55 h54
          go_wp2_with fail
          go_meet
          case rel =>
            have a0 := le10.out; have a1 := le19.out; have a2 := le32.out
            exact ⟨true, _, (i30 + 1), rfl, s58, by omega, hp50, fun h => (by cases h), fun _ => ⟨rfl, rassoc HR⟩⟩
      · replace HR := rnoB s43.ps hw46 HR
        have s59 := s43.call hk48 h47
        go_wp2_with fail
        go_meet
        case rel =>
          have a0 := le10.out; have a1 := le19.out; have a2 := le32.out
          exact ⟨false, _, i30, rfl, s59, by omega, hp35, fun _ => HR, fun h => (by cases h)⟩
    case rest =>
      obtain ⟨b60, q61, i62, rfl, s63, le64, hp65, hf66, ht67⟩ := hcut
      clear HR
      have le64 := Lib.hid le64
      go_upto_if 29 with fail
      go_cut [29] from 30 to 55 (fun _ wc => ∃ (q : R Unit) (j : Nat) (so : Option Addr) (sc : Nat) (ts : List Tree), Rs w wc p T l q j d [(w40.heap.size, 25, #[.int .i64 1, .string ⟨#[]⟩, .int .i64 0, .int .i64 (Ps.A l i30), .slice so ts.length sc]), (w2.heap.size, 25, #[.int .i64 7, .string nm14, .int .i64 (b28.toNat : Nat), .int .i64 (Ps.A l i), .slice none 0 0]), (w.heap.size, 25, #[.int .i64 0, .string ⟨#[]⟩, .int .i64 0, .int .i64 0, .slice none 0 0])] g0 [(.slice so ts.length sc, ts)] ∧ i ≤ j ∧ Okp (nm14 ≠ ⟨#[]⟩) q ∧ Hid (r = q.bind fun _ _ => procA l i nm14 (b28.toNat) (.node 1 ⟨#[]⟩ 0 (Ps.A l i30) ts) j))
      case first =>
        cases b60 with
        | false =>
          have HR := hf66 rfl
          go_wp2_with fail
          go_meet
          have s68 := s63.keepNil
          case rel => exact ⟨_, i62, none, 0, [], s68, le64.out, hp65, HR⟩
        | true =>
          obtain ⟨rfl, HR⟩ := ht67 rfl
          have hil := s63.ps.hi
          have hle0 := le64.out
          clear hf66 ht67
          go_wp2_with fail
          go_loopg [] l.length (fun F wr => ∃ (q : R Unit) (j : Nat) (acc : List Tree) (go : Option Addr) (gn gc : Nat), q = .ok () j ∧ l.length ≤ j + F ∧ i ≤ j ∧ acc.length + F ≤ l.length ∧ Okp (nm14 ≠ ⟨#[]⟩) q ∧ Rs w wr p T l q j d [(w40.heap.size, 25, #[.int .i64 1, .string ⟨#[]⟩, .int .i64 0, .int .i64 (Ps.A l i30), .slice go gn gc]), (w2.heap.size, 25, #[.int .i64 7, .string nm14, .int .i64 (b28.toNat : Nat), .int .i64 (Ps.A l i), .slice none 0 0]), (w.heap.size, 25, #[.int .i64 0, .string ⟨#[]⟩, .int .i64 0, .int .i64 0, .slice none 0 0])] (.slice go gn gc, acc) [] ∧ Hid (r = q.bind fun _ _ => (Ps.paramsLoop l F j acc).bind fun ts i1 => ((Ps.must l ⟨#[41]⟩ i1).bind fun _ i2 => R.ok (Tree.node 1 ⟨#[]⟩ 0 (Ps.A l i30) ts) i2).bind fun ps i3 => procA l i nm14 (b28.toNat) ps i3))
          case atStart => exact ⟨_, i62, [], none, 0, 0, rfl, by omega, by omega, by simp, hp65, s63, HR⟩
          case round =>
            obtain ⟨q, j, acc, go, gn, gc, rfl, hF, hij, hacc, hPq, s5, HR⟩ := hrel
            have hjl := s5.ps.hi
            have hsm := s5.ps.small
            cases gk with
            | zero => omega
            | succ F =>
              unfold Ps.paramsLoop at HR
              rw [param_eq] at HR
              replace HR := rassoc HR
              replace HR := rassoc HR
              go_wp2_with fail
              refine (rat_any s5.ps).mono ?_
              rintro e w69 ⟨rfl, hb70⟩
              have s71 := s5.below hb70
              go_wp2_with fail
              have s72 := s71.allocAt (w69.heap.size) 25 #[.int .i64 8, .string ⟨#[]⟩, .int .i64 0, .int .i64 (Ps.A l j), .slice none 0 0] (by simp)
              refine (ris_star s72.ps (⟨#[86, 65, 82]⟩) (fun _ => by decide)).mono ?_
              rintro e w73 ⟨b74, q75, i76, rfl, h77, le78, hk79, ho80⟩
              have hp81 := Okp.on hPq ho80
              replace HR := ho80 HR
              clear ho80
              have le78 := Lib.hid le78
              have s82 := s72.call hk79 h77
              go_upto_if 34 with fail
              go_cut [34] from 35 to 35 (fun _ wc => Rs w wc p T l q75 i76 d [(w69.heap.size, 25, #[.int .i64 8, .string ⟨#[]⟩, .int .i64 (b74.toNat : Nat), .int .i64 (Ps.A l j), .slice none 0 0]), (w40.heap.size, 25, #[.int .i64 1, .string ⟨#[]⟩, .int .i64 0, .int .i64 (Ps.A l i30), .slice go gn gc]), (w2.heap.size, 25, #[.int .i64 7, .string nm14, .int .i64 (b28.toNat : Nat), .int .i64 (Ps.A l i), .slice none 0 0]), (w.heap.size, 25, #[.int .i64 0, .string ⟨#[]⟩, .int .i64 0, .int .i64 0, .slice none 0 0])] (.slice go gn gc, acc) [])
              case first =>
                cases b74 with
                | false =>
                  go_wp2_with fail
                  go_meet
                  case rel => exact s82
                | true =>
                  have c83 := s82.n0.2.five
                  have l84 := s82.n0.2.lt
                  go_wp2_with fail
                  clear c83 l84
                  go_meet
                  case rel => exact s82.s02 (.int .i64 1)
              case rest =>
                have s85 := hcut
                clear hcut
                go_wp2_with fail
                replace HR := rassoc HR
                refine (rname_on s85.ps).mono ?_
                rintro e w87 ⟨nm86, q88, i89, rfl, h90, le91, hk92, ho93⟩
                have hp94 := Okp.on hp81 ho93
                replace HR := ho93 HR
                clear ho93
                have le91 := Lib.hid le91
                have s95 := s85.call hk92 h90
                have c96 := s95.n0.2.five
                have l97 := s95.n0.2.lt
                go_wp2_with fail
                clear c96 l97
                have s98 := s95.s01 (.string nm86)
                replace HR := rassoc HR
                refine (rneed_on s98.ps (⟨#[58]⟩) (fun _ => by decide)).mono ?_
                rintro e w99 ⟨q100, i101, rfl, h102, le103, hk104, ho105⟩
                have hp106 := Okp.on hp94 ho105
                replace HR := ho105 HR
                clear ho105
                have le103 := Lib.hid le103
                have s107 := s98.call hk104 h102
                go_wp2_with fail
                replace HR := rassoc HR
                refine (rt_on s107.ps (rtypeName_any s107.ps)).mono ?_
                rintro e w116 ⟨k108, nm109, num110, a111, ts112, so113, sc114, q117, i118, rfl, hrow115, h119, le120, hk121, ho122⟩
                have hp123 := Okp.on hp106 ho122
                replace HR := ho122 HR
                clear ho122
                have le120 := Lib.hid le120
                have s124 := s107.callKeep hk121 h119 hrow115
                unfold nodeV
                have c125 := s124.n0.2.five
                have l126 := s124.n0.2.lt
                have c127 := s124.n1.2.five
                have l128 := s124.n1.2.lt
                have d129 := s124.d01
                have s130 := s124.s04 (.slice (some ⟨w116.heap.size, 0, none⟩) 1 1)
                have s131 := s130.built1 (k0 := k108) (nm0 := nm109) (num0 := num110) (a0 := a111) (sv0 := .slice so113 ts112.length sc114) (ts0 := ts112) (by simp) (w116.heap.size) (by simp)
                go_wp2_with (first | (at_builtin; refine s131.app1L (k0 := 8) (nm0 := nm86) (num0 := b74.toNat) (a0 := (Ps.A l j)) (sv0 := .slice (some ⟨w116.heap.size, 0, none⟩) 1 1) (ts0 := [Tree.node k108 nm109 num110 a111 ts112]) (by simp) rfl (.tmp 46) (.tmp 48) rfl rfl (by simp [Act.eval]) (by omega) ?_; intro go132 gc133 w134 s135; have cz := s135.n1.2.five) | fail)
                clear cz c125 l126 c127 l128 d129
                have s136 := s135.s14 (.slice go132 (acc.length + 1) gc133)
                have s137 := s136.drop
                replace HR : Hid (r = _root_.Go.Proofs.YtneohanphabneaaGreatDoor.Ps.R.bind q117 fun _ _ => (if Ps.isW l i118 ⟨#[59]⟩ then Ps.paramsLoop l F (i118 + 1) (acc ++ [Tree.node 8 nm86 (b74.toNat) (Ps.A l j) [Tree.node k108 nm109 num110 a111 ts112]]) else R.ok (acc ++ [Tree.node 8 nm86 (b74.toNat) (Ps.A l j) [Tree.node k108 nm109 num110 a111 ts112]]) i118).bind fun ts i1 => ((Ps.must l ⟨#[41]⟩ i1).bind fun _ i2 => R.ok (Tree.node 1 ⟨#[]⟩ 0 (Ps.A l i30) ts) i2).bind fun ps i3 => procA l i nm14 (b28.toNat) ps i3) := HR
                refine (ris_any s137.ps (⟨#[59]⟩) (fun _ => by decide)).mono ?_
                rintro e w138 ⟨⟨hq139, hw140, rfl, h141⟩ | ⟨hw140, rfl, h141⟩, hk142⟩
                · replace HR := ryesB (j := i118 + 1) hq139 hw140 HR
                  have s143 := s137.call hk142 h141
                  have hp144 := Okp.good hp123 hq139 (s' := .ok () (i118 + 1))
                  go_wp2_with fail
                  go_roundg F
                  case measure => omega
                  case rel => have a0 := le78.out; have a1 := le91.out; have a2 := le103.out; have a3 := le120.out; exact ⟨_, (i118 + 1), acc ++ [Tree.node 8 nm86 (b74.toNat) (Ps.A l j) [Tree.node k108 nm109 num110 a111 ts112]], go132, acc.length + 1, gc133, rfl, by omega, by omega, by simp; omega, hp144, s143.rowsOf (fun _ h => by cases h), HR⟩
                · replace HR := rnoB s137.ps hw140 HR
                  have s145 := s137.call hk142 h141
                  go_wp2_with fail
                  replace HR : Hid (r = _root_.Go.Proofs.YtneohanphabneaaGreatDoor.Ps.R.bind q117 fun _ _ => ((Ps.must l ⟨#[41]⟩ i118).bind fun _ i2 => R.ok (Tree.node 1 ⟨#[]⟩ 0 (Ps.A l i30) (acc ++ [Tree.node 8 nm86 (b74.toNat) (Ps.A l j) [Tree.node k108 nm109 num110 a111 ts112]])) i2).bind fun ps i3 => procA l i nm14 (b28.toNat) ps i3) := HR
                  replace HR := rassoc HR
                  refine (rneed_on s145.ps (⟨#[41]⟩) (fun _ => by decide)).mono ?_
                  rintro e w146 ⟨q147, i148, rfl, h149, le150, hk151, ho152⟩
                  have hp153 := Okp.on hp123 ho152
                  replace HR := ho152 HR
                  clear ho152
                  have le150 := Lib.hid le150
                  have s154 := s145.call hk151 h149
                  go_wp2_with fail
                  go_meet
                  have s155 := s154.grown
                  have hfm := RowIn.form (s155.rows _ (List.mem_cons_self ..))
                  obtain ⟨fo, fc, hfm⟩ := hfm
                  dsimp only at hfm
                  case rel =>
                    have hq := s155.rowsOf (rs' := [(.slice go132 (acc.length + 1) gc133, acc ++ [Tree.node 8 nm86 (b74.toNat) (Ps.A l j) [Tree.node k108 nm109 num110 a111 ts112]])]) (fun _ h => by simp at h; simp [h])
                    rw [hfm] at hq
                    have a0 := le78.out; have a1 := le91.out; have a2 := le103.out; have a3 := le120.out; have a4 := le150.out
                    exact ⟨_, i148, fo, fc, _, hq, by omega, hp153, HR⟩
      case rest =>
        obtain ⟨q156, i157, so158, sc159, ts160, s161, le162, hp163, HR⟩ := hcut
        clear hf66 ht67
        have le162 := Lib.hid le162
        go_wp2_with fail
        refine (rat_any s161.ps).mono ?_
        rintro e w165 ⟨rfl, hb166⟩
        have s167 := s161.below hb166
        go_wp2_with fail
        have s168 := s167.allocAt (w165.heap.size) 25 #[.int .i64 0, .string ⟨#[]⟩, .int .i64 0, .int .i64 (Ps.A l i157), .slice none 0 0] (by simp)
        unfold procA at HR
        rw [result_eq] at HR
        replace HR := rassoc HR
        refine (ris_star s168.ps (⟨#[58]⟩) (fun _ => by decide)).mono ?_
        rintro e w169 ⟨b170, q171, i172, rfl, h173, le174, hk175, ho176⟩
        have hp177 := Okp.on hp163 ho176
        replace HR := ho176 HR
        clear ho176
        have le174 := Lib.hid le174
        have s178 := s168.call hk175 h173
        go_upto_if 60 with fail
        go_cut [60] from 61 to 62 (fun _ wc => ∃ (q : R Unit) (j k : Nat) (nm : ByteArray) (num a : Nat) (so : Option Addr) (sc : Nat) (ts : List Tree), Rs w wc p T l q j d [(w165.heap.size, 25, #[.int .i64 (k : Nat), .string nm, .int .i64 (num : Nat), .int .i64 (a : Nat), .slice so ts.length sc]), (w40.heap.size, 25, #[.int .i64 1, .string ⟨#[]⟩, .int .i64 0, .int .i64 (Ps.A l i30), .slice so158 ts160.length sc159]), (w2.heap.size, 25, #[.int .i64 7, .string nm14, .int .i64 (b28.toNat : Nat), .int .i64 (Ps.A l i), .slice none 0 0]), (w.heap.size, 25, #[.int .i64 0, .string ⟨#[]⟩, .int .i64 0, .int .i64 0, .slice none 0 0])] g0 [(.slice so ts.length sc, ts), (.slice so158 ts160.length sc159, ts160)] ∧ i ≤ j ∧ Okp (nm14 ≠ ⟨#[]⟩) q ∧ Hid (r = q.bind fun _ _ => procB l i nm14 (b28.toNat) (.node 1 ⟨#[]⟩ 0 (Ps.A l i30) ts160) (.node k nm num a ts) j))
        case first =>
          cases b170 with
          | false =>
            replace HR := rokX (if_neg_bind (by decide)) HR
            go_wp2_with fail
            go_meet
            have s179 := s178.keepNil
            case rel => have a0 := le162.out; have a1 := le174.out; exact ⟨_, i172, 0, ⟨#[]⟩, 0, (Ps.A l i157), none, 0, [], s179, by omega, hp177, HR⟩
          | true =>
            replace HR := rokX (if_pos_bind rfl) HR
            go_wp2_with fail
            refine (rt_on s178.ps (rtypeName_any s178.ps)).mono ?_
            rintro e w188 ⟨k180, nm181, num182, a183, ts184, so185, sc186, q189, i190, rfl, hrow187, h191, le192, hk193, ho194⟩
            have hp195 := Okp.on hp177 ho194
            replace HR := ho194 HR
            clear ho194
            have le192 := Lib.hid le192
            have s196 := s178.callKeep hk193 h191 hrow187
            unfold nodeV
            have c197 := s196.n0.2.five
            have l198 := s196.n0.2.lt
            go_wp2_with fail
            clear c197 l198
            go_meet
            have s199 := s196.p0 (.int .i64 k180) (.string nm181) (.int .i64 num182) (.int .i64 a183) (.slice so185 ts184.length sc186)
            case rel => have a0 := le162.out; have a1 := le174.out; have a2 := le192.out; exact ⟨_, i190, k180, nm181, num182, a183, _, _, ts184, s199, by omega, hp195, HR⟩
        case rest =>
          obtain ⟨q200, i201, k202, nm203, num204, a205, so206, sc207, ts208, s209, le210, hp211, HR⟩ := hcut
          have le210 := Lib.hid le210
          unfold procB at HR
          go_wp2_with fail
          refine (rneed_on s209.ps (⟨#[59]⟩) (fun _ => by decide)).mono ?_
          rintro e w212 ⟨q213, i214, rfl, h215, le216, hk217, ho218⟩
          have hp219 := Okp.on hp211 ho218
          replace HR := ho218 HR
          clear ho218
          have le216 := Lib.hid le216
          have s220 := s209.call hk217 h215
          go_wp2_with fail
          refine (rat_any s220.ps).mono ?_
          rintro e w221 ⟨rfl, hb222⟩
          have s223 := s220.below hb222
          go_wp2_with fail
          have s224 := s223.allocAt (w221.heap.size) 25 #[.int .i64 1, .string ⟨#[]⟩, .int .i64 0, .int .i64 (Ps.A l i214), .slice none 0 0] (by simp)
          rw [section_eq] at HR
          replace HR := rassoc HR
          refine (ris_star s224.ps (⟨#[86, 65, 82]⟩) (fun _ => by decide)).mono ?_
          rintro e w225 ⟨b226, q227, i228, rfl, h229, le230, hk231, ho232⟩
          have hp233 := Okp.on hp219 ho232
          replace HR := ho232 HR
          clear ho232
          have le230 := Lib.hid le230
          have s234 := s224.call hk231 h229
          go_upto_if 69 with fail
          go_cut [69] from 70 to 96 (fun _ wc => ∃ (q : R Unit) (j : Nat) (so : Option Addr) (sc : Nat) (ts : List Tree), Rs w wc p T l q j d [(w221.heap.size, 25, #[.int .i64 1, .string ⟨#[]⟩, .int .i64 0, .int .i64 (Ps.A l i214), .slice so ts.length sc]), (w165.heap.size, 25, #[.int .i64 k202, .string nm203, .int .i64 num204, .int .i64 a205, .slice so206 ts208.length sc207]), (w40.heap.size, 25, #[.int .i64 1, .string ⟨#[]⟩, .int .i64 0, .int .i64 (Ps.A l i30), .slice so158 ts160.length sc159]), (w2.heap.size, 25, #[.int .i64 7, .string nm14, .int .i64 (b28.toNat : Nat), .int .i64 (Ps.A l i), .slice none 0 0]), (w.heap.size, 25, #[.int .i64 0, .string ⟨#[]⟩, .int .i64 0, .int .i64 0, .slice none 0 0])] g0 [(.slice so ts.length sc, ts), (.slice so206 ts208.length sc207, ts208), (.slice so158 ts160.length sc159, ts160)] ∧ i ≤ j ∧ Okp (nm14 ≠ ⟨#[]⟩) q ∧ Hid (r = q.bind fun _ _ => procC l i nm14 (b28.toNat) (.node 1 ⟨#[]⟩ 0 (Ps.A l i30) ts160) (Tree.node k202 nm203 num204 a205 ts208) (.node 1 ⟨#[]⟩ 0 (Ps.A l i214) ts) j))
          case first =>
            cases b226 with
            | false =>
              replace HR := rokX (if_neg_bind (by decide)) HR
              go_wp2_with fail
              go_meet
              have s235 := s234.keepNil
              case rel => have a0 := le210.out; have a1 := le216.out; have a2 := le230.out; exact ⟨_, i228, none, 0, [], s235, by omega, hp233, HR⟩
            | true =>
              replace HR := rokX (if_pos_bind rfl) HR
              go_wp2_with fail
              have hil := s234.ps.hi
              replace HR : Hid (r = _root_.Go.Proofs.YtneohanphabneaaGreatDoor.Ps.R.bind q227 fun _ _ => (Ps.sectionLoop l (Ps.variable_ l) l.length i228 []).bind fun ts i1 => procC l i nm14 (b28.toNat) (.node 1 ⟨#[]⟩ 0 (Ps.A l i30) ts160) (Tree.node k202 nm203 num204 a205 ts208) (.node 1 ⟨#[]⟩ 0 (Ps.A l i214) ts) i1) := rassoc HR
              go_loopg [] l.length (fun F wr => ∃ (q : R Unit) (j : Nat) (acc : List Tree) (go : Option Addr) (gn gc : Nat), (∀ k, q = .ok () k → l.length ≤ k + F) ∧ i ≤ j ∧ acc.length + F ≤ l.length + 1 ∧ Okp (nm14 ≠ ⟨#[]⟩) q ∧ Rs w wr p T l q j d [(w221.heap.size, 25, #[.int .i64 1, .string ⟨#[]⟩, .int .i64 0, .int .i64 (Ps.A l i214), .slice go gn gc]), (w165.heap.size, 25, #[.int .i64 k202, .string nm203, .int .i64 num204, .int .i64 a205, .slice so206 ts208.length sc207]), (w40.heap.size, 25, #[.int .i64 1, .string ⟨#[]⟩, .int .i64 0, .int .i64 (Ps.A l i30), .slice so158 ts160.length sc159]), (w2.heap.size, 25, #[.int .i64 7, .string nm14, .int .i64 (b28.toNat : Nat), .int .i64 (Ps.A l i), .slice none 0 0]), (w.heap.size, 25, #[.int .i64 0, .string ⟨#[]⟩, .int .i64 0, .int .i64 0, .slice none 0 0])] (.slice go gn gc, acc) [(.slice so206 ts208.length sc207, ts208), (.slice so158 ts160.length sc159, ts160)] ∧ Hid (r = q.bind fun _ _ => (Ps.sectionLoop l (Ps.variable_ l) F j acc).bind fun ts i1 => procC l i nm14 (b28.toNat) (.node 1 ⟨#[]⟩ 0 (Ps.A l i30) ts160) (Tree.node k202 nm203 num204 a205 ts208) (.node 1 ⟨#[]⟩ 0 (Ps.A l i214) ts) i1))
              case atStart => have a0 := le210.out; have a1 := le216.out; have a2 := le230.out; exact ⟨_, i228, [], none, 0, 0, fun k hk => by omega, by omega, by simp, hp233, s234, HR⟩
              case round =>
                obtain ⟨q, j, acc, go, gn, gc, hF, hij, hacc, hPq, s5, HR⟩ := hrel
                have hjl := s5.ps.hi
                have hsm := s5.ps.small
                have hOk := Lib.hid (rok_any s5.ps)
                unfold pp at hOk
                rcases rokB q s5.ps.bad with ⟨ho239, k236, rfl⟩ | ⟨ho239, n237, a238, rfl⟩
                · have hkj := (s5.ps.ok k236 rfl).symm
                  subst hkj
                  rw [ho239] at hOk
                  clear ho239
                  have hF1 := hF _ rfl
                  cases gk with
                  | zero => omega
                  | succ F =>
                    unfold Ps.sectionLoop at HR
                    go_wp2_with (go_at_call 18; refine hOk.out.mono ?_; rintro e w' ⟨rfl, rfl⟩)
                    refine (rword_any s5.ps).mono ?_
                    rintro e w240 ⟨rfl, hb241⟩
                    have s242 := s5.below hb241
                    have hN := Lib.hid (rName_any s242.ps.kl (Ps.W l j))
                    cases hw : Ps.isName (Ps.W l j) with
                    | false =>
                      rw [hw] at hN
                      replace HR := rokX (Y := procC l i nm14 (b28.toNat) (.node 1 ⟨#[]⟩ 0 (Ps.A l i30) ts160) (Tree.node k202 nm203 num204 a205 ts208) (.node 1 ⟨#[]⟩ 0 (Ps.A l i214) acc) j) (by rw [if_neg (by rw [hw]; decide)] <;> rfl) HR
                      go_wp2_with (go_at_call 99; refine hN.out.mono ?_; rintro e w' ⟨rfl, rfl⟩)
                      go_meet
                      have s243 := s242.grown
                      have hfm := RowIn.form (s243.rows _ (List.mem_cons_self ..))
                      obtain ⟨fo, fc, hfm⟩ := hfm
                      dsimp only at hfm
                      case rel =>
                        have hq := s243
                        rw [hfm] at hq
                        exact ⟨_, j, fo, fc, acc, hq, by omega, hPq, HR⟩
                    | true =>
                      rw [hw] at hN
                      replace HR := rokX (if_pos_bind hw) HR
                      rw [variable_eq] at HR
                      replace HR := rassoc (rassoc HR)
                      go_wp2_with (go_at_call 99; refine hN.out.mono ?_; rintro e w' ⟨rfl, rfl⟩)
                      refine (rat_any s242.ps).mono ?_
                      rintro e w244 ⟨rfl, hb245⟩
                      have s246 := s242.below hb245
                      go_wp2_with fail
                      have s247 := s246.allocAt (w244.heap.size) 25 #[.int .i64 6, .string ⟨#[]⟩, .int .i64 0, .int .i64 (Ps.A l j), .slice none 0 0] (by simp)
                      refine (rname_on s247.ps).mono ?_
                      rintro e w249 ⟨nm248, q250, i251, rfl, h252, le253, hk254, ho255⟩
                      have hp256 := Okp.on hPq ho255
                      replace HR := ho255 HR
                      clear ho255
                      have le253 := Lib.hid le253
                      have s257 := s247.call hk254 h252
                      have c258 := s257.n0.2.five
                      have l259 := s257.n0.2.lt
                      go_wp2_with fail
                      clear c258 l259
                      have s260 := s257.s01 (.string nm248)
                      replace HR := rassoc HR
                      refine (rneed_on s260.ps (⟨#[58]⟩) (fun _ => by decide)).mono ?_
                      rintro e w261 ⟨q262, i263, rfl, h264, le265, hk266, ho267⟩
                      have hp268 := Okp.on hp256 ho267
                      replace HR := ho267 HR
                      clear ho267
                      have le265 := Lib.hid le265
                      have s269 := s260.call hk266 h264
                      go_wp2_with fail
                      replace HR := rassoc HR
                      refine (rt_on s269.ps (rtypeName_any s269.ps)).mono ?_
                      rintro e w278 ⟨k270, nm271, num272, a273, ts274, so275, sc276, q279, i280, rfl, hrow277, h281, le282, hk283, ho284⟩
                      have hp285 := Okp.on hp268 ho284
                      replace HR := ho284 HR
                      clear ho284
                      have le282 := Lib.hid le282
                      have s286 := s269.callKeep hk283 h281 hrow277
                      unfold nodeV
                      have c287 := s286.n0.2.five
                      have l288 := s286.n0.2.lt
                      have c289 := s286.n1.2.five
                      have l290 := s286.n1.2.lt
                      have d291 := s286.d01
                      have s292 := s286.s04 (.slice (some ⟨w278.heap.size, 0, none⟩) 1 1)
                      have s293 := s292.built1 (k0 := k270) (nm0 := nm271) (num0 := num272) (a0 := a273) (sv0 := .slice so275 ts274.length sc276) (ts0 := ts274) (by simp) (w278.heap.size) (by simp)
                      go_wp2_with (first | (at_builtin; refine s293.app1L (k0 := 6) (nm0 := nm248) (num0 := 0) (a0 := (Ps.A l j)) (sv0 := .slice (some ⟨w278.heap.size, 0, none⟩) 1 1) (ts0 := [Tree.node k270 nm271 num272 a273 ts274]) (by simp) rfl (.tmp 90) (.tmp 92) rfl rfl (by simp [Act.eval]) (by omega) ?_; intro go294 gc295 w296 s297; have cz := s297.n1.2.five) | fail)
                      clear cz c287 l288 c289 l290 d291
                      have s298 := s297.s14 (.slice go294 (acc.length + 1) gc295)
                      have s299 := s298.drop
                      replace HR : Hid (r = _root_.Go.Proofs.YtneohanphabneaaGreatDoor.Ps.R.bind q279 fun _ _ => ((Ps.must l ⟨#[59]⟩ i280).bind fun _ i2 => Ps.sectionLoop l (Ps.variable_ l) F i2 (acc ++ [Tree.node 6 nm248 (0) (Ps.A l j) [Tree.node k270 nm271 num272 a273 ts274]])).bind fun ts i1 => procC l i nm14 (b28.toNat) (.node 1 ⟨#[]⟩ 0 (Ps.A l i30) ts160) (Tree.node k202 nm203 num204 a205 ts208) (.node 1 ⟨#[]⟩ 0 (Ps.A l i214) ts) i1) := HR
                      replace HR := rassoc HR
                      refine (rneed_up s299.ps (⟨#[59]⟩) (fun _ => by decide)).mono ?_
                      rintro e w300 ⟨q301, j302, rfl, h303, le304, hk305, ho306, hup307⟩
                      have hp308 := Okp.on hp285 ho306
                      replace HR := ho306 HR
                      clear ho306
                      have le304 := Lib.hid le304
                      have s309 := s299.call hk305 h303
                      go_wp2_with fail
                      go_roundg F
                      case measure => omega
                      case rel => have a0 := le253.out; have a1 := le265.out; have a2 := le282.out; have a3 := le304.out; exact ⟨_, j302, acc ++ [Tree.node 6 nm248 (0) (Ps.A l j) [Tree.node k270 nm271 num272 a273 ts274]], go294, acc.length + 1, gc295, fun k hk => (by have := hup307 k hk; omega), by omega, by simp; omega, hp308, s309.rowsOf (fun _ h => by simp at h; rcases h with h | h <;> simp [h]), HR⟩
                · rw [ho239] at hOk
                  clear ho239
                  replace HR := rbad (Y := procC l i nm14 (b28.toNat) (.node 1 ⟨#[]⟩ 0 (Ps.A l i30) ts160) (Tree.node k202 nm203 num204 a205 ts208) (.node 1 ⟨#[]⟩ 0 (Ps.A l i214) acc) j) ⟨n237, a238, rfl⟩ HR
                  go_wp2_with (go_at_call 18; refine hOk.out.mono ?_; rintro e w' ⟨rfl, rfl⟩)
                  go_meet
                  have s310 := s5.grown
                  have hfm := RowIn.form (s310.rows _ (List.mem_cons_self ..))
                  obtain ⟨fo, fc, hfm⟩ := hfm
                  dsimp only at hfm
                  case rel =>
                    have hq := s310
                    rw [hfm] at hq
                    exact ⟨_, j, fo, fc, acc, hq, by omega, hPq, HR⟩
          case rest =>
            obtain ⟨q311, i312, so313, sc314, ts315, s316, le317, hp318, HR⟩ := hcut
            have le317 := Lib.hid le317
            unfold procC at HR
            go_wp2_with fail
            refine (rneed_on s316.ps (⟨#[66, 69, 71, 73, 78]⟩) (fun _ => by decide)).mono ?_
            rintro e w319 ⟨q320, i321, rfl, h322, le323, hk324, ho325⟩
            have hp326 := Okp.on hp318 ho325
            replace HR := ho325 HR
            clear ho325
            have le323 := Lib.hid le323
            have s327 := s316.call hk324 h322
            have c328 := s327.n2.2.five
            have l329 := s327.n2.2.lt
            have c330 := s327.n1.2.five
            have l331 := s327.n1.2.lt
            have c332 := s327.n0.2.five
            have l333 := s327.n0.2.lt
            have d334 := s327.d12
            have d335 := s327.d02
            have d336 := s327.d01
            go_wp2_with fail
            clear c328 l329 c330 l331 c332 l333 d334 d335 d336
            have hC := And.intro s327.n2.2 (And.intro s327.n1.2 s327.n0.2)
            refine Ch.wp_region_run (fun u => Blk u (w40.heap.size) 25 #[.int .i64 1, .string ⟨#[]⟩, .int .i64 0, .int .i64 (Ps.A l i30), .slice so158 ts160.length sc159] ∧ Blk u (w165.heap.size) 25 #[.int .i64 k202, .string nm203, .int .i64 num204, .int .i64 a205, .slice so206 ts208.length sc207] ∧ Blk u (w221.heap.size) 25 #[.int .i64 1, .string ⟨#[]⟩, .int .i64 0, .int .i64 (Ps.A l i214), .slice so313 ts315.length sc314]) [0, 1, 2] [0, 1, 2, 3] [4, 5, 6, 7] [] (by kernel_rfl) (by kernel_rfl) (fun _ _ d _ _ h => by cases d <;> exact h) (hC) ?_
            clear hC
            have s337 := s327.drew
            refine Ch.load0 (v := ?v338) rfl (by rfl) ?y339 ?_
            case y339 => intro u hC; have c5 := Blk.five hC.1; go_simp; rfl
            simp only [Act.put, List.setIfInBounds_toArray, List.set_cons_zero, List.set_cons_succ]
            refine Ch.load1 (v := ?v340) rfl (by rfl) ?y341 ?_
            case y341 => intro u hC; have c5 := Blk.five hC.2.1; go_simp; rfl
            simp only [Act.put, List.setIfInBounds_toArray, List.set_cons_zero, List.set_cons_succ]
            refine Ch.load2 (v := ?v342) rfl (by rfl) ?y343 ?_
            case y343 => intro u hC; have c5 := Blk.five hC.2.2; go_simp; rfl
            simp only [Act.put, List.setIfInBounds_toArray, List.set_cons_zero, List.set_cons_succ]
            refine Ch.take3 (v := ?v344) rfl (by rfl) ?y345 ?_
            case y345 => intro u; go_simp; rfl
            simp only [Act.put, List.setIfInBounds_toArray, List.set_cons_zero, List.set_cons_succ]
            refine Ch.mid4 (by rfl) (fun K hK => ?_)
            go_simp
            refine (rt_on s337.ps (hsts _ p T l _ _ trivial s337.ps)).mono ?_
            rintro e w354 ⟨k346, nm347, num348, a349, ts350, so351, sc352, q355, i356, rfl, hrow353, h357, le358, hk359, ho360⟩
            have hp361 := Okp.on hp326 ho360
            replace HR := ho360 HR
            clear ho360
            have le358 := Lib.hid le358
            have s362 := s337.callKeep hk359 h357 hrow353
            unfold nodeV
            refine hK _ _ (⟨s362.n2.2, s362.n1.2, s362.n0.2⟩) ?_
            clear hK K
            try simp only [Act.put, List.setIfInBounds_toArray, List.set_cons_zero, List.set_cons_succ]
            refine Ch.mid5 (by rfl) (fun K hK => ?_)
            go_simp
            refine hK _ _ (⟨(s362.other _).n2.2, (s362.other _).n1.2, (s362.other _).n0.2⟩) ?_
            clear hK K
            try simp only [Act.put, List.setIfInBounds_toArray, List.set_cons_zero, List.set_cons_succ]
            have c363 := s362.n3.2.five
            have l364 := s362.n3.2.lt
            have c365 := s362.n4.2.five
            have l366 := s362.n4.2.lt
            have d367 := s362.d34
            refine Ch.mid6 (by rfl) (fun K hK => ?_)
            go_simp
            refine hK _ _ (⟨(s362.other _).n2.2, (s362.other _).n1.2, (s362.other _).n0.2⟩) ?_
            clear hK K
            try simp only [Act.put, List.setIfInBounds_toArray, List.set_cons_zero, List.set_cons_succ]
            refine Ch.mid7 (by rfl) (fun K hK => ?_)
            go_simp
            have s368 := s362.s34 (.slice (some ⟨w354.heap.size, 0, none⟩) 4 4)
            refine hK _ _ (⟨(s368.other _).n2.2, (s368.other _).n1.2, (s368.other _).n0.2⟩) ?_
            clear hK K
            try simp only [Act.put, List.setIfInBounds_toArray, List.set_cons_zero, List.set_cons_succ]
            refine Ch.run_end ?_
            go_wp2_with fail
            clear c363 l364 c365 l366 d367
            have s369 := s368.built4 (k0 := 1) (nm0 := ⟨#[]⟩) (num0 := 0) (a0 := (Ps.A l i30)) (sv0 := .slice so158 ts160.length sc159) (ts0 := ts160) (k1 := k202) (nm1 := nm203) (num1 := num204) (a1 := a205) (sv1 := .slice so206 ts208.length sc207) (ts1 := ts208) (k2 := 1) (nm2 := ⟨#[]⟩) (num2 := 0) (a2 := (Ps.A l i214)) (sv2 := .slice so313 ts315.length sc314) (ts2 := ts315) (k3 := k346) (nm3 := nm347) (num3 := num348) (a3 := a349) (sv3 := .slice so351 ts350.length sc352) (ts3 := ts350) (by simp) (by simp) (by simp) (by simp) (w354.heap.size) (by simp)
            refine (rneed_on s369.ps (⟨#[69, 78, 68]⟩) (fun _ => by decide)).mono ?_
            rintro e w370 ⟨q371, i372, rfl, h373, le374, hk375, ho376⟩
            have hp377 := Okp.on hp361 ho376
            replace HR := ho376 HR
            clear ho376
            have le374 := Lib.hid le374
            have s378 := s369.call hk375 h373
            have c379 := s378.n3.2.five
            have l380 := s378.n3.2.lt
            go_wp2_with fail
            clear c379 l380
            refine (rneed_on s378.ps (nm14) (fun hk => by obtain ⟨k, hk⟩ := hk; have hg := hp377; rw [hk] at hg; exact hg.get)).mono ?_
            rintro e w381 ⟨q382, i383, rfl, h384, le385, hk386, ho387⟩
            have hp388 := Okp.on hp377 ho387
            replace HR := ho387 HR
            clear ho387
            have le385 := Lib.hid le385
            have s389 := s378.call hk386 h384
            have c390 := s389.n3.2.five
            have l391 := s389.n3.2.lt
            have c392 := s389.n4.2.five
            have l393 := s389.n4.2.lt
            have d394 := s389.d34
            go_wp2_with fail
            clear c390 l391 c392 l393 d394
            have s395 := s389.p4 (.int .i64 7) (.string nm14) (.int .i64 (b28.toNat : Nat)) (.int .i64 (Ps.A l i)) (.slice (some ⟨w354.heap.size, 0, none⟩) 4 4)
            exact bodyPost_ret (res5 Tryz.results44 rfl s395.n4.2) rfl ⟨rend s395.ps HR (s395.treeOf (sv := .slice (some ⟨w354.heap.size, 0, none⟩) 4 4) (by simp)) (by have := le317.out; have := le323.out; have := le358.out; have := le374.out; have := le385.out; omega), s395.kp⟩
end Go.Proofs.YtneohanphabneaaGreatDoor

/-
  Contracts of the reference's reader: a module.
-/
import Derived.Test.YtneohanphabneaaGreatDoorMR16
import Derived.Deep.CutBlock
import Derived.Test.YtneohanphabneaaGreatDoorMR6
namespace Go.Proofs.YtneohanphabneaaGreatDoor
open Go.RowKit Ps
section
variable {X : Nat → Prop} {w u u' : World} {p T : Nat} {l : List Sc.Tok} {sr sr' : R Unit} {ir d ir' e : Nat} {bs : List Bl} {g : Rw} {rs : List Rw}
/-- Behind a piece that has laid a block, and a row of trees beside it. -/
theorem RsX.callKeepB (h : RsX X w u p T l sr ir d bs g rs) (hk : Kp u.heap.size p u u') (hp : RS u' p T l sr' ir' e) (b : Nat) (t : TypeId) (cs : Array Value) (hb : u.heap.size ≤ b) (hB : Blk u' b t cs) {sv : Value} {ts : List Tree} (hr : RowIn u' (fun c => u.heap.size ≤ c ∧ c ≠ b) sv ts) : RsX X w u' p T l sr' ir' e ((b, t, cs) :: bs) g ((sv, ts) :: rs) := by
  have hc := h.callBlk hk hp b t cs hb hB
  refine ⟨hc.kp, hc.ps, hc.lt, hc.blk, hc.apart, hc.grow, fun r hm => ?_, hc.far⟩
  rcases List.mem_cons.1 hm with rfl | hm
  · refine hr.turn fun c hlt hcc => ⟨⟨⟨.inl (by have := h.size; omega), fun x hx => ?_⟩, fun e => by have := h.gLt c e; omega⟩, rfl⟩
    rcases List.mem_cons.1 hx with rfl | hx
    · exact fun e => hcc.2 e.symm
    · exact fun e => by have := h.bsLt x hx; omega
  · exact hc.rows r hm
theorem RsX.rowB {b : Nat} {t : TypeId} {cs : Array Value} {sv : Value} {ts : List Tree} (h : Rs w u p T l sr ir d [(b, t, cs)] g rs) (hm : (sv, ts) ∈ rs) : RowIn u (fun c => w.heap.size ≤ c ∧ c ≠ b) sv ts := (h.rows _ hm).turn fun _ _ hs => ⟨⟨hs.1.1.resolve_right id, fun e => hs.1.2 _ (List.mem_singleton.2 rfl) e.symm⟩, rfl⟩
end
section
variable {X : Nat → Prop} {w u : World} {p T : Nat} {l : List Sc.Tok} {sr : R Unit} {ir d : Nat} {bs : List Bl} {gv : Value} {acc : List Tree} {rs : List Rw} {o : Oper} {a : Act} {K : Act → World → Prop} {Q : Exit → Act → World → Prop}
variable {k0 : Nat} {nm0 : ByteArray} {num0 a0 : Nat} {sv0 : Value} {ts0 : List Tree} {k1 : Nat} {nm1 : ByteArray} {num1 a1 : Nat} {sv1 : Value} {ts1 : List Tree} {k2 : Nat} {nm2 : ByteArray} {num2 a2 : Nat} {sv2 : Value} {ts2 : List Tree} {k3 : Nat} {nm3 : ByteArray} {num3 a3 : Nat} {sv3 : Value} {ts3 : List Tree}
theorem RsX.app4n (h : RsX X w u p T l sr ir d bs (gv, acc) rs) (hm0 : (sv0, ts0) ∈ rs) (hm1 : (sv1, ts1) ∈ rs) (hm2 : (sv2, ts2) ∈ rs) (hm3 : (sv3, ts3) ∈ rs) (s x : Operand)
    (ho : o.op = .call { callee := .builtin .append, args := #[s, x], argTypes := #[23, 23] }) (hs : a.eval s = gv) (hx : a.eval x = .slice (some ⟨u.heap.size, 0, none⟩) 4 4) (hlen : acc.length < 500000)
    (hK : ∀ go gn gc u', RsX X w u' p T l sr ir d bs (.slice go gn gc, acc ++ [Tree.node k0 nm0 num0 a0 ts0, Tree.node k1 nm1 num1 a1 ts1, Tree.node k2 nm2 num2 a2 ts2, Tree.node k3 nm3 num3 a3 ts3]) rs → K (a.put o.dst (.slice go gn gc)) u') : o.wp Tryz.prog a (u.alloc (.cells #[.int .i64 (k0 : Nat), .string nm0, .int .i64 (num0 : Nat), .int .i64 (a0 : Nat), sv0, .int .i64 (k1 : Nat), .string nm1, .int .i64 (num1 : Nat), .int .i64 (a1 : Nat), sv1, .int .i64 (k2 : Nat), .string nm2, .int .i64 (num2 : Nat), .int .i64 (a2 : Nat), sv2, .int .i64 (k3 : Nat), .string nm3, .int .i64 (num3 : Nat), .int .i64 (a3 : Nat), sv3] 25)) K Q :=
  h.appN s x ho hs _ 4 hx rfl (by simp) ((h.cellsOf hm0).app ((h.cellsOf hm1).app ((h.cellsOf hm2).app (h.cellsOf hm3)))) (by simp; omega) fun go gc u' s' => hK go _ gc u' s'
theorem RsX.app2L {ops : Array Oper} {rest : List Oper} (h : RsX X w u p T l sr ir d bs (gv, acc) rs) (hm0 : (sv0, ts0) ∈ rs) (hm1 : (sv1, ts1) ∈ rs) (hgd : o.guard = none) (s x : Operand)
    (ho : o.op = .call { callee := .builtin .append, args := #[s, x], argTypes := #[23, 23] }) (hs : a.eval s = gv) (hx : a.eval x = .slice (some ⟨u.heap.size, 0, none⟩) 2 2) (hlen : acc.length < 500000)
    (hK : ∀ go gn gc u', RsX X w u' p T l sr ir d bs (.slice go gn gc, acc ++ [Tree.node k0 nm0 num0 a0 ts0, Tree.node k1 nm1 num1 a1 ts1]) rs → wpList Tryz.prog ops Q rest (a.put o.dst (.slice go gn gc)) u') : wpList Tryz.prog ops Q (o :: rest) a (u.alloc (.cells #[.int .i64 (k0 : Nat), .string nm0, .int .i64 (num0 : Nat), .int .i64 (a0 : Nat), sv0, .int .i64 (k1 : Nat), .string nm1, .int .i64 (num1 : Nat), .int .i64 (a1 : Nat), sv1] 25)) :=
  wpList_plain hgd fun _ hk => h.app2n hm0 hm1 s x ho hs hx hlen fun go gn gc u' hs' => hk _ _ (hK go gn gc u' hs')
end
section
variable (l : List Sc.Tok) (i : Nat) (nm : ByteArray)
def modE (im cs ty vs ps b : Tree) (i9 : Nat) : R Tree := (Ps.must l ⟨#[69, 78, 68]⟩ i9).bind fun _ i10 => (Ps.must l nm i10).bind fun _ i11 => (Ps.must l ⟨#[46]⟩ i11).bind fun _ i12 => .ok (.node 2 nm 0 (Ps.A l i) [im, cs, ty, vs, ps, b]) i12
def modD (im cs ty vs ps : Tree) (i8 : Nat) : R Tree := (Ps.body l i8).bind fun b i9 => modE l i nm im cs ty vs ps b i9
def modP (im cs ty vs : Tree) (a : Nat) (ts : List Tree) (i8 : Nat) : R Tree := modD l i nm im cs ty vs (.node 1 ⟨#[]⟩ 0 a ts) i8
def modC (im cs ty vs : Tree) (i7 : Nat) : R Tree := (Ps.procsLoop l l.length i7 []).bind fun ts i8 => modP l i nm im cs ty vs (Ps.A l i7) ts i8
def modB (im : Tree) (i4 : Nat) : R Tree := (Ps.section_ l ⟨#[67, 79, 78, 83, 84]⟩ (Ps.declared l 4 ⟨#[61]⟩ (Ps.E l 20)) i4).bind fun cs i5 => (Ps.section_ l ⟨#[84, 89, 80, 69]⟩ (Ps.declared l 5 ⟨#[61]⟩ (Ps.typ l)) i5).bind fun ty i6 =>
  (Ps.section_ l ⟨#[86, 65, 82]⟩ (Ps.declared l 6 ⟨#[58]⟩ (Ps.typeName l)) i6).bind fun vs i7 => modC l i nm im cs ty vs i7
end
theorem module_eq (l : List Sc.Tok) (i : Nat) : Ps.module l i = (Ps.must l ⟨#[77, 79, 68, 85, 76, 69]⟩ i).bind fun _ i1 => (Ps.nameR l i1).bind fun nm i2 => (Ps.must l ⟨#[59]⟩ i2).bind fun _ i3 => (Ps.imports l i3).bind fun im i4 => modB l i nm im i4 := by
  unfold Ps.module
  congr 1; funext u i1; congr 1; funext nm i2; congr 1; funext u i3; congr 1; funext im i4
  unfold modB
  congr 1; funext cs i5; congr 1; funext ty i6; congr 1; funext vs i7
  unfold modC Ps.procs modP modD modE Ps.ends
  rw [R.bind_assoc]
  congr 1; funext ts i8
  rw [R.bind_ok]
  congr 1; funext b i9
  rw [R.bind_assoc]
theorem imports_eq (l : List Sc.Tok) (i : Nat) : Ps.imports l i = (starR l ⟨#[73, 77, 80, 79, 82, 84]⟩ i).bind fun n j => if n = 1 then (Ps.importsLoop l l.length j []).bind fun ts i1 => (Ps.must l ⟨#[59]⟩ i1).bind fun _ i2 => .ok (.node 1 ⟨#[]⟩ 0 (Ps.A l i) ts) i2 else .ok (.node 1 ⟨#[]⟩ 0 (Ps.A l i) []) j := by
  unfold Ps.imports starR Ps.star
  cases Ps.isW l i ⟨#[73, 77, 80, 79, 82, 84]⟩ <;> rfl
theorem body_eq (l : List Sc.Tok) (i : Nat) : Ps.body l i = (starR l ⟨#[66, 69, 71, 73, 78]⟩ i).bind fun n j => if n = 1 then Ps.S l 20 j else .ok (.node 1 ⟨#[]⟩ 0 (Ps.A l i) []) j := by
  unfold Ps.body starR Ps.star
  cases Ps.isW l i ⟨#[66, 69, 71, 73, 78]⟩ <;> rfl
set_option maxRecDepth 100000 in
set_option maxHeartbeats 8000000 in
theorem rmodule_any {w : World} {p T : Nat} {l : List Sc.Tok} {s : R Unit} {i d : Nat} (h : RS w p T l s i d) (hex : RCT (fun _ => True) 148 d (fun l => Ps.E l 20)) (hsts : RCT (fun _ => True) 45 d (fun l => Ps.S l 20)) : Calls Tryz.prog 17 #[pp p] w fun e w' =>
    RT (fun b => w.heap.size ≤ b) p T l i d (s.bind fun _ k => Ps.module l k) e w' ∧ Kp w.heap.size p w w' := by
  obtain ⟨r, hr⟩ : ∃ r, r = s.bind fun _ k => Ps.module l k := ⟨_, rfl⟩
  rw [← hr]
  have HR := rhere h _ hr
  clear hr
  unfold pp
  go_enter Tryz.func17, Tryz.ntmps17
  go_wp2_with fail
  replace HR := rokX (module_eq l i) HR
  have s1 := (Rs.start h).allocAt (w.heap.size) 25 #[.int .i64 0, .string ⟨#[]⟩, .int .i64 0, .int .i64 0, .slice none 0 0] (by simp)
  refine (rat_any s1.ps).mono ?_
  rintro e w2 ⟨rfl, hb3⟩
  have s4 := s1.below hb3
  go_wp2_with fail
  have s5 := s4.allocAt (w2.heap.size) 25 #[.int .i64 2, .string ⟨#[]⟩, .int .i64 0, .int .i64 (Ps.A l i), .slice none 0 0] (by simp)
  refine (rneed_on s5.ps (⟨#[77, 79, 68, 85, 76, 69]⟩) (fun _ => by decide)).mono ?_
  rintro e w6 ⟨q7, i8, rfl, h9, le10, hk11, ho12⟩
  replace HR := ho12 HR
  clear ho12
  have le10 := Lib.hid le10
  have s13 := s5.call hk11 h9
  go_wp2_with fail
  refine (rname_ne s13.ps).mono ?_
  rintro e w15 ⟨nm14, q16, i17, rfl, h18, le19, hk20, ho21, hn22⟩
  replace HR := ho21 HR
  clear ho21
  have le19 := Lib.hid le19
  have s23 := s13.call hk20 h18
  have c24 := s23.n0.2.five
  have l25 := s23.n0.2.lt
  go_wp2_with fail
  clear c24 l25
  have s26 := s23.s01 (.string nm14)
  refine (rneed_on s26.ps (⟨#[59]⟩) (fun _ => by decide)).mono ?_
  rintro e w27 ⟨q28, i29, rfl, h30, le31, hk32, ho33⟩
  have hp34 := Okp.on hn22 ho33
  replace HR := ho33 HR
  clear ho33
  have le31 := Lib.hid le31
  have s35 := s26.call hk32 h30
  go_wp2_with fail
  refine (rat_any s35.ps).mono ?_
  rintro e w36 ⟨rfl, hb37⟩
  have s38 := s35.below hb37
  go_wp2_with fail
  have s39 := s38.allocAt (w36.heap.size) 25 #[.int .i64 1, .string ⟨#[]⟩, .int .i64 0, .int .i64 (Ps.A l i29), .slice none 0 0] (by simp)
  rw [imports_eq] at HR
  replace HR := rassoc HR
  refine (ris_star s39.ps (⟨#[73, 77, 80, 79, 82, 84]⟩) (fun _ => by decide)).mono ?_
  rintro e w40 ⟨b41, q42, i43, rfl, h44, le45, hk46, ho47⟩
  have hp48 := Okp.on hp34 ho47
  replace HR := ho47 HR
  clear ho47
  have le45 := Lib.hid le45
  have s49 := s39.call hk46 h44
  go_upto_if 22 with fail
  go_cut [22] from 23 to 39 (fun _ wc => ∃ (q : R Unit) (j : Nat) (so : Option Addr) (sc : Nat) (ts : List Tree), Rs w wc p T l q j d [(w36.heap.size, 25, #[.int .i64 1, .string ⟨#[]⟩, .int .i64 0, .int .i64 (Ps.A l i29), .slice so ts.length sc]), (w2.heap.size, 25, #[.int .i64 2, .string nm14, .int .i64 0, .int .i64 (Ps.A l i), .slice none 0 0]), (w.heap.size, 25, #[.int .i64 0, .string ⟨#[]⟩, .int .i64 0, .int .i64 0, .slice none 0 0])] g0 [(.slice so ts.length sc, ts)] ∧ i ≤ j ∧ Okp (nm14 ≠ ⟨#[]⟩) q ∧ Hid (r = q.bind fun _ _ => modB l i nm14 (.node 1 ⟨#[]⟩ 0 (Ps.A l i29) ts) j))
  case first =>
    cases b41 with
    | false =>
      replace HR := rokX (if_neg_bind (by decide)) HR
      go_wp2_with fail
      go_meet
      have s50 := s49.keepNil
      case rel => have a0 := le10.out; have a1 := le19.out; have a2 := le31.out; have a3 := le45.out; exact ⟨_, i43, none, 0, [], s50, by omega, hp48, HR⟩
    | true =>
      replace HR := rokX (if_pos_bind rfl) HR
      replace HR := rassoc HR
      go_wp2_with fail
      have hil := s49.ps.hi
      go_loopg [] (l.length + 1) (fun F wr => ∃ (q : R Unit) (j Fu : Nat) (acc : List Tree) (go : Option Addr) (gn gc : Nat), (∀ k, q = .ok () k → l.length ≤ k + Fu) ∧ Fu < F ∧ i ≤ j ∧ acc.length + F ≤ l.length + 1 ∧ Okp (nm14 ≠ ⟨#[]⟩) q ∧ Rs w wr p T l q j d [(w36.heap.size, 25, #[.int .i64 1, .string ⟨#[]⟩, .int .i64 0, .int .i64 (Ps.A l i29), .slice go gn gc]), (w2.heap.size, 25, #[.int .i64 2, .string nm14, .int .i64 0, .int .i64 (Ps.A l i), .slice none 0 0]), (w.heap.size, 25, #[.int .i64 0, .string ⟨#[]⟩, .int .i64 0, .int .i64 0, .slice none 0 0])] (.slice go gn gc, acc) [] ∧ Hid (r = q.bind fun _ _ => (Ps.importsLoop l Fu j acc).bind fun ts i1 => ((Ps.must l ⟨#[59]⟩ i1).bind fun _ i2 => R.ok (Tree.node 1 ⟨#[]⟩ 0 (Ps.A l i29) ts) i2).bind fun im i4 => modB l i nm14 im i4))
      case atStart => have a0 := le10.out; have a1 := le19.out; have a2 := le31.out; have a3 := le45.out; exact ⟨_, i43, l.length, [], none, 0, 0, fun k hk => by omega, by omega, by omega, by simp, hp48, s49, HR⟩
      case round =>
        obtain ⟨q, j, Fu, acc, go, gn, gc, hF, hFu, hij, hacc, hPq, s5, HR⟩ := hrel
        have hjl := s5.ps.hi
        have hsm := s5.ps.small
        have HR2 : ∃ Fv, Fv < gk ∧ (∀ k, q = .ok () k → l.length ≤ k + 1 + Fv ∧ Fv + 1 < gk) ∧ Hid (r = q.bind fun _ _ => ((Ps.nameR l j).bind fun nm i1 => if Ps.isW l i1 ⟨#[44]⟩ then Ps.importsLoop l Fv (i1 + 1) (acc ++ [.node 3 nm 0 (Ps.A l j) []]) else .ok (acc ++ [.node 3 nm 0 (Ps.A l j) []]) i1).bind fun ts i1 => ((Ps.must l ⟨#[59]⟩ i1).bind fun _ i2 => R.ok (Tree.node 1 ⟨#[]⟩ 0 (Ps.A l i29) ts) i2).bind fun im i4 => modB l i nm14 im i4) := by
          rcases rokB q s5.ps.bad with ⟨_, k, rfl⟩ | ⟨_, n, a, rfl⟩
          · have hFk := hF k rfl
            have hkl := s5.ps.ok k rfl
            cases Fu with
            | zero => omega
            | succ Fu =>
              exact ⟨Fu, by omega, fun k2 hk2 => (by injection hk2 with _ hk2; exact ⟨by omega, by omega⟩), HR⟩
          · exact ⟨0, by omega, fun k hk => (by cases hk), rbad ⟨n, a, rfl⟩ HR⟩
        clear HR hF
        obtain ⟨Fv, hFv, hF, HR⟩ := HR2
        cases gk with
        | zero => omega
        | succ F =>
          replace HR := rassoc HR
          go_wp2_with fail
          refine (rat_any s5.ps).mono ?_
          rintro e w51 ⟨rfl, hb52⟩
          have s53 := s5.below hb52
          go_wp2_with fail
          have s54 := s53.allocAt (w51.heap.size) 25 #[.int .i64 3, .string ⟨#[]⟩, .int .i64 0, .int .i64 (Ps.A l j), .slice none 0 0] (by simp)
          refine (rname_up s54.ps).mono ?_
          rintro e w56 ⟨nm55, q57, i58, rfl, h59, le60, hk61, ho62, hup63⟩
          have hp64 := Okp.on hPq ho62
          replace HR := ho62 HR
          clear ho62
          have le60 := Lib.hid le60
          have s65 := s54.call hk61 h59
          have c66 := s65.n0.2.five
          have l67 := s65.n0.2.lt
          have c68 := s65.n1.2.five
          have l69 := s65.n1.2.lt
          have d70 := s65.d01
          have s71 := s65.s01 (.string nm55)
          have s72 := s71.keepNil
          go_wp2_with (first | (at_builtin; refine s72.app1L (k0 := 3) (nm0 := nm55) (num0 := 0) (a0 := (Ps.A l j)) (sv0 := .slice none 0 0) (ts0 := []) (by simp) rfl (.tmp 30) (.tmp 32) rfl rfl (by simp [Act.eval]) (by omega) ?_; intro go73 gc74 w75 s76; have cz := s76.n1.2.five) | fail)
          clear cz c66 l67 c68 l69 d70
          have s77 := s76.s14 (.slice go73 (acc.length + 1) gc74)
          have s78 := s77.drop
          refine (ris_any s78.ps (⟨#[44]⟩) (fun _ => by decide)).mono ?_
          rintro e w79 ⟨⟨hq80, hw81, rfl, h82⟩ | ⟨hw81, rfl, h82⟩, hk83⟩
          · replace HR := ryesB (j := i58 + 1) hq80 hw81 HR
            have s84 := s78.call hk83 h82
            have hp85 := Okp.good hp64 hq80 (s' := .ok () (i58 + 1))
            go_wp2_with fail
            go_roundg F
            case measure => omega
            case rel => have a0 := le60.out; exact ⟨_, (i58 + 1), Fv, acc ++ [Tree.node 3 nm55 0 (Ps.A l j) []], go73, acc.length + 1, gc74, fun k hk => (by injection hk with _ hk; have hx := hup63 _ hq80; have hx2 := hx.2; have hy := (hF _ hx.1).1; omega), (by have hx := hup63 _ hq80; have hy := (hF _ hx.1).2; omega), by omega, by simp; omega, hp85, s84.rowsOf (fun _ h => by cases h), HR⟩
          · replace HR := rnoB s78.ps hw81 HR
            have s86 := s78.call hk83 h82
            go_wp2_with fail
            replace HR : Hid (r = _root_.Go.Proofs.YtneohanphabneaaGreatDoor.Ps.R.bind q57 fun _ _ => ((Ps.must l ⟨#[59]⟩ i58).bind fun _ i2 => R.ok (Tree.node 1 ⟨#[]⟩ 0 (Ps.A l i29) (acc ++ [Tree.node 3 nm55 0 (Ps.A l j) []])) i2).bind fun im i4 => modB l i nm14 im i4) := HR
            replace HR := rassoc HR
            refine (rneed_on s86.ps (⟨#[59]⟩) (fun _ => by decide)).mono ?_
            rintro e w87 ⟨q88, i89, rfl, h90, le91, hk92, ho93⟩
            have hp94 := Okp.on hp64 ho93
            replace HR := ho93 HR
            clear ho93
            have le91 := Lib.hid le91
            have s95 := s86.call hk92 h90
            go_wp2_with fail
            go_meet
            have s96 := s95.grown
            have hfm := RowIn.form (s96.rows _ (List.mem_cons_self ..))
            obtain ⟨fo, fc, hfm⟩ := hfm
            dsimp only at hfm
            case rel =>
              have hq := s96.rowsOf (rs' := [(.slice go73 (acc.length + 1) gc74, acc ++ [Tree.node 3 nm55 0 (Ps.A l j) []])]) (fun _ h => by simp at h; simp [h])
              rw [hfm] at hq
              have a0 := le60.out; have a1 := le91.out
              exact ⟨_, i89, fo, fc, _, hq, by omega, hp94, HR⟩
  case rest =>
    obtain ⟨q97, i98, so99, sc100, ts101, s102, le103, hp104, HR⟩ := hcut
    have le103 := Lib.hid le103
    unfold modB at HR
    have c105 := s102.n0.2.five
    have l106 := s102.n0.2.lt
    have c107 := s102.n1.2.five
    have l108 := s102.n1.2.lt
    have d109 := s102.d01
    go_wp2_with fail
    clear c105 l106 c107 l108 d109
    have hC := And.intro s102.n1.2 s102.n0.2
    refine Ch.wp_region_run (fun u => Blk u (w2.heap.size) 25 #[.int .i64 2, .string nm14, .int .i64 0, .int .i64 (Ps.A l i), .slice none 0 0] ∧ Blk u (w36.heap.size) 25 #[.int .i64 1, .string ⟨#[]⟩, .int .i64 0, .int .i64 (Ps.A l i29), .slice so99 ts101.length sc100]) [1, 2] [0, 1, 2, 3, 5, 7] [4, 6, 8, 9, 10, 11, 12] [12] (by kernel_rfl) (by kernel_rfl) (fun _ _ d _ _ h => by cases d <;> exact h) (hC) ?_
    clear hC
    have s110 := s102.drew
    refine Ch.take0 (v := ?v111) rfl (by rfl) ?y112 ?_
    case y112 => intro u; go_simp; rfl
    simp only [Act.put, List.setIfInBounds_toArray, List.set_cons_zero, List.set_cons_succ]
    refine Ch.load1 (v := ?v113) rfl (by rfl) ?y114 ?_
    case y114 => intro u hC; have c5 := Blk.five hC.1; go_simp; rfl
    simp only [Act.put, List.setIfInBounds_toArray, List.set_cons_zero, List.set_cons_succ]
    refine Ch.load2 (v := ?v115) rfl (by rfl) ?y116 ?_
    case y116 => intro u hC; have c5 := Blk.five hC.2; go_simp; rfl
    simp only [Act.put, List.setIfInBounds_toArray, List.set_cons_zero, List.set_cons_succ]
    refine Ch.take3 (v := ?v117) rfl (by rfl) ?y118 ?_
    case y118 => intro u; go_simp; rfl
    simp only [Act.put, List.setIfInBounds_toArray, List.set_cons_zero, List.set_cons_succ]
    refine Ch.take5 (v := ?v119) rfl (by rfl) ?y120 ?_
    case y120 => intro u; go_simp; rfl
    simp only [Act.put, List.setIfInBounds_toArray, List.set_cons_zero, List.set_cons_succ]
    refine Ch.take7 (v := ?v121) rfl (by rfl) ?y122 ?_
    case y122 => intro u; go_simp; rfl
    simp only [Act.put, List.setIfInBounds_toArray, List.set_cons_zero, List.set_cons_succ]
    refine Ch.mid4 (by rfl) (fun K hK => ?_)
    go_simp
    refine (rt_on s110.ps (rpart_any s110.ps (⟨#[67, 79, 78, 83, 84]⟩) (by decide) 4 (Ps.declared l 4 ⟨#[61]⟩ (Ps.E l 20)) (fun _ _ _ h => rdecl_const h hex))).mono ?_
    rintro e w131 ⟨k123, nm124, num125, a126, ts127, so128, sc129, q132, i133, rfl, hrow130, h134, le135, hk136, ho137⟩
    have hp138 := Okp.on hp104 ho137
    replace HR := ho137 HR
    clear ho137
    have le135 := Lib.hid le135
    have s139 := s110.callKeep hk136 h134 hrow130
    unfold nodeV
    refine hK _ _ (⟨s139.n1.2, s139.n0.2⟩) ?_
    clear hK K
    try simp only [Act.put, List.setIfInBounds_toArray, List.set_cons_zero, List.set_cons_succ]
    refine Ch.mid6 (by rfl) (fun K hK => ?_)
    go_simp
    refine (rt_on s139.ps (rpart_any s139.ps (⟨#[84, 89, 80, 69]⟩) (by decide) 5 (Ps.declared l 5 ⟨#[61]⟩ (Ps.typ l)) (fun _ _ _ h => rdecl_type h (fun _ _ _ _ _ _ _ h => rkind_any h)))).mono ?_
    rintro e w148 ⟨k140, nm141, num142, a143, ts144, so145, sc146, q149, i150, rfl, hrow147, h151, le152, hk153, ho154⟩
    have hp155 := Okp.on hp138 ho154
    replace HR := ho154 HR
    clear ho154
    have le152 := Lib.hid le152
    have s156 := s139.callKeep hk153 h151 hrow147
    unfold nodeV
    refine hK _ _ (⟨s156.n1.2, s156.n0.2⟩) ?_
    clear hK K
    try simp only [Act.put, List.setIfInBounds_toArray, List.set_cons_zero, List.set_cons_succ]
    refine Ch.mid8 (by rfl) (fun K hK => ?_)
    go_simp
    refine (rt_on s156.ps (rpart_any s156.ps (⟨#[86, 65, 82]⟩) (by decide) 6 (Ps.declared l 6 ⟨#[58]⟩ (Ps.typeName l)) (fun _ _ _ h => rdecl_var h))).mono ?_
    rintro e w165 ⟨k157, nm158, num159, a160, ts161, so162, sc163, q166, i167, rfl, hrow164, h168, le169, hk170, ho171⟩
    have hp172 := Okp.on hp155 ho171
    replace HR := ho171 HR
    clear ho171
    have le169 := Lib.hid le169
    have s173 := s156.callKeep hk170 h168 hrow164
    unfold nodeV
    refine hK _ _ (⟨s173.n1.2, s173.n0.2⟩) ?_
    clear hK K
    try simp only [Act.put, List.setIfInBounds_toArray, List.set_cons_zero, List.set_cons_succ]
    refine Ch.mid9 (by rfl) (fun K hK => ?_)
    go_simp
    refine hK _ _ (⟨(s173.other _).n1.2, (s173.other _).n0.2⟩) ?_
    clear hK K
    try simp only [Act.put, List.setIfInBounds_toArray, List.set_cons_zero, List.set_cons_succ]
    refine Ch.mid10 (by rfl) (fun K hK => ?_)
    refine s173.app4n (k0 := 1) (nm0 := ⟨#[]⟩) (num0 := 0) (a0 := (Ps.A l i29)) (sv0 := .slice so99 ts101.length sc100) (ts0 := ts101) (k1 := k123) (nm1 := nm124) (num1 := num125) (a1 := a126) (sv1 := .slice so128 ts127.length sc129) (ts1 := ts127) (k2 := k140) (nm2 := nm141) (num2 := num142) (a2 := a143) (sv2 := .slice so145 ts144.length sc146) (ts2 := ts144) (k3 := k157) (nm3 := nm158) (num3 := num159) (a3 := a160) (sv3 := .slice so162 ts161.length sc163) (ts3 := ts161) (by simp) (by simp) (by simp) (by simp) (.tmp 41) (.tmp 49) rfl rfl rfl (by simp) (fun go174 gn175 gc176 w177 s178 => ?_)
    refine hK _ _ (⟨s178.n1.2, s178.n0.2⟩) ?_
    clear hK K
    try simp only [Act.put, List.setIfInBounds_toArray, List.set_cons_zero, List.set_cons_succ]
    have c7 := s178.n1.2.five
    have c7l := s178.n1.2.lt
    refine Ch.mid11 (by rfl) (fun K hK => ?_)
    go_simp
    refine hK _ _ (⟨s178.n1.2, s178.n0.2⟩) ?_
    clear hK K
    try simp only [Act.put, List.setIfInBounds_toArray, List.set_cons_zero, List.set_cons_succ]
    refine Ch.post12 rfl (by rfl) (fun K hK => ?_)
    go_simp
    refine hK _ _ ?_
    clear hK K
    try simp only [Act.put, List.setIfInBounds_toArray, List.set_cons_zero, List.set_cons_succ]
    refine Ch.run_end ?_
    have s179 := s178.s14 (.slice go174 gn175 gc176)
    clear c7 c7l
    go_wp2_with fail
    unfold modC at HR
    refine (rat_any s179.ps).mono ?_
    rintro e w180 ⟨rfl, hb181⟩
    have s182 := s179.below hb181
    go_upto_block 2 with fail
    have hil := s182.ps.hi
    go_cut [] from 55 to 70 (fun wc => ∃ (q : R Unit) (j : Nat) (so : Option Addr) (sc : Nat) (ts : List Tree), Rs w180 wc p T l q j d [(w180.heap.size, 25, #[.int .i64 1, .string ⟨#[]⟩, .int .i64 0, .int .i64 (Ps.A l i167), .slice so ts.length sc])] g0 [(.slice so ts.length sc, ts)] ∧ i167 ≤ j ∧ Okp (nm14 ≠ ⟨#[]⟩) q ∧ Hid (r = q.bind fun _ _ => modP l i nm14 ((Tree.node 1 ⟨#[]⟩ 0 (Ps.A l i29) ts101)) (Tree.node k123 nm124 num125 a126 ts127) (Tree.node k140 nm141 num142 a143 ts144) (Tree.node k157 nm158 num159 a160 ts161) (Ps.A l i167) ts j))
    case first =>
      have s183 := (Rs.start s182.ps).allocAt (w180.heap.size) 25 #[.int .i64 1, .string ⟨#[]⟩, .int .i64 0, .int .i64 (Ps.A l i167), .slice none 0 0] (by simp)
      go_wp2_with fail
      go_loopg [] l.length (fun F wr => ∃ (q : R Unit) (j : Nat) (acc : List Tree) (go : Option Addr) (gn gc : Nat), (∀ k, q = .ok () k → l.length ≤ k + F) ∧ i167 ≤ j ∧ acc.length + F ≤ l.length + 1 ∧ Okp (nm14 ≠ ⟨#[]⟩) q ∧ Rs w180 wr p T l q j d [(w180.heap.size, 25, #[.int .i64 1, .string ⟨#[]⟩, .int .i64 0, .int .i64 (Ps.A l i167), .slice go gn gc])] (.slice go gn gc, acc) [] ∧ Hid (r = q.bind fun _ _ => (Ps.procsLoop l F j acc).bind (modP l i nm14 ((Tree.node 1 ⟨#[]⟩ 0 (Ps.A l i29) ts101)) (Tree.node k123 nm124 num125 a126 ts127) (Tree.node k140 nm141 num142 a143 ts144) (Tree.node k157 nm158 num159 a160 ts161) (Ps.A l i167))))
      case atStart => exact ⟨_, i167, [], none, 0, 0, fun k hk => by omega, by omega, by simp, hp172, s183, HR⟩
      case round =>
        obtain ⟨q, j, acc, go, gn, gc, hF, hij, hacc, hPq, s5, HR⟩ := hrel
        have hjl := s5.ps.hi
        have hsm := s5.ps.small
        have hOk := Lib.hid (rok_any s5.ps)
        unfold pp at hOk
        rcases rokB q s5.ps.bad with ⟨ho187, k184, rfl⟩ | ⟨ho187, n185, a186, rfl⟩
        · have hkj := (s5.ps.ok k184 rfl).symm
          subst hkj
          rw [ho187] at hOk
          clear ho187
          have hF1 := hF _ rfl
          cases gk with
          | zero => omega
          | succ F =>
            unfold Ps.procsLoop at HR
            go_wp2_with (go_at_call 18; refine hOk.out.mono ?_; rintro e w' ⟨rfl, rfl⟩)
            refine (rword_any s5.ps).mono ?_
            rintro e w188 ⟨rfl, hb189⟩
            have s190 := s5.below hb189
            have hq := isW_lit l j ⟨#[80, 82, 79, 67, 69, 68, 85, 82, 69]⟩ [80, 82, 79, 67, 69, 68, 85, 82, 69] (by rw [Lib.toList_data])
            cases hw : Ps.isW l j ⟨#[80, 82, 79, 67, 69, 68, 85, 82, 69]⟩ with
            | false =>
              rw [hw] at hq
              replace HR := rokX (Y := modP l i nm14 ((Tree.node 1 ⟨#[]⟩ 0 (Ps.A l i29) ts101)) (Tree.node k123 nm124 num125 a126 ts127) (Tree.node k140 nm141 num142 a143 ts144) (Tree.node k157 nm158 num159 a160 ts161) (Ps.A l i167) acc j) (by rw [if_neg (by rw [hw]; decide)] <;> rfl) HR
              go_wp2_with fail
              go_meet
              have s191 := s190.grown
              have hfm := RowIn.form (s191.rows _ (List.mem_cons_self ..))
              obtain ⟨fo, fc, hfm⟩ := hfm
              dsimp only at hfm
              case rel =>
                have hq := s191
                rw [hfm] at hq
                exact ⟨_, j, fo, fc, acc, hq, by omega, hPq, HR⟩
            | true =>
              rw [hw] at hq
              replace HR := rokX (if_pos_bind hw) HR
              replace HR := rassoc HR
              go_upto_region 15 with fail
              clear hq
              have c192 := s190.n0.2.five
              have l193 := s190.n0.2.lt
              go_wp2_with fail
              clear c192 l193
              have hC := s190.n0.2
              refine Ch.wp_region_run (fun u => Blk u (w180.heap.size) 25 #[.int .i64 1, .string ⟨#[]⟩, .int .i64 0, .int .i64 (Ps.A l i167), .slice go gn gc]) [1] [0, 1, 2] [3, 4, 5, 6, 7] [5, 6, 7] (by kernel_rfl) (by kernel_rfl) (fun _ _ d _ _ h => by cases d <;> exact h) (hC) ?_
              clear hC
              have s194 := s190.drew
              refine Ch.take0 (v := ?v195) rfl (by rfl) ?y196 ?_
              case y196 => intro u; go_simp; rfl
              simp only [Act.put, List.setIfInBounds_toArray, List.set_cons_zero, List.set_cons_succ]
              refine Ch.load1 (v := ?v197) rfl (by rfl) ?y198 ?_
              case y198 => intro u hC; have c5 := Blk.five hC; go_simp; rfl
              simp only [Act.put, List.setIfInBounds_toArray, List.set_cons_zero, List.set_cons_succ]
              refine Ch.take2 (v := ?v199) rfl (by rfl) ?y200 ?_
              case y200 => intro u; go_simp; rfl
              simp only [Act.put, List.setIfInBounds_toArray, List.set_cons_zero, List.set_cons_succ]
              refine Ch.mid3 (by rfl) (fun K hK => ?_)
              go_simp
              refine (rt_on s194.ps (rproc_any s194.ps hsts)).mono ?_
              rintro e w209 ⟨k201, nm202, num203, a204, ts205, so206, sc207, q210, i211, rfl, hrow208, h212, le213, hk214, ho215⟩
              have hp216 := Okp.on hPq ho215
              replace HR := ho215 HR
              clear ho215
              have le213 := Lib.hid le213
              have s217 := s194.callKeep hk214 h212 hrow208
              unfold nodeV
              refine hK _ _ (s217.n0.2) ?_
              clear hK K
              try simp only [Act.put, List.setIfInBounds_toArray, List.set_cons_zero, List.set_cons_succ]
              refine Ch.mid4 (by rfl) (fun K hK => ?_)
              go_simp
              refine hK _ _ ((s217.other _).n0.2) ?_
              clear hK K
              try simp only [Act.put, List.setIfInBounds_toArray, List.set_cons_zero, List.set_cons_succ]
              refine Ch.post5 rfl (by rfl) (fun K hK => ?_)
              refine s217.app1n (List.mem_cons_self ..) (.tmp 63) (.tmp 66) rfl rfl rfl (by omega) (fun go218 gn219 gc220 w221 s222 => ?_)
              refine hK _ _ ?_
              clear hK K
              try simp only [Act.put, List.setIfInBounds_toArray, List.set_cons_zero, List.set_cons_succ]
              have c7 := s222.n0.2.five
              refine Ch.post6 rfl (by rfl) (fun K hK => ?_)
              go_simp
              refine hK _ _ ?_
              clear hK K
              try simp only [Act.put, List.setIfInBounds_toArray, List.set_cons_zero, List.set_cons_succ]
              refine Ch.post7 rfl (by rfl) (fun K hK => ?_)
              go_simp
              refine hK _ _ ?_
              clear hK K
              try simp only [Act.put, List.setIfInBounds_toArray, List.set_cons_zero, List.set_cons_succ]
              refine Ch.run_end ?_
              have s223 := s222.s04 (.slice go218 gn219 gc220)
              clear c7
              go_wp2_with fail
              replace HR := rassoc HR
              refine (rneed_up s223.ps (⟨#[59]⟩) (fun _ => by decide)).mono ?_
              rintro e w224 ⟨q225, j226, rfl, h227, le228, hk229, ho230, hup231⟩
              have hp232 := Okp.on hp216 ho230
              replace HR := ho230 HR
              clear ho230
              have le228 := Lib.hid le228
              have s233 := s223.call hk229 h227
              go_wp2_with fail
              go_roundg F
              case measure => omega
              case rel => have a0 := le213.out; have a1 := le228.out; exact ⟨_, j226, acc ++ [Tree.node k201 nm202 num203 a204 ts205], _, _, _, fun k hk => (by have := hup231 k hk; omega), by omega, by simp; omega, hp232, s233.rowsOf (fun _ h => by cases h), HR⟩
        · rw [ho187] at hOk
          clear ho187
          replace HR := rbad (Y := modP l i nm14 ((Tree.node 1 ⟨#[]⟩ 0 (Ps.A l i29) ts101)) (Tree.node k123 nm124 num125 a126 ts127) (Tree.node k140 nm141 num142 a143 ts144) (Tree.node k157 nm158 num159 a160 ts161) (Ps.A l i167) acc j) ⟨n185, a186, rfl⟩ HR
          go_wp2_with (go_at_call 18; refine hOk.out.mono ?_; rintro e w' ⟨rfl, rfl⟩)
          go_meet
          have s234 := s5.grown
          have hfm := RowIn.form (s234.rows _ (List.mem_cons_self ..))
          obtain ⟨fo, fc, hfm⟩ := hfm
          dsimp only at hfm
          case rel =>
            have hq := s234
            rw [hfm] at hq
            exact ⟨_, j, fo, fc, acc, hq, by omega, hPq, HR⟩
    case rest =>
      obtain ⟨q235, i236, so237, sc238, ts239, s240, le241, hp242, HR⟩ := hcut
      have le241 := Lib.hid le241
      have s243 := s182.callKeepB s240.kp s240.ps _ _ _ s240.n0.1 s240.n0.2 (s240.rowB (sv := .slice so237 ts239.length sc238) (ts := ts239) (by simp))
      unfold modP modD at HR
      rw [body_eq] at HR
      replace HR := rassoc HR
      go_wp2_with fail
      refine (rat_any s243.ps).mono ?_
      rintro e w244 ⟨rfl, hb245⟩
      have s246 := s243.below hb245
      go_wp2_with fail
      have s247 := s246.allocAt (w244.heap.size) 25 #[.int .i64 1, .string ⟨#[]⟩, .int .i64 0, .int .i64 (Ps.A l i236), .slice none 0 0] (by simp)
      refine (ris_star s247.ps (⟨#[66, 69, 71, 73, 78]⟩) (fun _ => by decide)).mono ?_
      rintro e w248 ⟨b249, q250, i251, rfl, h252, le253, hk254, ho255⟩
      have hp256 := Okp.on hp242 ho255
      replace HR := ho255 HR
      clear ho255
      have le253 := Lib.hid le253
      have s257 := s247.call hk254 h252
      go_upto_if 75 with fail
      go_cut [75] from 76 to 77 (fun _ wc => ∃ (q : R Unit) (j k : Nat) (nm : ByteArray) (num a : Nat) (so : Option Addr) (sc : Nat) (ts : List Tree), Rs w wc p T l q j d [(w244.heap.size, 25, #[.int .i64 (k : Nat), .string nm, .int .i64 (num : Nat), .int .i64 (a : Nat), .slice so ts.length sc]), (w180.heap.size, 25, #[.int .i64 1, .string ⟨#[]⟩, .int .i64 0, .int .i64 (Ps.A l i167), .slice so237 ts239.length sc238]), (w36.heap.size, 25, #[.int .i64 1, .string ⟨#[]⟩, .int .i64 0, .int .i64 (Ps.A l i29), .slice so99 ts101.length sc100]), (w2.heap.size, 25, #[.int .i64 2, .string nm14, .int .i64 0, .int .i64 (Ps.A l i), .slice go174 gn175 gc176]), (w.heap.size, 25, #[.int .i64 0, .string ⟨#[]⟩, .int .i64 0, .int .i64 0, .slice none 0 0])] (.slice go174 gn175 gc176, [(Tree.node 1 ⟨#[]⟩ 0 (Ps.A l i29) ts101), Tree.node k123 nm124 num125 a126 ts127, Tree.node k140 nm141 num142 a143 ts144, Tree.node k157 nm158 num159 a160 ts161]) [(.slice so ts.length sc, ts), (.slice so237 ts239.length sc238, ts239)] ∧ i ≤ j ∧ Okp (nm14 ≠ ⟨#[]⟩) q ∧ Hid (r = q.bind fun _ _ => modE l i nm14 ((Tree.node 1 ⟨#[]⟩ 0 (Ps.A l i29) ts101)) (Tree.node k123 nm124 num125 a126 ts127) (Tree.node k140 nm141 num142 a143 ts144) (Tree.node k157 nm158 num159 a160 ts161) (Tree.node 1 ⟨#[]⟩ 0 (Ps.A l i167) ts239) (.node k nm num a ts) j))
      case first =>
        cases b249 with
        | false =>
          replace HR := rokX (if_neg_bind (by decide)) HR
          go_wp2_with fail
          go_meet
          have s258 := s257.keepNil
          case rel => have a0 := le103.out; have a1 := le135.out; have a2 := le152.out; have a3 := le169.out; have a4 := le241.out; have a5 := le253.out; exact ⟨_, i251, 1, ⟨#[]⟩, 0, (Ps.A l i236), none, 0, [], s258.rowsOf (fun _ h => by simp at h; rcases h with h | h <;> simp [h]), by omega, hp256, HR⟩
        | true =>
          replace HR := rokX (if_pos_bind rfl) HR
          go_wp2_with fail
          refine (rt_on s257.ps (hsts _ p T l _ _ trivial s257.ps)).mono ?_
          rintro e w267 ⟨k259, nm260, num261, a262, ts263, so264, sc265, q268, i269, rfl, hrow266, h270, le271, hk272, ho273⟩
          have hp274 := Okp.on hp256 ho273
          replace HR := ho273 HR
          clear ho273
          have le271 := Lib.hid le271
          have s275 := s257.callKeep hk272 h270 hrow266
          unfold nodeV
          have c276 := s275.n0.2.five
          have l277 := s275.n0.2.lt
          go_wp2_with fail
          clear c276 l277
          go_meet
          have s278 := s275.p0 (.int .i64 k259) (.string nm260) (.int .i64 num261) (.int .i64 a262) (.slice so264 ts263.length sc265)
          case rel => have a0 := le103.out; have a1 := le135.out; have a2 := le152.out; have a3 := le169.out; have a4 := le241.out; have a5 := le253.out; have a6 := le271.out; exact ⟨_, i269, k259, nm260, num261, a262, _, _, ts263, s278.rowsOf (fun _ h => by simp at h; rcases h with h | h <;> simp [h]), by omega, hp274, HR⟩
      case rest =>
        obtain ⟨q279, i280, k281, nm282, num283, a284, so285, sc286, ts287, s288, le289, hp290, HR⟩ := hcut
        have le289 := Lib.hid le289
        unfold modE at HR
        have c291 := s288.n0.2.five
        have l292 := s288.n0.2.lt
        have c293 := s288.n1.2.five
        have l294 := s288.n1.2.lt
        have c295 := s288.n3.2.five
        have l296 := s288.n3.2.lt
        have d297 := s288.d01
        have d298 := s288.d03
        have d299 := s288.d13
        go_wp2_with (first | (at_builtin; refine s288.app2L (k0 := 1) (nm0 := ⟨#[]⟩) (num0 := 0) (a0 := (Ps.A l i167)) (sv0 := .slice so237 ts239.length sc238) (ts0 := ts239) (k1 := k281) (nm1 := nm282) (num1 := num283) (a1 := a284) (sv1 := .slice so285 ts287.length sc286) (ts1 := ts287) (by simp) (by simp) rfl (.tmp 79) (.tmp 82) rfl rfl (by simp [Act.eval]) (by simp) ?_; intro go300 gn301 gc302 w303 s304; have cz := s304.n3.2.five; have czl := s304.n3.2.lt) | fail)
        clear cz czl c291 l292 c293 l294 c295 l296 d297 d298 d299
        have s305 := s304.s34 (.slice go300 gn301 gc302)
        refine (rneed_on s305.ps (⟨#[69, 78, 68]⟩) (fun _ => by decide)).mono ?_
        rintro e w306 ⟨q307, i308, rfl, h309, le310, hk311, ho312⟩
        have hp313 := Okp.on hp290 ho312
        replace HR := ho312 HR
        clear ho312
        have le310 := Lib.hid le310
        have s314 := s305.call hk311 h309
        have c315 := s314.n3.2.five
        have l316 := s314.n3.2.lt
        go_wp2_with fail
        clear c315 l316
        refine (rneed_on s314.ps (nm14) (fun hk => by obtain ⟨k, hk⟩ := hk; have hg := hp313; rw [hk] at hg; exact hg.get)).mono ?_
        rintro e w317 ⟨q318, i319, rfl, h320, le321, hk322, ho323⟩
        have hp324 := Okp.on hp313 ho323
        replace HR := ho323 HR
        clear ho323
        have le321 := Lib.hid le321
        have s325 := s314.call hk322 h320
        go_wp2_with fail
        refine (rneed_on s325.ps (⟨#[46]⟩) (fun _ => by decide)).mono ?_
        rintro e w326 ⟨q327, i328, rfl, h329, le330, hk331, ho332⟩
        have hp333 := Okp.on hp324 ho332
        replace HR := ho332 HR
        clear ho332
        have le330 := Lib.hid le330
        have s334 := s325.call hk331 h329
        have c335 := s334.n3.2.five
        have l336 := s334.n3.2.lt
        have c337 := s334.n4.2.five
        have l338 := s334.n4.2.lt
        have d339 := s334.d34
        go_wp2_with fail
        clear c335 l336 c337 l338 d339
        have s340 := s334.grown
        have s341 := s340.p4 (.int .i64 2) (.string nm14) (.int .i64 0) (.int .i64 (Ps.A l i)) (.slice go300 gn301 gc302)
        exact bodyPost_ret (res5 Tryz.results17 rfl s341.n4.2) rfl ⟨rend s341.ps HR (s341.treeOf (sv := .slice go300 gn301 gc302) (by simp)) (by have := le289.out; have := le310.out; have := le321.out; have := le330.out; omega), s341.kp⟩
end Go.Proofs.YtneohanphabneaaGreatDoor

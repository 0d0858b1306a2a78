/-
  Contracts of the reference's reader: given; small things.
-/
import Derived.Test.YtneohanphabneaaGreatDoorMR6
import Derived.Test.YtneohanphabneaaGreatDoorMP7
namespace Go.Proofs.YtneohanphabneaaGreatDoor
open Go.RowKit Ps
/-- Does a statement end there? -/
theorem rbehind_any (s : ByteArray) (w : World) : Calls Tryz.prog 103 #[.string s] w fun e w' => e = .returned (.bool (Ps.follows s)) ∧ w = w' := by
  have h0 := empty_iff s
  have h1 := bytes_beq s ⟨#[69, 78, 68]⟩
  have h2 := bytes_beq s ⟨#[69, 76, 83, 73, 70]⟩
  have h3 := bytes_beq s ⟨#[69, 76, 83, 69]⟩
  have h4 := bytes_beq s ⟨#[85, 78, 84, 73, 76]⟩
  rw [show (ByteArray.mk #[69, 78, 68]).toList = [69, 78, 68] from by rw [Lib.toList_data]] at h1
  rw [show (ByteArray.mk #[69, 76, 83, 73, 70]).toList = [69, 76, 83, 73, 70] from by rw [Lib.toList_data]] at h2
  rw [show (ByteArray.mk #[69, 76, 83, 69]).toList = [69, 76, 83, 69] from by rw [Lib.toList_data]] at h3
  rw [show (ByteArray.mk #[85, 78, 84, 73, 76]).toList = [85, 78, 84, 73, 76] from by rw [Lib.toList_data]] at h4
  unfold Ps.follows
  rcases k0 : decide (s = ⟨#[]⟩) with _ | _ <;> rcases k1 : decide (s = ⟨#[69, 78, 68]⟩) with _ | _ <;> rcases k2 : decide (s = ⟨#[69, 76, 83, 73, 70]⟩) with _ | _ <;> rcases k3 : decide (s = ⟨#[69, 76, 83, 69]⟩) with _ | _ <;> rcases k4 : decide (s = ⟨#[85, 78, 84, 73, 76]⟩) with _ | _
  all_goals
    rw [k0] at h0
    rw [k1] at h1
    rw [k2] at h2
    rw [k3] at h3
    rw [k4] at h4
    clear k0 k1 k2 k3 k4
    go_enter Tryz.func103, Tryz.ntmps103
    go_wp2_with fail
    go_ret
    exact ⟨rfl, rfl⟩
section
variable {w w' : World} {p T : Nat} {l : List Sc.Tok} {s : R Unit} {i i' d d' : Nat} {α β : Type} {total : R β}
/-- One level up again. -/
theorem rup (h : RS w p T l s i (d + 1)) : RS (w.setCell ⟨p, 2, none⟩ (.int .i64 d)) p T l s i d := by
  obtain ⟨c, hc, hb, _⟩ := h.facts
  exact h.put (fun j hj => Below.heap_setCell _ _ _ _ hj) hc (hb.set 2 (.int .i64 d)) h.hi (by have := h.hd; omega) h.ok h.bad
theorem rupX {X : Nat → Prop} {u : World} {bs : List Bl} {g : Rw} {rs : List Rw} (h : RsX X w u p T l s i (d + 1) bs g rs) : RsX X w (u.setCell ⟨p, 2, none⟩ (.int .i64 d)) p T l s i d bs g rs := h.call ((Kp.refl _ _ _).put 2 _) (rup h.ps)
/-- A word that is not the last one is taken. -/
theorem rskip (h : RS w p T l (.ok () i) i d) (hw : Ps.W l i ≠ ⟨#[]⟩) : RS (w.setCell ⟨p, 1, none⟩ (.int .i64 ((i : Int) + 1))) p T l (.ok () (i + 1)) (i + 1) d := by
  obtain ⟨c, hc, hb, _⟩ := h.facts
  exact h.put (fun j hj => Below.heap_setCell _ _ _ _ hj) hc (hb.set 1 (.int .i64 ((i : Int) + 1))) (Ps.isW_lt h.last h.hi (Ps.isW_self l i) hw) h.hd (fun j hj => by injection hj with _ hj; exact hj.symm) (fun _ _ h => by cases h)
theorem rskipX {X : Nat → Prop} {u : World} {bs : List Bl} {g : Rw} {rs : List Rw} (h : RsX X w u p T l (.ok () i) i d bs g rs) (hw : Ps.W l i ≠ ⟨#[]⟩) : RsX X w (u.setCell ⟨p, 1, none⟩ (.int .i64 ((i : Int) + 1))) p T l (.ok () (i + 1)) (i + 1) d bs g rs := h.call ((Kp.refl _ _ _).put 1 _) (rskip h.ps hw)
/-- One level down: there the read goes on as Y, if a level is left; else X is an error. -/
theorem rdeep_on (h : RS w p T l s i d) (hP : Okp (d ≤ 20) s) (hd : d < 50) : Calls Tryz.prog 102 #[pp p] w fun e w' =>
    ∃ q, e = .returned (.tuple #[]) ∧ RS w' p T l q i (d + 1) ∧ Kp w.heap.size p w w' ∧ Okp (d + 1 ≤ 20) q ∧ (∀ {β : Type} {total X Y : R β}, (d < 20 → X = Y) → (20 ≤ d → X = .bad 3 (Ps.A l i)) → Hid (total = s.bind fun _ _ => X) → Hid (total = q.bind fun _ _ => Y)) := by
  refine (rdeeper_any h hd).mono ?_
  rintro e w' ⟨rfl, h', hk⟩
  rcases Nat.lt_or_ge d 20 with h20 | h20
  · rw [if_pos h20] at h'
    exact ⟨s, rfl, h', hk, .inl (by omega), fun hX _ HR => rokX (hX h20) HR⟩
  · rw [if_neg (by omega)] at h'
    cases s with
    | bad n a => exact ⟨_, rfl, h', hk, .inr ⟨n, a, rfl⟩, fun _ _ HR => Lib.hid HR.out⟩
    | ok u k =>
      have hk2 := h.ok k rfl
      subst hk2
      exact ⟨_, rfl, h', hk, .inr ⟨_, _, rfl⟩, fun _ hX HR => Lib.hid (HR.out.trans (hX h20))⟩
/-- What a function of the reader comes to that hands a row of trees back. -/
def RL (S : Nat → Prop) (p T : Nat) (l : List Sc.Tok) (i d : Nat) (total : R (List Tree)) (e : Ending) (w' : World) : Prop :=
  ∃ so ts sc i', e = .returned (.slice so ts.length sc) ∧ RowIn w' S (.slice so ts.length sc) ts ∧ RS w' p T l total.u i' d ∧ i ≤ i' ∧ ts.length ≤ l.length ∧ ∀ t0 i0, total = .ok t0 i0 → ts = t0
theorem rl_on {fn : FuncId} {args : Array Value} {S : Nat → Prop} {f : Nat → R (List Tree)} (h : RS w p T l s i d) (C : Calls Tryz.prog fn args w fun e w' => RL S p T l i d (s.bind fun _ k => f k) e w' ∧ Kp w.heap.size p w w') : Calls Tryz.prog fn args w fun e w' =>
    ∃ so ts sc q j, e = .returned (.slice so ts.length sc) ∧ RowIn w' S (.slice so ts.length sc) ts ∧ RS w' p T l q j d ∧ i ≤ j ∧ Kp w.heap.size p w w' ∧ On s (f i) ts q j ∧ ts.length ≤ l.length := by
  refine C.mono ?_
  rintro e w' ⟨⟨so, ts, sc, j, rfl, hrow, h', le, hlen, hv⟩, hk⟩
  exact ⟨so, ts, sc, _, j, rfl, hrow, h', le, hk, fun HR => rstep h h' hv HR, hlen⟩
theorem rlend {S : Nat → Prop} {total : R (List Tree)} {so : Option Addr} {n sc : Nat} {ts : List Tree} {i0 : Nat} (h : RS w' p T l s i d) (HR : Hid (total = s.bind fun _ _ => .ok ts i)) (ht : RowIn w' S (.slice so n sc) ts) (hi : i0 ≤ i) (hl : ts.length ≤ l.length) : RL S p T l i0 d total (.returned (.slice so n sc)) w' := by
  obtain ⟨o, c, hf⟩ := ht.form
  injection hf with _ hn _
  subst hn
  refine ⟨so, ts, sc, i, rfl, ht, h.at ?_ rfl, hi, hl, fun t0 j hj => ?_⟩
  · rw [HR.out]
    cases s with
    | bad n a => rfl
    | ok u k => rw [h.ok k rfl]; rfl
  · rw [HR.out] at hj
    cases s with
    | bad n a => cases hj
    | ok u k => injection hj
theorem RsX.np {X : Nat → Prop} {u : World} {g : Rw} {rs : List Rw} {bs : List Bl} (h : RsX X w u p T l s i d bs g rs) (n : Nat) {b : Nat} {t : TypeId} {cs : Array Value} (hn : bs[n]? = some (b, t, cs)) : ¬ b = p ∧ ¬ p = b := by
  obtain ⟨h1, h2⟩ := List.getElem?_eq_some_iff.1 hn
  have := h.ne _ (List.getElem_mem h1)
  rw [h2] at this
  exact ⟨this, fun e => this e.symm⟩
theorem Okp.of {g : Prop} (h : Okp False s) : Okp g s := .inr (h.resolve_left id)
theorem Okp.get {g : Prop} {k : Nat} (h : Okp g (.ok () k)) : g := h.elim id fun ⟨_, _, h⟩ => by cases h
/-- A word's row of operators holds it, if it is one of the level. -/
theorem rop_any (l : List Sc.Tok) (lev i : Nat) (ks : List ByteArray) (hl : Ps.levels[lev]? = some ks) : (ks.any fun k => decide (k = Ps.W l i)) = Ps.isOp l lev i := by
  unfold Ps.isOp
  rw [hl]
  show _ = ks.any fun s => Ps.isW l i s
  unfold Ps.isW
  congr 1
  funext k
  exact decide_eq_decide.2 eq_comm
theorem if_pos_bind {c : Prop} [Decidable c] {x y : R α} {K : α → Nat → R β} (h : c) : (if c then x else y).bind K = x.bind K := by rw [if_pos h]
theorem if_neg_bind {c : Prop} [Decidable c] {x y : R α} {K : α → Nat → R β} (h : ¬ c) : (if c then x else y).bind K = y.bind K := by rw [if_neg h]
theorem isW_lit (l : List Sc.Tok) (i : Nat) (x : ByteArray) (t : List UInt8) (h : x.toList = t) : ((Ps.W l i).toList == t) = Ps.isW l i x := h ▸ isW_beq l i x
theorem rself (hn : ∀ k, s = .ok () k → Ps.isW l k (Ps.W l i) = false) (h : RS w p T l s i d) : ∃ n a, s = .bad n a := by
  cases s with
  | bad n a => exact ⟨n, a, rfl⟩
  | ok u k =>
    have hk := h.ok k rfl
    subst hk
    have := hn k rfl
    rw [Ps.isW_self] at this
    cases this
end
section
variable {X : Nat → Prop} {w u : World} {p T : Nat} {l : List Sc.Tok} {sr : R Unit} {ir d : Nat} {bs : List Bl} {gv : Value} {acc : List Tree} {rs : List Rw} {o : Oper} {a : Act} {K : Act → World → Prop} {Q : Exit → Act → World → Prop} {k0 : Nat} {nm0 : ByteArray} {num0 a0 : Nat} {sv0 : Value} {ts0 : List Tree}
/-- Trees are appended; how many there are then is left open. -/
theorem RsX.app1n (h : RsX X w u p T l sr ir d bs (gv, acc) rs) (hm0 : (sv0, ts0) ∈ rs) (s x : Operand)
    (ho : o.op = .call { callee := .builtin .append, args := #[s, x], argTypes := #[23, 23] }) (hs : a.eval s = gv) (hx : a.eval x = .slice (some ⟨u.heap.size, 0, none⟩) 1 1) (hlen : acc.length < 500000)
    (hK : ∀ go gn gc u', RsX X w u' p T l sr ir d bs (.slice go gn gc, acc ++ [Tree.node k0 nm0 num0 a0 ts0]) rs → K (a.put o.dst (.slice go gn gc)) u') : o.wp Tryz.prog a (u.alloc (.cells #[.int .i64 (k0 : Nat), .string nm0, .int .i64 (num0 : Nat), .int .i64 (a0 : Nat), sv0] 25)) K Q :=
  h.app1 hm0 s x ho hs hx hlen fun go gc u' s' => hK go _ gc u' s'
variable {k1 : Nat} {nm1 : ByteArray} {num1 a1 : Nat} {sv1 : Value} {ts1 : List Tree}
theorem RsX.app2n (h : RsX X w u p T l sr ir d bs (gv, acc) rs) (hm0 : (sv0, ts0) ∈ rs) (hm1 : (sv1, ts1) ∈ rs) (s x : Operand)
    (ho : o.op = .call { callee := .builtin .append, args := #[s, x], argTypes := #[23, 23] }) (hs : a.eval s = gv) (hx : a.eval x = .slice (some ⟨u.heap.size, 0, none⟩) 2 2) (hlen : acc.length < 500000)
    (hK : ∀ go gn gc u', RsX X w u' p T l sr ir d bs (.slice go gn gc, acc ++ [Tree.node k0 nm0 num0 a0 ts0, Tree.node k1 nm1 num1 a1 ts1]) rs → K (a.put o.dst (.slice go gn gc)) u') : o.wp Tryz.prog a (u.alloc (.cells #[.int .i64 (k0 : Nat), .string nm0, .int .i64 (num0 : Nat), .int .i64 (a0 : Nat), sv0, .int .i64 (k1 : Nat), .string nm1, .int .i64 (num1 : Nat), .int .i64 (a1 : Nat), sv1] 25)) K Q :=
  h.app2 hm0 hm1 s x ho hs hx hlen fun go gc u' s' => hK go _ gc u' s'
end
set_option maxRecDepth 100000 in
set_option maxHeartbeats 1000000 in
theorem rgiven_any {w : World} {p T : Nat} {l : List Sc.Tok} {s : R Unit} {i d : Nat} (h : RS w p T l s i d) (ex : List Sc.Tok → Nat → R Tree) (hex : RCT (fun _ => True) 148 d ex) : Calls Tryz.prog 151 #[pp p] w fun e w' =>
    RL (fun b => w.heap.size ≤ b) p T l i d (s.bind fun _ k => Ps.args l (ex l) k) e w' ∧ Kp w.heap.size p w w' := by
  obtain ⟨r, hr⟩ : ∃ r, r = s.bind fun _ k => Ps.args l (ex l) k := ⟨_, rfl⟩
  rw [← hr]
  have HR := rhere h _ hr
  clear hr
  unfold Ps.args at HR
  unfold pp
  go_enter Tryz.func151, Tryz.ntmps151
  go_wp2_with fail
  have s1 := Rs.start h
  refine (ris_any s1.ps (⟨#[40]⟩) (fun _ => by decide)).mono ?_
  rintro e w2 ⟨⟨hq3, hw4, rfl, h5⟩ | ⟨hw4, rfl, h5⟩, hk6⟩
  · replace HR := ryes (j := i + 1) hq3 hw4 HR
    have s7 := s1.call hk6 h5
    go_wp2_with fail
    refine (ris_any s7.ps (⟨#[41]⟩) (fun _ => by decide)).mono ?_
    rintro e w8 ⟨⟨hq9, hw10, rfl, h11⟩ | ⟨hw10, rfl, h11⟩, hk12⟩
    · replace HR := ryes (j := (i + 1) + 1) hq9 hw10 HR
      have s13 := s7.call hk12 h11
      go_wp2_with fail
      go_ret
      exact ⟨rlend s13.ps HR (.nil _ _) (by omega) (Nat.zero_le _), s13.kp⟩
    · replace HR := rno s7.ps hw10 HR
      have s14 := s7.call hk12 h11
      go_wp2_with fail
      go_loopg [3] l.length (fun F v wr => ∃ (q : R Unit) (j : Nat) (acc : List Tree) (go : Option Addr) (gn gc : Nat), q = .ok () j ∧ v = .slice go gn gc ∧ l.length ≤ j + F ∧ i ≤ j ∧ acc.length + F ≤ l.length ∧ Rs w wr p T l q j d [] (.slice go gn gc, acc) [] ∧
        Hid (r = q.bind fun _ _ => (Ps.argsLoop l (ex l) F j acc).bind fun ts i1 => (Ps.must l ⟨#[41]⟩ i1).bind fun _ i2 => R.ok ts i2))
      case atStart => exact ⟨_, (i + 1), [], none, 0, 0, rfl, rfl, by omega, by omega, by simp, s14, HR⟩
      case round =>
        obtain ⟨q, j, acc, go, gn, gc, rfl, rfl, hF, hij, hacc, s5, HR⟩ := hrel
        have hjl := s5.ps.hi
        have hsm := s5.ps.small
        have hOk := Lib.hid (rok_any s5.ps)
        rw [show decide (eC (R.ok () j : R Unit) = 0) = true from rfl] at hOk
        unfold pp at hOk
        cases gk with
        | zero => omega
        | succ F =>
          unfold Ps.argsLoop at HR
          replace HR := rassoc HR
          go_wp2_with (go_at_call 18; refine hOk.out.mono ?_; rintro e w' ⟨rfl, rfl⟩)
          refine (rt_on s5.ps (hex _ p T l _ _ trivial s5.ps)).mono ?_
          rintro e w23 ⟨k15, nm16, num17, a18, ts19, so20, sc21, q24, i25, rfl, hrow22, h26, le27, hk28, ho29⟩
          replace HR := ho29 HR
          clear ho29
          have le27 := Lib.hid le27
          have s30 := s5.callKeep hk28 h26 hrow22
          unfold nodeV
          go_wp2_with (first | (at_builtin; refine s30.app1L (k0 := k15) (nm0 := nm16) (num0 := num17) (a0 := a18) (sv0 := .slice so20 ts19.length sc21) (ts0 := ts19) (by simp) rfl (.tmp 14) (.tmp 17) rfl rfl rfl (by omega) ?_; intro go31 gc32 w33 s34) | fail)
          refine (ris_any s34.ps (⟨#[44]⟩) (fun _ => by decide)).mono ?_
          rintro e w35 ⟨⟨hq36, hw37, rfl, h38⟩ | ⟨hw37, rfl, h38⟩, hk39⟩
          · replace HR := ryesB (j := i25 + 1) hq36 hw37 HR
            have s40 := s34.call hk39 h38
            go_wp2_with fail
            go_roundg F
            case measure => omega
            case rel => have a0 := le27.out; exact ⟨_, (i25 + 1), acc ++ [Tree.node k15 nm16 num17 a18 ts19], go31, acc.length + 1, gc32, rfl, rfl, by omega, by omega, by simp; omega, s40.rowsOf (fun _ h => by cases h), HR⟩
          · replace HR := rnoB s34.ps hw37 HR
            have s41 := s34.call hk39 h38
            go_wp2_with fail
            refine (rneed_on s41.ps (⟨#[41]⟩) (fun _ => by decide)).mono ?_
            rintro e w42 ⟨q43, i44, rfl, h45, le46, hk47, ho48⟩
            replace HR := ho48 HR
            clear ho48
            have le46 := Lib.hid le46
            have s49 := s41.call hk47 h45
            go_wp2_with fail
            go_ret
            have s50 := s49.grown
            exact ⟨rlend s50.ps HR (s50.rowOf (sv := .slice go31 (acc.length + 1) gc32) (by simp)) (by have := le27.out; have := le46.out; omega) (by simp; omega), s50.kp⟩
  · replace HR := rno s1.ps hw4 HR
    have s51 := s1.call hk6 h5
    go_wp2_with fail
    go_ret
    exact ⟨rlend s51.ps HR (.nil _ _) (by omega) (Nat.zero_le _), s51.kp⟩
end Go.Proofs.YtneohanphabneaaGreatDoor
/-
  Contracts of the reference's reader: a product.
-/
namespace Go.Proofs.YtneohanphabneaaGreatDoor
open Go.RowKit Ps
theorem strs_new (w : World) (ks : List ByteArray) {ty : TypeId} : Strs (w.alloc (.cells (ks.map fun k => Value.string k).toArray ty)) w.heap.size 0 ks := by
  intro j hj
  have := (Blk.new w ty (ks.map fun k => Value.string k).toArray).cell j
  rw [Nat.zero_add, this]
  simp [hj]
set_option maxRecDepth 100000 in
set_option maxHeartbeats 2000000 in
theorem rproduct_any {w : World} {p T : Nat} {l : List Sc.Tok} {s : R Unit} {i d : Nat} (h : RS w p T l s i d) {g : Prop} (hP : Okp g s) (fac : List Sc.Tok → Nat → R Tree) (hfac : RCT (Okp g) 208 d fac) : Calls Tryz.prog 195 #[pp p] w fun e w' =>
    RT (fun b => w.heap.size ≤ b) p T l i d (s.bind fun _ k => Ps.term l (fac l) k) e w' ∧ Kp w.heap.size p w w' := by
  obtain ⟨r, hr⟩ : ∃ r, r = s.bind fun _ k => Ps.term l (fac l) k := ⟨_, rfl⟩
  rw [← hr]
  have HR := rhere h _ hr
  clear hr
  unfold Ps.term at HR
  unfold pp
  go_enter Tryz.func195, Tryz.ntmps195
  go_wp2_with fail
  have s1 := (Rs.start h).allocAt (w.heap.size) 25 #[.int .i64 0, .string ⟨#[]⟩, .int .i64 0, .int .i64 0, .slice none 0 0] (by simp)
  refine (rt_on s1.ps (hfac _ p T l _ _ hP s1.ps)).mono ?_
  rintro e w10 ⟨k2, nm3, num4, a5, ts6, so7, sc8, q11, i12, rfl, hrow9, h13, le14, hk15, ho16⟩
  have hp17 := Okp.on hP ho16
  replace HR := ho16 HR
  clear ho16
  have le14 := Lib.hid le14
  have s18 := s1.callKeep hk15 h13 hrow9
  unfold nodeV
  go_wp2_with fail
  have s19 := s18.allocAt (w10.heap.size) 25 #[.int .i64 k2, .string nm3, .int .i64 num4, .int .i64 a5, .slice so7 ts6.length sc8] (by simp)
  go_loopg [4] 21 (fun F v wr => ∃ (q : R Unit) (j k : Nat) (nm : ByteArray) (num at_ : Nat) (so : Option Addr) (sn sc : Nat) (ts : List Tree), F ≤ 21 ∧ v = .int .i64 (22 - F : Nat) ∧ (∀ k, q = .ok () k → 0 < F) ∧ i ≤ j ∧ Okp g q ∧ Rs w wr p T l q j d [(w10.heap.size, 25, #[.int .i64 k, .string nm, .int .i64 num, .int .i64 at_, .slice so sn sc]), (w.heap.size, 25, #[.int .i64 0, .string ⟨#[]⟩, .int .i64 0, .int .i64 0, .slice none 0 0])] g0 [(.slice so sn sc, ts)] ∧ Hid (r = q.bind fun _ _ => Ps.chain l 2 (fac l) (F - 1) (.node k nm num at_ ts) j))
  case atStart =>
    have a0 := le14.out
    exact ⟨_, i12, k2, nm3, num4, a5, so7, ts6.length, sc8, ts6, by omega, rfl, fun _ _ => by omega, by omega, hp17, s19.rowsOf (fun _ h => by simp at h; simp [h]), HR⟩
  case round =>
    obtain ⟨q, j, k, nm, num, at_, so, sn, sc, ts, hF, rfl, hq0, hij, hPq, s5, HR⟩ := hrel
    have hjl := s5.ps.hi
    have hsm := s5.ps.small
    have hOk := Lib.hid (rok_any s5.ps)
    unfold pp at hOk
    rcases rokB q s5.ps.bad with ⟨ho23, k20, rfl⟩ | ⟨ho23, n21, a22, rfl⟩
    · have hkj := (s5.ps.ok k20 rfl).symm
      subst hkj
      rw [ho23] at hOk
      clear ho23
      have hF1 := hq0 _ rfl
      clear hq0
      cases gk with
      | zero => omega
      | succ F =>
        replace HR : Hid (r = (R.ok () j : R Unit).bind fun _ _ => Ps.chain l 2 (fac l) F (.node k nm num at_ ts) j) := HR
        unfold Ps.chain at HR
        go_wp2_with (go_at_call 18; refine hOk.out.mono ?_; rintro e w' ⟨rfl, rfl⟩)
        refine (rword_any s5.ps).mono ?_
        rintro e w24 ⟨rfl, hb25⟩
        have s26 := s5.below hb25
        have hIn := Lib.hid (kin_any (w24.alloc (.cells #[.string ⟨#[42]⟩, .string ⟨#[68, 73, 86]⟩, .string ⟨#[77, 79, 68]⟩, .string ⟨#[38]⟩] 9)) (Ps.W l j) (w24.heap.size) 0 4 4 [⟨#[42]⟩, ⟨#[68, 73, 86]⟩, ⟨#[77, 79, 68]⟩, ⟨#[38]⟩] rfl (by decide) (Nat.le_refl _) (strs_new _ _))
        rw [rop_any l 2 j _ rfl] at hIn
        have s27 := (s26).other (.cells #[.string ⟨#[42]⟩, .string ⟨#[68, 73, 86]⟩, .string ⟨#[77, 79, 68]⟩, .string ⟨#[38]⟩] 9)
        cases hop : Ps.isOp l 2 j with
        | false =>
          rw [hop] at hIn HR
          replace HR := rokX (Y := R.ok (Tree.node k nm num at_ ts) j) rfl HR
          have c28 := s27.n0.2.five
          have l29 := s27.n0.2.lt
          have c30 := s27.n1.2.five
          have l31 := s27.n1.2.lt
          have d32 := s27.d01
          go_wp2_with (go_at_call 176; refine hIn.out.mono ?_; rintro e w' ⟨rfl, rfl⟩)
          clear c28 l29 c30 l31 d32
          have s33 := s27.p1 (.int .i64 k) (.string nm) (.int .i64 num) (.int .i64 at_) (.slice so sn sc)
          exact bodyPost_ret (res5 Tryz.results195 rfl s33.n1.2) rfl ⟨rend s33.ps HR (s33.treeOf (sv := .slice so sn sc) (by simp)) (by omega), s33.kp⟩
        | true =>
          rw [hop] at hIn HR
          have hne := op_ne hop
          have hne2 : Ps.W l j ≠ ⟨#[]⟩ := by rw [isW_empty] at hne; exact isW_ne hne
          go_wp2_with (go_at_call 176; refine hIn.out.mono ?_; rintro e w' ⟨rfl, rfl⟩)
          refine (ris_any s27.ps (Ps.W l j) (fun _ => hne2)).mono ?_
          rintro e w34 ⟨⟨hq35, hw36, rfl, h37⟩ | ⟨hw36, rfl, h37⟩, hk38⟩
          · replace HR := ryes' (j := j + 1) hq35 rfl HR
            have s39 := s27.call hk38 h37
            have hp40 := Okp.good hPq hq35 (s' := .ok () (j + 1))
            cases F with
            | zero =>
              have h20 : (20 : Int) < (22 - (0 + 1) : Nat) := by decide
              go_wp2_with fail
              refine (rstop_any s39.ps 3 (by decide)).mono ?_
              rintro e w41 ⟨rfl, h42, hk43⟩
              replace h42 : RS w41 p T l (.bad 3 (Ps.A l (j + 1))) (j + 1) d := h42
              have s44 := s39.call hk43 h42
              replace HR : Hid (r = (R.bad 3 (Ps.A l (j + 1)) : R Unit).bind fun _ _ => ((fac l) (j + 1)).bind fun b i1 => Ps.chain l 2 (fac l) 0 (.node 36 (Ps.W l j) 0 at_ [.node k nm num at_ ts, b]) i1) := Lib.hid HR.out
              have hp45 : Okp False (R.bad 3 (Ps.A l (j + 1)) : R Unit) := .inr ⟨_, _, rfl⟩
              have c46 := s44.n0.2.five
              have l47 := s44.n0.2.lt
              go_wp2_with fail
              clear c46 l47
              have hC := s44.n0.2
              refine Ch.wp_region_run (fun u => Blk u (w10.heap.size) 25 #[.int .i64 k, .string nm, .int .i64 num, .int .i64 at_, .slice so sn sc]) [2, 3] [0, 1, 2, 3, 4] [5, 6, 7, 8] [8] (by kernel_rfl) (by kernel_rfl) (fun _ _ d _ _ h => by cases d <;> exact h) (hC) ?_
              clear hC
              have s48 := s44.drew
              refine Ch.take0 (v := ?v49) rfl (by rfl) ?y50 ?_
              case y50 => intro u; go_simp; rfl
              simp only [Act.put, List.setIfInBounds_toArray, List.set_cons_zero, List.set_cons_succ]
              refine Ch.take1 (v := ?v51) rfl (by rfl) ?y52 ?_
              case y52 => intro u; go_simp; rfl
              simp only [Act.put, List.setIfInBounds_toArray, List.set_cons_zero, List.set_cons_succ]
              refine Ch.load2 (v := ?v53) rfl (by rfl) ?y54 ?_
              case y54 => intro u hC; have c5 := Blk.five hC; go_simp; rfl
              simp only [Act.put, List.setIfInBounds_toArray, List.set_cons_zero, List.set_cons_succ]
              refine Ch.load3 (v := ?v55) rfl (by rfl) ?y56 ?_
              case y56 => intro u hC; have c5 := Blk.five hC; go_simp; rfl
              simp only [Act.put, List.setIfInBounds_toArray, List.set_cons_zero, List.set_cons_succ]
              refine Ch.take4 (v := ?v57) rfl (by rfl) ?y58 ?_
              case y58 => intro u; go_simp; rfl
              simp only [Act.put, List.setIfInBounds_toArray, List.set_cons_zero, List.set_cons_succ]
              refine Ch.mid5 (by rfl) (fun K hK => ?_)
              go_simp
              refine (rt_on s48.ps (hfac _ p T l _ _ (hp45).of s48.ps)).mono ?_
              rintro e w67 ⟨k59, nm60, num61, a62, ts63, so64, sc65, q68, i69, rfl, hrow66, h70, le71, hk72, ho73⟩
              have hp74 := Okp.on hp45 ho73
              replace HR := ho73 HR
              clear ho73
              have le71 := Lib.hid le71
              have s75 := s48.callKeep hk72 h70 hrow66
              unfold nodeV
              refine hK _ _ (s75.n0.2) ?_
              clear hK K
              try simp only [Act.put, List.setIfInBounds_toArray, List.set_cons_zero, List.set_cons_succ]
              refine Ch.mid6 (by rfl) (fun K hK => ?_)
              go_simp
              refine hK _ _ ((s75.other _).n0.2) ?_
              clear hK K
              try simp only [Act.put, List.setIfInBounds_toArray, List.set_cons_zero, List.set_cons_succ]
              refine Ch.mid7 (by rfl) (fun K hK => ?_)
              go_simp
              refine hK _ _ ((s75.other _).n0.2) ?_
              clear hK K
              try simp only [Act.put, List.setIfInBounds_toArray, List.set_cons_zero, List.set_cons_succ]
              have cc := s75.n0.2.five
              have cl := s75.n0.2.lt
              refine Ch.post8 rfl (by rfl) (fun K hK => ?_)
              go_simp
              refine hK _ _ ?_
              clear hK K
              try simp only [Act.put, List.setIfInBounds_toArray, List.set_cons_zero, List.set_cons_succ]
              refine Ch.run_end ?_
              have s76 := s75.p0 (.int .i64 36) (.string (W l j)) (.int .i64 (0 : Nat)) (.int .i64 at_) (.slice (some ⟨w67.heap.size, 0, none⟩) 2 2)
              have s77 := s76.built2 (k0 := k) (nm0 := nm) (num0 := num) (a0 := at_) (sv0 := .slice so sn sc) (ts0 := ts) (k1 := k59) (nm1 := nm60) (num1 := num61) (a1 := a62) (sv1 := .slice so64 ts63.length sc65) (ts1 := ts63) (by simp) (by simp) (w67.heap.size) (by simp)
              clear cc cl
              go_wp2_with fail
              go_roundg (0)
              case measure => omega
              case rel => have a0 := le71.out; exact ⟨_, i69, 36, W l j, 0, at_, _, _, _, _, by omega, by go_num, (fun k hk => by obtain ⟨n, a, hb⟩ := hp74.resolve_left id; rw [hb] at hk; cases hk), by omega, (hp74).of, s77.rowsOf (fun _ h => by simp at h; simp [h]), HR⟩
            | succ F =>
              have h20 : ¬ (20 : Int) < (22 - (F + 1 + 1) : Nat) := by omega
              go_wp2_with fail
              have c78 := s39.n0.2.five
              have l79 := s39.n0.2.lt
              go_wp2_with fail
              clear c78 l79
              have hC := s39.n0.2
              refine Ch.wp_region_run (fun u => Blk u (w10.heap.size) 25 #[.int .i64 k, .string nm, .int .i64 num, .int .i64 at_, .slice so sn sc]) [2, 3] [0, 1, 2, 3, 4] [5, 6, 7, 8] [8] (by kernel_rfl) (by kernel_rfl) (fun _ _ d _ _ h => by cases d <;> exact h) (hC) ?_
              clear hC
              have s80 := s39.drew
              refine Ch.take0 (v := ?v81) rfl (by rfl) ?y82 ?_
              case y82 => intro u; go_simp; rfl
              simp only [Act.put, List.setIfInBounds_toArray, List.set_cons_zero, List.set_cons_succ]
              refine Ch.take1 (v := ?v83) rfl (by rfl) ?y84 ?_
              case y84 => intro u; go_simp; rfl
              simp only [Act.put, List.setIfInBounds_toArray, List.set_cons_zero, List.set_cons_succ]
              refine Ch.load2 (v := ?v85) rfl (by rfl) ?y86 ?_
              case y86 => intro u hC; have c5 := Blk.five hC; go_simp; rfl
              simp only [Act.put, List.setIfInBounds_toArray, List.set_cons_zero, List.set_cons_succ]
              refine Ch.load3 (v := ?v87) rfl (by rfl) ?y88 ?_
              case y88 => intro u hC; have c5 := Blk.five hC; go_simp; rfl
              simp only [Act.put, List.setIfInBounds_toArray, List.set_cons_zero, List.set_cons_succ]
              refine Ch.take4 (v := ?v89) rfl (by rfl) ?y90 ?_
              case y90 => intro u; go_simp; rfl
              simp only [Act.put, List.setIfInBounds_toArray, List.set_cons_zero, List.set_cons_succ]
              refine Ch.mid5 (by rfl) (fun K hK => ?_)
              go_simp
              refine (rt_on s80.ps (hfac _ p T l _ _ hp40 s80.ps)).mono ?_
              rintro e w99 ⟨k91, nm92, num93, a94, ts95, so96, sc97, q100, i101, rfl, hrow98, h102, le103, hk104, ho105⟩
              have hp106 := Okp.on hp40 ho105
              replace HR := ho105 HR
              clear ho105
              have le103 := Lib.hid le103
              have s107 := s80.callKeep hk104 h102 hrow98
              unfold nodeV
              refine hK _ _ (s107.n0.2) ?_
              clear hK K
              try simp only [Act.put, List.setIfInBounds_toArray, List.set_cons_zero, List.set_cons_succ]
              refine Ch.mid6 (by rfl) (fun K hK => ?_)
              go_simp
              refine hK _ _ ((s107.other _).n0.2) ?_
              clear hK K
              try simp only [Act.put, List.setIfInBounds_toArray, List.set_cons_zero, List.set_cons_succ]
              refine Ch.mid7 (by rfl) (fun K hK => ?_)
              go_simp
              refine hK _ _ ((s107.other _).n0.2) ?_
              clear hK K
              try simp only [Act.put, List.setIfInBounds_toArray, List.set_cons_zero, List.set_cons_succ]
              have cc := s107.n0.2.five
              have cl := s107.n0.2.lt
              refine Ch.post8 rfl (by rfl) (fun K hK => ?_)
              go_simp
              refine hK _ _ ?_
              clear hK K
              try simp only [Act.put, List.setIfInBounds_toArray, List.set_cons_zero, List.set_cons_succ]
              refine Ch.run_end ?_
              have s108 := s107.p0 (.int .i64 36) (.string (W l j)) (.int .i64 (0 : Nat)) (.int .i64 at_) (.slice (some ⟨w99.heap.size, 0, none⟩) 2 2)
              have s109 := s108.built2 (k0 := k) (nm0 := nm) (num0 := num) (a0 := at_) (sv0 := .slice so sn sc) (ts0 := ts) (k1 := k91) (nm1 := nm92) (num1 := num93) (a1 := a94) (sv1 := .slice so96 ts95.length sc97) (ts1 := ts95) (by simp) (by simp) (w99.heap.size) (by simp)
              clear cc cl
              go_wp2_with fail
              go_roundg (F + 1)
              case measure => omega
              case rel => have a0 := le103.out; exact ⟨_, i101, 36, W l j, 0, at_, _, _, _, _, by omega, by go_num, (fun _ _ => by omega), by omega, hp106, s109.rowsOf (fun _ h => by simp at h; simp [h]), HR⟩
          · have s110 := s27.call hk38 h37
            have hx := hw36 j rfl
            rw [Ps.isW_self] at hx
            cases hx
    · rw [ho23] at hOk
      clear ho23
      replace HR := rbad (Y := R.ok (Tree.node k nm num at_ ts) j) ⟨n21, a22, rfl⟩ HR
      have c111 := s5.n0.2.five
      have l112 := s5.n0.2.lt
      have c113 := s5.n1.2.five
      have l114 := s5.n1.2.lt
      have d115 := s5.d01
      go_wp2_with (go_at_call 18; refine hOk.out.mono ?_; rintro e w' ⟨rfl, rfl⟩)
      clear c111 l112 c113 l114 d115
      have s116 := s5.p1 (.int .i64 k) (.string nm) (.int .i64 num) (.int .i64 at_) (.slice so sn sc)
      exact bodyPost_ret (res5 Tryz.results195 rfl s116.n1.2) rfl ⟨rend s116.ps HR (s116.treeOf (sv := .slice so sn sc) (by simp)) (by omega), s116.kp⟩
end Go.Proofs.YtneohanphabneaaGreatDoor

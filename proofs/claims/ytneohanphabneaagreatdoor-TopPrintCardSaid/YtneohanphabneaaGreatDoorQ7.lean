/-
  The plain law of what is written of a tree: statements are read back.
-/
import Derived.Test.YtneohanphabneaaGreatDoorQ6
import Derived.Test.YtneohanphabneaaGreatDoorQ5
namespace Go.Proofs.YtneohanphabneaaGreatDoor.Pr
open Ps Sc
theorem At_app {l : List Tok} : ∀ {a b : List (List UInt8)} {i : Nat},At l i (a ++ b) ↔ At l i a ∧ At l (i + a.length) b
 | [],b,i => ⟨fun h => ⟨trivial,h⟩,fun h => h.2⟩
 | x :: a,b,i => by
  rw [List.cons_append,At,At,At_app (a := a),List.length_cons,show i + (a.length + 1) = i + 1 + a.length from by omega,and_assoc,and_assoc]
theorem At_cons {l : List Tok} {w : List UInt8} {r : List (List UInt8)} {i : Nat} : At l i (w :: r) ↔ i < l.length ∧ W l i = ⟨w.toArray⟩ ∧ At l (i + 1) r := Iff.rfl
theorem At_nil {l : List Tok} {i : Nat} : At l i [] ↔ True := Iff.rfl
theorem wds_nil : wds [] = [] := rfl
theorem wds_w (b : List UInt8) (ps : List Pc) : wds (.w b :: ps) = b :: wds ps := rfl
theorem wds_sp (ps : List Pc) : wds (.sp :: ps) = wds ps := rfl
theorem wds_nl (ps : List Pc) : wds (.nl :: ps) = wds ps := rfl
theorem wds_ind (d : Nat) : wds (ind d) = [] := by
 unfold ind
 generalize 2 * d = n
 induction n with
 | zero => rfl
 | succ n ih => rw [List.replicate_succ,wds_sp,ih]
theorem wds_line (d : Nat) (s : List Pc) : wds (line d s) = wds s := by
 unfold line
 rw [wds_app,wds_app,wds_ind,wds_nl,wds_nil,List.nil_append,List.append_nil]
theorem stmt_e {t : Tree} {d : Nat} {e : List Pc} : wds (stmt t d e) = wds (stmt t d []) ++ wds e := by
 cases t with
 | node k n num a ts =>
  unfold stmt stmtK
  split <;> (try split) <;> simp only [wds_app,wds_line,List.append_nil,List.append_assoc]
def ends4 : List ByteArray := [⟨#[69,78,68]⟩,⟨#[69,76,83,73,70]⟩,⟨#[69,76,83,69]⟩,⟨#[85,78,84,73,76]⟩]
def ends5 : List ByteArray := ⟨#[59]⟩ :: ends4
theorem mem_dec {x : ByteArray} {os : List ByteArray} (h : x ∈ os) {p : ByteArray → Bool} (hd : os.all p = true) : p x = true := List.all_eq_true.1 hd x h
theorem nx_end {x : ByteArray} (h : x ∈ ends5) : nx 0 x := mem_dec h (p := fun x => (badV 0).all (fun s => !decide (x = s))) (by decide)
theorem ne_end {x s : ByteArray} (h : x ∈ ends5) (hd : ends5.all (fun x => !decide (x = s)) = true) : x ≠ s := by simpa using mem_dec h hd
theorem noStmt_end {l : List Tok} {j : Nat} (h : W l j ∈ ends5) : noStmt l j = true := mem_dec h (p := fun x => decide (x = ⟨#[59]⟩) || follows x) (by decide)
theorem noStmt_name {l : List Tok} {i : Nat} {n : ByteArray} (h : W l i = n) (hn : isName n = true) : noStmt l i = false := by
 unfold noStmt follows
 rw [h]
 simp only [Bool.or_eq_false_iff,decide_eq_false_iff_not]
 exact ⟨isW_no (name_ne h hn _ (by decide)),⟨⟨⟨h ▸ name_ne h hn _ (by decide),h ▸ name_ne h hn _ (by decide)⟩,h ▸ name_ne h hn _ (by decide)⟩,h ▸ name_ne h hn _ (by decide)⟩,h ▸ name_ne h hn _ (by decide)⟩
theorem Xe.read {l : List Tok} {L : Nat} {t : Tree} (h : Xe L t) {i j : Nat} (ha : At l i (wds (expr t 0))) (hj : j = i + (wds (expr t 0)).length) (hn : nx 0 (W l j)) : ∃ t',strip t' = strip t ∧ fw (W l i) ∧ E l L i = .ok t' j := by
 obtain ⟨M,rfl,hp,ho⟩ := h
 obtain ⟨t',h1,h3,h2⟩ := hp.cl l (by decide) i j ha hj hn ho
 exact ⟨t',h1,h3,h2⟩
theorem De.read {l : List Tok} {L : Nat} {t : Tree} (h : De L t) {i j : Nat} (ha : At l i (wds (expr t 3))) (hj : j = i + (wds (expr t 3)).length) (hn : (∀ s ∈ bad3,W l j ≠ s) ∨ W l j = ⟨#[40]⟩) : ∃ n t',W l i = n ∧ isName n = true ∧ strip t' = strip t ∧ desig l (E l L) i = .ok t' j := by
 obtain ⟨m,hp,hm,ho⟩ := h
 obtain ⟨n,t',h1,h2,h3,h4⟩ := hp.cd l i j ha hj ho hm
 refine ⟨n,t',h1,h2,h3,?_⟩
 rw [h4]
 rcases hn with hn | hn
 ·exact step_end hn
 ·exact step_par hn
section
variable (l : List Tok)
def Cst (L : Nat) (t : Tree) : Prop := ∀ d i j,At l i (wds (stmt t d [])) → j = i + (wds (stmt t d [])).length → W l j ∈ ends5 → ∃ t',strip t' = strip t ∧ noStmt l i = false ∧ stmtOf l (E l L) (S l L) i = .ok t' j
def Cb (L : Nat) (t : Tree) : Prop := ∀ d i j,At l i (wds (block t d)) → j = i + (wds (block t d)).length → W l j ∈ ends4 → ∃ t',strip t' = strip t ∧ S l L i = .ok t' j
def Csq (L : Nat) (ts : List Tree) : Prop := ∀ d i j G acc,At l i (wds (seqS ts d)) → j = i + (wds (seqS ts d)).length → W l j ∈ ends4 → ts.length ≤ G → ∃ ts',ts'.map strip = ts.map strip ∧ stmtsLoop l (stmtOf l (E l L) (S l L)) G i acc = .ok (acc ++ ts') j
def Ci (L num : Nat) (ts : List Tree) : Prop := (∀ d w i j G acc,At l i (wds (ifs d (.w w) ts (blockL ts))) → j = i + (wds (ifs d (.w w) ts (blockL ts))).length → W l j = ⟨#[69,78,68]⟩ ∨ W l j = ⟨#[69,76,83,69]⟩ → ts.length ≤ G →
  ∃ ts',ts'.map strip = (if num = 1 then ts.dropLast else ts).map strip ∧ ifLoop l (E l L) (S l L) G (i + 1) acc = .ok (acc ++ ts') j) ∧
 (num = 1 → ∃ b,ts = ts.dropLast ++ [b] ∧ Cb l L b ∧ ∀ d,blk (blockL ts) (ts.length - 1) d = block b d)
end
theorem ends4_5 {x : ByteArray} (h : x ∈ ends4) : x ∈ ends5 := List.mem_cons_of_mem _ h
theorem Pst.pos {L : Nat} {t : Tree} (h : Pst L t) (d : Nat) : 1 ≤ (wds (stmt t d [])).length := by
 cases h with
 | asg hd hx => unfold stmt; show 1 ≤ (wds (line d _)).length; simp only [wds_line,wds_app,wds_w,wds_sp,wds_nil,List.length_append,List.length_cons,List.length_nil]; omega
 | call hd ha =>
  obtain ⟨m,hp,_⟩ := hd
  have := hp.pos
  unfold stmt; show 1 ≤ (wds (line d (expr _ 3 ++ _ ++ _))).length; simp only [wds_line,wds_app,List.length_append]; omega
 | ifs hi => unfold stmt; show 1 ≤ (wds (_ ++ line d ([kEND] ++ []))).length; simp only [wds_line,wds_app,wds_w,wds_nil,List.length_append,List.length_cons,List.length_nil]; omega
 | while_ hx hb => unfold stmt; show 1 ≤ (wds (_ ++ line d ([kEND] ++ []))).length; simp only [wds_line,wds_app,wds_w,wds_sp,wds_nil,List.length_append,List.length_cons,List.length_nil]; omega
 | repeat_ hx hb => unfold stmt; show 1 ≤ (wds (_ ++ line d ([kUNTIL,.sp] ++ _ ++ []))).length; simp only [wds_line,wds_app,wds_w,wds_sp,wds_nil,List.length_append,List.length_cons,List.length_nil]; omega
 | ret0 => unfold stmt; exact Nat.le_of_eq (by rw [show stmtK 19 0 [] (blockL []) d [] = line d ([kRETURN] ++ []) from rfl,wds_line]; rfl)
 | ret1 hx => unfold stmt; show 1 ≤ (wds (line d ([kRETURN,.sp] ++ _ ++ _))).length; simp only [wds_line,wds_app,wds_w,wds_sp,wds_nil,List.length_append,List.length_cons,List.length_nil]; omega
 | new hd => unfold stmt; show 1 ≤ (wds (line d ([word4 _,s_lp] ++ _ ++ [s_rp] ++ _))).length; simp only [wds_line,wds_app,wds_w,wds_nil,List.length_append,List.length_cons,List.length_nil]; omega
 | out hd => unfold stmt; show 1 ≤ (wds (line d ([word4 _,s_lp] ++ _ ++ [s_rp] ++ _))).length; simp only [wds_line,wds_app,wds_w,wds_nil,List.length_append,List.length_cons,List.length_nil]; omega
 | get hd => unfold stmt; show 1 ≤ (wds (line d ([word4 _,s_lp] ++ _ ++ [s_rp] ++ _))).length; simp only [wds_line,wds_app,wds_w,wds_nil,List.length_append,List.length_cons,List.length_nil]; omega
 | assert hd => unfold stmt; show 1 ≤ (wds (line d ([word4 _,s_lp] ++ _ ++ [s_rp] ++ _))).length; simp only [wds_line,wds_app,wds_w,wds_nil,List.length_append,List.length_cons,List.length_nil]; omega
theorem Psq.pos {L : Nat} (d : Nat) : ∀ {ts : List Tree},Psq L ts → ts.length ≤ (wds (seqS ts d)).length
 | _,.nil => Nat.zero_le _
 | _,.cons h hs => by
  have h1 := h.pos d
  have h2 := hs.pos d
  unfold seqS
  rw [wds_app,stmt_e,List.length_append,List.length_append,List.length_cons]
  omega
theorem read_args {l : List Tok} {L : Nat} {ts : List Tree} (h : Ae L ts) {i j : Nat} (ha : At l i (wds (argsP (ts.map expr)))) (hj : j = i + (wds (argsP (ts.map expr))).length) : W l i = ⟨#[40]⟩ ∧ ∃ ts',ts'.map strip = ts.map strip ∧ args l (E l L) i = .ok ts' j :=
 args_read (h.1.ca l) (fun t ht => by obtain ⟨M,hp⟩ := h.1.all t ht; exact hp.pos (by decide)) ha hj h.2
theorem read_built {l : List Tok} {kind a : Nat} {what : Nat → R Tree} {i j : Nat} {x : List Pc} {k : List UInt8} {t t' : Tree} (ha : At l i (wds ([.w k,s_lp] ++ x ++ [s_rp]))) (hj : j = i + (wds ([.w k,s_lp] ++ x ++ [s_rp])).length)
  (hx : At l (i + 2) (wds x) → W l (i + 2 + (wds x).length) = ⟨#[41]⟩ → strip t' = strip t ∧ what (i + 2) = .ok t' (i + 2 + (wds x).length)) : W l i = ⟨k.toArray⟩ ∧ strip t' = strip t ∧ built l kind a what (i + 1) = .ok (.node kind ⟨#[]⟩ 0 a [t']) j := by
 simp only [wds_app,wds_w,wds_nil,At_app,At_cons,At_nil,List.length_append,List.length_cons,List.length_nil,Nat.zero_add,Nat.reduceAdd,and_true] at ha hj
 obtain ⟨⟨⟨_,h1,_,h2⟩,h3⟩,_,h4⟩ := ha
 rw [show i + (2 + (wds x).length) = i + 2 + (wds x).length from by omega] at h4
 obtain ⟨h5,h6⟩ := hx h3 h4
 refine ⟨h1,h5,?_⟩
 unfold built
 rw [must_yes (isW_at h2),R.bind_ok,h6,R.bind_ok,must_yes (isW_at h4),R.bind_ok]
 congr 1; omega
theorem De.low {L : Nat} {d : Tree} (h : De L d) : expr d 0 = expr d 3 := by
 obtain ⟨m,h,_⟩ := h
 cases d with
 | node k n num a ts =>
  have ho : own k n = 3 := by cases h <;> rfl
  rw [expr_wrap (by rw [ho]; exact Nat.zero_le _),expr_wrap (by rw [ho]; exact Nat.le_refl 3)]
theorem stmt_name {l : List Tok} {ex sts : Nat → R Tree} {i : Nat} {n : ByteArray} (h : W l i = n) (hn : isName n = true) : stmtOf l ex sts i = (desig l ex i).bind fun d i1 =>
  if isW l i1 ⟨#[58,61]⟩ then (ex (i1 + 1)).bind fun t i2 => .ok (.node 14 ⟨#[]⟩ 0 (A l i) [d,t]) i2
  else (args l ex i1).bind fun ts i2 => .ok (.node 15 ⟨#[]⟩ 0 (A l i) (d :: ts)) i2 := by
 unfold stmtOf
 rw [name_no h hn _ (by decide),name_no h hn _ (by decide),name_no h hn _ (by decide),name_no h hn _ (by decide),name_no h hn _ (by decide),name_no h hn _ (by decide),name_no h hn _ (by decide),name_no h hn _ (by decide)]
 rfl
theorem noStmt_no {l : List Tok} {i : Nat} {x : ByteArray} (h : W l i = x) (hd : (decide (x = ⟨#[59]⟩) || follows x) = false) : noStmt l i = false := by
 unfold noStmt isW; rw [h]; exact hd
theorem if_one {l : List Tok} {L : Nat} {c b : Tree} (hx : Xe L c) (ihb : Cb l L b) {d i j : Nat} {w : List UInt8} (ha : At l i (w :: (wds (expr c 0) ++ ([84,72,69,78] :: wds (block b d))))) (hj : j = i + (w :: (wds (expr c 0) ++ ([84,72,69,78] :: wds (block b d)))).length) (hn : W l j ∈ ends4) :
  ∃ x' b',strip x' = strip c ∧ strip b' = strip b ∧ ∀ G acc,ifLoop l (E l L) (S l L) (G + 1) (i + 1) acc = if isW l j ⟨#[69,76,83,73,70]⟩ then ifLoop l (E l L) (S l L) G (j + 1) (acc ++ [x',b']) else .ok (acc ++ [x',b']) j := by
 simp only [At_app,At_cons,List.length_append,List.length_cons] at ha hj
 obtain ⟨_,h1,h2,_,h3,h4⟩ := ha
 obtain ⟨x',g1,gf,g2⟩ := hx.read h2 rfl (by rw [h3]; decide)
 obtain ⟨b',g3,g4⟩ := ihb d _ j h4 (by omega) hn
 refine ⟨x',b',g1,g3,fun G acc => ?_⟩
 rw [ifLoop,g2,R.bind_ok,must_yes (isW_at h3),R.bind_ok,g4,R.bind_ok]
theorem Pi.num : ∀ {L num : Nat} {ts : List Tree},Pi L num ts → num ≤ 1
 | _,_,_,.last _ _ => Nat.zero_le _
 | _,_,_,.els _ _ _ => Nat.le_refl _
 | _,_,_,.more _ _ h => h.num
theorem Pi.head {L num : Nat} {ts : List Tree} (h : Pi L num ts) (d : Nat) (w : Pc) : ∃ r,wds (ifs d w ts (blockL ts)) = w.ws ++ r := by
 cases h <;> (unfold blockL blockL ifs; exact ⟨_,by rw [wds_app,wds_app,wds_line,wds_app,wds_app,show wds [w,.sp] = w.ws from by simp [wds,Pc.ws],List.append_assoc,List.append_assoc,List.append_assoc]⟩)
theorem Pi.pos : ∀ {L num : Nat} {ts : List Tree},Pi L num ts → ∀ (d : Nat) (w : List UInt8),ts.length ≤ (wds (ifs d (.w w) ts (blockL ts))).length + 1
 | _,_,_,.last _ _,d,w => by
  unfold blockL blockL blockL ifs ifs
  simp only [wds_line,wds_app,wds_sp,wds_w,wds_nil,List.length_append,List.length_cons,List.length_nil]; omega
 | _,_,_,.els _ _ _,d,w => by
  unfold blockL blockL blockL ifs ifs
  simp only [wds_line,wds_app,wds_sp,wds_w,wds_nil,List.length_append,List.length_cons,List.length_nil]; omega
 | _,_,_,.more (c := c) (b := b) (ts := ts) _ _ h,d,w => by
  have ih : ts.length ≤ (wds (ifs d kELSIF ts (blockL ts))).length + 1 := h.pos d [69,76,83,73,70]
  rw [blockL,blockL]
  show _ ≤ (wds (line d ([.w w,.sp] ++ expr c 0 ++ [.sp,kTHEN]) ++ block b d ++ ifs d kELSIF ts (blockL ts))).length + 1
  simp only [wds_line,wds_app,wds_sp,wds_w,wds_nil,List.length_append,List.length_cons,List.length_nil]
  omega
mutual
theorem Pst.cst (l : List Tok) : ∀ {L : Nat} {t : Tree},Pst L t → Cst l L t
 | L,_,.asg (a := a) (d := d0) (x := x) hd hx => by
  intro d i j ha hj hn
  have e : wds (stmt (.node 14 ⟨#[]⟩ 0 a [d0,x]) d []) = wds (expr d0 3) ++ ([58,61] :: wds (expr x 0)) := by
   unfold stmt
   show wds (line d (expr d0 3 ++ [.sp,s_asg,.sp] ++ expr x 0 ++ [])) = _
   simp only [wds_line,wds_app,wds_sp,wds_w,List.append_nil,List.append_assoc,List.cons_append,List.nil_append]
  rw [e] at ha hj
  simp only [At_app,At_cons,List.length_append,List.length_cons] at ha hj
  obtain ⟨h1,_,h2,h3⟩ := ha
  obtain ⟨n,d',g1,g2,g3,g4⟩ := hd.read h1 rfl (.inl (by rw [h2]; decide))
  obtain ⟨x',g5,_,g6⟩ := hx.read (j := j) h3 (by omega) (nx_end hn)
  refine ⟨.node 14 ⟨#[]⟩ 0 (A l i) [d',x'],by simp [strip_node,g3,g5],noStmt_name g1 g2,?_⟩
  rw [stmt_name g1 g2,g4,R.bind_ok,isW_at h2,if_pos rfl,g6,R.bind_ok]
 | L,_,.call (a := a) (d := d0) (ts := ts) hd hs => by
  intro d i j ha hj hn
  have e : wds (stmt (.node 15 ⟨#[]⟩ 0 a (d0 :: ts)) d []) = wds (expr d0 3) ++ wds (if ts.isEmpty then [] else argsP (ts.map expr)) := by
   unfold stmt
   show wds (line d (expr d0 3 ++ (if ts.isEmpty then [] else argsP (ts.map expr)) ++ [])) = _
   simp only [wds_line,wds_app,List.append_nil]
  rw [e] at ha hj
  simp only [At_app,List.length_append] at ha hj
  obtain ⟨h1,h2⟩ := ha
  cases hts : ts with
  | nil =>
   rw [hts] at h2 hj hs
   have hj : j = i + ((wds (expr d0 3)).length + 0) := hj
   rw [Nat.add_zero] at hj
   obtain ⟨n,d',g1,g2,g3,g4⟩ := hd.read h1 rfl (.inl (by rw [← hj]; exact fun s hs => (nx_end hn).b3 (by decide) s hs))
   refine ⟨.node 15 ⟨#[]⟩ 0 (A l i) [d'],by simp [strip_node,g3],noStmt_name g1 g2,?_⟩
   rw [stmt_name g1 g2,g4,R.bind_ok,← hj,isW_no (ne_end hn (by decide)),if_neg (by simp)]
   unfold args
   rw [isW_no (ne_end hn (by decide)),if_neg (by simp),R.bind_ok]
  | cons u us =>
   have h2 : At l (i + (wds (expr d0 3)).length) (wds (argsP (ts.map expr))) := by rw [hts] at h2 ⊢; exact h2
   have hj : j = i + ((wds (expr d0 3)).length + (wds (argsP (ts.map expr))).length) := by rw [hts] at hj ⊢; exact hj
   obtain ⟨h3,ts',h4,h5⟩ := read_args (j := j) hs h2 (by omega)
   obtain ⟨n,d',g1,g2,g3,g4⟩ := hd.read h1 rfl (.inr h3)
   refine ⟨.node 15 ⟨#[]⟩ 0 (A l i) (d' :: ts'),by rw [← hts]; simp [strip_node,g3,h4],noStmt_name g1 g2,?_⟩
   rw [stmt_name g1 g2,g4,R.bind_ok,isW_no (by rw [h3]; decide),if_neg (by simp),h5,R.bind_ok]
 | L,_,.ifs (a := a) (num := num) (ts := ts) hi => by
  obtain ⟨c1,c2⟩ := hi.ci l
  have hlen := hi.pos
  intro d i j ha hj hn
  have e : wds (stmt (.node 16 ⟨#[]⟩ num a ts) d []) = wds (ifs d kIF ts (blockL ts)) ++ (wds (if num = 1 then line d [kELSE] ++ blk (blockL ts) (ts.length - 1) d else []) ++ [[69,78,68]]) := by
   unfold stmt
   show wds (ifs d kIF ts (blockL ts) ++ (if num = 1 then line d [kELSE] ++ blk (blockL ts) (ts.length - 1) d else []) ++ line d ([kEND] ++ [])) = _
   simp only [wds_line,wds_app,wds_w,wds_nil,List.append_nil,List.append_assoc]
  rw [e] at ha hj
  rw [At_app,At_app] at ha
  rw [List.length_append,List.length_append] at hj
  obtain ⟨a1,a2,a3⟩ := ha
  obtain ⟨r,er⟩ := hi.head d kIF
  have h1 : W l i = ⟨#[73,70]⟩ := by rw [er] at a1; exact a1.2.1
  have hG : ts.length ≤ l.length := by
   have : ts.length ≤ (wds (ifs d kIF ts (blockL ts))).length + 1 := hlen d [73,70]
   have := a3.1
   omega
  have hw : stmtOf l (E l L) (S l L) i = (ifLoop l (E l L) (S l L) l.length (i + 1) []).bind fun ts i1 => elseR l (S l L) (A l i) ts i1 := by
   unfold stmtOf
   rw [isW_at h1,if_pos rfl]
  by_cases hnum : num = 1
  ·subst hnum
   obtain ⟨b,hb1,hb2,hb3⟩ := c2 rfl
   rw [if_pos rfl,hb3] at a2 a3 hj
   have e2 : wds (line d [kELSE] ++ block b d) = [69,76,83,69] :: wds (block b d) := by rw [wds_app,wds_line]; rfl
   rw [e2] at a2 a3 hj
   obtain ⟨_,h2,h3⟩ := a2
   obtain ⟨_,h4,_⟩ := a3
   obtain ⟨ts',g1,g2⟩ := c1 d [73,70] i _ l.length [] a1 rfl (.inr h2) hG
   have h4 : W l (i + (wds (ifs d kIF ts (blockL ts))).length + 1 + (wds (block b d)).length) = ⟨#[69,78,68]⟩ := by
    rw [show i + (wds (ifs d kIF ts (blockL ts))).length + 1 + (wds (block b d)).length = i + (wds (ifs d kIF ts (blockL ts))).length + (([69,76,83,69] : List UInt8) :: wds (block b d)).length from by rw [List.length_cons]; omega]
    exact h4
   obtain ⟨b',g3,g4⟩ := hb2 d _ _ h3 rfl (by rw [h4]; simp [ends4])
   rw [if_pos rfl] at g1
   refine ⟨.node 16 ⟨#[]⟩ 1 (A l i) (ts' ++ [b']),?_,noStmt_no h1 (by decide),?_⟩
   ·rw [strip_node,strip_node,List.map_append,g1,hb1,List.map_append,List.dropLast_concat]
    simp [g3]
   ·rw [hw,g2,R.bind_ok]
    unfold elseR
    rw [isW_at h2,if_pos rfl,g4,R.bind_ok,must_yes (isW_at h4),R.bind_ok]
    simp only [List.length_cons,List.length_nil] at hj
    congr 1; omega
  ·rw [if_neg hnum] at a2 a3 hj
   obtain ⟨_,h4,_⟩ := a3
   have hnum0 : num = 0 := by have := hi.num; omega
   subst hnum0
   obtain ⟨ts',g1,g2⟩ := c1 d [73,70] i _ l.length [] a1 rfl (.inl h4) hG
   rw [if_neg (by simp)] at g1
   refine ⟨.node 16 ⟨#[]⟩ 0 (A l i) ts',by rw [strip_node,strip_node,g1],noStmt_no h1 (by decide),?_⟩
   have h4 : W l (i + (wds (ifs d kIF ts (blockL ts))).length) = ⟨#[69,78,68]⟩ := h4
   have hj : j = i + ((wds (ifs d kIF ts (blockL ts))).length + 1) := hj
   rw [hw,g2,R.bind_ok]
   unfold elseR
   rw [isW_no (by rw [h4]; decide),if_neg (by simp),must_yes (isW_at h4),R.bind_ok,hj]
   rfl
 | L,_,.while_ (a := a) (x := x) (b := b) hx hb => by
  have ihb := hb.cb l
  intro d i j ha hj hn
  have e : wds (stmt (.node 17 ⟨#[]⟩ 0 a [x,b]) d []) = [87,72,73,76,69] :: (wds (expr x 0) ++ ([68,79] :: (wds (block b d) ++ [[69,78,68]]))) := by
   unfold stmt blockL blockL blockL
   show wds (line d ([kWHILE,.sp] ++ expr x 0 ++ [.sp,kDO]) ++ block b d ++ line d ([kEND] ++ [])) = _
   simp only [wds_line,wds_app,wds_sp,wds_w,wds_nil,List.append_nil,List.append_assoc,List.cons_append,List.nil_append]
  rw [e] at ha hj
  simp only [At_app,At_cons,At_nil,List.length_append,List.length_cons,List.length_nil] at ha hj
  obtain ⟨_,h1,h2,_,h3,h4,_,h5,_⟩ := ha
  obtain ⟨x',g1,gf,g2⟩ := hx.read h2 rfl (by rw [h3]; decide)
  obtain ⟨b',g3,g4⟩ := ihb d _ _ h4 rfl (by rw [h5]; simp [ends4])
  refine ⟨.node 17 ⟨#[]⟩ 0 (A l i) [x',b'],by simp [strip_node,g1,g3],noStmt_no h1 (by decide),?_⟩
  unfold stmtOf
  rw [isW_no (by rw [h1]; decide),isW_at h1,if_neg (by simp),if_pos rfl,g2,R.bind_ok,must_yes (isW_at h3),R.bind_ok,g4,R.bind_ok,must_yes (isW_at h5),R.bind_ok]
  congr 1; omega
 | L,_,.repeat_ (a := a) (x := x) (b := b) hx hb => by
  have ihb := hb.cb l
  intro d i j ha hj hn
  have e : wds (stmt (.node 18 ⟨#[]⟩ 0 a [b,x]) d []) = [82,69,80,69,65,84] :: (wds (block b d) ++ ([85,78,84,73,76] :: wds (expr x 0))) := by
   unfold stmt blockL blockL blockL
   show wds (line d [kREPEAT] ++ block b d ++ line d ([kUNTIL,.sp] ++ expr x 0 ++ [])) = _
   simp only [wds_line,wds_app,wds_sp,wds_w,wds_nil,List.append_nil,List.append_assoc,List.cons_append,List.nil_append]
  rw [e] at ha hj
  simp only [At_app,At_cons,List.length_append,List.length_cons] at ha hj
  obtain ⟨_,h1,h4,_,h5,h2⟩ := ha
  obtain ⟨b',g3,g4⟩ := ihb d _ _ h4 rfl (by rw [h5]; simp [ends4])
  obtain ⟨x',g1,gf,g2⟩ := hx.read (j := j) h2 (by omega) (nx_end hn)
  refine ⟨.node 18 ⟨#[]⟩ 0 (A l i) [b',x'],by simp [strip_node,g1,g3],noStmt_no h1 (by decide),?_⟩
  unfold stmtOf
  rw [isW_no (by rw [h1]; decide),isW_no (by rw [h1]; decide),isW_at h1,if_neg (by simp),if_neg (by simp),if_pos rfl,g4,R.bind_ok,must_yes (isW_at h5),R.bind_ok,g2,R.bind_ok]
 | L,_,.ret0 (a := a) => by
  intro d i j ha hj hn
  have e : wds (stmt (.node 19 ⟨#[]⟩ 0 a []) d []) = [[82,69,84,85,82,78]] := by
   unfold stmt
   show wds (line d ([kRETURN] ++ [])) = _
   rw [wds_line]; rfl
  rw [e] at ha hj
  obtain ⟨_,h1,_⟩ := ha
  have hj : j = i + 1 := hj
  subst hj
  refine ⟨.node 19 ⟨#[]⟩ 0 (A l i) [],by simp [strip_node],noStmt_no h1 (by decide),?_⟩
  unfold stmtOf
  rw [isW_no (by rw [h1]; decide),isW_no (by rw [h1]; decide),isW_no (by rw [h1]; decide),isW_at h1,if_neg (by simp),if_neg (by simp),if_neg (by simp),if_pos rfl,noStmt_end hn,if_pos rfl]
 | L,_,.ret1 (a := a) (x := x) hx => by
  intro d i j ha hj hn
  have e : wds (stmt (.node 19 ⟨#[]⟩ 0 a [x]) d []) = [82,69,84,85,82,78] :: wds (expr x 0) := by
   unfold stmt
   show wds (line d ([kRETURN,.sp] ++ expr x 0 ++ [])) = _
   simp only [wds_line,wds_sp,wds_w,List.append_nil,List.cons_append,List.nil_append]
  rw [e] at ha hj
  simp only [At_cons,List.length_cons] at ha hj
  obtain ⟨_,h1,h2⟩ := ha
  obtain ⟨x',g1,gf,g2⟩ := hx.read (j := j) h2 (by omega) (nx_end hn)
  refine ⟨.node 19 ⟨#[]⟩ 0 (A l i) [x'],by simp [strip_node,g1],noStmt_no h1 (by decide),?_⟩
  have hno : noStmt l (i + 1) = false := by
   unfold noStmt follows
   simp only [Bool.or_eq_false_iff,decide_eq_false_iff_not]
   exact ⟨isW_no (gf.ne (by simp [firsts])),⟨⟨⟨gf.ne (by simp [firsts]),gf.ne (by simp [firsts])⟩,gf.ne (by simp [firsts])⟩,gf.ne (by simp [firsts])⟩,gf.ne (by simp [firsts])⟩
  unfold stmtOf
  rw [isW_no (by rw [h1]; decide),isW_no (by rw [h1]; decide),isW_no (by rw [h1]; decide),isW_at h1,if_neg (by simp),if_neg (by simp),if_neg (by simp),if_pos rfl,hno,if_neg (by simp),g2,R.bind_ok]
 | L,_,.new (a := a) (d := d0) h => by
  intro d i j ha hj hn
  have e : wds (stmt (.node 20 ⟨#[]⟩ 0 a [d0]) d []) = wds ([.w [78,69,87],s_lp] ++ expr d0 0 ++ [s_rp]) := by
   unfold stmt
   show wds (line d ([word4 20,s_lp] ++ expr d0 0 ++ [s_rp] ++ [])) = _
   rw [wds_line,List.append_nil]; rfl
  rw [e] at ha hj
  have e3 : expr d0 0 = expr d0 3 := De.low h
  rw [e3] at ha hj
  have key : ∃ t',∀ (ha : At l (i + 2) (wds (expr d0 3))) (hn : W l (i + 2 + (wds (expr d0 3)).length) = ⟨#[41]⟩),strip t' = strip d0 ∧ desig l (E l L) (i + 2) = .ok t' (i + 2 + (wds (expr d0 3)).length) := by
   by_cases hp : At l (i + 2) (wds (expr d0 3)) ∧ W l (i + 2 + (wds (expr d0 3)).length) = ⟨#[41]⟩
   ·obtain ⟨n,t',_,_,g3,g4⟩ := h.read hp.1 rfl (.inl (by rw [hp.2]; decide))
    exact ⟨t',fun _ _ => ⟨g3,g4⟩⟩
   ·exact ⟨d0,fun h1 h2 => absurd ⟨h1,h2⟩ hp⟩
  obtain ⟨t',key⟩ := key
  obtain ⟨h1,h2,h3⟩ := read_built (kind := 20) (a := A l i) (what := desig l (E l L)) ha hj key
  refine ⟨.node 20 ⟨#[]⟩ 0 (A l i) [t'],by simp [strip_node,h2],noStmt_no h1 (by decide),?_⟩
  unfold stmtOf
  rw [isW_no (by rw [h1]; decide),isW_no (by rw [h1]; decide),isW_no (by rw [h1]; decide),isW_no (by rw [h1]; decide),isW_at h1,if_neg (by simp),if_neg (by simp),if_neg (by simp),if_neg (by simp),if_pos rfl,h3]
 | L,_,.out (a := a) (x := x) h => by
  intro d i j ha hj hn
  have e : wds (stmt (.node 21 ⟨#[]⟩ 0 a [x]) d []) = wds ([.w [79,85,84],s_lp] ++ expr x 0 ++ [s_rp]) := by
   unfold stmt
   show wds (line d ([word4 21,s_lp] ++ expr x 0 ++ [s_rp] ++ [])) = _
   rw [wds_line,List.append_nil]; rfl
  rw [e] at ha hj
  have key : ∃ t',∀ (ha : At l (i + 2) (wds (expr x 0))) (hn : W l (i + 2 + (wds (expr x 0)).length) = ⟨#[41]⟩),strip t' = strip x ∧ E l L (i + 2) = .ok t' (i + 2 + (wds (expr x 0)).length) := by
   by_cases hp : At l (i + 2) (wds (expr x 0)) ∧ W l (i + 2 + (wds (expr x 0)).length) = ⟨#[41]⟩
   ·obtain ⟨t',g3,_,g4⟩ := h.read hp.1 rfl (by rw [hp.2]; decide)
    exact ⟨t',fun _ _ => ⟨g3,g4⟩⟩
   ·exact ⟨x,fun h1 h2 => absurd ⟨h1,h2⟩ hp⟩
  obtain ⟨t',key⟩ := key
  obtain ⟨h1,h2,h3⟩ := read_built (kind := 21) (a := A l i) (what := E l L) ha hj key
  refine ⟨.node 21 ⟨#[]⟩ 0 (A l i) [t'],by simp [strip_node,h2],noStmt_no h1 (by decide),?_⟩
  unfold stmtOf
  rw [isW_no (by rw [h1]; decide),isW_no (by rw [h1]; decide),isW_no (by rw [h1]; decide),isW_no (by rw [h1]; decide),isW_no (by rw [h1]; decide),isW_at h1,if_neg (by simp),if_neg (by simp),if_neg (by simp),if_neg (by simp),if_neg (by simp),if_pos rfl,h3]
 | L,_,.get (a := a) (d := d0) h => by
  intro d i j ha hj hn
  have e : wds (stmt (.node 22 ⟨#[]⟩ 0 a [d0]) d []) = wds ([.w [71,69,84],s_lp] ++ expr d0 0 ++ [s_rp]) := by
   unfold stmt
   show wds (line d ([word4 22,s_lp] ++ expr d0 0 ++ [s_rp] ++ [])) = _
   rw [wds_line,List.append_nil]; rfl
  rw [e] at ha hj
  have e3 : expr d0 0 = expr d0 3 := De.low h
  rw [e3] at ha hj
  have key : ∃ t',∀ (ha : At l (i + 2) (wds (expr d0 3))) (hn : W l (i + 2 + (wds (expr d0 3)).length) = ⟨#[41]⟩),strip t' = strip d0 ∧ desig l (E l L) (i + 2) = .ok t' (i + 2 + (wds (expr d0 3)).length) := by
   by_cases hp : At l (i + 2) (wds (expr d0 3)) ∧ W l (i + 2 + (wds (expr d0 3)).length) = ⟨#[41]⟩
   ·obtain ⟨n,t',_,_,g3,g4⟩ := h.read hp.1 rfl (.inl (by rw [hp.2]; decide))
    exact ⟨t',fun _ _ => ⟨g3,g4⟩⟩
   ·exact ⟨d0,fun h1 h2 => absurd ⟨h1,h2⟩ hp⟩
  obtain ⟨t',key⟩ := key
  obtain ⟨h1,h2,h3⟩ := read_built (kind := 22) (a := A l i) (what := desig l (E l L)) ha hj key
  refine ⟨.node 22 ⟨#[]⟩ 0 (A l i) [t'],by simp [strip_node,h2],noStmt_no h1 (by decide),?_⟩
  unfold stmtOf
  rw [isW_no (by rw [h1]; decide),isW_no (by rw [h1]; decide),isW_no (by rw [h1]; decide),isW_no (by rw [h1]; decide),isW_no (by rw [h1]; decide),isW_no (by rw [h1]; decide),isW_at h1,if_neg (by simp),if_neg (by simp),if_neg (by simp),if_neg (by simp),if_neg (by simp),if_neg (by simp),if_pos rfl,h3]
 | L,_,.assert (a := a) (x := x) h => by
  intro d i j ha hj hn
  have e : wds (stmt (.node 23 ⟨#[]⟩ 0 a [x]) d []) = wds ([.w [65,83,83,69,82,84],s_lp] ++ expr x 0 ++ [s_rp]) := by
   unfold stmt
   show wds (line d ([word4 23,s_lp] ++ expr x 0 ++ [s_rp] ++ [])) = _
   rw [wds_line,List.append_nil]; rfl
  rw [e] at ha hj
  have key : ∃ t',∀ (ha : At l (i + 2) (wds (expr x 0))) (hn : W l (i + 2 + (wds (expr x 0)).length) = ⟨#[41]⟩),strip t' = strip x ∧ E l L (i + 2) = .ok t' (i + 2 + (wds (expr x 0)).length) := by
   by_cases hp : At l (i + 2) (wds (expr x 0)) ∧ W l (i + 2 + (wds (expr x 0)).length) = ⟨#[41]⟩
   ·obtain ⟨t',g3,_,g4⟩ := h.read hp.1 rfl (by rw [hp.2]; decide)
    exact ⟨t',fun _ _ => ⟨g3,g4⟩⟩
   ·exact ⟨x,fun h1 h2 => absurd ⟨h1,h2⟩ hp⟩
  obtain ⟨t',key⟩ := key
  obtain ⟨h1,h2,h3⟩ := read_built (kind := 23) (a := A l i) (what := E l L) ha hj key
  refine ⟨.node 23 ⟨#[]⟩ 0 (A l i) [t'],by simp [strip_node,h2],noStmt_no h1 (by decide),?_⟩
  unfold stmtOf
  rw [isW_no (by rw [h1]; decide),isW_no (by rw [h1]; decide),isW_no (by rw [h1]; decide),isW_no (by rw [h1]; decide),isW_no (by rw [h1]; decide),isW_no (by rw [h1]; decide),isW_no (by rw [h1]; decide),isW_at h1,if_neg (by simp),if_neg (by simp),if_neg (by simp),if_neg (by simp),if_neg (by simp),if_neg (by simp),if_neg (by simp),if_pos rfl,h3]
theorem Pi.ci (l : List Tok) : ∀ {L num : Nat} {ts : List Tree},Pi L num ts → Ci l L num ts
 | L,_,_,.last (c := c) (b := b) hx hb => by
  have ihb := hb.cb l
  refine ⟨?_,fun h => by cases h⟩
  intro d w i j G acc ha hj hn hG
  have e : wds (ifs d (.w w) [c,b] (blockL [c,b])) = w :: (wds (expr c 0) ++ ([84,72,69,78] :: wds (block b d))) := by
   unfold blockL blockL blockL ifs ifs
   simp only [wds_line,wds_app,wds_sp,wds_w,wds_nil,List.append_nil,List.append_assoc,List.cons_append,List.nil_append]
  rw [e] at ha hj
  obtain ⟨x',b',g1,g3,g5⟩ := if_one hx ihb (j := j) ha hj (by rcases hn with hn | hn <;> rw [hn] <;> simp [ends4])
  obtain ⟨G,rfl⟩ : ∃ G',G = G' + 1 := ⟨G - 1,by simp at hG; omega⟩
  refine ⟨[x',b'],by simp [g1,g3],?_⟩
  rw [g5,isW_no (by rcases hn with hn | hn <;> rw [hn] <;> decide),if_neg (by simp)]
 | L,_,_,.els (c := c) (b := b) (e := el) hx hb he => by
  have ihb := hb.cb l
  have ihe := he.cb l
  refine ⟨?_,fun _ => ⟨el,rfl,ihe,fun d => by unfold blockL blockL blockL; rfl⟩⟩
  intro d w i j G acc ha hj hn hG
  have e : wds (ifs d (.w w) [c,b,el] (blockL [c,b,el])) = w :: (wds (expr c 0) ++ ([84,72,69,78] :: wds (block b d))) := by
   unfold blockL blockL blockL ifs ifs
   simp only [wds_line,wds_app,wds_sp,wds_w,wds_nil,List.append_nil,List.append_assoc,List.cons_append,List.nil_append]
  rw [e] at ha hj
  obtain ⟨x',b',g1,g3,g5⟩ := if_one hx ihb (j := j) ha hj (by rcases hn with hn | hn <;> rw [hn] <;> simp [ends4])
  obtain ⟨G,rfl⟩ : ∃ G',G = G' + 1 := ⟨G - 1,by simp at hG; omega⟩
  refine ⟨[x',b'],by simp [g1,g3],?_⟩
  rw [g5,isW_no (by rcases hn with hn | hn <;> rw [hn] <;> decide),if_neg (by simp)]
 | L,num,_,.more (c := c) (b := b) (ts := ts) hx hb hi => by
  have ihb := hb.cb l
  obtain ⟨i1,i2⟩ := hi.ci l
  have hne : ts ≠ [] := by cases hi <;> simp
  refine ⟨?_,fun h => ?_⟩
  ·intro d w i j G acc ha hj hn hG
   have e : wds (ifs d (.w w) (c :: b :: ts) (blockL (c :: b :: ts))) = (w :: (wds (expr c 0) ++ ([84,72,69,78] :: wds (block b d)))) ++ wds (ifs d kELSIF ts (blockL ts)) := by
    rw [blockL,blockL]
    show wds (line d ([.w w,.sp] ++ expr c 0 ++ [.sp,kTHEN]) ++ block b d ++ ifs d kELSIF ts (blockL ts)) = _
    simp only [wds_line,wds_app,wds_sp,wds_w,wds_nil,List.append_assoc,List.cons_append,List.nil_append]
   rw [e,At_app] at ha
   rw [e,List.length_append,← Nat.add_assoc] at hj
   obtain ⟨a1,a2⟩ := ha
   have hw : W l (i + (w :: (wds (expr c 0) ++ ([84,72,69,78] :: wds (block b d)))).length) = ⟨#[69,76,83,73,70]⟩ := by
    have e2 : ∃ r,wds (ifs d kELSIF ts (blockL ts)) = [69,76,83,73,70] :: r := by
     cases hi <;> (unfold blockL blockL ifs; exact ⟨_,by simp only [wds_line,wds_app,wds_w,List.cons_append]; rfl⟩)
    obtain ⟨r,e2⟩ := e2
    rw [e2] at a2
    exact a2.2.1
   obtain ⟨x',b',g1,g3,g5⟩ := if_one hx ihb a1 rfl (by rw [hw]; simp [ends4])
   obtain ⟨G,rfl⟩ : ∃ G',G = G' + 1 := ⟨G - 1,by simp at hG; omega⟩
   obtain ⟨ts',g6,g7⟩ := i1 d _ _ j G (acc ++ [x',b']) a2 hj hn (by simp at hG; omega)
   refine ⟨x' :: b' :: ts',?_,?_⟩
   ·by_cases hnum : num = 1
    ·subst hnum
     rw [if_pos rfl] at g6 ⊢
     obtain ⟨t,r,rfl⟩ := List.exists_cons_of_ne_nil hne
     simp only [List.dropLast_cons_cons,List.map_cons,g1,g3]
     rw [g6]
    ·rw [if_neg hnum] at g6 ⊢
     simp [g1,g3,g6]
   ·rw [g5,isW_at hw,if_pos rfl,g7,List.append_assoc]
    rfl
  ·obtain ⟨el,h1,h2,h3⟩ := i2 h
   obtain ⟨t,r,rfl⟩ := List.exists_cons_of_ne_nil hne
   refine ⟨el,?_,h2,fun d => ?_⟩
   ·rw [List.dropLast_cons_cons,List.dropLast_cons_cons,List.cons_append,List.cons_append,← h1]
   ·have := h3 d
    rw [blockL,blockL]
    exact this
theorem Pb.cb (l : List Tok) : ∀ {L : Nat} {t : Tree},Pb L t → Cb l L t
 | _,_,.mk (L := L) (a := a) (ts := ts) h => by
  have ih := h.csq l
  intro d i j ha hj hn
  have e : block (.node 1 ⟨#[]⟩ 0 a ts) d = seqS ts (d + 1) := by unfold block; rfl
  rw [e] at ha hj
  have hp := h.pos (d + 1)
  have hG : ts.length ≤ l.length := by
   by_cases hz : wds (seqS ts (d + 1)) = []
   ·rw [hz] at hp; simp at hp; rw [hp]; exact Nat.zero_le _
   ·have := ha.len hz; omega
  obtain ⟨ts',g1,g2⟩ := ih (d + 1) i j l.length [] ha hj hn hG
  refine ⟨.node 1 ⟨#[]⟩ 0 (A l i) ts',by simp [strip_node,g1],?_⟩
  show stmtsOf l (stmtOf l (E l L) (S l L)) i = _
  unfold stmtsOf
  rw [g2,R.bind_ok]
  rfl
theorem Psq.csq (l : List Tok) : ∀ {L : Nat} {ts : List Tree},Psq L ts → Csq l L ts
 | L,_,.nil => by
  intro d i j G acc ha hj hn hG
  have hj : j = i := hj
  subst hj
  refine ⟨[],rfl,?_⟩
  cases G with
  | zero => unfold stmtsLoop; rw [List.append_nil]
  | succ G =>
   unfold stmtsLoop
   rw [noStmt_end (ends4_5 hn),if_pos rfl,isW_no (show W l j ≠ ⟨#[59]⟩ from by simpa using mem_dec hn (p := fun x => !decide (x = ⟨#[59]⟩)) (by decide)),if_neg (by simp),List.append_nil]
 | L,_,.cons (t := t) (ts := ts) h hs => by
  have ih := h.cst l
  have ih2 := hs.csq l
  intro d i j G acc ha hj hn hG
  obtain ⟨G,rfl⟩ : ∃ G',G = G' + 1 := ⟨G - 1,by simp at hG; omega⟩
  have e : wds (seqS (t :: ts) d) = wds (stmt t d []) ++ (wds (if ts.isEmpty then [] else [s_semi]) ++ wds (seqS ts d)) := by
   rw [seqS,wds_app,stmt_e,List.append_assoc]
  rw [e,At_app,At_app] at ha
  rw [e,List.length_append,List.length_append,← Nat.add_assoc] at hj
  obtain ⟨a1,a2,a3⟩ := ha
  cases ts with
  | nil =>
   have e0 : wds (seqS [] d) = [] := by unfold seqS; rfl
   rw [e0] at hj
   have hj : j = i + (wds (stmt t d [])).length := hj
   rw [← hj] at a2
   obtain ⟨t',g1,g2,g3⟩ := ih d i j a1 hj (ends4_5 hn)
   refine ⟨[t'],by simp [g1],?_⟩
   unfold stmtsLoop
   rw [g2,if_neg (by simp),g3,R.bind_ok,isW_no (show W l j ≠ ⟨#[59]⟩ from by simpa using mem_dec hn (p := fun x => !decide (x = ⟨#[59]⟩)) (by decide)),if_neg (by simp)]
  | cons u us =>
   have h5 : W l (i + (wds (stmt t d [])).length) = ⟨#[59]⟩ := a2.2.1
   have hj : j = i + (wds (stmt t d [])).length + (1 + (wds (seqS (u :: us) d)).length) := hj
   obtain ⟨t',g1,g2,g3⟩ := ih d i _ a1 rfl (by rw [h5]; simp [ends5])
   obtain ⟨ts',g4,g5⟩ := ih2 d _ j G (acc ++ [t']) a3 (by show j = i + (wds (stmt t d [])).length + 1 + _; omega) hn (by simpa using hG)
   refine ⟨t' :: ts',by simp [g1] at g4 ⊢; exact g4,?_⟩
   unfold stmtsLoop
   have g5 : stmtsLoop l (stmtOf l (E l L) (S l L)) G (i + (wds (stmt t d [])).length + 1) (acc ++ [t']) = .ok (acc ++ [t'] ++ ts') j := g5
   rw [g2,if_neg (by simp),g3,R.bind_ok,isW_at h5,if_pos rfl,g5,List.append_assoc]
   rfl
end
end Go.Proofs.YtneohanphabneaaGreatDoor.Pr

/-
  The plain law of what is written of a tree: a module is read back.
-/
import Derived.Test.YtneohanphabneaaGreatDoorQ7
namespace Go.Proofs.YtneohanphabneaaGreatDoor.Pr
open Ps Sc
def Rd (l : List Tok) (what : Tree → Prop) (one : Tree → List Pc) (f : Nat → R Tree) (ok : ByteArray → Prop) : Prop := ∀ t,what t → ∀ i j,At l i (wds (one t)) → j = i + (wds (one t)).length → ok (W l j) → ∃ t',strip t' = strip t ∧ f i = .ok t' j
theorem read_star {l : List Tok} {num i : Nat} (hnum : num ≤ 1) (ha : At l i (wds (star num))) (hn : W l (i + (wds (star num)).length) ≠ ⟨#[42]⟩) : Ps.star l ⟨#[42]⟩ i = (num,i + (wds (star num)).length) := by
 obtain rfl | rfl : num = 0 ∨ num = 1 := by omega
 ·have e : wds (star 0) = [] := rfl
  rw [e] at hn ⊢
  have hn : W l i ≠ ⟨#[42]⟩ := hn
  unfold Ps.star
  rw [isW_no hn]; rfl
 ·have h : W l i = ⟨#[42]⟩ := ha.2.1
  unfold Ps.star
  rw [isW_at h]; rfl
theorem read_decl {l : List Tok} {kind : Nat} {sign : List UInt8} {what : Tree → Prop} {wr : Tree → List Pc} {rd : Nat → R Tree} {ok : ByteArray → Prop} {one : Tree → List Pc} (hs : (⟨sign.toArray⟩ : ByteArray) ≠ ⟨#[42]⟩) (h : Rd l what wr rd ok)
  (ho : ∀ n num a x,wds (one (.node kind n num a [x])) = n.data.toList :: (wds (star num) ++ (sign :: wds (wr x)))) : Rd l (Pdec kind what) one (declared l kind ⟨sign.toArray⟩ rd) ok := by
 rintro t ⟨n,num,a,x,rfl,hn,hnum,hx⟩ i j ha hj hk
 rw [ho] at ha hj
 have h1 : W l i = n := At.nm ha
 simp only [At_app,At_cons,List.length_append,List.length_cons] at ha hj
 obtain ⟨_,_,h2,_,h3,h4⟩ := ha
 obtain ⟨x',g1,g2⟩ := h x hx _ j h4 (by omega) hk
 have g3 := read_star hnum h2 (by rw [h3]; exact hs)
 refine ⟨.node kind n num (A l i) [x'],by simp [strip_node,g1],?_⟩
 unfold declared
 rw [name_yes (by rw [h1]; exact hn),R.bind_ok,g3,must_yes (isW_at h3),R.bind_ok,g2,R.bind_ok,h1]
theorem rd_type (l : List Tok) : Rd l PT typeName (Ps.typeName l) (fun x => x ≠ ⟨#[46]⟩) := fun _ h _ _ ha hj hn => read_type h ha hj hn
theorem rd_expr (l : List Tok) (L : Nat) : Rd l (Xe L) (fun t => expr t 0) (E l L) (nx 0) := fun _ h i j ha hj hn => by
 obtain ⟨t',h1,_,h2⟩ := Xe.read h ha hj hn
 exact ⟨t',h1,h2⟩
theorem PT.pos {t : Tree} (h : PT t) : 1 ≤ (wds (typeName t)).length := by cases h <;> exact Nat.le_add_left 1 _
theorem wds_flat {α : Type} {f : α → List Pc} (x : α) (r : List α) : wds ((x :: r).flatMap f) = wds (f x) ++ wds (r.flatMap f) := by rw [List.flatMap_cons,wds_app]
theorem read_rows {l : List Tok} {what : Tree → Prop} {one : Tree → List Pc} {f : Nat → R Tree} {ok : ByteArray → Prop} (h : Rd l what one f ok) (hok : ok ⟨#[59]⟩) (d : Nat) (hnm : ∀ t,what t → ∃ n r,wds (one t) = n.data.toList :: r ∧ isName n = true) :
  ∀ (ts : List Tree) (i j G : Nat) (acc : List Tree),(∀ t ∈ ts,what t) → At l i (wds (ts.flatMap fun x => line d (one x ++ [s_semi]))) → j = i + (wds (ts.flatMap fun x => line d (one x ++ [s_semi]))).length → isName (W l j) = false → ts.length ≤ G →
   ∃ ts',ts'.map strip = ts.map strip ∧ sectionLoop l f G i acc = .ok (acc ++ ts') j
 | [],i,j,G,acc,_,ha,hj,hn,hG => by
  have hj : j = i := hj
  subst hj
  refine ⟨[],rfl,?_⟩
  cases G with
  | zero => unfold sectionLoop; rw [List.append_nil]
  | succ G => unfold sectionLoop; rw [hn,List.append_nil]; rfl
 | t :: ts,i,j,G,acc,hw,ha,hj,hn,hG => by
  obtain ⟨G,rfl⟩ : ∃ G',G = G' + 1 := ⟨G - 1,by simp at hG; omega⟩
  rw [wds_flat,wds_line,wds_app] at ha hj
  simp only [At_app,List.length_append] at ha hj
  obtain ⟨⟨a1,a2⟩,a3⟩ := ha
  have h1 : W l (i + (wds (one t)).length) = ⟨#[59]⟩ := a2.2.1
  have e1 : (wds [s_semi]).length = 1 := rfl
  rw [e1] at a3 hj
  obtain ⟨n,r,e,hnn⟩ := hnm t (hw t List.mem_cons_self)
  have h0 : W l i = n := by rw [e] at a1; exact At.nm a1
  obtain ⟨t',g1,g2⟩ := h t (hw t List.mem_cons_self) i _ a1 rfl (by rw [h1]; exact hok)
  rw [← Nat.add_assoc] at a3
  obtain ⟨ts',g3,g4⟩ := read_rows h hok d hnm ts _ j G (acc ++ [t']) (fun x hx => hw x (List.mem_cons_of_mem _ hx)) a3 (by omega) hn (by simpa using hG)
  refine ⟨t' :: ts',by simp [g1,g3],?_⟩
  unfold sectionLoop
  rw [h0,hnn,if_pos rfl,g2,R.bind_ok,must_yes (isW_at h1),R.bind_ok,g4,List.append_assoc]
  rfl
theorem rows_pos {d : Nat} {one : Tree → List Pc} : ∀ ts : List Tree,ts.length ≤ (wds (ts.flatMap fun x => line d (one x ++ [s_semi]))).length
 | [] => Nat.zero_le _
 | t :: ts => by
  have := rows_pos (d := d) (one := one) ts
  rw [wds_flat,wds_line,wds_app,List.length_append,List.length_append,show (wds [s_semi]).length = 1 from rfl,List.length_cons]
  omega
theorem read_section {l : List Tok} {what : Tree → Prop} {one : Tree → List Pc} {f : Nat → R Tree} {ok : ByteArray → Prop} (h : Rd l what one f ok) (hok : ok ⟨#[59]⟩) (d : Nat) (hnm : ∀ t,what t → ∃ n r,wds (one t) = n.data.toList :: r ∧ isName n = true) {w : List UInt8} {t : Tree} {i j : Nat}
  (ht : Plist what t) (ha : At l i (wds (section_ d (.w w) (subsT t) one))) (hj : j = i + (wds (section_ d (.w w) (subsT t) one)).length) (hn : isName (W l j) = false) (hw : W l j ≠ ⟨w.toArray⟩) : ∃ t',strip t' = strip t ∧ Ps.section_ l ⟨w.toArray⟩ f i = .ok t' j := by
 obtain ⟨a,ts,rfl,hts⟩ := ht
 have e : subsT (.node 1 ⟨#[]⟩ 0 a ts) = ts := rfl
 rw [e] at ha hj
 unfold section_ at ha hj
 by_cases hem : ts.isEmpty = true
 ·have hem2 : ts = [] := by simpa using hem
  subst hem2
  have hj : j = i := hj
  subst hj
  refine ⟨.node 1 ⟨#[]⟩ 0 (A l j) [],by simp [strip_node],?_⟩
  unfold Ps.section_
  rw [isW_no hw]; rfl
 ·rw [if_neg hem,wds_app,wds_line] at ha hj
  have h1 : W l i = ⟨w.toArray⟩ := ha.2.1
  have ha2 : At l (i + 1) (wds (ts.flatMap fun x => line (d + 1) (one x ++ [s_semi]))) := ha.2.2
  have hj : j = i + (1 + (wds (ts.flatMap fun x => line (d + 1) (one x ++ [s_semi]))).length) := by rw [hj,List.length_append]; rfl
  have hp := rows_pos (d := d + 1) (one := one) ts
  have hG : ts.length ≤ l.length := by
   by_cases hz : wds (ts.flatMap fun x => line (d + 1) (one x ++ [s_semi])) = []
   ·rw [hz] at hp; simp at hp; rw [hp]; exact Nat.zero_le _
   ·have := ha2.len hz; omega
  obtain ⟨ts',g1,g2⟩ := read_rows h hok (d + 1) hnm ts (i + 1) j l.length [] hts ha2 (by omega) hn hG
  refine ⟨.node 1 ⟨#[]⟩ 0 (A l i) ts',by simp [strip_node,g1],?_⟩
  unfold Ps.section_
  rw [isW_at h1,if_pos rfl,g2,R.bind_ok]
  rfl
theorem variable_words (kind : Nat) (n : ByteArray) (num a : Nat) (x : Tree) : wds (variable_ (.node kind n num a [x])) = n.data.toList :: (wds (star num) ++ ([58] :: wds (typeName x))) := by
 show wds ([nm n] ++ star num ++ [s_colon,.sp] ++ typeName x) = _
 simp only [wds_app,wds_sp,wds_w,List.append_assoc,List.cons_append,List.nil_append]
theorem rd_field (l : List Tok) : Rd l (Pdec 11 PT) variable_ (declared l 11 ⟨#[58]⟩ (Ps.typeName l)) (fun x => x ≠ ⟨#[46]⟩) := read_decl (by decide) (rd_type l) (variable_words 11)
theorem read_fields {l : List Tok} : ∀ (ts : List Tree) (i j G : Nat) (acc : List Tree),(∀ t ∈ ts,Pdec 11 PT t) → At l i (wds (ts.flatMap fun f => [.sp] ++ variable_ f ++ [s_semi]) ++ [[69,78,68]]) → j = i + (wds (ts.flatMap fun f => [.sp] ++ variable_ f ++ [s_semi])).length + 1 → ts.length < G →
   ∃ ts',ts'.map strip = ts.map strip ∧ fieldsLoop l G i acc = .ok (acc ++ ts') j
 | [],i,j,G,acc,_,ha,hj,hG => by
  obtain ⟨G,rfl⟩ : ∃ G',G = G' + 1 := ⟨G - 1,by simp at hG; omega⟩
  have h1 : W l i = ⟨#[69,78,68]⟩ := ha.2.1
  have hj : j = i + 1 := hj
  refine ⟨[],rfl,?_⟩
  unfold fieldsLoop
  rw [isW_at h1,if_pos rfl,List.append_nil,hj]
 | t :: ts,i,j,G,acc,hw,ha,hj,hG => by
  obtain ⟨G,rfl⟩ : ∃ G',G = G' + 1 := ⟨G - 1,by simp at hG; omega⟩
  rw [wds_flat,wds_app,wds_app,show wds [Pc.sp] = [] from rfl,List.nil_append] at ha
  rw [wds_flat,wds_app,wds_app,show wds [Pc.sp] = [] from rfl,List.nil_append] at hj
  simp only [At_app,List.length_append,show (wds [s_semi]).length = 1 from rfl] at ha hj
  obtain ⟨⟨⟨a1,a2⟩,a3⟩,a4⟩ := ha
  have h1 : W l (i + (wds (variable_ t)).length) = ⟨#[59]⟩ := a2.2.1
  obtain ⟨n,num,a,x,rfl,hnn,hrest⟩ := hw t List.mem_cons_self
  have h0 : W l i = n := by rw [variable_words] at a1; exact At.nm a1
  obtain ⟨t',g1,g2⟩ := rd_field l _ ⟨n,num,a,x,rfl,hnn,hrest⟩ i _ a1 rfl (by rw [h1]; decide)
  obtain ⟨ts',g3,g4⟩ := read_fields ts (i + (wds (variable_ (.node 11 n num a [x]))).length + 1) j G (acc ++ [t']) (fun x hx => hw x (List.mem_cons_of_mem _ hx)) (by
   rw [At_app]
   refine ⟨?_,?_⟩
   ·rw [← Nat.add_assoc] at a3; exact a3
   ·rw [show i + (wds (variable_ (.node 11 n num a [x]))).length + 1 + (wds (List.flatMap (fun f => [.sp] ++ variable_ f ++ [s_semi]) ts)).length = i + ((wds (variable_ (.node 11 n num a [x]))).length + 1 + (wds (List.flatMap (fun f => [.sp] ++ variable_ f ++ [s_semi]) ts)).length) from by omega]; exact a4) (by omega) (by simpa using hG)
  refine ⟨t' :: ts',by simp [g1,g3],?_⟩
  unfold fieldsLoop
  rw [isW_no (name_ne h0 hnn _ (by decide)),if_neg (by simp),g2,R.bind_ok,must_yes (isW_at h1),R.bind_ok,g4,List.append_assoc]
  rfl
theorem fields_pos : ∀ ts : List Tree,ts.length ≤ (wds (ts.flatMap fun f => [.sp] ++ variable_ f ++ [s_semi])).length
 | [] => Nat.zero_le _
 | t :: ts => by
  have := fields_pos ts
  rw [wds_flat,wds_app,List.length_append,List.length_append,show (wds [s_semi]).length = 1 from rfl,List.length_cons]
  omega
theorem rd_typ (l : List Tok) : Rd l Pty typ (Ps.typ l) (fun x => x = ⟨#[59]⟩) := by
 intro t h i j ha hj hn
 cases h with
 | arr hm hx =>
  rename_i n a x
  have e : wds (typ (.node 9 ⟨#[]⟩ n a [x])) = [65,82,82,65,89] :: (dec n :: ([79,70] :: wds (typeName x))) := by
   show wds ([kARRAY,.sp,.w (dec n),.sp,kOF,.sp] ++ typeName x) = _
   rw [wds_app]; rfl
  rw [e] at ha hj
  obtain ⟨_,h1,_,h2,_,h3,h4⟩ := ha
  obtain ⟨g1,g2,_⟩ := num_dec h2
  obtain ⟨x',g3,g4⟩ := read_type hx (j := j) h4 (by simp only [List.length_cons] at hj; omega) (by rw [hn]; decide)
  refine ⟨.node 9 ⟨#[]⟩ n (A l i) [x'],by simp [strip_node,g3],?_⟩
  unfold Ps.typ
  rw [isW_at h1,if_pos rfl,number_yes g1,R.bind_ok,must_yes (isW_at h3),R.bind_ok,g4,R.bind_ok,g2]
 | ptr hx =>
  rename_i a x
  have e : wds (typ (.node 12 ⟨#[]⟩ 0 a [x])) = [80,79,73,78,84,69,82] :: ([84,79] :: wds (typeName x)) := by
   show wds ([kPOINTER,.sp,kTO,.sp] ++ typeName x) = _
   rw [wds_app]; rfl
  rw [e] at ha hj
  obtain ⟨_,h1,_,h2,h4⟩ := ha
  obtain ⟨x',g3,g4⟩ := read_type hx (j := j) h4 (by simp only [List.length_cons] at hj; omega) (by rw [hn]; decide)
  refine ⟨.node 12 ⟨#[]⟩ 0 (A l i) [x'],by simp [strip_node,g3],?_⟩
  unfold Ps.typ
  rw [isW_no (by rw [h1]; decide),isW_at h1,if_neg (by simp),if_pos rfl,must_yes (isW_at h2),R.bind_ok,g4,R.bind_ok]
 | rec_ hb hf =>
  rename_i a b fs
  have e : wds (typ (.node 10 ⟨#[]⟩ 0 a (b :: fs))) = [82,69,67,79,82,68] :: (wds (if kindT b = 0 then [] else [.sp,s_lp] ++ typeName b ++ [s_rp]) ++ (wds (fs.flatMap fun f => [.sp] ++ variable_ f ++ [s_semi]) ++ [[69,78,68]])) := by
   show wds ([kRECORD] ++ (if kindT b = 0 then [] else [.sp,s_lp] ++ typeName b ++ [s_rp]) ++ fs.flatMap (fun f => [.sp] ++ variable_ f ++ [s_semi]) ++ [.sp,kEND]) = _
   rw [wds_app,wds_app,wds_app,List.append_assoc,List.append_assoc]; rfl
  rw [e] at ha hj
  have h1 := ha.2.1
  obtain ⟨a1,a2⟩ := At_app.1 ha.2.2
  have hfirst : W l (i + 1 + (wds (if kindT b = 0 then [] else [.sp,s_lp] ++ typeName b ++ [s_rp])).length) ≠ ⟨#[40]⟩ := by
   cases fs with
   | nil => rw [show W l _ = ⟨#[69,78,68]⟩ from a2.2.1]; decide
   | cons f fs =>
    obtain ⟨n,num,a,x,rfl,hnn,hrest⟩ := hf f List.mem_cons_self
    rw [wds_flat,wds_app,wds_app,show wds [Pc.sp] = [] from rfl,List.nil_append,variable_words] at a2
    exact name_ne (At.nm a2) hnn _ (by decide)
  have hbase : ∃ b',strip b' = strip b ∧ baseR l (i + 1) = .ok b' (i + 1 + (wds (if kindT b = 0 then [] else [.sp,s_lp] ++ typeName b ++ [s_rp])).length) := by
   rcases hb with ⟨a0,rfl⟩ | hb
   ·have hk : kindT (.node 0 ⟨#[]⟩ 0 a0 []) = 0 := rfl
    rw [if_pos hk] at hfirst ⊢
    have hfirst : W l (i + 1) ≠ ⟨#[40]⟩ := hfirst
    refine ⟨.node 0 ⟨#[]⟩ 0 (A l (i + 1)) [],by simp [strip_node],?_⟩
    unfold baseR
    rw [isW_no hfirst]; rfl
   ·have hk : kindT b ≠ 0 := by cases hb <;> simp [kindT]
    rw [if_neg hk] at a1 ⊢
    have a1 : At l (i + 1) (wds ([] ++ [.w [40]] ++ typeName b ++ [.w [41]])) := by
     rw [show wds ([] ++ [.w [40]] ++ typeName b ++ [.w [41]]) = wds ([.sp,s_lp] ++ typeName b ++ [s_rp]) from by simp only [wds_app]; rfl]
     exact a1
    obtain ⟨_,g1,g2,g3,g4⟩ := at_sur a1 rfl
    obtain ⟨b',g5,g6⟩ := read_type hb g2 rfl (by rw [g3]; decide)
    refine ⟨b',g5,?_⟩
    unfold baseR
    have g1 : W l (i + 1) = ⟨#[40]⟩ := g1
    rw [isW_at g1,if_pos rfl]
    have g3 : W l (i + 1 + 1 + (wds (typeName b)).length) = ⟨#[41]⟩ := g3
    have g6 : Ps.typeName l (i + 1 + 1) = .ok b' (i + 1 + 1 + (wds (typeName b)).length) := g6
    rw [g6,R.bind_ok,must_yes (isW_at g3),R.bind_ok]
    rw [wds_app,wds_app,List.length_append,List.length_append]
    show R.ok b' _ = R.ok b' (i + 1 + (1 + (wds (typeName b)).length + 1))
    congr 1; omega
  obtain ⟨b',g1,g2⟩ := hbase
  have hp := fields_pos fs
  have hG : fs.length < l.length := by
   have := a2.len (by simp)
   rw [List.length_append,List.length_cons,List.length_nil] at this
   omega
  simp only [List.length_cons,List.length_append,List.length_nil] at hj
  obtain ⟨fs',g3,g4⟩ := read_fields fs _ j l.length [b'] hf a2 (by omega) hG
  refine ⟨.node 10 ⟨#[]⟩ 0 (A l i) (b' :: fs'),by simp [strip_node,g1,g3],?_⟩
  have h1 : W l i = ⟨#[82,69,67,79,82,68]⟩ := h1
  unfold Ps.typ
  rw [isW_no (by rw [h1]; decide),isW_no (by rw [h1]; decide),isW_at h1,if_neg (by simp),if_neg (by simp),if_pos rfl,g2,R.bind_ok,g4,R.bind_ok]
  rfl
theorem param_words (n : ByteArray) (num a : Nat) (x : Tree) : wds (param (.node 8 n num a [x])) = wds (if num = 1 then [kVAR,.sp] else []) ++ (n.data.toList :: ([58] :: wds (typeName x))) := by
 show wds ((if num = 1 then [kVAR,.sp] else []) ++ [nm n,s_colon,.sp] ++ typeName x) = _
 rw [wds_app,wds_app,List.append_assoc]; rfl
theorem read_param {l : List Tok} {t : Tree} (h : Pdec 8 PT t) {i j : Nat} (ha : At l i (wds (param t))) (hj : j = i + (wds (param t)).length) (hn : W l j ≠ ⟨#[46]⟩) : ∃ t',strip t' = strip t ∧ Ps.param l i = .ok t' j ∧ W l i ≠ ⟨#[41]⟩ := by
 obtain ⟨n,num,a,x,rfl,hnn,hnum,hx⟩ := h
 rw [param_words,At_app] at ha
 rw [param_words,List.length_append,List.length_cons,List.length_cons] at hj
 obtain ⟨a1,a2⟩ := ha
 have h1 : W l (i + (wds (if num = 1 then [kVAR,.sp] else [])).length) = n := At.nm a2
 have h2 := a2.2.2.2.1
 obtain ⟨x',g1,g2⟩ := read_type hx (j := j) a2.2.2.2.2 (by omega) hn
 refine ⟨.node 8 n num (A l i) [x'],by simp [strip_node,g1],?_⟩
 have hst : Ps.star l ⟨#[86,65,82]⟩ i = (num,i + (wds (if num = 1 then [kVAR,.sp] else [])).length) ∧ W l i ≠ ⟨#[41]⟩ := by
  obtain rfl | rfl : num = 0 ∨ num = 1 := by omega
  ·have h1 : W l i = n := h1
   refine ⟨?_,name_ne h1 hnn _ (by decide)⟩
   unfold Ps.star
   rw [name_no h1 hnn _ (by decide)]; rfl
  ·have h : W l i = ⟨#[86,65,82]⟩ := a1.2.1
   refine ⟨?_,by rw [h]; decide⟩
   unfold Ps.star
   rw [isW_at h]; rfl
 refine ⟨?_,hst.2⟩
 unfold Ps.param
 rw [hst.1]
 show (nameR l (i + (wds (if num = 1 then [kVAR,.sp] else [])).length)).bind _ = _
 rw [name_yes (by rw [h1]; exact hnn),R.bind_ok,must_yes (isW_at h2),R.bind_ok,g2,R.bind_ok,h1]
theorem join_cons (sep : List Pc) (a b : List Pc) (r : List (List Pc)) : joinP sep (a :: b :: r) = a ++ sep ++ joinP sep (b :: r) := rfl
theorem read_params {l : List Tok} : ∀ (ts : List Tree) (i j G : Nat) (acc : List Tree),ts ≠ [] → (∀ t ∈ ts,Pdec 8 PT t) → At l i (wds (joinP [s_semi,.sp] (ts.map param))) → j = i + (wds (joinP [s_semi,.sp] (ts.map param))).length → ts.length ≤ G → W l j = ⟨#[41]⟩ →
   ∃ ts',ts'.map strip = ts.map strip ∧ W l i ≠ ⟨#[41]⟩ ∧ paramsLoop l G i acc = .ok (acc ++ ts') j
 | [],_,_,_,_,h,_,_,_,_,_ => absurd rfl h
 | [t],i,j,G,acc,_,hw,ha,hj,hG,hn => by
  obtain ⟨G,rfl⟩ : ∃ G',G = G' + 1 := ⟨G - 1,by simp at hG; omega⟩
  obtain ⟨t',g1,g2,g3⟩ := read_param (hw t List.mem_cons_self) ha hj (by rw [hn]; decide)
  refine ⟨[t'],by simp [g1],g3,?_⟩
  unfold paramsLoop
  rw [g2,R.bind_ok,isW_no (by rw [hn]; decide),if_neg (by simp)]
 | t :: u :: ts,i,j,G,acc,_,hw,ha,hj,hG,hn => by
  obtain ⟨G,rfl⟩ : ∃ G',G = G' + 1 := ⟨G - 1,by simp at hG; omega⟩
  rw [List.map_cons,List.map_cons,join_cons,wds_app,wds_app] at ha hj
  simp only [At_app,List.length_append,show (wds [s_semi,.sp]).length = 1 from rfl] at ha hj
  obtain ⟨⟨a1,a2⟩,a3⟩ := ha
  have h1 : W l (i + (wds (param t)).length) = ⟨#[59]⟩ := a2.2.1
  obtain ⟨t',g1,g2,g3⟩ := read_param (hw t List.mem_cons_self) a1 rfl (by rw [h1]; decide)
  rw [← Nat.add_assoc] at a3
  obtain ⟨ts',g4,_,g5⟩ := read_params (u :: ts) _ j G (acc ++ [t']) (by simp) (fun x hx => hw x (List.mem_cons_of_mem _ hx)) a3 (by rw [List.map_cons]; omega) (by simpa using hG) hn
  refine ⟨t' :: ts',by simp [g1] at g4 ⊢; exact g4,g3,?_⟩
  unfold paramsLoop
  rw [g2,R.bind_ok,isW_at h1,if_pos rfl,g5,List.append_assoc]
  rfl
theorem params_pos : ∀ ts : List Tree,(∀ t ∈ ts,Pdec 8 PT t) → ts.length ≤ (wds (joinP [s_semi,.sp] (ts.map param))).length
 | [],_ => Nat.zero_le _
 | [t],hw => by
  obtain ⟨n,num,a,x,rfl,_⟩ := hw t List.mem_cons_self
  show 1 ≤ (wds (param _)).length
  rw [param_words,List.length_append,List.length_cons]; omega
 | t :: u :: ts,hw => by
  have ih := params_pos (u :: ts) (fun x hx => hw x (List.mem_cons_of_mem _ hx))
  rw [List.map_cons,List.map_cons,join_cons,wds_app,wds_app,List.length_append,List.length_append,show (wds [s_semi,.sp]).length = 1 from rfl]
  rw [List.map_cons] at ih
  simp only [List.length_cons] at ih ⊢; omega
theorem read_base {l : List Tok} {r : Tree} (h : Pbase r) {i j : Nat} (ha : At l i (wds (if kindT r = 0 then [] else [s_colon,.sp] ++ typeName r))) (hj : j = i + (wds (if kindT r = 0 then [] else [s_colon,.sp] ++ typeName r)).length) (hn : W l j = ⟨#[59]⟩) : ∃ r',strip r' = strip r ∧ Ps.result l i = .ok r' j := by
 rcases h with ⟨a,rfl⟩ | h
 ·have hk : kindT (.node 0 ⟨#[]⟩ 0 a []) = 0 := rfl
  rw [if_pos hk] at hj
  have hj : j = i := hj
  subst hj
  refine ⟨.node 0 ⟨#[]⟩ 0 (A l j) [],by simp [strip_node],?_⟩
  unfold Ps.result
  rw [isW_no (by rw [hn]; decide),if_neg (by simp)]
 ·have hk : kindT r ≠ 0 := by cases h <;> simp [kindT]
  rw [if_neg hk,wds_app] at ha hj
  have h1 : W l i = ⟨#[58]⟩ := ha.2.1
  have h2 : At l (i + 1) (wds (typeName r)) := ha.2.2
  have hj : j = i + (1 + (wds (typeName r)).length) := by rw [hj,List.length_append]; rfl
  obtain ⟨r',g1,g2⟩ := read_type h (j := j) h2 (by omega) (by rw [hn]; decide)
  refine ⟨r',g1,?_⟩
  unfold Ps.result
  rw [isW_at h1,if_pos rfl,g2]
theorem name_dec {kind : Nat} {what : Tree → Prop} {one : Tree → List Pc} {sign : List UInt8} {wr : Tree → List Pc} (ho : ∀ n num a x,wds (one (.node kind n num a [x])) = n.data.toList :: (wds (star num) ++ (sign :: wds (wr x)))) : ∀ t,Pdec kind what t → ∃ n r,wds (one t) = n.data.toList :: r ∧ isName n = true := by
 rintro t ⟨n,num,a,x,rfl,hn,_⟩
 exact ⟨n,_,ho n num a x,hn⟩
theorem rd_var0 (l : List Tok) : Rd l Pvar0 variable_ (Ps.variable_ l) (fun x => x ≠ ⟨#[46]⟩) := by
 rintro t ⟨n,a,x,rfl,hnn,hx⟩ i j ha hj hn
 rw [variable_words,show wds (star 0) = [] from rfl,List.nil_append] at ha hj
 have h1 : W l i = n := At.nm ha
 have h2 := ha.2.2.2.1
 obtain ⟨x',g1,g2⟩ := read_type hx (j := j) ha.2.2.2.2 (by simp only [List.length_cons] at hj; omega) hn
 refine ⟨.node 6 n 0 (A l i) [x'],by simp [strip_node,g1],?_⟩
 unfold Ps.variable_
 rw [name_yes (by rw [h1]; exact hnn),R.bind_ok,must_yes (isW_at h2),R.bind_ok,g2,R.bind_ok,h1]
theorem proc_words (n : ByteArray) (num a : Nat) (ps r vs b : Tree) : wds (proc (.node 7 n num a [ps,r,vs,b])) = [80,82,79,67,69,68,85,82,69] :: (n.data.toList :: (wds (star num) ++
  (wds (if (subsT ps).isEmpty && kindT r = 0 then [] else [s_lp] ++ joinP [s_semi,.sp] ((subsT ps).map param) ++ [s_rp]) ++ (wds (if kindT r = 0 then [] else [s_colon,.sp] ++ typeName r) ++ ([59] ::
   (wds (section_ 0 kVAR (subsT vs) variable_) ++ ([66,69,71,73,78] :: (wds (block b 0) ++ [[69,78,68],n.data.toList,[59]])))))))) := by
 show wds (line 0 ([kPROCEDURE,.sp,nm n] ++ star num ++
  (if (subsT ps).isEmpty && kindT r = 0 then [] else [s_lp] ++ joinP [s_semi,.sp] ((subsT ps).map param) ++ [s_rp]) ++
  (if kindT r = 0 then [] else [s_colon,.sp] ++ typeName r) ++ [s_semi]) ++
 section_ 0 kVAR (subsT vs) variable_ ++ line 0 [kBEGIN] ++ block b 0 ++ line 0 [kEND,.sp,nm n,s_semi]) = _
 rw [wds_app,wds_app,wds_app,wds_app,wds_line,wds_line,wds_line,wds_app,wds_app,wds_app,wds_app]
 simp only [List.append_assoc,wds_w,wds_sp,wds_nil,List.cons_append,List.nil_append]
theorem read_proc {l : List Tok} {t : Tree} (h : Pproc t) {i j : Nat} (ha : At l i (wds (proc t))) (hj : j = i + (wds (proc t)).length) : ∃ t',strip t' = strip t ∧ W l i = ⟨#[80,82,79,67,69,68,85,82,69]⟩ ∧ ((Ps.proc l i).bind fun t i1 => (must l ⟨#[59]⟩ i1).bind fun _ i2 => .ok t i2) = .ok t' j := by
 obtain ⟨n,num,a,ps,r,vs,b,rfl,hnn,hnum,hps,hr,hvs,hb⟩ := h
 rw [proc_words] at ha hj
 simp only [At_app,At_cons,At_nil,List.length_append,List.length_cons,List.length_nil] at ha hj
 obtain ⟨_,h1,_,h2,a3,a4,a5,_,h6,a7,_,h8,a9,_,h10,_,h11,_,h12,_⟩ := ha
 rw [ba_eta] at h2 h11
 have hvs2 := hvs
 have hk6 : W l (i + 1 + 1 + (wds (star num)).length) ≠ ⟨#[42]⟩ := by
  by_cases hc : ((subsT ps).isEmpty && decide (kindT r = 0)) = true
  ·rw [if_pos hc] at a5 h6
   by_cases hk : kindT r = 0
   ·rw [if_pos hk] at h6
    have h6 : W l (i + 1 + 1 + (wds (star num)).length) = ⟨#[59]⟩ := h6
    rw [h6]; decide
   ·simp [hk] at hc
  ·rw [if_neg hc,wds_app,wds_app] at a4
   rw [show W l (i + 1 + 1 + (wds (star num)).length) = ⟨#[40]⟩ from a4.2.1]; decide
 have g1 := read_star hnum a3 hk6
 have hP : ∃ ps',strip ps' = strip ps ∧ Ps.params l (i + 1 + 1 + (wds (star num)).length) = .ok ps' (i + 1 + 1 + (wds (star num)).length + (wds (if (subsT ps).isEmpty && kindT r = 0 then [] else [s_lp] ++ joinP [s_semi,.sp] ((subsT ps).map param) ++ [s_rp])).length) := by
  generalize hi3 : i + 1 + 1 + (wds (star num)).length = i3 at *
  obtain ⟨a1,pl,rfl,hpl⟩ := hps
  have e : subsT (.node 1 ⟨#[]⟩ 0 a1 pl) = pl := rfl
  rw [e] at a4 a5 h6 ⊢
  by_cases hc : (pl.isEmpty && decide (kindT r = 0)) = true
  ·rw [if_pos hc] at a5 h6 ⊢
   have hpl0 : pl = [] := by simp at hc; exact hc.1
   have hk : kindT r = 0 := by simp at hc; exact hc.2
   subst hpl0
   rw [if_pos hk] at h6
   have h6 : W l i3 = ⟨#[59]⟩ := h6
   refine ⟨.node 1 ⟨#[]⟩ 0 (A l i3) [],by simp [strip_node],?_⟩
   unfold Ps.params
   rw [isW_no (by rw [h6]; decide),if_neg (by simp)]
   rfl
  ·rw [if_neg hc] at a4 ⊢
   have a4 : At l i3 (wds ([] ++ [.w [40]] ++ joinP [s_semi,.sp] (pl.map param) ++ [.w [41]])) := a4
   obtain ⟨_,b1,b2,b3,b4⟩ := at_sur a4 rfl
   have b1 : W l i3 = ⟨#[40]⟩ := b1
   have b2 : At l (i3 + 1) (wds (joinP [s_semi,.sp] (pl.map param))) := b2
   have b3 : W l (i3 + 1 + (wds (joinP [s_semi,.sp] (pl.map param))).length) = ⟨#[41]⟩ := b3
   have b4 : i3 + (wds ([s_lp] ++ joinP [s_semi,.sp] (pl.map param) ++ [s_rp])).length = i3 + 1 + (wds (joinP [s_semi,.sp] (pl.map param))).length + 1 := b4
   rw [b4]
   cases pl with
   | nil =>
    have b3 : W l (i3 + 1) = ⟨#[41]⟩ := b3
    refine ⟨.node 1 ⟨#[]⟩ 0 (A l i3) [],by simp [strip_node],?_⟩
    unfold Ps.params
    rw [isW_at b1,if_pos rfl,isW_at b3,if_pos rfl]
    rfl
   | cons p pl =>
    have hp := params_pos (p :: pl) hpl
    have hG : (p :: pl).length ≤ l.length := by
     have := b2.len (by intro e; rw [e] at hp; simp at hp)
     omega
    obtain ⟨ts',c1,c2,c3⟩ := read_params (p :: pl) _ _ l.length [] (by simp) hpl b2 rfl hG b3
    refine ⟨.node 1 ⟨#[]⟩ 0 (A l i3) ts',by simp only [strip_node,c1],?_⟩
    unfold Ps.params
    rw [isW_at b1,if_pos rfl,isW_no c2,if_neg (by simp),c3,R.bind_ok,must_yes (isW_at b3),R.bind_ok]
    rfl
 obtain ⟨ps',g2,g3⟩ := hP
 obtain ⟨r',g4,g5⟩ := read_base hr a5 rfl h6
 obtain ⟨vs',g6,g7⟩ := read_section (rd_var0 l) (by decide) 0 (fun t ht => by obtain ⟨n,a,x,rfl,hn,_⟩ := ht; exact ⟨n,_,variable_words 6 n 0 a x,hn⟩) hvs a7 rfl (by rw [h8]; decide) (by rw [h8]; decide)
 obtain ⟨b',g8,g9⟩ := hb.cb l 0 _ _ a9 rfl (by rw [h10]; simp [ends4])
 refine ⟨.node 7 n num (A l i) [ps',r',vs',b'],by simp [strip_node,g2,g4,g6,g8],h1,?_⟩
 unfold Ps.proc ends
 rw [must_yes (isW_at h1),R.bind_ok,name_yes (by rw [h2]; exact hnn),R.bind_ok,g1,h2]
 simp only
 rw [g3,R.bind_ok,g5,R.bind_ok,must_yes (isW_at h6),R.bind_ok,g7,R.bind_ok,must_yes (isW_at h8),R.bind_ok,g9,R.bind_ok,must_yes (isW_at h10),R.bind_ok,must_yes (isW_at h11),R.bind_ok,R.bind_ok,must_yes (isW_at h12),R.bind_ok]
 congr 1; omega
theorem read_procs {l : List Tok} : ∀ (ts : List Tree) (i j G : Nat) (acc : List Tree),(∀ t ∈ ts,Pproc t) → At l i (wds (ts.flatMap proc)) → j = i + (wds (ts.flatMap proc)).length → W l j ≠ ⟨#[80,82,79,67,69,68,85,82,69]⟩ → ts.length ≤ G →
   ∃ ts',ts'.map strip = ts.map strip ∧ procsLoop l G i acc = .ok (acc ++ ts') j
 | [],i,j,G,acc,_,ha,hj,hn,hG => by
  have hj : j = i := hj
  subst hj
  refine ⟨[],rfl,?_⟩
  cases G with
  | zero => unfold procsLoop; rw [List.append_nil]
  | succ G => unfold procsLoop; rw [isW_no hn,List.append_nil]; rfl
 | t :: ts,i,j,G,acc,hw,ha,hj,hn,hG => by
  obtain ⟨G,rfl⟩ : ∃ G',G = G' + 1 := ⟨G - 1,by simp at hG; omega⟩
  rw [wds_flat,At_app] at ha
  rw [wds_flat,List.length_append,← Nat.add_assoc] at hj
  obtain ⟨a1,a2⟩ := ha
  obtain ⟨t',g1,h1,g2⟩ := read_proc (hw t List.mem_cons_self) a1 rfl
  obtain ⟨ts',g3,g4⟩ := read_procs ts _ j G (acc ++ [t']) (fun x hx => hw x (List.mem_cons_of_mem _ hx)) a2 hj hn (by simpa using hG)
  refine ⟨t' :: ts',by simp [g1,g3],?_⟩
  unfold procsLoop
  rw [isW_at h1,if_pos rfl]
  cases hp : Ps.proc l i with
  | bad e a => rw [hp] at g2; cases g2
  | ok x k =>
   rw [hp] at g2
   rw [R.bind_ok] at g2 ⊢
   cases hm : must l ⟨#[59]⟩ k with
   | bad e a => rw [hm] at g2; cases g2
   | ok y m =>
    rw [hm] at g2
    rw [R.bind_ok] at g2 ⊢
    injection g2 with g5 g6
    subst g5 g6
    rw [g4,List.append_assoc]
    rfl
theorem procs_pos : ∀ ts : List Tree,(∀ t ∈ ts,Pproc t) → ts.length ≤ (wds (ts.flatMap proc)).length
 | [],_ => Nat.zero_le _
 | t :: ts,h => by
  have ih := procs_pos ts (fun x hx => h x (List.mem_cons_of_mem _ hx))
  obtain ⟨n,num,a,ps,r,vs,b,rfl,_⟩ := h t List.mem_cons_self
  rw [wds_flat,proc_words]
  simp only [List.length_append,List.length_cons] at ih ⊢
  omega
theorem read_imports {l : List Tok} : ∀ (ts : List Tree) (i j G : Nat) (acc : List Tree),ts ≠ [] → (∀ t ∈ ts,Pimp t) → At l i (wds (joinP [s_comma,.sp] (ts.map fun i => [nm (nameT i)]))) → j = i + (wds (joinP [s_comma,.sp] (ts.map fun i => [nm (nameT i)]))).length → ts.length ≤ G → W l j = ⟨#[59]⟩ →
   ∃ ts',ts'.map strip = ts.map strip ∧ importsLoop l G i acc = .ok (acc ++ ts') j
 | [],_,_,_,_,h,_,_,_,_,_ => absurd rfl h
 | [t],i,j,G,acc,_,hw,ha,hj,hG,hn => by
  obtain ⟨G,rfl⟩ : ∃ G',G = G' + 1 := ⟨G - 1,by simp at hG; omega⟩
  obtain ⟨n,a,rfl,hnn⟩ := hw t List.mem_cons_self
  have h1 : W l i = n := At.nm ha
  have hj : j = i + 1 := hj
  subst hj
  refine ⟨[.node 3 n 0 (A l i) []],by simp [strip_node],?_⟩
  unfold importsLoop
  rw [name_yes (by rw [h1]; exact hnn),R.bind_ok,isW_no (by rw [hn]; decide),if_neg (by simp),h1]
 | t :: u :: ts,i,j,G,acc,_,hw,ha,hj,hG,hn => by
  obtain ⟨G,rfl⟩ : ∃ G',G = G' + 1 := ⟨G - 1,by simp at hG; omega⟩
  obtain ⟨n,a,rfl,hnn⟩ := hw t List.mem_cons_self
  rw [List.map_cons,List.map_cons,join_cons,wds_app,wds_app] at ha hj
  have e : wds [nm (nameT (.node 3 n 0 a []))] ++ wds [s_comma,.sp] = [n.data.toList,[44]] := rfl
  rw [e] at ha hj
  obtain ⟨_,h1,_,h2,h3⟩ := ha
  rw [ba_eta] at h1
  obtain ⟨ts',g4,g5⟩ := read_imports (u :: ts) (i + 1 + 1) j G (acc ++ [.node 3 n 0 (A l i) []]) (by simp) (fun x hx => hw x (List.mem_cons_of_mem _ hx)) h3 (by rw [List.map_cons,hj,List.length_append]; show i + (2 + _) = i + 1 + 1 + _; omega) (by simpa using hG) hn
  refine ⟨.node 3 n 0 (A l i) [] :: ts',by simp [strip_node] at g4 ⊢; exact g4,?_⟩
  unfold importsLoop
  rw [name_yes (by rw [h1]; exact hnn),R.bind_ok,isW_at h2,if_pos rfl,h1,g5,List.append_assoc]
  rfl
theorem imports_pos : ∀ ts : List Tree,(∀ t ∈ ts,Pimp t) → ts.length ≤ (wds (joinP [s_comma,.sp] (ts.map fun i => [nm (nameT i)]))).length
 | [],_ => Nat.zero_le _
 | [t],_ => Nat.le_refl 1
 | t :: u :: ts,h => by
  have ih := imports_pos (u :: ts) (fun x hx => h x (List.mem_cons_of_mem _ hx))
  rw [List.map_cons,List.map_cons,join_cons,wds_app,wds_app,List.length_append,List.length_append,show (wds [s_comma,.sp]).length = 1 from rfl]
  rw [List.map_cons] at ih
  simp only [List.length_cons] at ih ⊢; omega
theorem const_words (n : ByteArray) (num a : Nat) (x : Tree) : wds (const_ (.node 4 n num a [x])) = n.data.toList :: (wds (star num) ++ ([61] :: wds (expr x 0))) := by
 show wds ([nm n] ++ star num ++ [.sp,s_eq,.sp] ++ expr x 0) = _
 simp only [wds_app,wds_sp,wds_w,List.append_assoc,List.cons_append,List.nil_append]
theorem named_words (n : ByteArray) (num a : Nat) (x : Tree) : wds (named (.node 5 n num a [x])) = n.data.toList :: (wds (star num) ++ ([61] :: wds (typ x))) := by
 show wds ([nm n] ++ star num ++ [.sp,s_eq,.sp] ++ typ x) = _
 simp only [wds_app,wds_sp,wds_w,List.append_assoc,List.cons_append,List.nil_append]
theorem rd_const (l : List Tok) : Rd l (Pdec 4 (Xe 20)) const_ (declared l 4 ⟨#[61]⟩ (E l 20)) (nx 0) := read_decl (by decide) (rd_expr l 20) const_words
theorem rd_named (l : List Tok) : Rd l (Pdec 5 Pty) named (declared l 5 ⟨#[61]⟩ (Ps.typ l)) (fun x => x = ⟨#[59]⟩) := read_decl (by decide) (rd_typ l) named_words
theorem rd_vars (l : List Tok) : Rd l (Pdec 6 PT) variable_ (declared l 6 ⟨#[58]⟩ (Ps.typeName l)) (fun x => x ≠ ⟨#[46]⟩) := read_decl (by decide) (rd_type l) (variable_words 6)
theorem module_words (n : ByteArray) (a : Nat) (im cs ty vs ps b : Tree) : wds (module (.node 2 n 0 a [im,cs,ty,vs,ps,b])) = [77,79,68,85,76,69] :: (n.data.toList :: ([59] ::
  (wds (if (subsT im).isEmpty then [] else line 0 ([kIMPORT,.sp] ++ joinP [s_comma,.sp] ((subsT im).map fun i => [nm (nameT i)]) ++ [s_semi])) ++
   (wds (section_ 0 kCONST (subsT cs) const_) ++ (wds (section_ 0 kTYPE (subsT ty) named) ++ (wds (section_ 0 kVAR (subsT vs) variable_) ++ (wds ((subsT ps).flatMap proc) ++
    (wds (if (subsT b).isEmpty then [] else line 0 [kBEGIN] ++ block b 0) ++ [[69,78,68],n.data.toList,[46]])))))))) := by
 show wds (line 0 [kMODULE,.sp,nm n,s_semi] ++
 (if (subsT im).isEmpty then [] else line 0 ([kIMPORT,.sp] ++ joinP [s_comma,.sp] ((subsT im).map fun i => [nm (nameT i)]) ++ [s_semi])) ++
 section_ 0 kCONST (subsT cs) const_ ++ section_ 0 kTYPE (subsT ty) named ++ section_ 0 kVAR (subsT vs) variable_ ++
 (subsT ps).flatMap proc ++
 (if (subsT b).isEmpty then [] else line 0 [kBEGIN] ++ block b 0) ++
 line 0 [kEND,.sp,nm n,s_dot]) = _
 rw [wds_app,wds_app,wds_app,wds_app,wds_app,wds_app,wds_app,wds_line,wds_line]
 simp only [List.append_assoc,wds_w,wds_sp,wds_nil,List.cons_append,List.nil_append]
theorem sec_first {l : List Tok} {d : Nat} {w : List UInt8} {ts : List Tree} {one : Tree → List Pc} {i : Nat} (ha : At l i (wds (section_ d (.w w) ts one))) : W l i = ⟨w.toArray⟩ ∨ (wds (section_ d (.w w) ts one)).length = 0 := by
 unfold section_ at ha ⊢
 by_cases h : ts.isEmpty = true
 ·rw [if_pos h]; exact .inr rfl
 ·rw [if_neg h,wds_app,wds_line] at ha
  exact .inl ha.2.1
theorem procs_first {l : List Tok} {ts : List Tree} {i : Nat} (h : ∀ t ∈ ts,Pproc t) (ha : At l i (wds (ts.flatMap proc))) : W l i = ⟨#[80,82,79,67,69,68,85,82,69]⟩ ∨ (wds (ts.flatMap proc)).length = 0 := by
 cases ts with
 | nil => exact .inr rfl
 | cons t ts =>
  obtain ⟨n,num,a,ps,r,vs,b,rfl,_⟩ := h t List.mem_cons_self
  rw [wds_flat,proc_words] at ha
  exact .inl ha.2.1
theorem read_module {l : List Tok} {t : Tree} (h : Pmod t) {i j : Nat} (ha : At l i (wds (module t))) (hj : j = i + (wds (module t)).length) : ∃ t',strip t' = strip t ∧ Ps.module l i = .ok t' j := by
 obtain ⟨n,a,im,cs,ty,vs,ps,b,rfl,hnn,him,hcs,hty,hvs,hps,hb⟩ := h
 rw [module_words] at ha hj
 simp only [At_app,At_cons,At_nil,List.length_append,List.length_cons,List.length_nil] at ha hj
 obtain ⟨_,h1,_,h2,_,h3,a4,a5,a6,a7,a8,a9,_,h10,_,h11,_,h12,_⟩ := ha
 rw [ba_eta] at h2 h11
 have hpl : ∀ t ∈ subsT ps,Pproc t := by obtain ⟨a,ts,rfl,h⟩ := hps; exact h
 obtain ⟨i4,e4⟩ : ∃ i4,i4 = i + 1 + 1 + 1 := ⟨_,rfl⟩
 rw [← e4] at a4 a5 a6 a7 a8 a9 h10 h11 h12
 obtain ⟨i5,e5⟩ : ∃ i5,i5 = i4 + (wds (if (subsT im).isEmpty then [] else line 0 ([kIMPORT,.sp] ++ joinP [s_comma,.sp] ((subsT im).map fun i => [nm (nameT i)]) ++ [s_semi]))).length := ⟨_,rfl⟩
 rw [← e5] at a5 a6 a7 a8 a9 h10 h11 h12
 obtain ⟨i6,e6⟩ : ∃ i6,i6 = i5 + (wds (section_ 0 kCONST (subsT cs) const_)).length := ⟨_,rfl⟩
 rw [← e6] at a6 a7 a8 a9 h10 h11 h12
 obtain ⟨i7,e7⟩ : ∃ i7,i7 = i6 + (wds (section_ 0 kTYPE (subsT ty) named)).length := ⟨_,rfl⟩
 rw [← e7] at a7 a8 a9 h10 h11 h12
 obtain ⟨i8,e8⟩ : ∃ i8,i8 = i7 + (wds (section_ 0 kVAR (subsT vs) variable_)).length := ⟨_,rfl⟩
 rw [← e8] at a8 a9 h10 h11 h12
 obtain ⟨i9,e9⟩ : ∃ i9,i9 = i8 + (wds ((subsT ps).flatMap proc)).length := ⟨_,rfl⟩
 rw [← e9] at a9 h10 h11 h12
 obtain ⟨i10,e10⟩ : ∃ i10,i10 = i9 + (wds (if (subsT b).isEmpty then [] else line 0 [kBEGIN] ++ block b 0)).length := ⟨_,rfl⟩
 rw [← e10] at h10 h11 h12
 have w9 : W l i9 = ⟨#[66,69,71,73,78]⟩ ∨ W l i9 = ⟨#[69,78,68]⟩ := by
  by_cases he : (subsT b).isEmpty = true
  ·rw [if_pos he] at e10
   have e10 : i10 = i9 := e10
   rw [e10] at h10
   exact .inr h10
  ·rw [if_neg he,wds_app,wds_line] at a9
   exact .inl a9.2.1
 have w8 : W l i8 = ⟨#[80,82,79,67,69,68,85,82,69]⟩ ∨ W l i8 = W l i9 := by
  rcases procs_first hpl a8 with h | h
  ·exact .inl h
  ·rw [h] at e9; exact .inr (by rw [e9]; rfl)
 have w7 : W l i7 = ⟨#[86,65,82]⟩ ∨ W l i7 = W l i8 := by
  rcases sec_first a7 with h | h
  ·exact .inl h
  ·rw [h] at e8; exact .inr (by rw [e8]; rfl)
 have w6 : W l i6 = ⟨#[84,89,80,69]⟩ ∨ W l i6 = W l i7 := by
  rcases sec_first a6 with h | h
  ·exact .inl h
  ·rw [h] at e7; exact .inr (by rw [e7]; rfl)
 have w5 : W l i5 = ⟨#[67,79,78,83,84]⟩ ∨ W l i5 = W l i6 := by
  rcases sec_first a5 with h | h
  ·exact .inl h
  ·rw [h] at e6; exact .inr (by rw [e6]; rfl)
 have n8 : isName (W l i8) = false ∧ W l i8 ≠ ⟨#[86,65,82]⟩ ∧ W l i8 ≠ ⟨#[84,89,80,69]⟩ ∧ W l i8 ≠ ⟨#[67,79,78,83,84]⟩ ∧ W l i8 ≠ ⟨#[73,77,80,79,82,84]⟩ := by
  rcases w8 with h | h
  ·rw [h]; decide
  ·rcases w9 with h9 | h9 <;> rw [h,h9] <;> decide
 have n7 : isName (W l i7) = false ∧ W l i7 ≠ ⟨#[84,89,80,69]⟩ ∧ W l i7 ≠ ⟨#[67,79,78,83,84]⟩ ∧ W l i7 ≠ ⟨#[73,77,80,79,82,84]⟩ := by
  rcases w7 with h | h
  ·rw [h]; decide
  ·rw [h]; exact ⟨n8.1,n8.2.2⟩
 have n6 : isName (W l i6) = false ∧ W l i6 ≠ ⟨#[67,79,78,83,84]⟩ ∧ W l i6 ≠ ⟨#[73,77,80,79,82,84]⟩ := by
  rcases w6 with h | h
  ·rw [h]; decide
  ·rw [h]; exact ⟨n7.1,n7.2.2⟩
 have n5 : W l i5 ≠ ⟨#[73,77,80,79,82,84]⟩ := by
  rcases w5 with h | h
  ·rw [h]; decide
  ·rw [h]; exact n6.2.2
 have n9 : W l i9 ≠ ⟨#[80,82,79,67,69,68,85,82,69]⟩ := by rcases w9 with h | h <;> rw [h] <;> decide
 have hI : ∃ im',strip im' = strip im ∧ Ps.imports l i4 = .ok im' i5 := by
  obtain ⟨a0,ts,rfl,hts⟩ := him
  have e : subsT (.node 1 ⟨#[]⟩ 0 a0 ts) = ts := rfl
  rw [e] at a4 e5
  by_cases he : ts.isEmpty = true
  ·have hem : ts = [] := by simpa using he
   subst hem
   have e5 : i5 = i4 := e5
   rw [e5] at n5
   refine ⟨.node 1 ⟨#[]⟩ 0 (A l i4) [],by simp [strip_node],?_⟩
   unfold Ps.imports
   rw [isW_no n5,e5]; rfl
  ·rw [if_neg he,wds_line,wds_app,wds_app] at a4 e5
   have b1 : W l i4 = ⟨#[73,77,80,79,82,84]⟩ := a4.2.1
   have b2 : At l (i4 + 1) (wds (joinP [s_comma,.sp] (ts.map fun i => [nm (nameT i)])) ++ [[59]]) := a4.2.2
   obtain ⟨b3,b4⟩ := At_app.1 b2
   have b5 : W l (i4 + 1 + (wds (joinP [s_comma,.sp] (ts.map fun i => [nm (nameT i)]))).length) = ⟨#[59]⟩ := b4.2.1
   have hp := imports_pos ts hts
   have hG : ts.length ≤ l.length := by have := b4.1; omega
   have hne : ts ≠ [] := by intro e; subst e; exact he rfl
   obtain ⟨ts',c1,c2⟩ := read_imports ts _ _ l.length [] hne hts b3 rfl hG b5
   refine ⟨.node 1 ⟨#[]⟩ 0 (A l i4) ts',by simp [strip_node,c1],?_⟩
   unfold Ps.imports
   rw [isW_at b1,if_pos rfl,c2,R.bind_ok,must_yes (isW_at b5),R.bind_ok,e5,List.length_append,List.length_append]
   show R.ok _ _ = R.ok _ (i4 + (1 + _ + 1))
   rw [List.nil_append]
   congr 1; omega
 obtain ⟨im',g1,f1⟩ := hI
 obtain ⟨cs',g2,f2⟩ := read_section (rd_const l) (by decide) 0 (name_dec const_words) hcs a5 e6 n6.1 n6.2.1
 obtain ⟨ty',g3,f3⟩ := read_section (rd_named l) rfl 0 (name_dec named_words) hty a6 e7 n7.1 n7.2.1
 obtain ⟨vs',g4,f4⟩ := read_section (rd_vars l) (by decide) 0 (name_dec (variable_words 6)) hvs a7 e8 n8.1 n8.2.1
 have f2 : Ps.section_ l ⟨#[67,79,78,83,84]⟩ (declared l 4 ⟨#[61]⟩ (E l 20)) i5 = .ok cs' i6 := f2
 have f3 : Ps.section_ l ⟨#[84,89,80,69]⟩ (declared l 5 ⟨#[61]⟩ (Ps.typ l)) i6 = .ok ty' i7 := f3
 have f4 : Ps.section_ l ⟨#[86,65,82]⟩ (declared l 6 ⟨#[58]⟩ (Ps.typeName l)) i7 = .ok vs' i8 := f4
 have hP : ∃ ps',strip ps' = strip ps ∧ Ps.procs l i8 = .ok ps' i9 := by
  have hp := procs_pos _ hpl
  have hG : (subsT ps).length ≤ l.length := by
   by_cases hz : wds ((subsT ps).flatMap proc) = []
   ·rw [hz] at hp; simp at hp; rw [hp]; exact Nat.zero_le _
   ·have := a8.len hz; omega
  obtain ⟨ts',c1,c2⟩ := read_procs _ i8 i9 l.length [] hpl a8 e9 n9 hG
  obtain ⟨a0,ts,rfl,_⟩ := hps
  refine ⟨.node 1 ⟨#[]⟩ 0 (A l i8) ts',by rw [strip_node,strip_node,c1]; rfl,?_⟩
  unfold Ps.procs
  rw [c2,R.bind_ok]; rfl
 obtain ⟨ps',g5,f5⟩ := hP
 have hB : ∃ b',strip b' = strip b ∧ Ps.body l i9 = .ok b' i10 := by
  by_cases he : (subsT b).isEmpty = true
  ·rw [if_pos he] at e10
   have e10 : i10 = i9 := e10
   rw [e10] at h10 ⊢
   refine ⟨.node 1 ⟨#[]⟩ 0 (A l i9) [],?_,?_⟩
   ·cases hb with
    | mk h =>
     have hz := List.isEmpty_iff.1 he
     simp only [subsT] at hz
     subst hz
     simp [strip_node]
   ·unfold Ps.body
    rw [isW_no (by rw [h10]; decide)]; rfl
  ·rw [if_neg he,wds_app,wds_line] at a9 e10
   have b1 : W l i9 = ⟨#[66,69,71,73,78]⟩ := a9.2.1
   have b2 : At l (i9 + 1) (wds (block b 0)) := a9.2.2
   have e10 : i10 = i9 + (1 + (wds (block b 0)).length) := by rw [e10,List.length_append]; rfl
   obtain ⟨b',c1,c2⟩ := hb.cb l 0 _ i10 b2 (by omega) (by rw [h10]; simp [ends4])
   refine ⟨b',c1,?_⟩
   unfold Ps.body
   rw [isW_at b1,if_pos rfl,c2]
 obtain ⟨b',g6,f6⟩ := hB
 refine ⟨.node 2 n 0 (A l i) [im',cs',ty',vs',ps',b'],by simp [strip_node,g1,g2,g3,g4,g5,g6],?_⟩
 unfold Ps.module ends
 rw [must_yes (isW_at h1),R.bind_ok,name_yes (by rw [h2]; exact hnn),R.bind_ok,must_yes (isW_at h3),R.bind_ok,h2,← e4,f1,R.bind_ok,f2,R.bind_ok,f3,R.bind_ok,f4,R.bind_ok,f5,R.bind_ok,f6,R.bind_ok,
  must_yes (isW_at h10),R.bind_ok,must_yes (isW_at h11),R.bind_ok,must_yes (isW_at h12),R.bind_ok]
 congr 1; omega
theorem At_of : ∀ (m pre post : List Tok),At (pre ++ m ++ post) pre.length (m.map (·.1))
 | [],_,_ => trivial
 | x :: m,pre,post => by
  have h : W (pre ++ (x :: m) ++ post) pre.length = ⟨x.1.toArray⟩ := by
   unfold W
   have : (pre ++ (x :: m) ++ post)[pre.length]? = some x := by simp
   rw [this]
  have ih := At_of m (pre ++ [x]) post
  refine ⟨by simp,h,?_⟩
  rw [List.length_append,show pre ++ [x] ++ m ++ post = pre ++ (x :: m) ++ post from by simp] at ih
  exact ih
theorem read_back {t : Tree} (h : Pmod t) {s : List UInt8} (hs : s = txt (module t)) (hl : s.length ≤ 4000) : ∃ l t' j,Sc.words s = .ok l ∧ Ps.tree l = .ok t' j ∧ strip t' = strip t := by
 obtain ⟨⟨m,q,h1,h2⟩,_⟩ := Ln_module h
 rw [← hs] at h1
 refine ⟨m ++ [([],q)],?_⟩
 have ha : At (m ++ [([],q)]) 0 (wds (module t)) := by
  have := At_of m [] [([],q)]
  rw [h2] at this
  exact this
 obtain ⟨t',g1,g2⟩ := read_module h ha rfl
 rw [Nat.zero_add] at g2
 have hw : isW (m ++ [([],q)]) (wds (module t)).length ⟨#[]⟩ = true := by
  refine isW_at ?_
  rw [← h2,List.length_map]
  unfold W
  simp
 refine ⟨t',(wds (module t)).length,?_,?_,g1⟩
 ·unfold Sc.words
  rw [if_neg (by omega),h1]
 ·unfold Ps.tree
  rw [g2,R.bind_ok,hw,if_pos rfl]
end Go.Proofs.YtneohanphabneaaGreatDoor.Pr

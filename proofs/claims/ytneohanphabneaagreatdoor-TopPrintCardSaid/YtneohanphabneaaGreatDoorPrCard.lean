/-
  TopPrint: for all raw numbers, every place and every choice the law says yes, the arguments read as they did. No condition. The tied card.
-/
import Derived.Test.YtneohanphabneaaGreatDoorCards
import Derived.Test.YtneohanphabneaaGreatDoorTie
import Derived.Test.YtneohanphabneaaGreatDoorMP21
import Derived.ProofKit
import Derived.OpenShut
import Derived.LaidMore
import Derived.LaidHandle
import Derived.Lay
import Derived.SevenTiedAt
import Derived.Deep.DeepHandedRow
import Derived.Deep.DeepWitnessRowRef
import Derived.ChangeSlices
import Derived.Lib.LaidTab
namespace Go.Proofs.YtneohanphabneaaGreatDoor
set_option maxRecDepth 100000
open Go.ChangeShapes Go.WideShapes Go.ChangeAt Go.RowKit
open Go.ChangeMaps (open_string shut_string)
section
variable {H : Type} {enc : TypeId × Value → H} {P : Program}
theorem post_of_below {f : Func} {s : ChangeSpec} {apart fresh handsOn again : Bool} {W W' : World} {args : Array Value} {v : Value} {ds gs : List (DataW H)} {before pa pv : List MemPlace}
  (hW : DataW.Whole enc P f.params.toList s.vars apart W args.toList ds gs before)
  (hres : ∀ (b : Nat) (sp : Nat → Bool) (hd : Bool),DataW.TrodAll enc P W' b sp hd f.resultTypes.toList (v.resultList f.resultTypes.size) (s.fn H (ds ++ gs)).results [])
  (hargs : ∀ sp : Nat → Bool,(∀ p ∈ before,sp p.block = true) → DataW.TrodAll enc P W' 0 sp true f.params.toList args.toList (s.fn H (ds ++ gs)).args pa)
  (hvars : ∀ sp : Nat → Bool,(∀ p ∈ before,sp p.block = true) → DataW.TrodVars enc P W' sp s.vars (s.fn H (ds ++ gs)).vars pv)
  (hps : before = pa ++ pv) (hb : Below W.heap.size W W')
  (hok : ∀ (j : Nat) (t : TypeId) (r : Value),f.resultTypes[j]? = some t → (v.resultList f.resultTypes.size)[j]? = some r → Value.okWide P W' .any 0 t r) :
  s.post enc P f apart fresh handsOn again W args v W' := by
 have hlt : ∀ p ∈ before,p.block < W.heap.size := fun p hp => hW.lt p hp
 have hold : ∀ p ∈ before,(fun b => decide (b < W.heap.size)) p.block = true := fun p hp => by simpa using hlt p hp
 refine ⟨ds,gs,before,[],pa,pv,hW,hres _ _ _,hargs _ hold,hvars _ hold,World.keptBut_mono (fun p hp => ⟨hp,?_⟩) (hb.frame (· ∈ before)),fun _ => ?_⟩
 ·rw [hps,List.mem_append] at hp
  exact Or.inr hp
 ·obtain ⟨_,_,_,_,_,hz,hn⟩ := hW
  refine ⟨hok,_,_,([] ++ pa) ++ pv,⟨[] ++ pa,pv,trodAll_append (hargs _ (fun _ _ => rfl)) (hres _ _ _),hvars _ (fun _ _ => rfl),rfl,?_,?_⟩,?_⟩
  ·intro b off hp
   have hin : MemPlace.cell b off ∈ before := by rw [hps]; simpa using hp
   rw [hb.frozen (hlt _ hin)]
   exact hz b off hin
  ·intro ha
   have := hn ha
   rw [hps] at this
   simpa using this
  ·intro p hp _
   rw [hps]
   simpa using hp
end
theorem own : ownKnob Tryz.prog.godebug = none := by kernel_rfl
theorem g_et : Tryz.prog.globalNamed "errors.errorType" = some 0 := by kernel_rfl
theorem g_rt : (Tryz.prog.cutTypes.find? (·.1 == "internal/reflectlite.rtype")).map (·.2) = some 138 := by kernel_rfl
theorem g_size : Tryz.prog.types.size = 245 := by kernel_rfl
theorem g_oneRow : ((List.range 245).filter fun t => Tryz.prog.rowNamed t [101,114,114,111,114]) = [32] := by kernel_rfl
theorem g_handle : typeHandle Tryz.prog 32 = .pointer (some ⟨11,32,none⟩) := by kernel_rfl
theorem errType_of {W : World} (h : handlesMet Tryz.prog [("errors.errorType",Rows.laid_errors_errorType)] W) : ErrType W := by
 have hx := h _ (List.mem_singleton.2 rfl)
 obtain ⟨name,u,ty,e1,e2,e3,e4,e5⟩ := hx
 have en : name = [101,114,114,111,114] := (Option.some.inj e1).symm
 subst en
 obtain rfl := Option.some.inj (g_rt.symm.trans e2)
 have hm : ty ∈ (List.range 245).filter fun t => Tryz.prog.rowNamed t [101,114,114,111,114] := List.mem_filter.2 ⟨List.mem_range.2 (by rw [← g_size]; exact e3),e4⟩
 rw [g_oneRow] at hm
 obtain rfl := List.mem_singleton.1 hm
 rw [g_handle] at e5
 unfold ErrType
 simpa using World.var?_cell g_et e5 0
noncomputable def handWorld (os : Os) : World :=
 { World.holding Tryz.prog os ⟨#[],#[],[]⟩ with heap := (World.holding Tryz.prog os ⟨#[],#[],[]⟩).heap.modify 0 fun
   | .cells _ t frozen => .cells #[.iface 138 (.agg #[.pointer (some ⟨11,32,none⟩)])] t frozen
   | o => o }
noncomputable def prData : List (String × DataW Unit) := [("math/bits.deBruijn32tab",Rows.laid_math_bits_deBruijn32tab),("math/bits.deBruijn64tab",Rows.laid_math_bits_deBruijn64tab),("internal/strconv.uint64pow10",Rows.laid_internal_strconv_uint64pow10),("unicode/utf8.acceptRanges",Rows.laid_unicode_utf8_acceptRanges),("strconv.ErrRange",Rows.laid_strconv_ErrRange),("strconv.ErrSyntax",Rows.laid_strconv_ErrSyntax),("oberlin/parse.levels",Rows.laid_oberlin_parse_levels),("unicode/utf8.first",Rows.laid_unicode_utf8_first)]
noncomputable def prWorld (os : Os) : World := (handWorld os).layVars Tryz.prog prData
theorem pr_met (os : Os) (args : Array Value) : laidMetH Tryz.prog Rows.topPrintRow.laid ((prWorld os).forCall (fun _ _ => 0) ⟨#[],args,[]⟩).memory := by
 refine laidMetH_of_parts ?_ (by kernel_rfl)
 have h : laidMet Tryz.prog prData (prWorld os) := laidMet_layVars (w0 := handWorld os) ["math/bits.deBruijn32tab","math/bits.deBruijn64tab","internal/strconv.uint64pow10","unicode/utf8.acceptRanges","strconv.ErrRange","strconv.ErrSyntax","oberlin/parse.levels","unicode/utf8.first"] [] (by kernel_rfl) (by kernel_rfl) (by kernel_rfl) (by exact LaidIn.none)
 exact h.of_heap (by simp [World.memory,World.forCall,Input.heap])
theorem pr_reads (os : Os) {H : Type} (enc : TypeId × Value → H) : ∃ places,DataW.whole enc Tryz.prog ((prWorld os).forCall (fun _ _ => 0) ⟨#[],#[.slice none 0 0,.int .i64 0,.int .i64 0],[]⟩).memory Tryz.f4.params.toList Rows.topPrintSpec.vars false #[Value.slice none 0 0,Value.int .i64 0,Value.int .i64 0].toList 8 = some ([.nil,.lit (.int .i64 0),.lit (.int .i64 0)],[],places) :=
 ⟨[],by kernel_rfl⟩
theorem tab10_of {w : World} (h : Lib.VarReads Tryz.prog w "internal/strconv.uint64pow10" (Lib.tabData .u64 Lib.pow10Tab)) : Tab10 w := by
 obtain ⟨g,t,cs,fuel,p,h1,h2,h3,h4⟩ := h
 have hg : Tryz.prog.globalNamed "internal/strconv.uint64pow10" = some 8 := by kernel_rfl
 obtain rfl := Option.some.inj (hg.symm.trans h1)
 have ht : (Tryz.prog.globals[8]?).map (·.type) = some 208 := by kernel_rfl
 obtain rfl := Option.some.inj (ht.symm.trans h2)
 have e := Lib.cells_of_tab (n := 20) (e := 180) (by kernel_rfl) (by kernel_rfl) (by kernel_rfl) (by kernel_rfl) h4
 unfold Tab10 Lib.TabIs
 rw [h3,← e]
theorem wf_range {n : Int} (h : (Lit.int .i64 n).wf = true) : -9223372036854775808 ≤ n ∧ n ≤ 9223372036854775807 := by
 unfold Lit.wf at h
 simp only [Bool.and_eq_true,decide_eq_true_eq] at h
 exact ⟨Int.le_trans (by decide) h.1,Int.le_trans h.2 (by decide)⟩
theorem raw_nil (w : World) : RawAt w none 0 := ⟨by decide,fun i hi => absurd hi (by omega)⟩
theorem raw_row {w : World} {a : Addr} {len cap : Nat} {zs : List Int} (hl : len ≤ cap) (hz : zs.length = cap) (hcell : ∀ i,i < zs.length → w.cell? (a.add i) = some (.int .i64 (zs.getD i 0))) (hw : ∀ n ∈ zs,(Lit.int .i64 n).wf = true) (hn : len ≤ 256) : RawAt w (some a) len := by
 refine ⟨by omega,fun i hi => ?_⟩
 obtain ⟨b,o,sp⟩ := a
 have h0 := hcell 0 (by omega)
 have e0 : (⟨b,o,sp⟩ : Addr).add 0 = ⟨b,o,sp⟩ := by unfold Addr.add; rfl
 rw [e0] at h0
 have hsp := cell_spot h0
 subst hsp
 have hm : zs.getD i 0 ∈ zs := by
  rw [List.getD,List.getElem?_eq_getElem (by omega : i < zs.length)]
  exact List.getElem_mem _
 have hr := wf_range (hw _ hm)
 have h1 := hcell i (by omega)
 have ea : (⟨b,o,none⟩ : Addr).add i = ⟨b,o + i,none⟩ := by
  unfold Addr.add
  by_cases hz : i = 0
  ·rw [if_pos hz,hz]; rfl
  ·rw [if_neg hz]
 rw [ea] at h1
 exact ⟨b,o,_,rfl,cell_lt h0,hr.1,hr.2,h1⟩
theorem pr_contract (H : Type) (enc : TypeId × Value → H) (W : World) (base : Nat) (args : Array Value) (ds gs : List (DataW H)) (before : List MemPlace)
  (hval : ∀ (j : Nat) t v,Tryz.f4.params[j]? = some t → args[j]? = some v → Value.okWide Tryz.prog W .any base t v)
  (hW : DataW.Whole enc Tryz.prog Tryz.f4.params.toList Rows.topPrintSpec.vars false W args.toList ds gs before) (hL : laidMetH Tryz.prog Rows.topPrintRow.laid W) (hsh : W.ShapedOpen Tryz.prog) :
  Calls Tryz.prog 4 args W fun e W' => ∃ v,e = .returned v ∧ Rows.topPrintSpec.post enc Tryz.prog Tryz.f4 false true false false W args v W' := by
 have hW' := hW
 obtain ⟨p,q,hA0,hV,rfl,hfz,hnd⟩ := hW
 have hA : DataW.TrodAll enc Tryz.prog W 0 (fun _ => true) true Tryz.f4.params.toList args.toList ds p := hA0
 rw [Tryz.params4] at hA hval
 obtain ⟨v0,v1,v2,d0,d1,d2,p0,p1,p2,rfl,rfl,rfl,h0,h1,h2⟩ := trodAll_three hA
 obtain ⟨rfl,rfl⟩ := trodVars_none hV
 obtain ⟨x,rfl,rfl,rfl,hx⟩ := open_int Tryz.underlying3 (hval 1 3 v1 rfl rfl) h1
 obtain ⟨y,rfl,rfl,rfl,hy⟩ := open_int Tryz.underlying3 (hval 2 3 v2 rfl rfl) h2
 obtain ⟨a0,n,sc,rfl⟩ := Go.WideShapes.okWide_slice Tryz.underlying37 (hval 0 37 v0 rfl rfl)
 obtain ⟨m,hm⟩ := Tryz.laysM144.s1_3 W hsh
 have hL' : laidMet Tryz.prog prData W ∧ handlesMet Tryz.prog [("errors.errorType",Rows.laid_errors_errorType)] W := hL
 have hlv := levels_laid (Lib.laidMet.reads hL'.1 (n := "oberlin/parse.levels") (d := levD) (by rw [show levD = Rows.laid_oberlin_parse_levels from by kernel_rfl]; simp [prData]))
 have htb := tab10_of (Lib.laidMet.reads hL'.1 (n := "internal/strconv.uint64pow10") (d := Lib.tabData .u64 Lib.pow10Tab) (by rw [show Lib.tabData .u64 Lib.pow10Tab = Rows.laid_internal_strconv_uint64pow10 from by kernel_rfl]; simp [prData]))
 have hEnv : Env W m := ⟨errType_of hL'.2,hm,hlv,htb⟩
 have hxr := wf_range hx
 have hyr := wf_range hy
 have hc : Tryz.prog.cellsOf 3 = 1 := by kernel_rfl
 obtain ⟨fuel,hf⟩ := h0
 rcases Go.ChangeShapes.open_ints Tryz.underlying37 Tryz.underlying3 hc hf with ⟨hcs,he⟩ | ⟨a,len,cap,zs,hcs,_,hl,hmax,hz,he,hcell,hw⟩
 ·simp [Value.cells] at hcs
  obtain ⟨rfl,rfl,rfl⟩ := hcs
  simp only [Prod.mk.injEq] at he
  obtain ⟨rfl,rfl⟩ := he
  clear hA0
  refine (print_any x y m hxr.1 hxr.2 hyr.1 hyr.2 W (Nat.le_refl _) (fun _ => raw_nil W) hEnv).mono fun e W' ⟨he,hb⟩ => ?_
  subst he
  simp only [List.append_nil] at hW'
  exact ⟨_,rfl,post_of_below (pa := []) (pv := []) hW' (fun _ _ _ => trodAll_mk1 (shut_bool Tryz.underlying4 _)) (fun _ _ => trodAll_mk3 (shut_slice_nil Tryz.underlying37) (shut_int Tryz.underlying3 hx) (shut_int Tryz.underlying3 hy)) (fun _ _ => rfl) rfl hb
   (ok_one (by kernel_rfl) rfl (okWide_bool_mk Tryz.underlying4 _))⟩
 ·simp [Value.cells] at hcs
  obtain ⟨rfl,rfl,rfl⟩ := hcs
  simp only [Prod.mk.injEq] at he
  obtain ⟨rfl,rfl⟩ := he
  simp only [if_true] at hz
  clear hA0
  refine (print_any x y m hxr.1 hxr.2 hyr.1 hyr.2 W hl (fun hn => raw_row hl hz hcell hw hn) hEnv).mono fun e W' ⟨he,hb⟩ => ?_
  subst he
  simp only [List.append_nil] at hW'
  have hmem : 0 < zs.length → MemPlace.cell a.block (a.off + 0) ∈ MemPlace.row a zs.length := fun h => List.mem_map.2 ⟨0,List.mem_range.2 h,rfl⟩
  have hlt : ∀ i,i < zs.length → (a.add i).block < W.heap.size := fun i hi => by
   rw [block_add]
   exact hW'.lt _ (hmem (by omega))
  have hshut : ∀ sp : Nat → Bool,(∀ p ∈ MemPlace.row a zs.length,sp p.block = true) → DataW.TrodAll enc Tryz.prog W' 0 sp true [37,3,3] [.slice (some a) n sc,.int .i64 x,.int .i64 y] [.slice (lits .i64 (zs.take n)) (lits .i64 (zs.drop n)),.lit (.int .i64 x),.lit (.int .i64 y)] (MemPlace.row a zs.length) := fun sp hsp => by
   have hz' : zs.length = (if sp a.block = true then sc else n) := by
    rcases Nat.eq_zero_or_pos zs.length with h | h
    ·split <;> omega
    ·have hb1 : sp a.block = true := hsp _ (hmem h)
     rw [if_pos hb1]; exact hz
   have h0 : DataW.Trod enc Tryz.prog W' 0 sp true 37 (.slice (some a) n sc) (.slice (lits .i64 (zs.take n)) (lits .i64 (zs.drop n))) (MemPlace.row a zs.length) :=
    ⟨2,shut_ints 0 Tryz.underlying37 Tryz.underlying3 hc (Nat.zero_le _) hl hmax hz' (fun i hi => (hb.cell (hlt i hi)).trans (hcell i hi)) hw⟩
   have := trodAll_mk3 h0 (shut_int Tryz.underlying3 hx) (shut_int Tryz.underlying3 hy)
   simpa using this
  exact ⟨_,rfl,post_of_below (pa := MemPlace.row a zs.length) (pv := []) hW' (fun _ _ _ => trodAll_mk1 (shut_bool Tryz.underlying4 _)) hshut (fun _ _ => rfl) (by simp) hb
   (ok_one (by kernel_rfl) rfl (okWide_bool_mk Tryz.underlying4 _))⟩
theorem pr_lifted (os : Os) (started : os.Started) (H : Type) (enc : TypeId × Value → H) (F : Stop.Interp) :
  ReturnsInHanded {} Tryz.checked os 4 .any ((OpenSpec.ofChange Rows.topPrintSpec).preRow enc Tryz.prog Tryz.f4 Rows.topPrintRow.domain false Rows.topPrintRow.laid) (((OpenSpec.ofChange Rows.topPrintSpec).at F).post enc Tryz.prog Tryz.f4 false true false false) := by
 obtain ⟨places,hx⟩ := pr_reads os enc
 refine returnsInHanded_of_row (C := Tryz.checked) (s := OpenSpec.ofChange Rows.topPrintSpec) own started (by kernel_rfl) Tryz.func4
  (witness_row_atRef (enc := enc) (C := Tryz.checked) false (prWorld os) #[.slice none 0 0,.int .i64 0,.int .i64 0] (World.layVars_os _ _ _) (by kernel_rfl) (by kernel_rfl) (by kernel_rfl)
   (OpenSpec.preRow_of_cond 8 hx (by kernel_rfl) (fun k hk => by cases hk) (by kernel_rfl) (pr_met os _))) ?_
 intro W base args ds gs before hval hW _ _ _ hL hsh _
 exact pr_contract H enc W base args ds gs before hval hW hL hsh
theorem pr_said : Rows.TopPrintSaid :=
 OpenClaim.holds_of_cond 4 Tryz.f4 rfl rfl rfl rfl rfl rfl rfl ⟨rfl,rfl,rfl,rfl,rfl⟩ rfl rfl rfl rfl rfl (by kernel_rfl) Tryz.func4 (by kernel_rfl)
  (of_decide_eq_true (by kernel_rfl)) (by unfold Func.isWrapper; first | (rw [if_pos (by decide +kernel)]; kernel_rfl) | (rw [if_neg (by decide +kernel)]; exact ⟨rfl,rfl⟩))
  (fun os started H enc _ F => by rw [OpenClaim.pre_eq_preRow]; exact pr_lifted os started H enc F)
theorem pr_plain (f : FuncId) (fn : Func) (hf : Tryz.pinned.checked.prog.funcNamed "oberlin/oberlintop.TopPrint" = some f) (hfn : Tryz.pinned.checked.prog.funcs[f]? = some fn) :
  true = Tryz.pinned.checked.prog.looks [] ∧ ∀ (j : Nat) t,fn.params[j]? = some t → Tryz.pinned.checked.prog.wantsStandIn t = false := by
 obtain rfl : f = 4 := Option.some.inj ((show Tryz.prog.funcNamed "oberlin/oberlintop.TopPrint" = some 4 by kernel_rfl).symm.trans hf) |>.symm
 obtain rfl : fn = Tryz.f4 := (Option.some.inj (Tryz.func4.symm.trans hfn)).symm
 refine ⟨by kernel_rfl,fun j t ht => ?_⟩
 rw [Tryz.params4] at ht
 have hm : t ∈ [37,3] := by
  have := Array.mem_of_getElem? ht
  simp at this
  simp only [List.mem_cons,List.not_mem_nil,or_false]
  omega
 have hall : ([37,3].all fun u => !Tryz.prog.wantsStandIn u) = true := by kernel_rfl
 exact (show Tryz.prog.wantsStandIn t = false by simpa using List.all_eq_true.1 hall t hm)
theorem pr_card : Rows.TopPrintCardSaid :=
 Claim7.holds_tied_plain_at .later [] _ _ _ _ pr_said (fun _ h => by cases h) (by kernel_rfl) (fun _ h => by cases h) topPrint_row_tie rfl ⟨rfl,rfl⟩ (by kernel_rfl) rfl pr_plain (by kernel_rfl)
#print axioms pr_card
end Go.Proofs.YtneohanphabneaaGreatDoor

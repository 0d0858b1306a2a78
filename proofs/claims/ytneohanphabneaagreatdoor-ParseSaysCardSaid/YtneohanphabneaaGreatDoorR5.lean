/-
  Contracts of the reference's reader: declarations.
-/
import Derived.Test.YtneohanphabneaaGreatDoorMR2
import Derived.Test.YtneohanphabneaaGreatDoorMP3
namespace Go.Proofs.YtneohanphabneaaGreatDoor
open Go.RowKit Ps
/-- A function of the reader that reads f, d levels deep, from every state that ok allows. -/
def RCT (ok : R Unit → Prop) (K : FuncId) (d : Nat) (f : List Sc.Tok → Nat → R Tree) : Prop := ∀ (w : World) (p T : Nat) (l : List Sc.Tok) (s : R Unit) (i : Nat), ok s → RS w p T l s i d → Calls Tryz.prog K #[pp p] w fun e w' =>
    RT (fun b => w.heap.size ≤ b) p T l i d (s.bind fun _ k => f l k) e w' ∧ Kp w.heap.size p w w'
set_option maxRecDepth 100000 in
set_option maxHeartbeats 1000000 in
theorem rdecl_const {w : World} {p T : Nat} {l : List Sc.Tok} {s : R Unit} {i d : Nat} (h : RS w p T l s i d) (hex : RCT (fun _ => True) 148 d (fun l => Ps.E l 20)) : Calls Tryz.prog 100 #[pp p, .int .i64 4] w fun e w' =>
    RT (fun b => w.heap.size ≤ b) p T l i d (s.bind fun _ k => Ps.declared l 4 (⟨#[61]⟩) (Ps.E l 20) k) e w' ∧ Kp w.heap.size p w w' := by
  obtain ⟨r, hr⟩ : ∃ r, r = s.bind fun _ k => Ps.declared l 4 (⟨#[61]⟩) (Ps.E l 20) k := ⟨_, rfl⟩
  rw [← hr]
  have HR := rhere h _ hr
  clear hr
  unfold Ps.declared at HR
  unfold pp
  go_enter Tryz.func100, Tryz.ntmps100
  go_wp2_with fail
  have s1 := (Rs.start h).allocAt (w.heap.size) 25 #[.int .i64 0, .string ⟨#[]⟩, .int .i64 0, .int .i64 0, .slice none 0 0] (by simp)
  refine (rat_any s1.ps).mono ?_
  rintro e w2 ⟨rfl, hb3⟩
  have s4 := s1.below hb3
  go_wp2_with fail
  have s5 := s4.allocAt (w2.heap.size) 25 #[.int .i64 4, .string ⟨#[]⟩, .int .i64 0, .int .i64 (Ps.A l i), .slice none 0 0] (by simp)
  refine (rname_on s5.ps).mono ?_
  rintro e w7 ⟨nm6, q8, i9, rfl, h10, le11, hk12, ho13⟩
  replace HR := ho13 HR
  clear ho13
  have le11 := Lib.hid le11
  have s14 := s5.call hk12 h10
  have c15 := s14.n0.2.five
  have l16 := s14.n0.2.lt
  have c17 := s14.n1.2.five
  have l18 := s14.n1.2.lt
  have d19 := s14.d01
  go_wp2_with fail
  clear c15 l16 c17 l18 d19
  have s20 := s14.s01 (.string nm6)
  refine (ris_any s20.ps (⟨#[42]⟩) (fun _ => by decide)).mono ?_
  rintro e w21 ⟨⟨hq22, hw23, rfl, h24⟩ | ⟨hw23, rfl, h24⟩, hk25⟩
  · replace HR := ryes' (j := i9 + 1) hq22 (by rw [star_yes hw23]) HR
    have s26 := s20.call hk25 h24
    have c27 := s26.n0.2.five
    have l28 := s26.n0.2.lt
    have c29 := s26.n1.2.five
    have l30 := s26.n1.2.lt
    have d31 := s26.d01
    go_wp2_with fail
    clear c27 l28 c29 l30 d31
    have s32 := s26.s02 (.int .i64 1)
    refine (rneed_on s32.ps (⟨#[61]⟩) (fun _ => by decide)).mono ?_
    rintro e w33 ⟨q34, i35, rfl, h36, le37, hk38, ho39⟩
    replace HR := ho39 HR
    clear ho39
    have le37 := Lib.hid le37
    have s40 := s32.call hk38 h36
    have c41 := s40.n0.2.five
    have l42 := s40.n0.2.lt
    have c43 := s40.n1.2.five
    have l44 := s40.n1.2.lt
    have d45 := s40.d01
    go_wp2_with fail
    clear c41 l42 c43 l44 d45
    refine (rt_on s40.ps (hex _ p T l _ _ trivial s40.ps)).mono ?_
    rintro e w54 ⟨k46, nm47, num48, a49, ts50, so51, sc52, q55, i56, rfl, hrow53, h57, le58, hk59, ho60⟩
    replace HR := ho60 HR
    clear ho60
    have le58 := Lib.hid le58
    have s61 := s40.callKeep hk59 h57 hrow53
    unfold nodeV
    have c62 := s61.n0.2.five
    have l63 := s61.n0.2.lt
    have c64 := s61.n1.2.five
    have l65 := s61.n1.2.lt
    have d66 := s61.d01
    go_wp2_with fail
    clear c62 l63 c64 l65 d66
    have s67 := s61.s04 (.slice (some ⟨w54.heap.size, 0, none⟩) 1 1)
    have s68 := s67.p1 (.int .i64 4) (.string nm6) (.int .i64 1) (.int .i64 (Ps.A l i)) (.slice (some ⟨w54.heap.size, 0, none⟩) 1 1)
    have s69 := s68.built1 (k0 := k46) (nm0 := nm47) (num0 := num48) (a0 := a49) (sv0 := .slice so51 ts50.length sc52) (ts0 := ts50) (by simp) (w54.heap.size) (by simp)
    exact bodyPost_ret (res5 Tryz.results100 rfl s69.n1.2) rfl ⟨rend s69.ps HR (s69.treeOf (sv := .slice (some ⟨w54.heap.size, 0, none⟩) 1 1) (by simp)) (by have := le11.out; have := le37.out; have := le58.out; omega), s69.kp⟩
  · replace HR := rif s20.ps hw23 (fun hw => by rw [star_no hw]) HR
    have s70 := s20.call hk25 h24
    have c71 := s70.n0.2.five
    have l72 := s70.n0.2.lt
    have c73 := s70.n1.2.five
    have l74 := s70.n1.2.lt
    have d75 := s70.d01
    go_wp2_with fail
    clear c71 l72 c73 l74 d75
    refine (rneed_on s70.ps (⟨#[61]⟩) (fun _ => by decide)).mono ?_
    rintro e w76 ⟨q77, i78, rfl, h79, le80, hk81, ho82⟩
    replace HR := ho82 HR
    clear ho82
    have le80 := Lib.hid le80
    have s83 := s70.call hk81 h79
    have c84 := s83.n0.2.five
    have l85 := s83.n0.2.lt
    have c86 := s83.n1.2.five
    have l87 := s83.n1.2.lt
    have d88 := s83.d01
    go_wp2_with fail
    clear c84 l85 c86 l87 d88
    refine (rt_on s83.ps (hex _ p T l _ _ trivial s83.ps)).mono ?_
    rintro e w97 ⟨k89, nm90, num91, a92, ts93, so94, sc95, q98, i99, rfl, hrow96, h100, le101, hk102, ho103⟩
    replace HR := ho103 HR
    clear ho103
    have le101 := Lib.hid le101
    have s104 := s83.callKeep hk102 h100 hrow96
    unfold nodeV
    have c105 := s104.n0.2.five
    have l106 := s104.n0.2.lt
    have c107 := s104.n1.2.five
    have l108 := s104.n1.2.lt
    have d109 := s104.d01
    go_wp2_with fail
    clear c105 l106 c107 l108 d109
    have s110 := s104.s04 (.slice (some ⟨w97.heap.size, 0, none⟩) 1 1)
    have s111 := s110.p1 (.int .i64 4) (.string nm6) (.int .i64 0) (.int .i64 (Ps.A l i)) (.slice (some ⟨w97.heap.size, 0, none⟩) 1 1)
    have s112 := s111.built1 (k0 := k89) (nm0 := nm90) (num0 := num91) (a0 := a92) (sv0 := .slice so94 ts93.length sc95) (ts0 := ts93) (by simp) (w97.heap.size) (by simp)
    exact bodyPost_ret (res5 Tryz.results100 rfl s112.n1.2) rfl ⟨rend s112.ps HR (s112.treeOf (sv := .slice (some ⟨w97.heap.size, 0, none⟩) 1 1) (by simp)) (by have := le11.out; have := le80.out; have := le101.out; omega), s112.kp⟩
set_option maxRecDepth 100000 in
set_option maxHeartbeats 1000000 in
theorem rdecl_type {w : World} {p T : Nat} {l : List Sc.Tok} {s : R Unit} {i d : Nat} (h : RS w p T l s i d) (hty : RCT (fun _ => True) 149 d (fun l => Ps.typ l)) : Calls Tryz.prog 100 #[pp p, .int .i64 5] w fun e w' =>
    RT (fun b => w.heap.size ≤ b) p T l i d (s.bind fun _ k => Ps.declared l 5 (⟨#[61]⟩) (Ps.typ l) k) e w' ∧ Kp w.heap.size p w w' := by
  obtain ⟨r, hr⟩ : ∃ r, r = s.bind fun _ k => Ps.declared l 5 (⟨#[61]⟩) (Ps.typ l) k := ⟨_, rfl⟩
  rw [← hr]
  have HR := rhere h _ hr
  clear hr
  unfold Ps.declared at HR
  unfold pp
  go_enter Tryz.func100, Tryz.ntmps100
  go_wp2_with fail
  have s113 := (Rs.start h).allocAt (w.heap.size) 25 #[.int .i64 0, .string ⟨#[]⟩, .int .i64 0, .int .i64 0, .slice none 0 0] (by simp)
  refine (rat_any s113.ps).mono ?_
  rintro e w114 ⟨rfl, hb115⟩
  have s116 := s113.below hb115
  go_wp2_with fail
  have s117 := s116.allocAt (w114.heap.size) 25 #[.int .i64 5, .string ⟨#[]⟩, .int .i64 0, .int .i64 (Ps.A l i), .slice none 0 0] (by simp)
  refine (rname_on s117.ps).mono ?_
  rintro e w119 ⟨nm118, q120, i121, rfl, h122, le123, hk124, ho125⟩
  replace HR := ho125 HR
  clear ho125
  have le123 := Lib.hid le123
  have s126 := s117.call hk124 h122
  have c127 := s126.n0.2.five
  have l128 := s126.n0.2.lt
  have c129 := s126.n1.2.five
  have l130 := s126.n1.2.lt
  have d131 := s126.d01
  go_wp2_with fail
  clear c127 l128 c129 l130 d131
  have s132 := s126.s01 (.string nm118)
  refine (ris_any s132.ps (⟨#[42]⟩) (fun _ => by decide)).mono ?_
  rintro e w133 ⟨⟨hq134, hw135, rfl, h136⟩ | ⟨hw135, rfl, h136⟩, hk137⟩
  · replace HR := ryes' (j := i121 + 1) hq134 (by rw [star_yes hw135]) HR
    have s138 := s132.call hk137 h136
    have c139 := s138.n0.2.five
    have l140 := s138.n0.2.lt
    have c141 := s138.n1.2.five
    have l142 := s138.n1.2.lt
    have d143 := s138.d01
    go_wp2_with fail
    clear c139 l140 c141 l142 d143
    have s144 := s138.s02 (.int .i64 1)
    refine (rneed_on s144.ps (⟨#[61]⟩) (fun _ => by decide)).mono ?_
    rintro e w145 ⟨q146, i147, rfl, h148, le149, hk150, ho151⟩
    replace HR := ho151 HR
    clear ho151
    have le149 := Lib.hid le149
    have s152 := s144.call hk150 h148
    have c153 := s152.n0.2.five
    have l154 := s152.n0.2.lt
    have c155 := s152.n1.2.five
    have l156 := s152.n1.2.lt
    have d157 := s152.d01
    go_wp2_with fail
    clear c153 l154 c155 l156 d157
    refine (rt_on s152.ps (hty _ p T l _ _ trivial s152.ps)).mono ?_
    rintro e w166 ⟨k158, nm159, num160, a161, ts162, so163, sc164, q167, i168, rfl, hrow165, h169, le170, hk171, ho172⟩
    replace HR := ho172 HR
    clear ho172
    have le170 := Lib.hid le170
    have s173 := s152.callKeep hk171 h169 hrow165
    unfold nodeV
    have c174 := s173.n0.2.five
    have l175 := s173.n0.2.lt
    have c176 := s173.n1.2.five
    have l177 := s173.n1.2.lt
    have d178 := s173.d01
    go_wp2_with fail
    clear c174 l175 c176 l177 d178
    have s179 := s173.s04 (.slice (some ⟨w166.heap.size, 0, none⟩) 1 1)
    have s180 := s179.p1 (.int .i64 5) (.string nm118) (.int .i64 1) (.int .i64 (Ps.A l i)) (.slice (some ⟨w166.heap.size, 0, none⟩) 1 1)
    have s181 := s180.built1 (k0 := k158) (nm0 := nm159) (num0 := num160) (a0 := a161) (sv0 := .slice so163 ts162.length sc164) (ts0 := ts162) (by simp) (w166.heap.size) (by simp)
    exact bodyPost_ret (res5 Tryz.results100 rfl s181.n1.2) rfl ⟨rend s181.ps HR (s181.treeOf (sv := .slice (some ⟨w166.heap.size, 0, none⟩) 1 1) (by simp)) (by have := le123.out; have := le149.out; have := le170.out; omega), s181.kp⟩
  · replace HR := rif s132.ps hw135 (fun hw => by rw [star_no hw]) HR
    have s182 := s132.call hk137 h136
    have c183 := s182.n0.2.five
    have l184 := s182.n0.2.lt
    have c185 := s182.n1.2.five
    have l186 := s182.n1.2.lt
    have d187 := s182.d01
    go_wp2_with fail
    clear c183 l184 c185 l186 d187
    refine (rneed_on s182.ps (⟨#[61]⟩) (fun _ => by decide)).mono ?_
    rintro e w188 ⟨q189, i190, rfl, h191, le192, hk193, ho194⟩
    replace HR := ho194 HR
    clear ho194
    have le192 := Lib.hid le192
    have s195 := s182.call hk193 h191
    have c196 := s195.n0.2.five
    have l197 := s195.n0.2.lt
    have c198 := s195.n1.2.five
    have l199 := s195.n1.2.lt
    have d200 := s195.d01
    go_wp2_with fail
    clear c196 l197 c198 l199 d200
    refine (rt_on s195.ps (hty _ p T l _ _ trivial s195.ps)).mono ?_
    rintro e w209 ⟨k201, nm202, num203, a204, ts205, so206, sc207, q210, i211, rfl, hrow208, h212, le213, hk214, ho215⟩
    replace HR := ho215 HR
    clear ho215
    have le213 := Lib.hid le213
    have s216 := s195.callKeep hk214 h212 hrow208
    unfold nodeV
    have c217 := s216.n0.2.five
    have l218 := s216.n0.2.lt
    have c219 := s216.n1.2.five
    have l220 := s216.n1.2.lt
    have d221 := s216.d01
    go_wp2_with fail
    clear c217 l218 c219 l220 d221
    have s222 := s216.s04 (.slice (some ⟨w209.heap.size, 0, none⟩) 1 1)
    have s223 := s222.p1 (.int .i64 5) (.string nm118) (.int .i64 0) (.int .i64 (Ps.A l i)) (.slice (some ⟨w209.heap.size, 0, none⟩) 1 1)
    have s224 := s223.built1 (k0 := k201) (nm0 := nm202) (num0 := num203) (a0 := a204) (sv0 := .slice so206 ts205.length sc207) (ts0 := ts205) (by simp) (w209.heap.size) (by simp)
    exact bodyPost_ret (res5 Tryz.results100 rfl s224.n1.2) rfl ⟨rend s224.ps HR (s224.treeOf (sv := .slice (some ⟨w209.heap.size, 0, none⟩) 1 1) (by simp)) (by have := le123.out; have := le192.out; have := le213.out; omega), s224.kp⟩
set_option maxRecDepth 100000 in
set_option maxHeartbeats 1000000 in
theorem rdecl_field {w : World} {p T : Nat} {l : List Sc.Tok} {s : R Unit} {i d : Nat} (h : RS w p T l s i d) : Calls Tryz.prog 100 #[pp p, .int .i64 11] w fun e w' =>
    RT (fun b => w.heap.size ≤ b) p T l i d (s.bind fun _ k => Ps.declared l 11 (⟨#[58]⟩) (Ps.typeName l) k) e w' ∧ Kp w.heap.size p w w' := by
  obtain ⟨r, hr⟩ : ∃ r, r = s.bind fun _ k => Ps.declared l 11 (⟨#[58]⟩) (Ps.typeName l) k := ⟨_, rfl⟩
  rw [← hr]
  have HR := rhere h _ hr
  clear hr
  unfold Ps.declared at HR
  unfold pp
  go_enter Tryz.func100, Tryz.ntmps100
  go_wp2_with fail
  have s225 := (Rs.start h).allocAt (w.heap.size) 25 #[.int .i64 0, .string ⟨#[]⟩, .int .i64 0, .int .i64 0, .slice none 0 0] (by simp)
  refine (rat_any s225.ps).mono ?_
  rintro e w226 ⟨rfl, hb227⟩
  have s228 := s225.below hb227
  go_wp2_with fail
  have s229 := s228.allocAt (w226.heap.size) 25 #[.int .i64 11, .string ⟨#[]⟩, .int .i64 0, .int .i64 (Ps.A l i), .slice none 0 0] (by simp)
  refine (rname_on s229.ps).mono ?_
  rintro e w231 ⟨nm230, q232, i233, rfl, h234, le235, hk236, ho237⟩
  replace HR := ho237 HR
  clear ho237
  have le235 := Lib.hid le235
  have s238 := s229.call hk236 h234
  have c239 := s238.n0.2.five
  have l240 := s238.n0.2.lt
  have c241 := s238.n1.2.five
  have l242 := s238.n1.2.lt
  have d243 := s238.d01
  go_wp2_with fail
  clear c239 l240 c241 l242 d243
  have s244 := s238.s01 (.string nm230)
  refine (ris_any s244.ps (⟨#[42]⟩) (fun _ => by decide)).mono ?_
  rintro e w245 ⟨⟨hq246, hw247, rfl, h248⟩ | ⟨hw247, rfl, h248⟩, hk249⟩
  · replace HR := ryes' (j := i233 + 1) hq246 (by rw [star_yes hw247]) HR
    have s250 := s244.call hk249 h248
    have c251 := s250.n0.2.five
    have l252 := s250.n0.2.lt
    have c253 := s250.n1.2.five
    have l254 := s250.n1.2.lt
    have d255 := s250.d01
    go_wp2_with fail
    clear c251 l252 c253 l254 d255
    have s256 := s250.s02 (.int .i64 1)
    refine (rneed_on s256.ps (⟨#[58]⟩) (fun _ => by decide)).mono ?_
    rintro e w257 ⟨q258, i259, rfl, h260, le261, hk262, ho263⟩
    replace HR := ho263 HR
    clear ho263
    have le261 := Lib.hid le261
    have s264 := s256.call hk262 h260
    have c265 := s264.n0.2.five
    have l266 := s264.n0.2.lt
    have c267 := s264.n1.2.five
    have l268 := s264.n1.2.lt
    have d269 := s264.d01
    go_wp2_with fail
    clear c265 l266 c267 l268 d269
    refine (rt_on s264.ps (rtypeName_any s264.ps)).mono ?_
    rintro e w278 ⟨k270, nm271, num272, a273, ts274, so275, sc276, q279, i280, rfl, hrow277, h281, le282, hk283, ho284⟩
    replace HR := ho284 HR
    clear ho284
    have le282 := Lib.hid le282
    have s285 := s264.callKeep hk283 h281 hrow277
    unfold nodeV
    have c286 := s285.n0.2.five
    have l287 := s285.n0.2.lt
    have c288 := s285.n1.2.five
    have l289 := s285.n1.2.lt
    have d290 := s285.d01
    go_wp2_with fail
    clear c286 l287 c288 l289 d290
    have s291 := s285.s04 (.slice (some ⟨w278.heap.size, 0, none⟩) 1 1)
    have s292 := s291.p1 (.int .i64 11) (.string nm230) (.int .i64 1) (.int .i64 (Ps.A l i)) (.slice (some ⟨w278.heap.size, 0, none⟩) 1 1)
    have s293 := s292.built1 (k0 := k270) (nm0 := nm271) (num0 := num272) (a0 := a273) (sv0 := .slice so275 ts274.length sc276) (ts0 := ts274) (by simp) (w278.heap.size) (by simp)
    exact bodyPost_ret (res5 Tryz.results100 rfl s293.n1.2) rfl ⟨rend s293.ps HR (s293.treeOf (sv := .slice (some ⟨w278.heap.size, 0, none⟩) 1 1) (by simp)) (by have := le235.out; have := le261.out; have := le282.out; omega), s293.kp⟩
  · replace HR := rif s244.ps hw247 (fun hw => by rw [star_no hw]) HR
    have s294 := s244.call hk249 h248
    have c295 := s294.n0.2.five
    have l296 := s294.n0.2.lt
    have c297 := s294.n1.2.five
    have l298 := s294.n1.2.lt
    have d299 := s294.d01
    go_wp2_with fail
    clear c295 l296 c297 l298 d299
    refine (rneed_on s294.ps (⟨#[58]⟩) (fun _ => by decide)).mono ?_
    rintro e w300 ⟨q301, i302, rfl, h303, le304, hk305, ho306⟩
    replace HR := ho306 HR
    clear ho306
    have le304 := Lib.hid le304
    have s307 := s294.call hk305 h303
    have c308 := s307.n0.2.five
    have l309 := s307.n0.2.lt
    have c310 := s307.n1.2.five
    have l311 := s307.n1.2.lt
    have d312 := s307.d01
    go_wp2_with fail
    clear c308 l309 c310 l311 d312
    refine (rt_on s307.ps (rtypeName_any s307.ps)).mono ?_
    rintro e w321 ⟨k313, nm314, num315, a316, ts317, so318, sc319, q322, i323, rfl, hrow320, h324, le325, hk326, ho327⟩
    replace HR := ho327 HR
    clear ho327
    have le325 := Lib.hid le325
    have s328 := s307.callKeep hk326 h324 hrow320
    unfold nodeV
    have c329 := s328.n0.2.five
    have l330 := s328.n0.2.lt
    have c331 := s328.n1.2.five
    have l332 := s328.n1.2.lt
    have d333 := s328.d01
    go_wp2_with fail
    clear c329 l330 c331 l332 d333
    have s334 := s328.s04 (.slice (some ⟨w321.heap.size, 0, none⟩) 1 1)
    have s335 := s334.p1 (.int .i64 11) (.string nm230) (.int .i64 0) (.int .i64 (Ps.A l i)) (.slice (some ⟨w321.heap.size, 0, none⟩) 1 1)
    have s336 := s335.built1 (k0 := k313) (nm0 := nm314) (num0 := num315) (a0 := a316) (sv0 := .slice so318 ts317.length sc319) (ts0 := ts317) (by simp) (w321.heap.size) (by simp)
    exact bodyPost_ret (res5 Tryz.results100 rfl s336.n1.2) rfl ⟨rend s336.ps HR (s336.treeOf (sv := .slice (some ⟨w321.heap.size, 0, none⟩) 1 1) (by simp)) (by have := le235.out; have := le304.out; have := le325.out; omega), s336.kp⟩
set_option maxRecDepth 100000 in
set_option maxHeartbeats 1000000 in
theorem rdecl_var {w : World} {p T : Nat} {l : List Sc.Tok} {s : R Unit} {i d : Nat} (h : RS w p T l s i d) : Calls Tryz.prog 100 #[pp p, .int .i64 6] w fun e w' =>
    RT (fun b => w.heap.size ≤ b) p T l i d (s.bind fun _ k => Ps.declared l 6 (⟨#[58]⟩) (Ps.typeName l) k) e w' ∧ Kp w.heap.size p w w' := by
  obtain ⟨r, hr⟩ : ∃ r, r = s.bind fun _ k => Ps.declared l 6 (⟨#[58]⟩) (Ps.typeName l) k := ⟨_, rfl⟩
  rw [← hr]
  have HR := rhere h _ hr
  clear hr
  unfold Ps.declared at HR
  unfold pp
  go_enter Tryz.func100, Tryz.ntmps100
  go_wp2_with fail
  have s337 := (Rs.start h).allocAt (w.heap.size) 25 #[.int .i64 0, .string ⟨#[]⟩, .int .i64 0, .int .i64 0, .slice none 0 0] (by simp)
  refine (rat_any s337.ps).mono ?_
  rintro e w338 ⟨rfl, hb339⟩
  have s340 := s337.below hb339
  go_wp2_with fail
  have s341 := s340.allocAt (w338.heap.size) 25 #[.int .i64 6, .string ⟨#[]⟩, .int .i64 0, .int .i64 (Ps.A l i), .slice none 0 0] (by simp)
  refine (rname_on s341.ps).mono ?_
  rintro e w343 ⟨nm342, q344, i345, rfl, h346, le347, hk348, ho349⟩
  replace HR := ho349 HR
  clear ho349
  have le347 := Lib.hid le347
  have s350 := s341.call hk348 h346
  have c351 := s350.n0.2.five
  have l352 := s350.n0.2.lt
  have c353 := s350.n1.2.five
  have l354 := s350.n1.2.lt
  have d355 := s350.d01
  go_wp2_with fail
  clear c351 l352 c353 l354 d355
  have s356 := s350.s01 (.string nm342)
  refine (ris_any s356.ps (⟨#[42]⟩) (fun _ => by decide)).mono ?_
  rintro e w357 ⟨⟨hq358, hw359, rfl, h360⟩ | ⟨hw359, rfl, h360⟩, hk361⟩
  · replace HR := ryes' (j := i345 + 1) hq358 (by rw [star_yes hw359]) HR
    have s362 := s356.call hk361 h360
    have c363 := s362.n0.2.five
    have l364 := s362.n0.2.lt
    have c365 := s362.n1.2.five
    have l366 := s362.n1.2.lt
    have d367 := s362.d01
    go_wp2_with fail
    clear c363 l364 c365 l366 d367
    have s368 := s362.s02 (.int .i64 1)
    refine (rneed_on s368.ps (⟨#[58]⟩) (fun _ => by decide)).mono ?_
    rintro e w369 ⟨q370, i371, rfl, h372, le373, hk374, ho375⟩
    replace HR := ho375 HR
    clear ho375
    have le373 := Lib.hid le373
    have s376 := s368.call hk374 h372
    have c377 := s376.n0.2.five
    have l378 := s376.n0.2.lt
    have c379 := s376.n1.2.five
    have l380 := s376.n1.2.lt
    have d381 := s376.d01
    go_wp2_with fail
    clear c377 l378 c379 l380 d381
    refine (rt_on s376.ps (rtypeName_any s376.ps)).mono ?_
    rintro e w390 ⟨k382, nm383, num384, a385, ts386, so387, sc388, q391, i392, rfl, hrow389, h393, le394, hk395, ho396⟩
    replace HR := ho396 HR
    clear ho396
    have le394 := Lib.hid le394
    have s397 := s376.callKeep hk395 h393 hrow389
    unfold nodeV
    have c398 := s397.n0.2.five
    have l399 := s397.n0.2.lt
    have c400 := s397.n1.2.five
    have l401 := s397.n1.2.lt
    have d402 := s397.d01
    go_wp2_with fail
    clear c398 l399 c400 l401 d402
    have s403 := s397.s04 (.slice (some ⟨w390.heap.size, 0, none⟩) 1 1)
    have s404 := s403.p1 (.int .i64 6) (.string nm342) (.int .i64 1) (.int .i64 (Ps.A l i)) (.slice (some ⟨w390.heap.size, 0, none⟩) 1 1)
    have s405 := s404.built1 (k0 := k382) (nm0 := nm383) (num0 := num384) (a0 := a385) (sv0 := .slice so387 ts386.length sc388) (ts0 := ts386) (by simp) (w390.heap.size) (by simp)
    exact bodyPost_ret (res5 Tryz.results100 rfl s405.n1.2) rfl ⟨rend s405.ps HR (s405.treeOf (sv := .slice (some ⟨w390.heap.size, 0, none⟩) 1 1) (by simp)) (by have := le347.out; have := le373.out; have := le394.out; omega), s405.kp⟩
  · replace HR := rif s356.ps hw359 (fun hw => by rw [star_no hw]) HR
    have s406 := s356.call hk361 h360
    have c407 := s406.n0.2.five
    have l408 := s406.n0.2.lt
    have c409 := s406.n1.2.five
    have l410 := s406.n1.2.lt
    have d411 := s406.d01
    go_wp2_with fail
    clear c407 l408 c409 l410 d411
    refine (rneed_on s406.ps (⟨#[58]⟩) (fun _ => by decide)).mono ?_
    rintro e w412 ⟨q413, i414, rfl, h415, le416, hk417, ho418⟩
    replace HR := ho418 HR
    clear ho418
    have le416 := Lib.hid le416
    have s419 := s406.call hk417 h415
    have c420 := s419.n0.2.five
    have l421 := s419.n0.2.lt
    have c422 := s419.n1.2.five
    have l423 := s419.n1.2.lt
    have d424 := s419.d01
    go_wp2_with fail
    clear c420 l421 c422 l423 d424
    refine (rt_on s419.ps (rtypeName_any s419.ps)).mono ?_
    rintro e w433 ⟨k425, nm426, num427, a428, ts429, so430, sc431, q434, i435, rfl, hrow432, h436, le437, hk438, ho439⟩
    replace HR := ho439 HR
    clear ho439
    have le437 := Lib.hid le437
    have s440 := s419.callKeep hk438 h436 hrow432
    unfold nodeV
    have c441 := s440.n0.2.five
    have l442 := s440.n0.2.lt
    have c443 := s440.n1.2.five
    have l444 := s440.n1.2.lt
    have d445 := s440.d01
    go_wp2_with fail
    clear c441 l442 c443 l444 d445
    have s446 := s440.s04 (.slice (some ⟨w433.heap.size, 0, none⟩) 1 1)
    have s447 := s446.p1 (.int .i64 6) (.string nm342) (.int .i64 0) (.int .i64 (Ps.A l i)) (.slice (some ⟨w433.heap.size, 0, none⟩) 1 1)
    have s448 := s447.built1 (k0 := k425) (nm0 := nm426) (num0 := num427) (a0 := a428) (sv0 := .slice so430 ts429.length sc431) (ts0 := ts429) (by simp) (w433.heap.size) (by simp)
    exact bodyPost_ret (res5 Tryz.results100 rfl s448.n1.2) rfl ⟨rend s448.ps HR (s448.treeOf (sv := .slice (some ⟨w433.heap.size, 0, none⟩) 1 1) (by simp)) (by have := le347.out; have := le416.out; have := le437.out; omega), s448.kp⟩
end Go.Proofs.YtneohanphabneaaGreatDoor

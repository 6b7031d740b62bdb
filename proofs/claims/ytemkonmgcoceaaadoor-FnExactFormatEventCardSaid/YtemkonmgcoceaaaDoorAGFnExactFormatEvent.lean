/- The statement that the law FnExactFormatEvent holds of all arguments that read as data,where the tables of the library hold what they hold: it answers true,and its arguments read as before;and its card. -/
import Derived.Test.YtemkonmgcoceaaaDoorAC3
import Derived.Test.YtemkonmgcoceaaaDoorACodeOk
import Derived.Test.YtemkonmgcoceaaaDoorALays
import Derived.Test.YtemkonmgcoceaaaDoorCards
import Derived.Test.YtemkonmgcoceaaaDoorTie
import Derived.Test.YtemkonmgcoceaaaDoorAbsArg2
import Derived.Deep.DeepHandedRow
import Derived.Lib.LaidTab
import Derived.Stop.LaidErr
namespace Go.Proofs.YtemkonmgcoceaaaDoor
open Go Go.Proofs Go.Abs Go.Abs.L Go.ChangeShapes Go.WideShapes Go.ChangeAt Go.RowKit
def AllOK:List (Nat×Go.Abs.Fn)→Prop
 | []=>True
 | (f,.text cf) :: r=>Qe f cf∧AllOK r
 | (f,.prim p) :: r=>Xm Tryd.prog f p∧AllOK r
theorem allOK_get:∀ {l:List (Nat×Go.Abs.Fn)} {f:Nat} {x:Go.Abs.Fn},AllOK l→lkp l f=some x→(∃ cf,x=.text cf∧Qe f cf)∨∃ p,x=.prim p∧Xm Tryd.prog f p
 | [],f,x,_,h=>by cases h
 | (g,.text cf) :: r,f,x,ha,h=>by
  simp only[lkp] at h
  split at h
  ·rename_i e
   cases h
   subst e
   exact .inl ⟨cf,rfl,ha.1⟩
  ·exact allOK_get ha.2 h
 | (g,.prim p) :: r,f,x,ha,h=>by
  simp only[lkp] at h
  split at h
  ·rename_i e
   cases h
   subst e
   exact .inr ⟨p,rfl,ha.1⟩
  ·exact allOK_get ha.2 h
theorem draws (C:Orc) (M:Zj) (nt:Nat) (hC:Z6 Tryd.prog C) (hB:Yb C):Ym Tryd.prog C M nt:=ZcJ (by kernel_rfl) hC hB
theorem itoaName:Tryd.laysM171_ren.f 171=66:=by kernel_rfl
set_option maxRecDepth 10000
theorem prim_strings_Builder_WriteString:Xm Tryd.prog Zx (ZmP TB 5):=Znv Tryd.lays166 Tryd.ext166 ⟨Tryd.f38,Tryd.func38,by kernel_rfl,by kernel_rfl⟩
theorem prim_strings_Builder_WriteByte:Xm Tryd.prog Zg (Zhu TB 5):=Zlo Tryd.lays167 Tryd.ext167 ⟨Tryd.f39,Tryd.func39,by kernel_rfl,by kernel_rfl⟩
theorem prim_strings_Builder_String:Xm Tryd.prog ZK (Zhv TB 5):=Zlq Tryd.lays169 Tryd.ext169 ⟨Tryd.f40,Tryd.func40,by kernel_rfl,by kernel_rfl⟩
theorem prim_strconv_Itoa:Xm Tryd.prog ZT (Zhx):=by
 have h:=Znw Tryd.laysM171 (by rw[itoaName];exact⟨Tryd.f66,Tryd.func66,by kernel_rfl,by kernel_rfl⟩) (by kernel_rfl)
 rw[itoaName] at h
 exact h
theorem prim_strings_Join:Xm Tryd.prog QX (Zhy):=Zls Tryd.lays156 Tryd.ext156 ⟨Tryd.f67,Tryd.func67,by kernel_rfl,by kernel_rfl⟩
theorem all_ok:AllOK tbl:=
 ⟨Vw,VN,Zdf,JN,Zdg,JO,Zdh,Zcc,ZaW,Zcd,ZaX,Zce,ZeP,W0,Zbb,Zf3,ZeQ,ZeR,ZaY,Zcf,JP,Zcg,Zf4,ZeS,ZeT,prim_strings_Builder_WriteString,prim_strings_Builder_WriteByte,prim_strings_Builder_String,Zdi,Zdj,Zch,Zbc,Zci,ZaZ,ZeU,Zcj,ZeV,Zdk,Zck,Za0,Zbd,prim_strconv_Itoa,prim_strings_Join,ZeW,Zdl,Zf5,Za1,trivial⟩
theorem table_ok:Jj Tryd.prog Xs Ms where
 text:=fun f cf h=>by
  rcases allOK_get all_ok h with ⟨cf',e,h'⟩ | ⟨p,e,_⟩
  ·cases e
   exact h'
  ·cases e
 prim:=fun f p h=>by
  rcases allOK_get all_ok h with ⟨cf',e,_⟩ | ⟨p',e,h'⟩
  ·cases e
  ·cases e
   exact h'
theorem sound:Z6 Tryd.prog (Zv Xs Ms):=Zdx (by kernel_rfl) table_ok
theorem own:ownKnob Tryd.prog.godebug=none:=by kernel_rfl
theorem laidOut:laidOutB Tryd.prog=true:=by kernel_rfl
theorem cells5:Tryd.prog.cellsOf 5=1:=by kernel_rfl
theorem gPow:Tryd.prog.globalNamed "internal/strconv.uint64pow10"=some 1:=by kernel_rfl
theorem gPowType:(Tryd.prog.globals[1]?).map (·.type)=some 150:=by kernel_rfl
theorem powTab {W:World} (h:laidMetH Tryd.prog Rows.fnExactFormatEventRow.laid W):ZaI (fun b=>b<W.heap.size) W:=by
 have h0:laidMet Tryd.prog Rows.fnExactFormatEventRow.laid W:=by
  first | exact h | exact h.1 | (rw[MakeChecks.laidMetH_plain _ _ _ (by kernel_rfl)] at h;exact h)
 have h1:=Lib.tabIs_of_head (k:=.u64) (zs:=Lib.pow10Tab) (n:=20) gPow gPowType Tryd.underlying150 Tryd.underlying137 (by kernel_rfl) (by kernel_rfl) (laidMet.tail (laidMet.tail h0))
 unfold Lib.TabIs World.var? at h1
 rw[gPow] at h1
 simp only[Option.bind_some] at h1
 intro q hq
 simp only[ZpP,List.mem_singleton] at hq
 subst hq
 split at h1
 ·rename_i cs e fr hc
  refine⟨(Array.getElem?_eq_some_iff.1 hc).1,e,fr,?_⟩
  rw[hc]
  simp only[Option.some.injEq] at h1
  rw[h1]
  simp[Zht,Lib.pow10Tab]
 ·cases h1
theorem reads_Event {P:Program} {i b:TypeId} (hi:P.underlying i=some (.int .i64)) (hb:P.underlying b=some .bool) {t x p l q s:TypeId} (hx:ZC P x [i,i,i,i]) (hp:ZC P p [i,i,b,i]) (hl:ZC P l [p,i])
  (hs:P.underlying s=some (.slice q)) (hq:ZC P q [i,i,i,b,s]) (h:ZC P t [i,i,x,l,q]):UD P t Zt.enc (fun e=>(I64 e.kind∧I64 e.label∧e.box.ok∧e.line.ok)∧e.plan.ok):=by
 intro n ds hd
 cases n with
 | zero=>exact hd.elim
 | succ n=>
  obtain⟨_,_,rfl,h1,_,_,rfl,h2,_,_,rfl,h3,_,_,rfl,h4,_,_,rfl,h5,rfl⟩:=XI h hd
  obtain⟨a1,g1,rfl,_⟩:=ZV hi n _ h1
  obtain⟨a2,g2,rfl,_⟩:=ZV hi n _ h2
  obtain⟨a3,g3,rfl,_⟩:=ZbM hi hx n _ h3
  obtain⟨a4,g4,rfl,_⟩:=Zam hi hb hp hl n _ h4
  obtain⟨a5,g5,rfl,_⟩:=Zgc hi hb hs hq n _ h5
  have e:(Ju a1).cells++((Ju a2).cells++((Box.enc a3).cells++((QF.enc a4).cells++(a5.enc.cells++[]))))=(Zt.enc ⟨a1,a2,a3,a4,a5⟩).cells:=by
   rw[List.append_nil];rfl
  refine⟨⟨a1,a2,a3,a4,a5⟩,⟨⟨g1,g2,g3,g4⟩,g5⟩,e,?_,?_⟩
  ·rw[Xd h,e];rfl
  ·rw[e];rfl
theorem hI:Tryd.prog.underlying 3=some (.int .i64):=Tryd.underlying3
theorem hB:Tryd.prog.underlying 4=some .bool:=Tryd.underlying4
theorem sT32:ZC Tryd.prog 32 [3,3,23,27,30]:=⟨_,Tryd.underlying32,by kernel_rfl⟩
theorem sT23:ZC Tryd.prog 23 [3,3,3,3]:=⟨_,Tryd.underlying23,by kernel_rfl⟩
theorem sT27:ZC Tryd.prog 27 [25,3]:=⟨_,Tryd.underlying27,by kernel_rfl⟩
theorem sT25:ZC Tryd.prog 25 [3,3,4,3]:=⟨_,Tryd.underlying25,by kernel_rfl⟩
theorem sT30:ZC Tryd.prog 30 [3,3,3,4,28]:=⟨_,Tryd.underlying30,by kernel_rfl⟩
theorem argT:Zf6 Tryd.prog [32,3,23,27,25,4,30,28]=true:=by kernel_rfl
theorem params_ok:∀ t∈[32],Tryd.prog.readableRec t=true∧t<Tryd.prog.types.size:=by
 intro t ht
 simp only[List.mem_cons,List.not_mem_nil,or_false] at ht
 subst ht
 exact⟨by kernel_rfl,of_decide_eq_true (by kernel_rfl)⟩
theorem law_ev (xs:List D) (h:ZcB Tryd.prog [32] xs):Zv Xs Ms Qg (xs.map .d) []=some (.d (.bool true),[]):=by
 obtain⟨n0,e0,y0,rfl,t0,h0⟩:=ZeY h
 obtain rfl:=Zf8 h0
 obtain⟨a0,o0,_,g0,_⟩:=(reads_Event hI hB sT23 sT25 sT27 Tryd.underlying28 sT30 sT32) n0 e0 t0
 rw[g0]
 exact JJ a0 o0.2
def cellsOf:DataW Unit→Array Value
 | .agg xs=>(xs.map one).flatten.toArray
 | _ => #[]
where
 one:DataW Unit→List Value
 | .lit (.int k z)=>[.int k z]
 | .agg xs=>xs.map two
 | _=>[]
 two:DataW Unit→Value
 | .lit (.int k z)=>.int k z
 | _=>.int .u8 0
def lay (c:Array Value):Obj→Obj
 | .cells _ t fr=>.cells c t fr
 | o=>o
noncomputable def laidWorld (os:Os):World:=
 { World.holding Tryd.prog os ⟨#[],#[],[]⟩ with heap:=(World.holding Tryd.prog os ⟨#[],#[],[]⟩).heap |>.modify 4 (lay (cellsOf (Rows.laid_math_bits_deBruijn32tab:DataW Unit))) |>.modify 5 (lay (cellsOf (Rows.laid_math_bits_deBruijn64tab:DataW Unit))) |>.modify 1 (lay (cellsOf (Rows.laid_internal_strconv_uint64pow10:DataW Unit))) }
theorem laid_met (os:Os):laidMet Tryd.prog Rows.fnExactFormatEventRow.laid ((laidWorld os).forCall (fun _ _=>0) ⟨#[],#[.agg #[.int .i64 0,.int .i64 0,.int .i64 0,.int .i64 0,.int .i64 0,.int .i64 0,.int .i64 0,.int .i64 0,.bool false,.int .i64 0,.int .i64 0,.int .i64 0,.int .i64 0,.int .i64 0,.bool false,.slice none 0 0]],[]⟩).memory:=
 laidMet_of_run' 8 (by kernel_rfl) (by kernel_rfl)
theorem reads (os:Os) {H:Type} (enc:TypeId×Value→H):∃ d places,DataW.whole enc Tryd.prog ((laidWorld os).forCall (fun _ _=>0) ⟨#[],#[.agg #[.int .i64 0,.int .i64 0,.int .i64 0,.int .i64 0,.int .i64 0,.int .i64 0,.int .i64 0,.int .i64 0,.bool false,.int .i64 0,.int .i64 0,.int .i64 0,.int .i64 0,.int .i64 0,.bool false,.slice none 0 0]],[]⟩).memory Tryd.f3.params.toList Rows.fnExactFormatEventSpec.vars false (#[.agg #[.int .i64 0,.int .i64 0,.int .i64 0,.int .i64 0,.int .i64 0,.int .i64 0,.int .i64 0,.int .i64 0,.bool false,.int .i64 0,.int .i64 0,.int .i64 0,.int .i64 0,.int .i64 0,.bool false,.slice none 0 0]]:Array Value).toList 8=some (d,[],places):=
 ⟨[.agg [.lit (.int .i64 0),.lit (.int .i64 0),.agg [.lit (.int .i64 0),.lit (.int .i64 0),.lit (.int .i64 0),.lit (.int .i64 0)],.agg [.agg [.lit (.int .i64 0),.lit (.int .i64 0),.lit (.bool false),.lit (.int .i64 0)],.lit (.int .i64 0)],.agg [.lit (.int .i64 0),.lit (.int .i64 0),.lit (.int .i64 0),.lit (.bool false),.nil]]],[],by kernel_rfl⟩
set_option maxRecDepth 100000 in
theorem lifted (os:Os) (started:os.Started) (H:Type) (enc:TypeId×Value→H) (F:Stop.Interp) :
  ReturnsInHanded {} Tryd.checked os 3 .any ((OpenSpec.ofChange Rows.fnExactFormatEventSpec).preRow enc Tryd.prog Tryd.f3 Rows.fnExactFormatEventRow.domain false Rows.fnExactFormatEventRow.laid) (((OpenSpec.ofChange Rows.fnExactFormatEventSpec).at F).post enc Tryd.prog Tryd.f3 false true false false):=by
 obtain⟨dd,places,hx⟩:=reads os enc
 refine returnsInHanded_of_row (C:=Tryd.checked) (s:=OpenSpec.ofChange Rows.fnExactFormatEventSpec) own started (by kernel_rfl) Tryd.func3
  (witness_row_at (enc:=enc) (C:=Tryd.checked) false (laidWorld os) #[.agg #[.int .i64 0,.int .i64 0,.int .i64 0,.int .i64 0,.int .i64 0,.int .i64 0,.int .i64 0,.int .i64 0,.bool false,.int .i64 0,.int .i64 0,.int .i64 0,.int .i64 0,.int .i64 0,.bool false,.slice none 0 0]] rfl (by kernel_rfl) (by kernel_rfl) (by kernel_rfl)
   (OpenSpec.preRow_of_cond 8 hx (by kernel_rfl) (fun k hk=>by cases hk) (by kernel_rfl) (laid_met os))) ?_
 intro W base args ds gs before hval0 hW _ _ _ hL _ _
 have hval:∀ (j:Nat) t v,Tryd.f3.params[j]?=some t→args[j]?=some v→Value.okWide Tryd.prog W .any base t v:=hval0
 have hW':=hW
 obtain⟨p,q,hA0,hV,rfl,_,_⟩:=hW
 have hA:DataW.TrodAll enc Tryd.prog W 0 (fun _=>true) true Tryd.f3.params.toList args.toList ds p:=hA0
 rw[Tryd.params3] at hA hval
 obtain⟨rfl,rfl⟩:=trodVars_none hV
 clear hA0 hval0
 simp only[List.append_nil] at hW'
 have hlt:∀ x∈p,x.block<W.heap.size:=fun x hx=>by simpa using hW'.lt x hx
 have hA2:DataW.TrodAll enc Tryd.prog W 0 (fun _=>true) true [32] args.toList ds p:=hA
 obtain⟨_,_,d0,ds0,_,_,_,rfl,_,_,hd0⟩:=trodAll_cons hA2
 obtain rfl:=(trodAll_nil hd0).2.1
 obtain⟨xs,hty,hrep⟩:=Zf9 argT (by decide) (fun j t v ht hv=>hval j t v (by simpa using ht) (by simpa using hv)) hA2
 refine(Zga sound (law_ev xs hty) (powTab hL) hrep).mono fun e W' ⟨he,hn⟩=>?_
 subst he
 exact⟨_,rfl,⟨_,_,_,[],_,[],hW',trodAll_mk1 (shut_bool Tryd.underlying4 _),Jp laidOut hn params_ok hlt hA2,rfl,hn.frame _,fun h=>by cases h⟩⟩
theorem said:Rows.FnExactFormatEventSaid:=
 OpenClaim.holds_of_cond 3 Tryd.f3 rfl rfl rfl rfl rfl rfl rfl ⟨rfl,rfl,rfl,rfl,rfl⟩ rfl rfl rfl rfl rfl (by kernel_rfl) Tryd.func3 (by kernel_rfl)
  (of_decide_eq_true (by kernel_rfl)) (by unfold Func.isWrapper;first | (rw[if_pos (by decide +kernel)];kernel_rfl) | (rw[if_neg (by decide +kernel)];exact⟨rfl,rfl⟩))
  (fun os started H enc _ F=>by rw[OpenClaim.pre_eq_preRow];exact lifted os started H enc F)
theorem plain (f:FuncId) (fn:Func) (hf:Tryd.pinned.checked.prog.funcNamed "loop.example/panecutter/laws.FnExactFormatEvent"=some f) (hfn:Tryd.pinned.checked.prog.funcs[f]?=some fn) :
  false=Tryd.pinned.checked.prog.looks []∧∀ (j:Nat) t,fn.params[j]?=some t→Tryd.pinned.checked.prog.wantsStandIn t=false:=by
 obtain rfl:f=3:=Option.some.inj ((show Tryd.prog.funcNamed "loop.example/panecutter/laws.FnExactFormatEvent"=some 3 by kernel_rfl).symm.trans hf) |>.symm
 obtain rfl:fn=Tryd.f3:=(Option.some.inj (Tryd.func3.symm.trans hfn)).symm
 refine⟨by kernel_rfl,fun j t ht=>?_⟩
 rw[Tryd.params3] at ht
 obtain rfl:t=32:=by simpa using Array.mem_of_getElem? ht
 exact(show Tryd.prog.wantsStandIn 32=false by kernel_rfl)
theorem fnExactFormatEvent_holds:Rows.FnExactFormatEventCardSaid:=
 Claim7.holds_tied_plain_at .later [] _ _ _ _ said (fun _ h=>by cases h) (by kernel_rfl) (fun _ h=>by cases h) fnExactFormatEvent_row_tie rfl ⟨rfl,rfl⟩ (by kernel_rfl) rfl plain (by kernel_rfl)
#print axioms fnExactFormatEvent_holds
end Go.Proofs.YtemkonmgcoceaaaDoor

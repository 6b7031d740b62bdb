/- The statement that the law FnExactRunDesk holds of all arguments that read as data,where the tables of the library hold what they hold: it answers true,and its arguments read as before;and its card. -/
import Derived.Test.YtfnegoimdljanaaGreatDoorAC24
import Derived.Test.YtfnegoimdljanaaGreatDoorACodeOk
import Derived.Test.YtfnegoimdljanaaGreatDoorALays
import Derived.Test.YtfnegoimdljanaaGreatDoorCards
import Derived.Test.YtfnegoimdljanaaGreatDoorTie
import Derived.Test.YtfnegoimdljanaaGreatDoorAbsArg2
import Derived.Deep.DeepHandedRow
import Derived.Lib.LaidTab
import Derived.Stop.LaidErr
namespace Go.Proofs.YtfnegoimdljanaaGreatDoor
open Go Go.Proofs Go.Abs Go.Abs.L Go.ChangeShapes Go.WideShapes Go.ChangeAt Go.RowKit
def ZCS:List (Nat×Go.Abs.Fn)→Prop
 | []=>True
 | (f,.text cf) :: r=>Zj f cf∧ZCS r
 | (f,.prim p) :: r=>Vq Tryz.prog f p∧ZCS r
theorem ZjY:∀ {l:List (Nat×Go.Abs.Fn)} {f:Nat} {x:Go.Abs.Fn},ZCS l→lkp l f=some x→(∃ cf,x=.text cf∧Zj f cf)∨∃ p,x=.prim p∧Vq Tryz.prog f p
 | [],f,x,_,h=>by cases h
 | (g,.text cf) :: r,f,x,ha,h=>by
  simp only[lkp] at h;split at h
  ·rename_i e;cases h;subst e;exact .inl ⟨cf,rfl,ha.1⟩
  ·exact ZjY ha.2 h
 | (g,.prim p) :: r,f,x,ha,h=>by
  simp only[lkp] at h;split at h
  ·rename_i e;cases h;subst e;exact .inr ⟨p,rfl,ha.1⟩
  ·exact ZjY ha.2 h
theorem draws (C:Orc) (M:Zs) (nt:Nat) (hC:QG Tryz.prog C):Uq Tryz.prog C M nt:=Ztf (by kernel_rfl) hC
theorem ZzP:Tryz.laysM171_ren.f 171=63:=by kernel_rfl
set_option maxRecDepth 10000
theorem Zad:Vq Tryz.prog 28 (ZEV 66 5):=ZHB Tryz.lays166 Tryz.ext166 ⟨Tryz.f28,Tryz.func28,by kernel_rfl,by kernel_rfl⟩
theorem ZaR:Vq Tryz.prog 30 (Zw7 66 5):=ZGs Tryz.lays167 Tryz.ext167 ⟨Tryz.f30,Tryz.func30,by kernel_rfl,by kernel_rfl⟩
theorem Zdo:Vq Tryz.prog 31 (Zw8 66 5):=ZGt Tryz.lays169 Tryz.ext169 ⟨Tryz.f31,Tryz.func31,by kernel_rfl,by kernel_rfl⟩
theorem Zmy:Vq Tryz.prog 63 (Zxa):=by
 have h:=ZHC Tryz.laysM171 (by rw[ZzP];exact⟨Tryz.f63,Tryz.func63,by kernel_rfl,by kernel_rfl⟩) (by kernel_rfl);rw[ZzP] at h;exact h
theorem Zmz:Vq Tryz.prog 89 (Zxb):=ZGu Tryz.lays156 Tryz.ext156 ⟨Tryz.f89,Tryz.func89,by kernel_rfl,by kernel_rfl⟩
theorem ZaA:Vq Tryz.prog 118 (ZEW):=ZHD Tryz.lays219 ⟨Tryz.f118,Tryz.func118,by kernel_rfl,by kernel_rfl⟩
theorem Zlt:Vq Tryz.prog 173 (ZEX):=ZHE Tryz.lays138 ⟨Tryz.f173,Tryz.func173,by kernel_rfl,by kernel_rfl⟩
theorem Zkx:Vq Tryz.prog 201 (Zog 5 40):=ZFF Zmx draws
theorem ZiZ:Vq Tryz.prog 206 (Zj1 5 40 Wo):=ZD3 Zlk draws
theorem all_ok:ZCS tbl:=
 ⟨Zkt,Zr5,ZxC,Zr6,ZxD,Zr7,ZxE,ZnY,ZxF,ZnZ,Zp9,ZxG,Zn0,ZzC,Zad,ZzD,ZaR,Zdo,Zr8,Zqa,Zr9,Zsa,Zsb,ZzE,Zqb,ZuH,Zn1,ZuI,ZuJ,Zsc,ZxH,ZuK,ZxI,Zqc,Zqd,ZxJ,Zqe,ZzF,ZxK,Zsd,Zmy,ZxL,Zdl,ZuL,ZxM,Zn2,Zn3,Zmv,Zqf,Zqg,Zse,Zsf,Zsg,Zsh,Zil,Zn4,ZxN,Zqh,Zmw,ZuM,Zqi,Zsi,Zmz,Zsj,Zqj,Zqk,ZuN,ZxO,Zsk,Zsl,Zql,ZxP,Zqm,Zsm,ZuO,ZuP,ZxQ,Zqn,ZuQ,Zqo,Zqp,Zsn,Zku,Zqq,ZuR,ZuS,ZaA,Zqr,Zso,Zkv,Zqs,ZuT,Zsp,Zn5,Zqt,ZxR,Zqu,Zsq,Zqv,Zsr,Zss,Zst,Zsu,ZxS,ZBw,ZDT,Zsv,ZuU,ZuV,Zsw,ZzG,ZuW,ZxT,ZuX,ZzH,ZuY,ZxU,Zqw,ZxV,ZuZ,Zu0,ZzI,Zu1,Zu2,Zsx,Zu3,Zqx,Zsy,Zsz,Zu4,ZsA,Zu5,Zlt,Zn6,Zu6,Zu7,Zu8,Zha,Zqy,ZzJ,ZsB,ZsC,Zqz,ZsD,ZsE,Zu9,Zva,ZzK,ZxW,Zvb,Zvc,Zvd,ZBx,ZsF,Zve,ZsG,Zvf,Zkx,Zvg,Zn7,ZxX,ZsH,ZiZ,Zvh,Zll,ZqA,ZiM,ZqB,Zvi,Zvj,ZzL,ZsI,Zvk,ZzM,ZqC,ZzN,Zvl,Zvm,Zlm,Zkw,Zln,Jv,ZzO,Zvn,ZqD,ZBy,Jw,trivial⟩
theorem table_ok:Zj6 Tryz.prog Xs Ms where
 text:=fun f cf h=>by
  rcases ZjY all_ok h with ⟨aa,e,h'⟩ | ⟨p,e,_⟩
  ·cases e;exact h'
  ·cases e
 prim:=fun f p h=>by
  rcases ZjY all_ok h with ⟨aa,e,_⟩ | ⟨p',e,h'⟩
  ·cases e
  ·cases e;exact h'
theorem sound:QG Tryz.prog (Zd Xs Ms):=Zyg (by kernel_rfl) table_ok
theorem own:ownKnob Tryz.prog.godebug=none:=by kernel_rfl
theorem ZGR:laidOutB Tryz.prog=true:=by kernel_rfl
theorem cells5:Tryz.prog.cellsOf 5=1:=by kernel_rfl
theorem gPow:Tryz.prog.globalNamed "internal/strconv.uint64pow10"=some 1:=by kernel_rfl
theorem ZFp:(Tryz.prog.globals[1]?).map (·.type)=some 250:=by kernel_rfl
theorem powTab {W:World} (h:laidMetH Tryz.prog Rows.fnExactRunDeskRow.laid W):Zjd (fun b=>b<W.heap.size) W:=by
 have h0:laidMet Tryz.prog Rows.fnExactRunDeskRow.laid W:=by
  first | exact h | exact h.1 | (rw[MakeChecks.laidMetH_plain _ _ _ (by kernel_rfl)] at h;exact h)
 have h1:=Lib.tabIs_of_head (k:=.u64) (zs:=Lib.pow10Tab) (n:=20) gPow ZFp Tryz.underlying250 Tryz.underlying223 (by kernel_rfl) (by kernel_rfl) (laidMet.tail (laidMet.tail h0));unfold Lib.TabIs World.var? at h1;rw[gPow] at h1;simp only[KT] at h1;intro q hq;simp only[gtabs,KE] at hq;subst hq;split at h1
 ·rename_i cs e fr hc;refine⟨(KR.1 hc).1,e,fr,?_⟩;rw[hc];simp only[Option.some.injEq] at h1;rw[h1];simp[ZyJ,Lib.pow10Tab]
 ·cases h1
theorem hI:Tryz.prog.underlying 3=some (.int .i64):=Tryz.underlying3
theorem hB:Tryz.prog.underlying 4=some .bool:=Tryz.underlying4
theorem argT:ZxY Tryz.prog [9,22]=true:=by kernel_rfl
theorem ZDU:∀ t∈[9,22],Tryz.prog.readableRec t=true∧t<Tryz.prog.types.size:=by
 intro t ht;simp only[Ke,KL,or_false] at ht;rcases ht with rfl | rfl
 ·exact⟨by kernel_rfl,of_decide_eq_true (by kernel_rfl)⟩
 ·exact⟨by kernel_rfl,of_decide_eq_true (by kernel_rfl)⟩
theorem law_ev (xs:List D) (h:Zob Tryz.prog [9,22] xs):Zd Xs Ms 3 (xs.map .d) []=some (.d (.bool true),[]):=by
 obtain⟨n0,e0,y0,rfl,t0,h0⟩:=Zo1 h;obtain⟨n1,e1,y1,rfl,t1,h1⟩:=Zo1 h0;obtain rfl:=ZBz h1;obtain⟨a0,o0,_,g0,_⟩:=(Zwa Tryz.underlying9) n0 e0 t0;rw[g0];obtain⟨a1,o1,_,g1,_⟩:=(Zgu Tryz.underlying22 (Zwa Tryz.underlying9)) n1 e1 t1;rw[g1];exact Zks a0 o0 a1 o1.1 o1.2
def cellsOf:DataW Unit→Array Value
 | .agg xs=>(xs.map one).flatten.toArray
 | _ => #[]
where
 one:DataW Unit→List Value
 | .lit (.int k z)=>[.int k z]
 | .agg xs=>xs.map two
 | _=>[]
 two:DataW Unit→Value
 | .lit (.int k z)=>.int k z
 | _=>.int .u8 0
def lay (c:Array Value):Obj→Obj
 | .cells _ t fr=>.cells c t fr
 | o=>o
noncomputable def Zoa (os:Os):World:=
 { World.holding Tryz.prog os ⟨#[],#[],[]⟩ with heap:=(World.holding Tryz.prog os ⟨#[],#[],[]⟩).heap |>.modify 4 (lay (cellsOf (Rows.laid_math_bits_deBruijn32tab:DataW Unit))) |>.modify 5 (lay (cellsOf (Rows.laid_math_bits_deBruijn64tab:DataW Unit))) |>.modify 1 (lay (cellsOf (Rows.laid_internal_strconv_uint64pow10:DataW Unit))) |>.modify 3 (lay (cellsOf (Rows.laid_unicode_utf8_acceptRanges:DataW Unit))) |>.modify 2 (lay (cellsOf (Rows.laid_unicode_utf8_first:DataW Unit))) }
theorem ZFq (os:Os):laidMet Tryz.prog Rows.fnExactRunDeskRow.laid ((Zoa os).forCall (fun _ _=>0) ⟨#[],#[.string ⟨#[]⟩,.slice none 0 0],[]⟩).memory:=
 laidMet_of_run' 8 (by kernel_rfl) (by kernel_rfl)
theorem reads (os:Os) {H:Type} (enc:TypeId×Value→H):∃ d places,DataW.whole enc Tryz.prog ((Zoa os).forCall (fun _ _=>0) ⟨#[],#[.string ⟨#[]⟩,.slice none 0 0],[]⟩).memory Tryz.f3.params.toList Rows.fnExactRunDeskSpec.vars false (#[.string ⟨#[]⟩,.slice none 0 0]:Array Value).toList 8=some (d,[],places):=
 ⟨[.lit (.string []),.nil],[],by kernel_rfl⟩
set_option maxRecDepth 100000 in
theorem lifted (os:Os) (aa:os.Started) (H:Type) (enc:TypeId×Value→H) (F:Stop.Interp) :
  ReturnsInHanded {} Tryz.checked os 3 .any ((OpenSpec.ofChange Rows.fnExactRunDeskSpec).preRow enc Tryz.prog Tryz.f3 Rows.fnExactRunDeskRow.domain false Rows.fnExactRunDeskRow.laid) (((OpenSpec.ofChange Rows.fnExactRunDeskSpec).at F).post enc Tryz.prog Tryz.f3 false true false false):=by
 obtain⟨dd,places,hx⟩:=reads os enc;refine returnsInHanded_of_row (C:=Tryz.checked) (s:=OpenSpec.ofChange Rows.fnExactRunDeskSpec) own aa (by kernel_rfl) Tryz.func3
  (witness_row_at (enc:=enc) (C:=Tryz.checked) false (Zoa os) #[.string ⟨#[]⟩,.slice none 0 0] rfl (by kernel_rfl) (by kernel_rfl) (by kernel_rfl)
   (OpenSpec.preRow_of_cond 8 hx (by kernel_rfl) (fun k hk=>by cases hk) (by kernel_rfl) (ZFq os))) ?_
 intro W base args ds gs ae ab hW _ _ _ hL _ _;have ad:∀ (j:Nat) t v,Tryz.f3.params[j]?=some t→args[j]?=some v→Value.okWide Tryz.prog W .any base t v:=ab;have af:=hW;obtain⟨p,q,ai,hV,rfl,_,_⟩:=hW;have hA:DataW.TrodAll enc Tryz.prog W 0 (fun _=>true) true Tryz.f3.params.toList args.toList ds p:=ai;rw[Tryz.params3] at hA ad;obtain⟨rfl,rfl⟩:=trodVars_none hV;clear ai ab;simp only[KF] at af;have aj:∀ x∈p,x.block<W.heap.size:=fun x hx=>by simpa using af.lt x hx
 have ag:DataW.TrodAll enc Tryz.prog W 0 (fun _=>true) true [9,22] args.toList ds p:=hA;obtain⟨_,_,d0,an,_,_,_,rfl,_,_,ak⟩:=trodAll_cons ag;obtain⟨_,_,d1,ao,_,_,_,rfl,_,_,al⟩:=trodAll_cons ak;obtain rfl:=(trodAll_nil al).2.1;obtain⟨xs,am,ah⟩:=ZzQ argT (by decide) (fun j t v ht hv=>ad j t v (by simpa using ht) (by simpa using hv)) ag;refine(ZBA sound (law_ev xs am) (powTab hL) ah).mono fun e W' ⟨he,hn⟩=>?_;subst he;exact⟨_,rfl,⟨_,_,_,[],_,[],af,trodAll_mk1 (shut_bool Tryz.underlying4 _),ZkN ZGR hn ZDU aj ag,rfl,hn.frame _,fun h=>by cases h⟩⟩
theorem said:Rows.FnExactRunDeskSaid:=
 OpenClaim.holds_of_cond 3 Tryz.f3 rfl rfl rfl rfl rfl rfl rfl ⟨rfl,rfl,rfl,rfl,rfl⟩ rfl rfl rfl rfl rfl (by kernel_rfl) Tryz.func3 (by kernel_rfl)
  (of_decide_eq_true (by kernel_rfl)) (by unfold Func.isWrapper;first | (rw[Kg (by decide +kernel)];kernel_rfl) | (rw[Kd (by decide +kernel)];exact⟨rfl,rfl⟩))
  (fun os aa H enc _ F=>by rw[OpenClaim.pre_eq_preRow];exact lifted os aa H enc F)
theorem plain (f:FuncId) (fn:Func) (hf:Tryz.pinned.checked.prog.funcNamed "loop.example/panecutter/laws.FnExactRunDesk"=some f) (aa:Tryz.pinned.checked.prog.funcs[f]?=some fn) :
  false=Tryz.pinned.checked.prog.looks []∧∀ (j:Nat) t,fn.params[j]?=some t→Tryz.pinned.checked.prog.wantsStandIn t=false:=by
 obtain rfl:f=3:=Option.some.inj ((show Tryz.prog.funcNamed "loop.example/panecutter/laws.FnExactRunDesk"=some 3 by kernel_rfl).symm.trans hf) |>.symm;obtain rfl:fn=Tryz.f3:=(Option.some.inj (Tryz.func3.symm.trans aa)).symm;refine⟨by kernel_rfl,fun j t ht=>?_⟩;rw[Tryz.params3] at ht;have hm:=Array.mem_of_getElem? ht;simp only[List.mem_toArray,Ke,KL,or_false] at hm;rcases hm with rfl | rfl
 ·exact(show Tryz.prog.wantsStandIn 9=false by kernel_rfl)
 ·exact(show Tryz.prog.wantsStandIn 22=false by kernel_rfl)
theorem fnExactRunDesk_holds:Rows.FnExactRunDeskCardSaid:=
 Claim7.holds_tied_plain_at .later [] _ _ _ _ said (fun _ h=>by cases h) (by kernel_rfl) (fun _ h=>by cases h) fnExactRunDesk_row_tie rfl ⟨rfl,rfl⟩ (by kernel_rfl) rfl plain (by kernel_rfl)
#print axioms fnExactRunDesk_holds
end Go.Proofs.YtfnegoimdljanaaGreatDoor

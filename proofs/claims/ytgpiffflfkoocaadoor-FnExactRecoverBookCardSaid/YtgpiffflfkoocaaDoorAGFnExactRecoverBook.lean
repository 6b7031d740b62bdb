/- The statement that the law FnExactRecoverBook holds of all arguments that read as data,where the tables of the library hold what they hold: it answers true,and its arguments read as before;and its card. -/
import Derived.Test.YtgpiffflfkoocaaDoorAC12
import Derived.Test.YtgpiffflfkoocaaDoorACodeOk
import Derived.Test.YtgpiffflfkoocaaDoorALays
import Derived.Test.YtgpiffflfkoocaaDoorCards
import Derived.Test.YtgpiffflfkoocaaDoorTie
import Derived.Test.YtgpiffflfkoocaaDoorAbsArg2
import Derived.Deep.DeepHandedRow
import Derived.Lib.LaidTab
import Derived.Stop.LaidErr
namespace Go.Proofs.YtgpiffflfkoocaaDoor
open Go Go.Proofs Go.Abs Go.Abs.L Go.ChangeShapes Go.WideShapes Go.ChangeAt Go.RowKit
def Zo0:List (Nat×Go.Abs.Fn)→Prop
 | []=>True
 | (f,.text cf) :: r=>ZQ f cf∧Zo0 r
 | (f,.prim p) :: r=>Uf Tryd.prog f p∧Zo0 r
theorem Zco:∀ {l:List (Nat×Go.Abs.Fn)} {f:Nat} {x:Go.Abs.Fn},Zo0 l→lkp l f=some x→(∃ cf,x=.text cf∧ZQ f cf)∨∃ p,x=.prim p∧Uf Tryd.prog f p
 | [],f,x,_,h=>by cases h
 | (g,.text cf) :: r,f,x,ha,h=>by
  simp only[lkp] at h;split at h
  ·rename_i e;cases h;subst e;exact .inl ⟨cf,rfl,ha.1⟩
  ·exact Zco ha.2 h
 | (g,.prim p) :: r,f,x,ha,h=>by
  simp only[lkp] at h;split at h
  ·rename_i e;cases h;subst e;exact .inr ⟨p,rfl,ha.1⟩
  ·exact Zco ha.2 h
theorem draws (C:Orc) (M:Zh) (nt:Nat) (hC:Qf Tryd.prog C):Vh Tryd.prog C M nt:=Zif (by kernel_rfl) hC
theorem Wt:Uf Tryd.prog ZD (ZqV):=Ztq Tryd.lays219 ⟨Tryd.f29,Tryd.func29,by kernel_rfl,by kernel_rfl⟩
theorem Zdp:Uf Tryd.prog XJ (ZqW):=Ztr Tryd.lays138 ⟨Tryd.f54,Tryd.func54,by kernel_rfl,by kernel_rfl⟩
theorem all_ok:Zo0 tbl:=
 ⟨Zaf,Ze9,Zfa,Zjq,ZgL,ZgM,Zfb,Zhx,ZgN,Zk6,Zhy,Zhz,Zk7,ZgO,Uu,Zjr,Zk8,Zfc,Zfd,Zd5,ZnK,Zml,Zmm,ZhA,ZcO,ZhB,Wt,ZgP,ZhC,ZcP,Zmn,Zk9,ZgQ,Zjs,ZgR,ZhD,ZhE,Zla,Zjt,ZhF,Zju,Zmo,Zjv,Zjw,Zjx,ZgS,Zdp,Zfe,Zdm,ZnL,ZgT,ZbD,ZgU,Zdn,ZcQ,Zdo,V8,V9,trivial⟩
theorem table_ok:ZcG Tryd.prog Xs Ms where
 text:=fun f cf h=>by
  rcases Zco all_ok h with ⟨aa,e,h'⟩ | ⟨p,e,_⟩
  ·cases e;exact h'
  ·cases e
 prim:=fun f p h=>by
  rcases Zco all_ok h with ⟨aa,e,_⟩ | ⟨p',e,h'⟩
  ·cases e
  ·cases e;exact h'
theorem sound:Qf Tryd.prog (Zj Xs Ms):=Zlq (by kernel_rfl) table_ok
theorem own:ownKnob Tryd.prog.godebug=none:=by kernel_rfl
theorem ZsD:laidOutB Tryd.prog=true:=by kernel_rfl
theorem cells5:Tryd.prog.cellsOf 5=1:=by kernel_rfl
theorem powTab {W:World} (_:laidMetH Tryd.prog Rows.fnExactRecoverBookRow.laid W):Zb1 (fun b=>b<W.heap.size) W:=fun q hq=>by cases hq
theorem hI:Tryd.prog.underlying 3=some (.int .i64):=Tryd.underlying3
theorem hB:Tryd.prog.underlying 4=some .bool:=Tryd.underlying4
theorem argT:Zlb Tryd.prog [9]=true:=by kernel_rfl
theorem ZpT:∀ t∈[9],Tryd.prog.readableRec t=true∧t<Tryd.prog.types.size:=by
 intro t ht;simp only[Ke,KI,or_false] at ht;subst ht;exact⟨by kernel_rfl,of_decide_eq_true (by kernel_rfl)⟩
theorem law_ev (xs:List D) (h:Zfg Tryd.prog [9] xs):Zj Xs Ms QJ (xs.map .d) []=some (.d (.bool true),[]):=by
 obtain⟨n0,e0,y0,rfl,t0,h0⟩:=Zmp h;obtain rfl:=ZnM h0;obtain⟨a0,o0,_,g0,_⟩:=(ZpU Tryd.underlying9) n0 e0 t0;rw[g0];exact J2 a0 o0
def cellsOf:DataW Unit→Array Value
 | .agg xs=>(xs.map one).flatten.toArray
 | _ => #[]
where
 one:DataW Unit→List Value
 | .lit (.int k z)=>[.int k z]
 | .agg xs=>xs.map two
 | _=>[]
 two:DataW Unit→Value
 | .lit (.int k z)=>.int k z
 | _=>.int .u8 0
def lay (c:Array Value):Obj→Obj
 | .cells _ t fr=>.cells c t fr
 | o=>o
noncomputable def Zff (os:Os):World:=
 { World.holding Tryd.prog os ⟨#[],#[],[]⟩ with heap:=(World.holding Tryd.prog os ⟨#[],#[],[]⟩).heap |>.modify 2 (lay (cellsOf (Rows.laid_unicode_utf8_acceptRanges:DataW Unit))) |>.modify 1 (lay (cellsOf (Rows.laid_unicode_utf8_first:DataW Unit))) }
theorem Zrs (os:Os):laidMet Tryd.prog Rows.fnExactRecoverBookRow.laid ((Zff os).forCall (fun _ _=>0) ⟨#[],#[.string ⟨#[]⟩],[]⟩).memory:=
 laidMet_of_run' 8 (by kernel_rfl) (by kernel_rfl)
theorem reads (os:Os) {H:Type} (enc:TypeId×Value→H):∃ d places,DataW.whole enc Tryd.prog ((Zff os).forCall (fun _ _=>0) ⟨#[],#[.string ⟨#[]⟩],[]⟩).memory Tryd.f3.params.toList Rows.fnExactRecoverBookSpec.vars false (#[.string ⟨#[]⟩]:Array Value).toList 8=some (d,[],places):=
 ⟨[.lit (.string [])],[],by kernel_rfl⟩
set_option maxRecDepth 100000 in
theorem lifted (os:Os) (aa:os.Started) (H:Type) (enc:TypeId×Value→H) (F:Stop.Interp) :
  ReturnsInHanded {} Tryd.checked os 3 .any ((OpenSpec.ofChange Rows.fnExactRecoverBookSpec).preRow enc Tryd.prog Tryd.f3 Rows.fnExactRecoverBookRow.domain false Rows.fnExactRecoverBookRow.laid) (((OpenSpec.ofChange Rows.fnExactRecoverBookSpec).at F).post enc Tryd.prog Tryd.f3 false true false false):=by
 obtain⟨dd,ae,hx⟩:=reads os enc;refine returnsInHanded_of_row (C:=Tryd.checked) (s:=OpenSpec.ofChange Rows.fnExactRecoverBookSpec) own aa (by kernel_rfl) Tryd.func3
  (witness_row_at (enc:=enc) (C:=Tryd.checked) false (Zff os) #[.string ⟨#[]⟩] rfl (by kernel_rfl) (by kernel_rfl) (by kernel_rfl)
   (OpenSpec.preRow_of_cond 8 hx (by kernel_rfl) (fun k hk=>by cases hk) (by kernel_rfl) (Zrs os))) ?_
 intro W base args ds gs af ab hW _ _ _ hL _ _;have ad:∀ (j:Nat) t v,Tryd.f3.params[j]?=some t→args[j]?=some v→Value.okWide Tryd.prog W .any base t v:=ab;have ag:=hW;obtain⟨p,q,aj,hV,rfl,_,_⟩:=hW;have hA:DataW.TrodAll enc Tryd.prog W 0 (fun _=>true) true Tryd.f3.params.toList args.toList ds p:=aj;rw[Tryd.params3] at hA ad;obtain⟨rfl,rfl⟩:=trodVars_none hV;clear aj ab;simp only[KU] at ag;have ak:∀ x∈p,x.block<W.heap.size:=fun x hx=>by simpa using ag.lt x hx
 have ah:DataW.TrodAll enc Tryd.prog W 0 (fun _=>true) true [9] args.toList ds p:=hA;obtain⟨_,_,d0,an,_,_,_,rfl,_,_,al⟩:=trodAll_cons ah;obtain rfl:=(trodAll_nil al).2.1;obtain⟨xs,am,ai⟩:=Zmq argT (by decide) (fun j t v ht hv=>ad j t v (by simpa using ht) (by simpa using hv)) ah;refine(ZnN sound (law_ev xs am) (powTab hL) ai).mono fun e W' ⟨he,hn⟩=>?_;subst he;exact⟨_,rfl,⟨_,_,_,[],_,[],ag,trodAll_mk1 (shut_bool Tryd.underlying4 _),ZcU ZsD hn ZpT ak ah,rfl,hn.frame _,fun h=>by cases h⟩⟩
theorem said:Rows.FnExactRecoverBookSaid:=
 OpenClaim.holds_of_cond 3 Tryd.f3 rfl rfl rfl rfl rfl rfl rfl ⟨rfl,rfl,rfl,rfl,rfl⟩ rfl rfl rfl rfl rfl (by kernel_rfl) Tryd.func3 (by kernel_rfl)
  (of_decide_eq_true (by kernel_rfl)) (by unfold Func.isWrapper;first | (rw[Ko (by decide +kernel)];kernel_rfl) | (rw[Kf (by decide +kernel)];exact⟨rfl,rfl⟩))
  (fun os aa H enc _ F=>by rw[OpenClaim.pre_eq_preRow];exact lifted os aa H enc F)
theorem plain (f:FuncId) (fn:Func) (hf:Tryd.pinned.checked.prog.funcNamed "loop.example/panecutter/laws.FnExactRecoverBook"=some f) (aa:Tryd.pinned.checked.prog.funcs[f]?=some fn) :
  false=Tryd.pinned.checked.prog.looks []∧∀ (j:Nat) t,fn.params[j]?=some t→Tryd.pinned.checked.prog.wantsStandIn t=false:=by
 obtain rfl:f=3:=Option.some.inj ((show Tryd.prog.funcNamed "loop.example/panecutter/laws.FnExactRecoverBook"=some 3 by kernel_rfl).symm.trans hf) |>.symm;obtain rfl:fn=Tryd.f3:=(Option.some.inj (Tryd.func3.symm.trans aa)).symm;refine⟨by kernel_rfl,fun j t ht=>?_⟩;rw[Tryd.params3] at ht;obtain rfl:t=9:=by simpa using Array.mem_of_getElem? ht
 exact(show Tryd.prog.wantsStandIn 9=false by kernel_rfl)
theorem fnExactRecoverBook_holds:Rows.FnExactRecoverBookCardSaid:=
 Claim7.holds_tied_plain_at .later [] _ _ _ _ said (fun _ h=>by cases h) (by kernel_rfl) (fun _ h=>by cases h) fnExactRecoverBook_row_tie rfl ⟨rfl,rfl⟩ (by kernel_rfl) rfl plain (by kernel_rfl)
#print axioms fnExactRecoverBook_holds
end Go.Proofs.YtgpiffflfkoocaaDoor

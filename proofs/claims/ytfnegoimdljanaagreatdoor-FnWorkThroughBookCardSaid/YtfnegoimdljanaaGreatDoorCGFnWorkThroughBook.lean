/- The statement that the law FnWorkThroughBook holds of every row of bytes,where the tables of the library hold what they hold: it answers true,and its argument reads as before;and its card. -/
import Derived.Test.YtfnegoimdljanaaGreatDoorCC23
import Derived.Test.YtfnegoimdljanaaGreatDoorCCodeOk
import Derived.Test.YtfnegoimdljanaaGreatDoorCLays
import Derived.Test.YtfnegoimdljanaaGreatDoorCards
import Derived.Test.YtfnegoimdljanaaGreatDoorTie
import Derived.Test.YtfnegoimdljanaaGreatDoorAbsLaw
import Derived.Deep.DeepHandedRow
import Derived.Lib.LaidTab
import Derived.Stop.LaidErr
set_option linter.unusedSimpArgs false
set_option linter.unusedVariables false
namespace Go.Proofs.YtfnegoimdljanaaGreatDoor
open Go Go.Proofs Go.Abs Go.Abs.L Go.ChangeShapes Go.WideShapes Go.ChangeAt Go.RowKit
def Zzc:List (Nat×Go.Abs.Fn)→Prop
 | []=>True
 | (f,.text cf) :: r=>ZB3 f cf∧Zzc r
 | (f,.prim p) :: r=>YK Tryz.prog f p∧Zzc r
theorem ZiD:∀ {l:List (Nat×Go.Abs.Fn)} {f:Nat} {x:Go.Abs.Fn},Zzc l→lkp l f=some x→(∃ cf,x=.text cf∧ZB3 f cf)∨∃ p,x=.prim p∧YK Tryz.prog f p
 | [],f,x,_,h=>by cases h
 | (g,.text cf) :: r,f,x,ha,h=>by
  simp only[lkp] at h;split at h
  ·rename_i e;cases h;subst e;exact .inl ⟨cf,rfl,ha.1⟩
  ·exact ZiD ha.2 h
 | (g,.prim p) :: r,f,x,ha,h=>by
  simp only[lkp] at h;split at h
  ·rename_i e;cases h;subst e;exact .inr ⟨p,rfl,ha.1⟩
  ·exact ZiD ha.2 h
theorem draws (C:Orc) (M:Zq) (nt:Nat) (hC:QJ Tryz.prog C):Wm Tryz.prog C M nt:=Zpy (by kernel_rfl) hC
theorem ZwP:Tryz.laysM171_ren.f 171=63:=by kernel_rfl
set_option maxRecDepth 10000
theorem Jt:YK Tryz.prog 28 (ZAe 66 5):=ZCW Tryz.lays166 Tryz.ext166 ⟨Tryz.f28,Tryz.func28,by kernel_rfl,by kernel_rfl⟩
theorem J0:YK Tryz.prog 30 (Ztg 66 5):=ZBz Tryz.lays167 Tryz.ext167 ⟨Tryz.f30,Tryz.func30,by kernel_rfl,by kernel_rfl⟩
theorem Zbl:YK Tryz.prog 31 (Zth 66 5):=ZBA Tryz.lays169 Tryz.ext169 ⟨Tryz.f31,Tryz.func31,by kernel_rfl,by kernel_rfl⟩
theorem Zl0:YK Tryz.prog 63 (Ztj):=by
 have h:=ZCX Tryz.laysM171 (by rw[ZwP];exact⟨Tryz.f63,Tryz.func63,by kernel_rfl,by kernel_rfl⟩) (by kernel_rfl);rw[ZwP] at h;exact h
theorem Zl1:YK Tryz.prog 89 (Ztk):=ZBB Tryz.lays156 Tryz.ext156 ⟨Tryz.f89,Tryz.func89,by kernel_rfl,by kernel_rfl⟩
theorem Jx:YK Tryz.prog 118 (ZAf):=ZCY Tryz.lays219 ⟨Tryz.f118,Tryz.func118,by kernel_rfl,by kernel_rfl⟩
theorem Zkd:YK Tryz.prog 173 (ZAg):=ZCZ Tryz.lays138 ⟨Tryz.f173,Tryz.func173,by kernel_rfl,by kernel_rfl⟩
theorem ZiH:YK Tryz.prog 201 (Zl6 5 40):=ZAM ⟨⟨_,_,_,_,_,_,_,_,_,_,Tryz.func201,by kernel_rfl,rfl,by kernel_rfl,rfl,by kernel_rfl,by kernel_rfl,by kernel_rfl,rfl,rfl,rfl,rfl,rfl,rfl,rfl⟩⟩ draws
theorem Zh0:YK Tryz.prog 206 (Zh3 5 40 Jk):=Zzk (okM Tryz.func206) draws
theorem all_ok:Zzc tbl:=
 ⟨(okM Tryz.func6),(okM Tryz.func14),(okM Tryz.func15),(okM Tryz.func16),(okM Tryz.func18),(okM Tryz.func19),(okM Tryz.func20),(okM Tryz.func21),(okM Tryz.func22),(okM Tryz.func23),(okM Tryz.func24),Jt,J0,Zbl,(okM Tryz.func32),(okM Tryz.func34),(okM Tryz.func36),(okM Tryz.func37),(okM Tryz.func38),(okM Tryz.func39),(okM Tryz.func40),(okM Tryz.func41),(okM Tryz.func42),(okM Tryz.func43),(okM Tryz.func44),(okM Tryz.func45),(okM Tryz.func46),(okM Tryz.func47),(okM Tryz.func48),(okM Tryz.func49),(okM Tryz.func50),(okM Tryz.func51),(okM Tryz.func52),(okM Tryz.func53),(okM Tryz.func54),(okM Tryz.func55),(okM Tryz.func56),Zl0,(okM Tryz.func67),(okM Tryz.func69),(okM Tryz.func70),(okM Tryz.func71),(okM Tryz.func72),(okM Tryz.func73),(okM Tryz.func74),(okM Tryz.func75),(okM Tryz.func76),(okM Tryz.func77),(okM Tryz.func78),(okM Tryz.func79),(okM Tryz.func80),(okM Tryz.func81),(okM Tryz.func82),(okM Tryz.func83),(okM Tryz.func84),(okM Tryz.func85),(okM Tryz.func86),(okM Tryz.func87),(okM Tryz.func88),Zl1,(okM Tryz.func90),(okM Tryz.func91),(okM Tryz.func92),(okM Tryz.func93),(okM Tryz.func94),(okM Tryz.func95),(okM Tryz.func96),(okM Tryz.func97),(okM Tryz.func98),(okM Tryz.func99),(okM Tryz.func100),(okM Tryz.func101),(okM Tryz.func102),(okM Tryz.func103),(okM Tryz.func104),(okM Tryz.func105),(okM Tryz.func106),(okM Tryz.func107),(okM Tryz.func108),(okM Tryz.func109),(okM Tryz.func110),Jx,(okM Tryz.func119),(okM Tryz.func120),(okM Tryz.func121),(okM Tryz.func122),(okM Tryz.func123),(okM Tryz.func124),(okM Tryz.func125),(okM Tryz.func126),(okM Tryz.func127),(okM Tryz.func128),(okM Tryz.func130),(okM Tryz.func131),(okM Tryz.func132),(okM Tryz.func133),(okM Tryz.func134),(okM Tryz.func135),(okM Tryz.func136),(okM Tryz.func137),(okM Tryz.func138),(okM Tryz.func139),(okM Tryz.func140),(okM Tryz.func141),(okM Tryz.func142),(okM Tryz.func143),(okM Tryz.func144),(okM Tryz.func145),(okM Tryz.func146),(okM Tryz.func147),(okM Tryz.func148),(okM Tryz.func149),(okM Tryz.func150),(okM Tryz.func151),(okM Tryz.func152),(okM Tryz.func153),(okM Tryz.func154),(okM Tryz.func155),(okM Tryz.func156),(okM Tryz.func157),(okM Tryz.func158),(okM Tryz.func159),(okM Tryz.func164),(okM Tryz.func171),Zkd,(okM Tryz.func174),(okM Tryz.func175),(okM Tryz.func176),(okM Tryz.func177),(okM Tryz.func178),(okM Tryz.func179),(okM Tryz.func180),(okM Tryz.func181),(okM Tryz.func182),(okM Tryz.func183),(okM Tryz.func184),(okM Tryz.func186),(okM Tryz.func187),(okM Tryz.func188),(okM Tryz.func189),(okM Tryz.func190),(okM Tryz.func191),(okM Tryz.func192),(okM Tryz.func193),(okM Tryz.func194),(okM Tryz.func195),(okM Tryz.func196),(okM Tryz.func197),(okM Tryz.func198),(okM Tryz.func199),(okM Tryz.func200),ZiH,(okM Tryz.func202),(okM Tryz.func203),(okM Tryz.func204),(okM Tryz.func205),Zh0,(okM Tryz.func207),(okM Tryz.func215),(okM Tryz.func216),(okM Tryz.func220),(okM Tryz.func221),(okM Tryz.func222),(okM Tryz.func224),(okM Tryz.func225),(okM Tryz.func226),(okM Tryz.func227),(okM Tryz.func228),(okM Tryz.func229),(okM Tryz.func230),(okM Tryz.func231),(okM Tryz.func240),(okM Tryz.func242),(okM Tryz.func243),(okM Tryz.func244),(okM Tryz.func245),(okM Tryz.func248),trivial⟩
theorem table_ok:Zh8 Tryz.prog Xs Ms where
 text:=fun f cf h=>by
  rcases ZiD all_ok h with ⟨aa,e,h'⟩ | ⟨p,e,_⟩
  ·cases e;exact h'
  ·cases e
 prim:=fun f p h=>by
  rcases ZiD all_ok h with ⟨aa,e,_⟩ | ⟨p',e,h'⟩
  ·cases e
  ·cases e;exact h'
theorem sound:QJ Tryz.prog (Zd Xs Ms):=Zub (by kernel_rfl) table_ok
theorem own:ownKnob Tryz.prog.godebug=none:=by kernel_rfl
theorem ZDg:laidOutB Tryz.prog=true:=by kernel_rfl
theorem cells5:Tryz.prog.cellsOf 5=1:=by kernel_rfl
theorem gPow:Tryz.prog.globalNamed "internal/strconv.uint64pow10"=some 1:=by kernel_rfl
theorem ZB4:(Tryz.prog.globals[1]?).map (·.type)=some 250:=by kernel_rfl
theorem powTab {W:World} (h:laidMetH Tryz.prog Rows.fnWorkThroughBookRow.laid W):ZjF (fun b=>b<W.heap.size) W:=by
 have h0:laidMet Tryz.prog Rows.fnWorkThroughBookRow.laid W:=by
  first | exact h | exact h.1 | (rw[MakeChecks.laidMetH_plain _ _ _ (by kernel_rfl)] at h;exact h)
 have h1:=Lib.tabIs_of_head (k:=.u64) (zs:=Lib.pow10Tab) (n:=20) gPow ZB4 Tryz.underlying250 Tryz.underlying223 (by kernel_rfl) (by kernel_rfl) (laidMet.tail (laidMet.tail h0));unfold Lib.TabIs World.var? at h1;rw[gPow] at h1;simp only[KN] at h1;intro q hq;simp only[gtabs,KG] at hq;subst hq;split at h1
 ·rename_i cs e fr hc;refine⟨(KO.1 hc).1,e,fr,?_⟩;rw[hc];simp only[Option.some.injEq] at h1;rw[h1];simp[Zui,Lib.pow10Tab]
 ·cases h1
def cellsOf:DataW Unit→Array Value
 | .agg xs=>(xs.map one).flatten.toArray
 | _ => #[]
where
 one:DataW Unit→List Value
 | .lit (.int k z)=>[.int k z]
 | .agg xs=>xs.map two
 | _=>[]
 two:DataW Unit→Value
 | .lit (.int k z)=>.int k z
 | _=>.int .u8 0
def lay (c:Array Value):Obj→Obj
 | .cells _ t fr=>.cells c t fr
 | o=>o
noncomputable def Znd (os:Os):World:=
 { World.holding Tryz.prog os ⟨#[],#[],[]⟩ with heap:=(World.holding Tryz.prog os ⟨#[],#[],[]⟩).heap |>.modify 4 (lay (cellsOf (Rows.laid_math_bits_deBruijn32tab:DataW Unit))) |>.modify 5 (lay (cellsOf (Rows.laid_math_bits_deBruijn64tab:DataW Unit))) |>.modify 1 (lay (cellsOf (Rows.laid_internal_strconv_uint64pow10:DataW Unit))) |>.modify 3 (lay (cellsOf (Rows.laid_unicode_utf8_acceptRanges:DataW Unit))) |>.modify 2 (lay (cellsOf (Rows.laid_unicode_utf8_first:DataW Unit))) }
theorem ZB5 (os:Os):laidMet Tryz.prog Rows.fnWorkThroughBookRow.laid ((Znd os).forCall (fun _ _=>0) ⟨#[],#[.slice none 0 0],[]⟩).memory:=
 laidMet_of_run' 8 (by kernel_rfl) (by kernel_rfl)
theorem reads (os:Os) {H:Type} (enc:TypeId×Value→H):∃ d places,DataW.whole enc Tryz.prog ((Znd os).forCall (fun _ _=>0) ⟨#[],#[.slice none 0 0],[]⟩).memory Tryz.f6.params.toList Rows.fnWorkThroughBookSpec.vars false #[Value.slice none 0 0].toList 8=some (d,[],places):=
 ⟨[.nil],[],by kernel_rfl⟩
set_option maxRecDepth 100000 in
theorem lifted (os:Os) (aa:os.Started) (H:Type) (enc:TypeId×Value→H) (F:Stop.Interp) :
  ReturnsInHanded {} Tryz.checked os 6 .any ((OpenSpec.ofChange Rows.fnWorkThroughBookSpec).preRow enc Tryz.prog Tryz.f6 Rows.fnWorkThroughBookRow.domain false Rows.fnWorkThroughBookRow.laid) (((OpenSpec.ofChange Rows.fnWorkThroughBookSpec).at F).post enc Tryz.prog Tryz.f6 false true false false):=by
 obtain⟨dd,places,hx⟩:=reads os enc;refine returnsInHanded_of_row (C:=Tryz.checked) (s:=OpenSpec.ofChange Rows.fnWorkThroughBookSpec) own aa (by kernel_rfl) Tryz.func6
  (witness_row_at (enc:=enc) (C:=Tryz.checked) false (Znd os) #[.slice none 0 0] rfl (by kernel_rfl) (by kernel_rfl) (by kernel_rfl)
   (OpenSpec.preRow_of_cond 8 hx (by kernel_rfl) (fun k hk=>by cases hk) (by kernel_rfl) (ZB5 os))) ?_
 intro W base args ds gs af ab hW _ _ _ hL _ _;have ad:∀ (j:Nat) t v,Tryz.f6.params[j]?=some t→args[j]?=some v→Value.okWide Tryz.prog W .any base t v:=ab;have ag:=hW;obtain⟨p,q,ai,hV,rfl,_,_⟩:=hW;have hA:DataW.TrodAll enc Tryz.prog W 0 (fun _=>true) true Tryz.f6.params.toList args.toList ds p:=ai;rw[Tryz.params6] at hA ad;obtain⟨v0,d0,rfl,rfl,h0⟩:=trodAll_one hA;obtain⟨rfl,rfl⟩:=trodVars_none hV;clear ai ab;simp only[KD] at ag;have aj:∀ x∈p,x.block<W.heap.size:=fun x hx=>by simpa using ag.lt x hx
 have ae:∀ (W' : World),Below W.heap.size W W'→DataW.Trod enc Tryz.prog W' 0 (fun b=>decide (b<W.heap.size)) true 28 v0 d0 p:=
  fun W' hn=>Below.trod ZDg (by kernel_rfl) (of_decide_eq_true (by kernel_rfl)) h0 hn aj
 obtain⟨ak,ah⟩:=ZzM Tryz.underlying28 Tryz.underlying5 cells5 (ad 0 28 v0 rfl rfl) h0;refine(ZzL sound Zfs (powTab hL) ah).mono fun e W' ⟨he,hn⟩=>?_;subst he;exact⟨_,rfl,⟨_,_,_,[],_,[],ag,trodAll_mk1 (shut_bool Tryz.underlying4 _),trodAll_mk1 (ae _ hn),rfl,hn.frame _,fun h=>by cases h⟩⟩
theorem said:Rows.FnWorkThroughBookSaid:=
 OpenClaim.holds_of_cond 6 Tryz.f6 rfl rfl rfl rfl rfl rfl rfl ⟨rfl,rfl,rfl,rfl,rfl⟩ rfl rfl rfl rfl rfl (by kernel_rfl) Tryz.func6 (by kernel_rfl)
  (of_decide_eq_true (by kernel_rfl)) (by unfold Func.isWrapper;first | (rw[Kj (by decide +kernel)];kernel_rfl) | (rw[Ke (by decide +kernel)];exact⟨rfl,rfl⟩))
  (fun os aa H enc _ F=>by rw[OpenClaim.pre_eq_preRow];exact lifted os aa H enc F)
theorem plain (f:FuncId) (fn:Func) (hf:Tryz.pinned.checked.prog.funcNamed "loop.example/panecutter/laws.FnWorkThroughBook"=some f) (aa:Tryz.pinned.checked.prog.funcs[f]?=some fn) :
  false=Tryz.pinned.checked.prog.looks []∧∀ (j:Nat) t,fn.params[j]?=some t→Tryz.pinned.checked.prog.wantsStandIn t=false:=by
 obtain rfl:f=6:=Option.some.inj ((show Tryz.prog.funcNamed "loop.example/panecutter/laws.FnWorkThroughBook"=some 6 by kernel_rfl).symm.trans hf) |>.symm;obtain rfl:fn=Tryz.f6:=(Option.some.inj (Tryz.func6.symm.trans aa)).symm;refine⟨by kernel_rfl,fun j t ht=>?_⟩;rw[Tryz.params6] at ht;obtain rfl:t=28:=by simpa using Array.mem_of_getElem? ht
 exact(show Tryz.prog.wantsStandIn 28=false by kernel_rfl)
theorem fnWorkThroughBook_holds:Rows.FnWorkThroughBookCardSaid:=
 Claim7.holds_tied_plain_at .later [] _ _ _ _ said (fun _ h=>by cases h) (by kernel_rfl) (fun _ h=>by cases h) fnWorkThroughBook_row_tie rfl ⟨rfl,rfl⟩ (by kernel_rfl) rfl plain (by kernel_rfl)
#print axioms fnWorkThroughBook_holds
end Go.Proofs.YtfnegoimdljanaaGreatDoor

/- The statement that the law FnRunBookDesk holds of every row of bytes,where the tables of the library hold what they hold: it answers true,and its argument reads as before;and its card. -/
import Derived.Test.YtcefneehgbiebaaGreatDoorDC12
import Derived.Test.YtcefneehgbiebaaGreatDoorDCodeOk
import Derived.Test.YtcefneehgbiebaaGreatDoorDLays
import Derived.Test.YtcefneehgbiebaaGreatDoorCards
import Derived.Test.YtcefneehgbiebaaGreatDoorTie
import Derived.Test.YtcefneehgbiebaaGreatDoorAbsLaw
import Derived.Deep.DeepHandedRow
import Derived.Lib.LaidTab
import Derived.Stop.LaidErr
namespace Go.Proofs.YtcefneehgbiebaaGreatDoor
open Go Go.Proofs Go.Abs Go.Abs.L Go.ChangeShapes Go.WideShapes Go.ChangeAt Go.RowKit
def Zzc:List (Nat×Go.Abs.Fn)→Prop
 | []=>True
 | (f,.text cf) :: r=>Zk f cf∧Zzc r
 | (f,.prim p) :: r=>Vi Tryz.prog f p∧Zzc r
theorem Zit:∀ {l:List (Nat×Go.Abs.Fn)} {f:Nat} {x:Go.Abs.Fn},Zzc l→lkp l f=some x→(∃ cf,x=.text cf∧Zk f cf)∨∃ p,x=.prim p∧Vi Tryz.prog f p
 | [],f,x,_,h=>by cases h
 | (g,.text cf) :: r,f,x,ha,h=>by
  simp only[lkp] at h;split at h
  ·rename_i e;cases h;subst e;exact .inl ⟨cf,rfl,ha.1⟩
  ·exact Zit ha.2 h
 | (g,.prim p) :: r,f,x,ha,h=>by
  simp only[lkp] at h;split at h
  ·rename_i e;cases h;subst e;exact .inr ⟨p,rfl,ha.1⟩
  ·exact Zit ha.2 h
theorem draws (C:Orc) (M:Zp) (nt:Nat) (hC:QL Tryz.prog C) (hB:WC C):Uk Tryz.prog C M nt:=ZoN (by kernel_rfl) hC hB
theorem ZwW:Tryz.laysM171_ren.f 171=88:=by kernel_rfl
set_option maxRecDepth 10000
theorem ZaV:Vi Tryz.prog ZA (ZAe TB 5):=ZCL Tryz.lays166 Tryz.ext166 ⟨Tryz.f48,Tryz.func48,by kernel_rfl,by kernel_rfl⟩
theorem Zbt:Vi Tryz.prog Zo (Ztb TB 5):=ZBt Tryz.lays167 Tryz.ext167 ⟨Tryz.f49,Tryz.func49,by kernel_rfl,by kernel_rfl⟩
theorem ZcO:Vi Tryz.prog Z3 (Ztc TB 5):=ZBu Tryz.lays169 Tryz.ext169 ⟨Tryz.f50,Tryz.func50,by kernel_rfl,by kernel_rfl⟩
theorem Zk3:Vi Tryz.prog ZT (Zte):=by
 have h:=ZCM Tryz.laysM171 (by rw[ZwW];exact⟨Tryz.f88,Tryz.func88,by kernel_rfl,by kernel_rfl⟩) (by kernel_rfl);rw[ZwW] at h;exact h
theorem Zk4:Vi Tryz.prog Yx (Ztf):=ZBv Tryz.lays156 Tryz.ext156 ⟨Tryz.f89,Tryz.func89,by kernel_rfl,by kernel_rfl⟩
theorem Za0:Vi Tryz.prog ZY (ZAf):=ZCN Tryz.lays219 ⟨Tryz.f135,Tryz.func135,by kernel_rfl,by kernel_rfl⟩
theorem ZjQ:Vi Tryz.prog YI (ZAg):=ZCO Tryz.lays138 ⟨Tryz.f138,Tryz.func138,by kernel_rfl,by kernel_rfl⟩
theorem ZiD:Vi Tryz.prog Xa (Zlb 5 40):=ZAM Zk2 draws
theorem ZhW:Vi Tryz.prog ZW (ZhZ 5 40 WP):=Zzn ZjP draws
theorem all_ok:Zzc tbl:=
 ⟨ZjO,ZnJ,ZnK,Zmf,ZiA,ZnL,ZnM,Zmg,ZuN,ZuO,ZuP,Zqw,Zqx,Zmh,ZnN,Zqy,ZrH,ZnO,Zqz,ZnP,ZqA,ZrI,ZuQ,Zmi,Zmj,Zk1,ZnQ,ZrJ,Zmk,ZrK,ZuR,ZaV,Zbt,ZcO,ZiB,ZqB,ZnR,ZwM,ZuS,ZrL,ZuT,ZrM,ZqC,ZuU,ZrN,ZnS,ZqD,ZqE,ZqF,ZrO,ZuV,ZnT,ZrP,ZnU,ZnV,ZnW,ZnX,ZrQ,ZnY,ZqG,ZrR,ZcN,ZnZ,ZqH,ZiC,ZrS,Zn0,ZqI,Zk3,Zk4,ZrT,ZqJ,ZrU,Zn1,ZwN,ZrV,ZqK,ZrW,ZqL,ZuW,ZqM,ZqN,Zn2,ZuX,Zn3,ZqO,ZrX,ZuY,Zn4,ZuZ,Zu0,ZrY,ZrZ,ZwO,Zr0,Zr1,ZqP,Zn5,ZqQ,ZqR,ZqS,Zr2,ZqT,Zr3,ZqU,ZwP,Zr4,Zu1,Zr5,ZwQ,Za0,Zr6,ZjQ,Zml,Zn6,Zyp,ZgE,Zn7,ZgS,Zmm,Zu2,Zyq,ZAv,ZqV,Zr7,Zr8,Zr9,ZiD,Zsa,Zmn,Zu3,ZqW,ZhW,Zsb,Zsc,Zsd,Zse,Zsf,Zsg,ZqX,Zsh,ZqY,Zsi,Zn8,ZhV,ZqZ,Zu4,ZwR,Zu5,ZwS,Zn9,ZwT,Zsj,Zq0,Zsk,ZwU,Zq1,Zsl,ZwV,JZ,Zq2,Zyr,Zsm,Zoa,J0,trivial⟩
theorem table_ok:Zf2 Tryz.prog Xs Ms where
 text:=fun f cf h=>by
  rcases Zit all_ok h with ⟨aa,e,h'⟩ | ⟨p,e,_⟩
  ·cases e;exact h'
  ·cases e
 prim:=fun f p h=>by
  rcases Zit all_ok h with ⟨aa,e,_⟩ | ⟨p',e,h'⟩
  ·cases e
  ·cases e;exact h'
theorem sound:QL Tryz.prog (Ze Xs Ms):=ZtX (by kernel_rfl) table_ok
theorem own:ownKnob Tryz.prog.godebug=none:=by kernel_rfl
theorem ZC0:laidOutB Tryz.prog=true:=by kernel_rfl
theorem cells5:Tryz.prog.cellsOf 5=1:=by kernel_rfl
theorem gPow:Tryz.prog.globalNamed "internal/strconv.uint64pow10"=some 3:=by kernel_rfl
theorem ZBS:(Tryz.prog.globals[3]?).map (·.type)=some 240:=by kernel_rfl
theorem powTab {W:World} (h:laidMetH Tryz.prog Rows.fnRunBookDeskRow.laid W):Zjl (fun b=>b<W.heap.size) W:=by
 have h0:laidMet Tryz.prog Rows.fnRunBookDeskRow.laid W:=by
  first | exact h | exact h.1 | (rw[MakeChecks.laidMetH_plain _ _ _ (by kernel_rfl)] at h;exact h)
 have h1:=Lib.tabIs_of_head (k:=.u64) (zs:=Lib.pow10Tab) (n:=20) gPow ZBS Tryz.underlying240 Tryz.underlying223 (by kernel_rfl) (by kernel_rfl) (laidMet.tail (laidMet.tail h0));unfold Lib.TabIs World.var? at h1;rw[gPow] at h1;simp only[KM] at h1;intro q hq;simp only[gtabs,KC] at hq;subst hq;split at h1
 ·rename_i cs e fr hc;refine⟨(KR.1 hc).1,e,fr,?_⟩;rw[hc];simp only[Option.some.injEq] at h1;rw[h1];simp[Zue,Lib.pow10Tab]
 ·cases h1
def cellsOf:DataW Unit→Array Value
 | .agg xs=>(xs.map one).flatten.toArray
 | _ => #[]
where
 one:DataW Unit→List Value
 | .lit (.int k z)=>[.int k z]
 | .agg xs=>xs.map two
 | _=>[]
 two:DataW Unit→Value
 | .lit (.int k z)=>.int k z
 | _=>.int .u8 0
def lay (c:Array Value):Obj→Obj
 | .cells _ t fr=>.cells c t fr
 | o=>o
noncomputable def Zmo (os:Os):World:=
 { World.holding Tryz.prog os ⟨#[],#[],[]⟩ with heap:=(World.holding Tryz.prog os ⟨#[],#[],[]⟩).heap |>.modify 4 (lay (cellsOf (Rows.laid_math_bits_deBruijn32tab:DataW Unit))) |>.modify 5 (lay (cellsOf (Rows.laid_math_bits_deBruijn64tab:DataW Unit))) |>.modify 3 (lay (cellsOf (Rows.laid_internal_strconv_uint64pow10:DataW Unit))) |>.modify 2 (lay (cellsOf (Rows.laid_unicode_utf8_acceptRanges:DataW Unit))) |>.modify 1 (lay (cellsOf (Rows.laid_unicode_utf8_first:DataW Unit))) }
theorem ZBT (os:Os):laidMet Tryz.prog Rows.fnRunBookDeskRow.laid ((Zmo os).forCall (fun _ _=>0) ⟨#[],#[.slice none 0 0],[]⟩).memory:=
 laidMet_of_run' 8 (by kernel_rfl) (by kernel_rfl)
theorem reads (os:Os) {H:Type} (enc:TypeId×Value→H):∃ d places,DataW.whole enc Tryz.prog ((Zmo os).forCall (fun _ _=>0) ⟨#[],#[.slice none 0 0],[]⟩).memory Tryz.f6.params.toList Rows.fnRunBookDeskSpec.vars false #[Value.slice none 0 0].toList 8=some (d,[],places):=
 ⟨[.nil],[],by kernel_rfl⟩
set_option maxRecDepth 100000 in
theorem lifted (os:Os) (aa:os.Started) (H:Type) (enc:TypeId×Value→H) (F:Stop.Interp) :
  ReturnsInHanded {} Tryz.checked os 6 .any ((OpenSpec.ofChange Rows.fnRunBookDeskSpec).preRow enc Tryz.prog Tryz.f6 Rows.fnRunBookDeskRow.domain false Rows.fnRunBookDeskRow.laid) (((OpenSpec.ofChange Rows.fnRunBookDeskSpec).at F).post enc Tryz.prog Tryz.f6 false true false false):=by
 obtain⟨dd,af,hx⟩:=reads os enc;refine returnsInHanded_of_row (C:=Tryz.checked) (s:=OpenSpec.ofChange Rows.fnRunBookDeskSpec) own aa (by kernel_rfl) Tryz.func6
  (witness_row_at (enc:=enc) (C:=Tryz.checked) false (Zmo os) #[.slice none 0 0] rfl (by kernel_rfl) (by kernel_rfl) (by kernel_rfl)
   (OpenSpec.preRow_of_cond 8 hx (by kernel_rfl) (fun k hk=>by cases hk) (by kernel_rfl) (ZBT os))) ?_
 intro W base args ds gs ag ab hW _ _ _ hL _ _;have ad:∀ (j:Nat) t v,Tryz.f6.params[j]?=some t→args[j]?=some v→Value.okWide Tryz.prog W .any base t v:=ab;have ah:=hW;obtain⟨p,q,aj,hV,rfl,_,_⟩:=hW;have hA:DataW.TrodAll enc Tryz.prog W 0 (fun _=>true) true Tryz.f6.params.toList args.toList ds p:=aj;rw[Tryz.params6] at hA ad;obtain⟨v0,d0,rfl,rfl,h0⟩:=trodAll_one hA;obtain⟨rfl,rfl⟩:=trodVars_none hV;clear aj ab;simp only[KY] at ah;have ak:∀ x∈p,x.block<W.heap.size:=fun x hx=>by simpa using ah.lt x hx
 have ae:∀ (W' : World),Below W.heap.size W W'→DataW.Trod enc Tryz.prog W' 0 (fun b=>decide (b<W.heap.size)) true 22 v0 d0 p:=
  fun W' hn=>Below.trod ZC0 (by kernel_rfl) (of_decide_eq_true (by kernel_rfl)) h0 hn ak
 obtain⟨al,ai⟩:=ZzQ Tryz.underlying22 Tryz.underlying5 cells5 (ad 0 22 v0 rfl rfl) h0;refine(ZzP sound ZjB (powTab hL) ai).mono fun e W' ⟨he,hn⟩=>?_;subst he;exact⟨_,rfl,⟨_,_,_,[],_,[],ah,trodAll_mk1 (shut_bool Tryz.underlying4 _),trodAll_mk1 (ae _ hn),rfl,hn.frame _,fun h=>by cases h⟩⟩
theorem said:Rows.FnRunBookDeskSaid:=
 OpenClaim.holds_of_cond 6 Tryz.f6 rfl rfl rfl rfl rfl rfl rfl ⟨rfl,rfl,rfl,rfl,rfl⟩ rfl rfl rfl rfl rfl (by kernel_rfl) Tryz.func6 (by kernel_rfl)
  (of_decide_eq_true (by kernel_rfl)) (by unfold Func.isWrapper;first | (rw[Kh (by decide +kernel)];kernel_rfl) | (rw[Ke (by decide +kernel)];exact⟨rfl,rfl⟩))
  (fun os aa H enc _ F=>by rw[OpenClaim.pre_eq_preRow];exact lifted os aa H enc F)
theorem plain (f:FuncId) (fn:Func) (hf:Tryz.pinned.checked.prog.funcNamed "loop.example/panecutter/laws.FnRunBookDesk"=some f) (aa:Tryz.pinned.checked.prog.funcs[f]?=some fn) :
  false=Tryz.pinned.checked.prog.looks []∧∀ (j:Nat) t,fn.params[j]?=some t→Tryz.pinned.checked.prog.wantsStandIn t=false:=by
 obtain rfl:f=6:=Option.some.inj ((show Tryz.prog.funcNamed "loop.example/panecutter/laws.FnRunBookDesk"=some 6 by kernel_rfl).symm.trans hf) |>.symm;obtain rfl:fn=Tryz.f6:=(Option.some.inj (Tryz.func6.symm.trans aa)).symm;refine⟨by kernel_rfl,fun j t ht=>?_⟩;rw[Tryz.params6] at ht;obtain rfl:t=22:=by simpa using Array.mem_of_getElem? ht
 exact(show Tryz.prog.wantsStandIn 22=false by kernel_rfl)
theorem fnRunBookDesk_holds:Rows.FnRunBookDeskCardSaid:=
 Claim7.holds_tied_plain_at .later [] _ _ _ _ said (fun _ h=>by cases h) (by kernel_rfl) (fun _ h=>by cases h) fnRunBookDesk_row_tie rfl ⟨rfl,rfl⟩ (by kernel_rfl) rfl plain (by kernel_rfl)
#print axioms fnRunBookDesk_holds
end Go.Proofs.YtcefneehgbiebaaGreatDoor

/- The statement that the law FnFormatEventSame holds of every row of bytes,where the tables of the library hold what they hold: it answers true,and its argument reads as before;and its card. -/
import Derived.Test.YtcefneehgbiebaaGreatDoorBC12
import Derived.Test.YtcefneehgbiebaaGreatDoorBCodeOk
import Derived.Test.YtcefneehgbiebaaGreatDoorBLays
import Derived.Test.YtcefneehgbiebaaGreatDoorCards
import Derived.Test.YtcefneehgbiebaaGreatDoorTie
import Derived.Test.YtcefneehgbiebaaGreatDoorAbsLaw
import Derived.Deep.DeepHandedRow
import Derived.Lib.LaidTab
import Derived.Stop.LaidErr
namespace Go.Proofs.YtcefneehgbiebaaGreatDoor
open Go Go.Proofs Go.Abs Go.Abs.L Go.ChangeShapes Go.WideShapes Go.ChangeAt Go.RowKit
def ZxU:List (Nat×Go.Abs.Fn)→Prop
 | []=>True
 | (f,.text cf) :: r=>Zk f cf∧ZxU r
 | (f,.prim p) :: r=>Y8 Tryz.prog f p∧ZxU r
theorem ZhW:∀ {l:List (Nat×Go.Abs.Fn)} {f:Nat} {x:Go.Abs.Fn},ZxU l→lkp l f=some x→(∃ cf,x=.text cf∧Zk f cf)∨∃ p,x=.prim p∧Y8 Tryz.prog f p
 | [],f,x,_,h=>by cases h
 | (g,.text cf) :: r,f,x,ha,h=>by
  simp only[lkp] at h;split at h
  ·rename_i e;cases h;subst e;exact .inl ⟨cf,rfl,ha.1⟩
  ·exact ZhW ha.2 h
 | (g,.prim p) :: r,f,x,ha,h=>by
  simp only[lkp] at h;split at h
  ·rename_i e;cases h;subst e;exact .inr ⟨p,rfl,ha.1⟩
  ·exact ZhW ha.2 h
theorem draws (C:Orc) (M:Zn) (nt:Nat) (hC:QK Tryz.prog C) (hB:Wn C):W2 Tryz.prog C M nt:=ZnW (by kernel_rfl) hC hB
theorem ZvJ:Tryz.laysM171_ren.f 171=88:=by kernel_rfl
set_option maxRecDepth 10000
theorem Zaq:Y8 Tryz.prog ZQ (ZyW TB 5):=ZBn Tryz.lays166 Tryz.ext166 ⟨Tryz.f48,Tryz.func48,by kernel_rfl,by kernel_rfl⟩
theorem ZaY:Y8 Tryz.prog Zo (Zsa TB 5):=Zz7 Tryz.lays167 Tryz.ext167 ⟨Tryz.f49,Tryz.func49,by kernel_rfl,by kernel_rfl⟩
theorem Zcf:Y8 Tryz.prog Qq (Zsb TB 5):=Zz8 Tryz.lays169 Tryz.ext169 ⟨Tryz.f50,Tryz.func50,by kernel_rfl,by kernel_rfl⟩
theorem Zkn:Y8 Tryz.prog Qp (Zsd):=by
 have h:=ZBo Tryz.laysM171 (by rw[ZvJ];exact⟨Tryz.f88,Tryz.func88,by kernel_rfl,by kernel_rfl⟩) (by kernel_rfl);rw[ZvJ] at h;exact h
theorem Zko:Y8 Tryz.prog Yp (Zse):=Zz9 Tryz.lays156 Tryz.ext156 ⟨Tryz.f89,Tryz.func89,by kernel_rfl,by kernel_rfl⟩
theorem Zau:Y8 Tryz.prog ZW (ZyX):=ZBp Tryz.lays219 ⟨Tryz.f135,Tryz.func135,by kernel_rfl,by kernel_rfl⟩
theorem Zi9:Y8 Tryz.prog Yz (ZyY):=ZBq Tryz.lays138 ⟨Tryz.f138,Tryz.func138,by kernel_rfl,by kernel_rfl⟩
theorem Zh3:Y8 Tryz.prog Q5 (Zkv 5 40):=Zzq Zkm draws
theorem Zhn:Y8 Tryz.prog ZU (Zhq 5 40 Wz):=Zx5 Zi8 draws
theorem all_ok:ZxU tbl:=
 ⟨Zf1,Zh1,ZmR,ZmS,Zpz,ZmT,Zlw,ZpA,ZtL,ZpB,Zlx,ZmU,ZpC,ZqI,ZmV,ZpD,ZmW,ZmX,ZmY,ZpE,ZqJ,ZtM,Zly,Zlz,Zkl,ZmZ,ZqK,ZlA,ZqL,Zaq,ZaY,Zcf,Zm0,ZtN,ZqM,ZtO,ZqN,ZpF,ZtP,ZqO,Zm1,ZpG,ZpH,ZpI,ZqP,ZtQ,Zm2,ZqQ,Zm3,Zm4,Zm5,Zm6,ZqR,Zm7,ZpJ,ZqS,Zm8,Zce,Zm9,ZpK,Zh2,ZqT,Zna,ZpL,Zkn,Zko,ZqU,ZpM,ZqV,ZpN,ZtR,ZpO,ZpP,Znb,ZtS,Znc,ZpQ,ZqW,ZtT,Znd,ZtU,ZtV,ZqX,ZqY,ZvB,ZqZ,Zq0,ZpR,Zne,ZpS,ZpT,ZpU,Zq1,ZpV,Zq2,ZpW,ZvC,Zq3,ZtW,Zq4,ZvD,Znf,Zau,Zq5,Zi9,ZlB,Zng,Zxc,Zf2,Znh,Zgk,ZlC,ZtX,Zxd,Zy9,ZpX,Zq6,Zq7,Zq8,Zh3,Zq9,ZlD,ZtY,ZpY,Zhn,Zra,Zrb,Zrc,Zrd,Zre,Zrf,ZpZ,Zrg,Zp0,Zrh,Zni,Zhm,Zp1,ZtZ,ZvE,Zt0,ZvF,Znj,ZvG,Zri,Zp2,Zrj,ZvH,Zp3,Zrk,ZvI,Ju,Zp4,Zxe,Zrl,Znk,Jv,trivial⟩
theorem table_ok:Zfs Tryz.prog Xs Ms where
 text:=fun f cf h=>by
  rcases ZhW all_ok h with ⟨aa,e,h'⟩ | ⟨p,e,_⟩
  ·cases e;exact h'
  ·cases e
 prim:=fun f p h=>by
  rcases ZhW all_ok h with ⟨aa,e,_⟩ | ⟨p',e,h'⟩
  ·cases e
  ·cases e;exact h'
theorem sound:QK Tryz.prog (Ze Xs Ms):=ZsS (by kernel_rfl) table_ok
theorem own:ownKnob Tryz.prog.godebug=none:=by kernel_rfl
theorem ZBE:laidOutB Tryz.prog=true:=by kernel_rfl
theorem cells5:Tryz.prog.cellsOf 5=1:=by kernel_rfl
theorem gPow:Tryz.prog.globalNamed "internal/strconv.uint64pow10"=some 3:=by kernel_rfl
theorem ZAv:(Tryz.prog.globals[3]?).map (·.type)=some 240:=by kernel_rfl
theorem powTab {W:World} (h:laidMetH Tryz.prog Rows.fnFormatEventSameRow.laid W):ZiJ (fun b=>b<W.heap.size) W:=by
 have h0:laidMet Tryz.prog Rows.fnFormatEventSameRow.laid W:=by
  first | exact h | exact h.1 | (rw[MakeChecks.laidMetH_plain _ _ _ (by kernel_rfl)] at h;exact h)
 have h1:=Lib.tabIs_of_head (k:=.u64) (zs:=Lib.pow10Tab) (n:=20) gPow ZAv Tryz.underlying240 Tryz.underlying223 (by kernel_rfl) (by kernel_rfl) (laidMet.tail (laidMet.tail h0));unfold Lib.TabIs World.var? at h1;rw[gPow] at h1;simp only[KI] at h1;intro q hq;simp only[gtabs,KA] at hq;subst hq;split at h1
 ·rename_i cs e fr hc;refine⟨(KN.1 hc).1,e,fr,?_⟩;rw[hc];simp only[Option.some.injEq] at h1;rw[h1];simp[Zs9,Lib.pow10Tab]
 ·cases h1
def cellsOf:DataW Unit→Array Value
 | .agg xs=>(xs.map one).flatten.toArray
 | _ => #[]
where
 one:DataW Unit→List Value
 | .lit (.int k z)=>[.int k z]
 | .agg xs=>xs.map two
 | _=>[]
 two:DataW Unit→Value
 | .lit (.int k z)=>.int k z
 | _=>.int .u8 0
def lay (c:Array Value):Obj→Obj
 | .cells _ t fr=>.cells c t fr
 | o=>o
noncomputable def ZlE (os:Os):World:=
 { World.holding Tryz.prog os ⟨#[],#[],[]⟩ with heap:=(World.holding Tryz.prog os ⟨#[],#[],[]⟩).heap |>.modify 4 (lay (cellsOf (Rows.laid_math_bits_deBruijn32tab:DataW Unit))) |>.modify 5 (lay (cellsOf (Rows.laid_math_bits_deBruijn64tab:DataW Unit))) |>.modify 3 (lay (cellsOf (Rows.laid_internal_strconv_uint64pow10:DataW Unit))) |>.modify 2 (lay (cellsOf (Rows.laid_unicode_utf8_acceptRanges:DataW Unit))) |>.modify 1 (lay (cellsOf (Rows.laid_unicode_utf8_first:DataW Unit))) }
theorem ZAw (os:Os):laidMet Tryz.prog Rows.fnFormatEventSameRow.laid ((ZlE os).forCall (fun _ _=>0) ⟨#[],#[.slice none 0 0],[]⟩).memory:=
 laidMet_of_run' 8 (by kernel_rfl) (by kernel_rfl)
theorem reads (os:Os) {H:Type} (enc:TypeId×Value→H):∃ d places,DataW.whole enc Tryz.prog ((ZlE os).forCall (fun _ _=>0) ⟨#[],#[.slice none 0 0],[]⟩).memory Tryz.f3.params.toList Rows.fnFormatEventSameSpec.vars false #[Value.slice none 0 0].toList 8=some (d,[],places):=
 ⟨[.nil],[],by kernel_rfl⟩
set_option maxRecDepth 100000 in
theorem lifted (os:Os) (aa:os.Started) (H:Type) (enc:TypeId×Value→H) (F:Stop.Interp) :
  ReturnsInHanded {} Tryz.checked os 3 .any ((OpenSpec.ofChange Rows.fnFormatEventSameSpec).preRow enc Tryz.prog Tryz.f3 Rows.fnFormatEventSameRow.domain false Rows.fnFormatEventSameRow.laid) (((OpenSpec.ofChange Rows.fnFormatEventSameSpec).at F).post enc Tryz.prog Tryz.f3 false true false false):=by
 obtain⟨dd,af,hx⟩:=reads os enc;refine returnsInHanded_of_row (C:=Tryz.checked) (s:=OpenSpec.ofChange Rows.fnFormatEventSameSpec) own aa (by kernel_rfl) Tryz.func3
  (witness_row_at (enc:=enc) (C:=Tryz.checked) false (ZlE os) #[.slice none 0 0] rfl (by kernel_rfl) (by kernel_rfl) (by kernel_rfl)
   (OpenSpec.preRow_of_cond 8 hx (by kernel_rfl) (fun k hk=>by cases hk) (by kernel_rfl) (ZAw os))) ?_
 intro W base args ds gs ag ab hW _ _ _ hL _ _;have ad:∀ (j:Nat) t v,Tryz.f3.params[j]?=some t→args[j]?=some v→Value.okWide Tryz.prog W .any base t v:=ab;have ah:=hW;obtain⟨p,q,aj,hV,rfl,_,_⟩:=hW;have hA:DataW.TrodAll enc Tryz.prog W 0 (fun _=>true) true Tryz.f3.params.toList args.toList ds p:=aj;rw[Tryz.params3] at hA ad;obtain⟨v0,d0,rfl,rfl,h0⟩:=trodAll_one hA;obtain⟨rfl,rfl⟩:=trodVars_none hV;clear aj ab;simp only[K8] at ah;have ak:∀ x∈p,x.block<W.heap.size:=fun x hx=>by simpa using ah.lt x hx
 have ae:∀ (W' : World),Below W.heap.size W W'→DataW.Trod enc Tryz.prog W' 0 (fun b=>decide (b<W.heap.size)) true 22 v0 d0 p:=
  fun W' hn=>Below.trod ZBE (by kernel_rfl) (of_decide_eq_true (by kernel_rfl)) h0 hn ak
 obtain⟨al,ai⟩:=Zyy Tryz.underlying22 Tryz.underlying5 cells5 (ad 0 22 v0 rfl rfl) h0;refine(Zyx sound Zfy (powTab hL) ai).mono fun e W' ⟨he,hn⟩=>?_;subst he;exact⟨_,rfl,⟨_,_,_,[],_,[],ah,trodAll_mk1 (shut_bool Tryz.underlying4 _),trodAll_mk1 (ae _ hn),rfl,hn.frame _,fun h=>by cases h⟩⟩
theorem said:Rows.FnFormatEventSameSaid:=
 OpenClaim.holds_of_cond 3 Tryz.f3 rfl rfl rfl rfl rfl rfl rfl ⟨rfl,rfl,rfl,rfl,rfl⟩ rfl rfl rfl rfl rfl (by kernel_rfl) Tryz.func3 (by kernel_rfl)
  (of_decide_eq_true (by kernel_rfl)) (by unfold Func.isWrapper;first | (rw[Ki (by decide +kernel)];kernel_rfl) | (rw[Kd (by decide +kernel)];exact⟨rfl,rfl⟩))
  (fun os aa H enc _ F=>by rw[OpenClaim.pre_eq_preRow];exact lifted os aa H enc F)
theorem plain (f:FuncId) (fn:Func) (hf:Tryz.pinned.checked.prog.funcNamed "loop.example/panecutter/laws.FnFormatEventSame"=some f) (aa:Tryz.pinned.checked.prog.funcs[f]?=some fn) :
  false=Tryz.pinned.checked.prog.looks []∧∀ (j:Nat) t,fn.params[j]?=some t→Tryz.pinned.checked.prog.wantsStandIn t=false:=by
 obtain rfl:f=3:=Option.some.inj ((show Tryz.prog.funcNamed "loop.example/panecutter/laws.FnFormatEventSame"=some 3 by kernel_rfl).symm.trans hf) |>.symm;obtain rfl:fn=Tryz.f3:=(Option.some.inj (Tryz.func3.symm.trans aa)).symm;refine⟨by kernel_rfl,fun j t ht=>?_⟩;rw[Tryz.params3] at ht;obtain rfl:t=22:=by simpa using Array.mem_of_getElem? ht
 exact(show Tryz.prog.wantsStandIn 22=false by kernel_rfl)
theorem fnFormatEventSame_holds:Rows.FnFormatEventSameCardSaid:=
 Claim7.holds_tied_plain_at .later [] _ _ _ _ said (fun _ h=>by cases h) (by kernel_rfl) (fun _ h=>by cases h) fnFormatEventSame_row_tie rfl ⟨rfl,rfl⟩ (by kernel_rfl) rfl plain (by kernel_rfl)
#print axioms fnFormatEventSame_holds
end Go.Proofs.YtcefneehgbiebaaGreatDoor

/- The statement that the law FnBestPlanSteps holds of every row of bytes: it answers true,and its argument reads as before. -/
import Derived.Test.YtefabmohhbhlfaaAC20
import Derived.Test.YtefabmohhbhlfaaACodeOk
import Derived.Test.YtefabmohhbhlfaaRows
import Derived.Test.YtefabmohhbhlfaaAbsLaw
namespace Go.Proofs.Ytefabmohhbhlfaa
open Go Go.Abs Go.Abs.L Go.ChangeShapes Go.WideShapes Go.ChangeAt Go.RowKit
def ZpZ:List (Nat×Go.Abs.Fn)→Prop
 | []=>True
 | (f,.text cf) :: r=>ZE f cf∧ZpZ r
 | (f,.prim p) :: r=>Zma Try.prog f p∧ZpZ r
theorem Zc6:∀ {l:List (Nat×Go.Abs.Fn)} {f:Nat} {x:Go.Abs.Fn},ZpZ l→lkp l f=some x→(∃ cf,x=.text cf∧ZE f cf)∨∃ p,x=.prim p∧Zma Try.prog f p
 | [],f,x,_,h=>by cases h
 | (g,.text cf) :: r,f,x,ha,h=>by
  simp only[lkp] at h;split at h
  ·rename_i e;cases h;subst e;exact .inl ⟨cf,rfl,ha.1⟩
  ·exact Zc6 ha.2 h
 | (g,.prim p) :: r,f,x,ha,h=>by
  simp only[lkp] at h;split at h
  ·rename_i e;cases h;subst e;exact .inr ⟨p,rfl,ha.1⟩
  ·exact Zc6 ha.2 h
theorem draws (C:Orc) (M:Zf) (nt:Nat) (hC:Qo Try.prog C):VJ Try.prog C M nt:=Zi9 (by kernel_rfl) hC
theorem all_ok:ZpZ tbl:=
 ⟨Zcl,Zd5,Zio,Zip,Zki,ZeL,ZeM,Zkj,Zkk,Ziq,Zkl,Zir,Zis,Zit,Zl3,Ziu,Zho,Ziv,ZeN,Zhp,ZfS,Zkm,Zkn,ZfT,Zhq,Ziw,Zix,Zl4,ZfU,Zhr,Zl5,ZfV,Zko,Zkp,Zkq,Zl6,ZfW,ZeO,Zq1 Zdv draws,Zkr,Zl7,Zhs,Zks,Ziy,Ziz,Zkt,Zl8,ZiA,Zku,Zht,Zkv,Zkw,Zkx,ZiB,Zhu,ZiC,Zhv,ZoF,Zky,Zkz,ZoG,ZiD,ZkA,ZiE,Znf,Zhw,ZkB,Zbu,Zhx,Zng,ZkC,trivial⟩
theorem table_ok:Zdp Try.prog Xs Ms where
 text:=fun f cf h=>by
  rcases Zc6 all_ok h with ⟨aa,e,h'⟩ | ⟨p,e,_⟩
  ·cases e;exact h'
  ·cases e
 prim:=fun f p h=>by
  rcases Zc6 all_ok h with ⟨aa,e,_⟩ | ⟨p',e,h'⟩
  ·cases e
  ·cases e;exact h'
theorem sound:Qo Try.prog (Zi Xs Ms):=Zmn (by kernel_rfl) table_ok
theorem own:ownKnob Try.prog.godebug=none:=by kernel_rfl
theorem ZtW:laidOutB Try.prog=true:=by kernel_rfl
theorem cells5:Try.prog.cellsOf 5=1:=by kernel_rfl
set_option maxRecDepth 100000 in
theorem lifted (os:Os) (aa:os.Started) (H:Type) (enc:TypeId×Value→H) :
  ReturnsInHanded {} Try.checked os 5 .any (Rows.fnBestPlanStepsSpec.pre6 enc Try.prog Try.f5 Rows.fnBestPlanStepsRow.domain false) (Rows.fnBestPlanStepsSpec.post enc Try.prog Try.f5 false true false false):=by
 refine returnsInHanded_of_change (C:=Try.checked) own aa (by kernel_rfl) Try.func5
  (ChangeSpec.witness6 (enc:=enc) (C:=Try.checked) false ⟨#[],#[.slice none 0 0],[]⟩ 8 (by kernel_rfl) (by kernel_rfl) (by kernel_rfl) (by kernel_rfl)) ?_
 intro W base args ds gs af ab hW _ _;have ad:∀ (j:Nat) t v,Try.f5.params[j]?=some t→args[j]?=some v→Value.okWide Try.prog W .any base t v:=ab;have ag:=hW;obtain⟨p,q,ai,hV,rfl,_,_⟩:=hW;have hA:DataW.TrodAll enc Try.prog W 0 (fun _=>true) true Try.f5.params.toList args.toList ds p:=ai;rw[Try.params5] at hA ad;obtain⟨v0,d0,rfl,rfl,h0⟩:=trodAll_one hA;obtain⟨rfl,rfl⟩:=trodVars_none hV;clear ai ab;simp only[K6] at ag;have aj:∀ x∈p,x.block<W.heap.size:=fun x hx=>by simpa using ag.lt x hx
 have ae:∀ (W' : World),Below W.heap.size W W'→DataW.Trod enc Try.prog W' 0 (fun b=>decide (b<W.heap.size)) true 22 v0 d0 p:=
  fun W' hn=>Below.trod ZtW (by kernel_rfl) (of_decide_eq_true (by kernel_rfl)) h0 hn aj
 obtain⟨ak,ah⟩:=Zrt Try.underlying22 Try.underlying5 cells5 (ad 0 22 v0 rfl rfl) h0;refine(Zrs sound Zce (fun q hq=>by cases hq) ah).mono fun e W' ⟨he,hn⟩=>?_;subst he;exact⟨_,rfl,⟨_,_,_,[],_,[],ag,trodAll_mk1 (shut_bool Try.underlying4 _),trodAll_mk1 (ae _ hn),rfl,hn.frame _,fun h=>by cases h⟩⟩
theorem fnBestPlanSteps_holds:Rows.FnBestPlanStepsSaid:=
 OpenClaim.holds_of_wide 5 Try.f5 rfl rfl rfl rfl rfl rfl rfl ⟨rfl,rfl,rfl,rfl,rfl⟩ rfl rfl rfl rfl rfl (by kernel_rfl) Try.func5 (by kernel_rfl)
  (of_decide_eq_true (by kernel_rfl)) (by unfold Func.isWrapper;first | (rw[Km (by decide +kernel)];kernel_rfl) | (rw[Kl (by decide +kernel)];exact⟨rfl,rfl⟩))
  (fun os aa H enc _=>lifted os aa H enc)
#print axioms fnBestPlanSteps_holds
end Go.Proofs.Ytefabmohhbhlfaa

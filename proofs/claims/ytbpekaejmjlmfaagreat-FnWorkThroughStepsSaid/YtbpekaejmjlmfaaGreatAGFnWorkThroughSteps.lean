/- The statement that the law FnWorkThroughSteps holds of every row of bytes: it answers true,and its argument reads as before. -/
import Derived.Test.YtbpekaejmjlmfaaGreatAC21
import Derived.Test.YtbpekaejmjlmfaaGreatACodeOk
import Derived.Test.YtbpekaejmjlmfaaGreatRows
import Derived.Test.YtbpekaejmjlmfaaGreatAbsLaw
namespace Go.Proofs.YtbpekaejmjlmfaaGreat
open Go Go.Abs Go.Abs.L Go.ChangeShapes Go.WideShapes Go.ChangeAt Go.RowKit
def Zy3:List (Nat×Go.Abs.Fn)→Prop
 | []=>True
 | (f,.text cf) :: r=>Zk f cf∧Zy3 r
 | (f,.prim p) :: r=>ZuE Tryz.prog f p∧Zy3 r
theorem Zip:∀ {l:List (Nat×Go.Abs.Fn)} {f:Nat} {x:Go.Abs.Fn},Zy3 l→lkp l f=some x→(∃ cf,x=.text cf∧Zk f cf)∨∃ p,x=.prim p∧ZuE Tryz.prog f p
 | [],f,x,_,h=>by cases h
 | (g,.text cf) :: r,f,x,ha,h=>by
  simp only[lkp] at h;split at h
  ·rename_i e;cases h;subst e;exact .inl ⟨cf,rfl,ha.1⟩
  ·exact Zip ha.2 h
 | (g,.prim p) :: r,f,x,ha,h=>by
  simp only[lkp] at h;split at h
  ·rename_i e;cases h;subst e;exact .inr ⟨p,rfl,ha.1⟩
  ·exact Zip ha.2 h
theorem draws (C:Orc) (M:Zp) (nt:Nat) (hC:QP Tryz.prog C):UR Tryz.prog C M nt:=Zqy (by kernel_rfl) hC
theorem all_ok:Zy3 tbl:=
 ⟨Zfh,Zhy,ZlO,ZlP,Zps,ZlQ,Zui,Zpt,ZrP,Zpu,Zpv,ZzV,Zuj,Zpw,ZnN,ZxL,ZlR,ZnO,ZnP,Zpx,Zuk,ZnQ,Zpy,ZrQ,Zul,Zpz,Zum,ZrR,Zun,ZnR,ZnS,ZnT,ZnU,ZpA,ZrS,Zuo,Zup,Zuq,ZlS,Zkx,Ztd ZiP draws,ZrT,ZnV,ZrU,ZpB,ZjF,ZnW,ZrV,ZlT,ZnX,ZnY,ZpC,ZpD,ZpE,ZpF,Zv1,ZnZ,Zn0,ZrW,Zur,ZpG,ZpH,Zn1,Zus,Zn2,ZpI,ZrX,Zn3,ZpJ,ZgY,ZlU,Zn4,ZxM,ZrY,Zut,ZrZ,Zr0,ZpK,Zr1,Zr2,Zuu,Zn5,Zr3,Zn6,Zn7,ZpL,Zn8,ZpM,Zr4,ZpN,ZpO,Zn9,Zky,Zoa,ZpP,ZpQ,ZpR,ZpS,Zuv,ZxN,ZzW,ZpT,Zr5,Zr6,ZpU,Zv2,Zr7,Zuw,Zr8,Zv3,Zob,Zf9,Zoc,ZpV,Zr9,Zux,Zod,Zuy,Zsa,Zsb,Zv4,Zsc,Zsd,ZpW,ZpX,Zuz,Zse,Zsf,Zsg,Zsh,Zga,Zoe,ZpY,ZlV,Zof,Zsi,Zsj,Zv5,ZuA,Zsk,Zsl,Zsm,ZxO,ZpZ,Zsn,Zp0,Zso,ZBq Zkz draws,Zsp,ZlW,Ztd ZjG draws,Zsq,Zv6,Zog,Zp1,Zv7,Zp2,Zsr,Zss,Zv8,Zoh,Zv9,Zoi,Zst,Zoj,Zwa,Zsu,trivial⟩
theorem table_ok:ZiJ Tryz.prog Xs Ms where
 text:=fun f cf h=>by
  rcases Zip all_ok h with ⟨aa,e,h'⟩ | ⟨p,e,_⟩
  ·cases e;exact h'
  ·cases e
 prim:=fun f p h=>by
  rcases Zip all_ok h with ⟨aa,e,_⟩ | ⟨p',e,h'⟩
  ·cases e
  ·cases e;exact h'
theorem sound:QP Tryz.prog (Zd Xs Ms):=ZuS (by kernel_rfl) table_ok
theorem own:ownKnob Tryz.prog.godebug=none:=by kernel_rfl
theorem ZCK:laidOutB Tryz.prog=true:=by kernel_rfl
theorem cells5:Tryz.prog.cellsOf 5=1:=by kernel_rfl
set_option maxRecDepth 100000 in
theorem lifted (os:Os) (aa:os.Started) (H:Type) (enc:TypeId×Value→H) :
  ReturnsInHanded {} Tryz.checked os 3 .any (Rows.fnWorkThroughStepsSpec.pre6 enc Tryz.prog Tryz.f3 Rows.fnWorkThroughStepsRow.domain false) (Rows.fnWorkThroughStepsSpec.post enc Tryz.prog Tryz.f3 false true false false):=by
 refine returnsInHanded_of_change (C:=Tryz.checked) own aa (by kernel_rfl) Tryz.func3
  (ChangeSpec.witness6 (enc:=enc) (C:=Tryz.checked) false ⟨#[],#[.slice none 0 0],[]⟩ 8 (by kernel_rfl) (by kernel_rfl) (by kernel_rfl) (by kernel_rfl)) ?_
 intro W base args ds gs af ab hW _ _;have ad:∀ (j:Nat) t v,Tryz.f3.params[j]?=some t→args[j]?=some v→Value.okWide Tryz.prog W .any base t v:=ab;have ag:=hW;obtain⟨p,q,ai,hV,rfl,_,_⟩:=hW;have hA:DataW.TrodAll enc Tryz.prog W 0 (fun _=>true) true Tryz.f3.params.toList args.toList ds p:=ai;rw[Tryz.params3] at hA ad;obtain⟨v0,d0,rfl,rfl,h0⟩:=trodAll_one hA;obtain⟨rfl,rfl⟩:=trodVars_none hV;clear ai ab;simp only[KJ] at ag;have aj:∀ x∈p,x.block<W.heap.size:=fun x hx=>by simpa using ag.lt x hx
 have ae:∀ (W' : World),Below W.heap.size W W'→DataW.Trod enc Tryz.prog W' 0 (fun b=>decide (b<W.heap.size)) true 22 v0 d0 p:=
  fun W' hn=>Below.trod ZCK (by kernel_rfl) (of_decide_eq_true (by kernel_rfl)) h0 hn aj
 obtain⟨ak,ah⟩:=ZAv Tryz.underlying22 Tryz.underlying5 cells5 (ad 0 22 v0 rfl rfl) h0;refine(ZAu sound Zfc (fun q hq=>by cases hq) ah).mono fun e W' ⟨he,hn⟩=>?_;subst he;exact⟨_,rfl,⟨_,_,_,[],_,[],ag,trodAll_mk1 (shut_bool Tryz.underlying4 _),trodAll_mk1 (ae _ hn),rfl,hn.frame _,fun h=>by cases h⟩⟩
theorem fnWorkThroughSteps_holds:Rows.FnWorkThroughStepsSaid:=
 OpenClaim.holds_of_wide 3 Tryz.f3 rfl rfl rfl rfl rfl rfl rfl ⟨rfl,rfl,rfl,rfl,rfl⟩ rfl rfl rfl rfl rfl (by kernel_rfl) Tryz.func3 (by kernel_rfl)
  (of_decide_eq_true (by kernel_rfl)) (by unfold Func.isWrapper;first | (rw[Kl (by decide +kernel)];kernel_rfl) | (rw[Ki (by decide +kernel)];exact⟨rfl,rfl⟩))
  (fun os aa H enc _=>lifted os aa H enc)
#print axioms fnWorkThroughSteps_holds
end Go.Proofs.YtbpekaejmjlmfaaGreat

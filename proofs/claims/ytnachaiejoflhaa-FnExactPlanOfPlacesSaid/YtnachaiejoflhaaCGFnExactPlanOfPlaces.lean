/- The statement that the law FnExactPlanOfPlaces holds of all arguments that read as data: it answers true,and its arguments read as before. -/
import Derived.Test.YtnachaiejoflhaaCC7
import Derived.Test.YtnachaiejoflhaaCCodeOk
import Derived.Test.YtnachaiejoflhaaRows
import Derived.Test.YtnachaiejoflhaaAbsArg2
namespace Go.Proofs.Ytnachaiejoflhaa
open Go Go.Abs Go.Abs.L Go.ChangeShapes Go.WideShapes Go.ChangeAt Go.RowKit
def ZnE:List (Nat×Go.Abs.Fn)→Prop
 | []=>True
 | (f,.text cf) :: r=>ZF f cf∧ZnE r
 | (f,.prim p) :: r=>Zi6 Try.prog f p∧ZnE r
theorem Zbw:∀ {l:List (Nat×Go.Abs.Fn)} {f:Nat} {x:Go.Abs.Fn},ZnE l→lkp l f=some x→(∃ cf,x=.text cf∧ZF f cf)∨∃ p,x=.prim p∧Zi6 Try.prog f p
 | [],f,x,_,h=>by cases h
 | (g,.text cf) :: r,f,x,ha,h=>by
  simp only[lkp] at h;split at h
  ·rename_i e;cases h;subst e;exact .inl ⟨cf,rfl,ha.1⟩
  ·exact Zbw ha.2 h
 | (g,.prim p) :: r,f,x,ha,h=>by
  simp only[lkp] at h;split at h
  ·rename_i e;cases h;subst e;exact .inr ⟨p,rfl,ha.1⟩
  ·exact Zbw ha.2 h
theorem draws (C:Orc) (M:Zf) (nt:Nat) (hC:Z4 Try.prog C):Yv Try.prog C M nt:=ZfS (by kernel_rfl) hC
theorem all_ok:ZnE tbl:=
 ⟨UZ,Zly,ZhL,Zlz,ZlA,ZlB,ZhM,ZhN,Zdq,ZhO,Zdr,ZhP,Ze4,ZhQ,Zj5,Zhd,Zj6,Zj7,Zj8,ZhR,ZmU,Zj9,Zhe,Zd9,Zka,Zkb,Zea,Ze5,Zkc,Zkd,Zhf,Zke,ZlC,Zhg,ZhS,ZlD,ZhT,ZhU,ZmV,ZmW,ZoK,Zhh,ZmX,Zhi,ZhV,ZhW,Zhj,Ze6,Zhk,Zhl,Zhm,Ze7,ZlE,ZlF,Ze8,ZhX,ZlG,ZhY,trivial⟩
theorem table_ok:Zbo Try.prog Xs Ms where
 text:=fun f cf h=>by
  rcases Zbw all_ok h with ⟨aa,e,h'⟩ | ⟨p,e,_⟩
  ·cases e;exact h'
  ·cases e
 prim:=fun f p h=>by
  rcases Zbw all_ok h with ⟨aa,e,_⟩ | ⟨p',e,h'⟩
  ·cases e
  ·cases e;exact h'
theorem sound:Z4 Try.prog (Zi Xs Ms):=Zjj (by kernel_rfl) table_ok
theorem own:ownKnob Try.prog.godebug=none:=by kernel_rfl
theorem Zrd:laidOutB Try.prog=true:=by kernel_rfl
theorem hI:Try.prog.underlying 3=some (.int .i64):=Try.underlying3
theorem hB:Try.prog.underlying 4=some .bool:=Try.underlying4
theorem sT44:Qb Try.prog 44 [3,3,42]:=⟨_,Try.underlying44,by kernel_rfl⟩
theorem sT157:Qb Try.prog 157 [3,3,4,3]:=⟨_,Try.underlying157,by kernel_rfl⟩
theorem sT140:Qb Try.prog 140 [3,4,138]:=⟨_,Try.underlying140,by kernel_rfl⟩
theorem sT138:Qb Try.prog 138 [3,3,3,3]:=⟨_,Try.underlying138,by kernel_rfl⟩
theorem argT:Zi4 Try.prog [44,3,42,157,4,67,140,138]=true:=by kernel_rfl
theorem ZoL:∀ t∈[44,67],Try.prog.readableRec t=true∧t<Try.prog.types.size:=by
 intro t ht;simp only[Kf,LK,or_false] at ht;rcases ht with rfl | rfl
 ·exact⟨by kernel_rfl,of_decide_eq_true (by kernel_rfl)⟩
 ·exact⟨by kernel_rfl,of_decide_eq_true (by kernel_rfl)⟩
theorem law_ev (xs:List D) (h:Zds Try.prog [44,67] xs):Zi Xs Ms Qo (xs.map .d) []=some (.d (.bool true),[]):=by
 obtain⟨n0,e0,y0,rfl,t0,h0⟩:=Zec h;obtain⟨n1,e1,y1,rfl,t1,h1⟩:=Zec h0;obtain rfl:=ZlH h1;obtain⟨a0,o0,_,g0,_⟩:=(ZlJ hI hB sT157 Try.underlying42 sT44) n0 e0 t0;rw[g0];obtain⟨a1,o1,_,g1,_⟩:=(U1 Try.underlying67 (Zkg hI hB sT138 sT140)) n1 e1 t1;rw[g1];exact UT a0 a1 o0 o1
set_option maxRecDepth 100000 in
theorem lifted (os:Os) (aa:os.Started) (H:Type) (enc:TypeId×Value→H) :
  ReturnsInHanded {} Try.checked os 5 .any (Rows.fnExactPlanOfPlacesSpec.pre6 enc Try.prog Try.f5 Rows.fnExactPlanOfPlacesRow.domain false) (Rows.fnExactPlanOfPlacesSpec.post enc Try.prog Try.f5 false true false false):=by
 refine returnsInHanded_of_change (C:=Try.checked) own aa (by kernel_rfl) Try.func5
  (ChangeSpec.witness6 (enc:=enc) (C:=Try.checked) false ⟨#[],#[.agg #[Value.int .i64 0,Value.int .i64 0,.slice none 0 0],.slice none 0 0],[]⟩ 8 (by kernel_rfl) (by kernel_rfl) (by kernel_rfl) (by kernel_rfl)) ?_
 intro W base args ds gs ae ab hW _ _;have ad:∀ (j:Nat) t v,Try.f5.params[j]?=some t→args[j]?=some v→Value.okWide Try.prog W .any base t v:=ab;have af:=hW;obtain⟨p,q,ai,hV,rfl,_,_⟩:=hW;have hA:DataW.TrodAll enc Try.prog W 0 (fun _=>true) true Try.f5.params.toList args.toList ds p:=ai;rw[Try.params5] at hA ad;obtain⟨rfl,rfl⟩:=trodVars_none hV;clear ai ab;simp only[KY] at af;have aj:∀ x∈p,x.block<W.heap.size:=fun x hx=>by simpa using af.lt x hx
 have ag:DataW.TrodAll enc Try.prog W 0 (fun _=>true) true [44,67] args.toList ds p:=hA;obtain⟨_,_,d0,an,_,_,_,rfl,_,_,ak⟩:=trodAll_cons ag;obtain⟨_,_,d1,ao,_,_,_,rfl,_,_,al⟩:=trodAll_cons ak;obtain rfl:=(trodAll_nil al).2.1;obtain⟨xs,am,ah⟩:=Zkf argT (by decide) (fun j t v ht hv=>ad j t v (by simpa using ht) (by simpa using hv)) ag;refine(ZlI sound (law_ev xs am) (fun q hq=>by cases hq) ah).mono fun e W' ⟨he,hn⟩=>?_;subst he;exact⟨_,rfl,⟨_,_,_,[],_,[],af,trodAll_mk1 (shut_bool Try.underlying4 _),Zbz Zrd hn ZoL aj ag,rfl,hn.frame _,fun h=>by cases h⟩⟩
theorem fnExactPlanOfPlaces_holds:Rows.FnExactPlanOfPlacesSaid:=
 OpenClaim.holds_of_wide 5 Try.f5 rfl rfl rfl rfl rfl rfl rfl ⟨rfl,rfl,rfl,rfl,rfl⟩ rfl rfl rfl rfl rfl (by kernel_rfl) Try.func5 (by kernel_rfl)
  (of_decide_eq_true (by kernel_rfl)) (by unfold Func.isWrapper;first | (rw[Ko (by decide +kernel)];kernel_rfl) | (rw[Kk (by decide +kernel)];exact⟨rfl,rfl⟩))
  (fun os aa H enc _=>lifted os aa H enc)
#print axioms fnExactPlanOfPlaces_holds
end Go.Proofs.Ytnachaiejoflhaa

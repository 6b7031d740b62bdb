/- The statement that the law FnExactRemnantsOf holds of all arguments that read as data: it answers true,and its arguments read as before. -/
import Derived.Test.YtnachaiejoflhaaBC6
import Derived.Test.YtnachaiejoflhaaBCodeOk
import Derived.Test.YtnachaiejoflhaaRows
import Derived.Test.YtnachaiejoflhaaAbsArg2
namespace Go.Proofs.Ytnachaiejoflhaa
open Go Go.Abs Go.Abs.L Go.ChangeShapes Go.WideShapes Go.ChangeAt Go.RowKit
def ZoV:List (Nat×Go.Abs.Fn)→Prop
 | []=>True
 | (f,.text cf) :: r=>Zv f cf∧ZoV r
 | (f,.prim p) :: r=>Zkc Try.prog f p∧ZoV r
theorem ZcE:∀ {l:List (Nat×Go.Abs.Fn)} {f:Nat} {x:Go.Abs.Fn},ZoV l→lkp l f=some x→(∃ cf,x=.text cf∧Zv f cf)∨∃ p,x=.prim p∧Zkc Try.prog f p
 | [],f,x,_,h=>by cases h
 | (g,.text cf) :: r,f,x,ha,h=>by
  simp only[lkp] at h;split at h
  ·rename_i e;cases h;subst e;exact .inl ⟨cf,rfl,ha.1⟩
  ·exact ZcE ha.2 h
 | (g,.prim p) :: r,f,x,ha,h=>by
  simp only[lkp] at h;split at h
  ·rename_i e;cases h;subst e;exact .inr ⟨p,rfl,ha.1⟩
  ·exact ZcE ha.2 h
theorem draws (C:Orc) (M:Zh) (nt:Nat) (hC:Qe Try.prog C):YN Try.prog C M nt:=Zg2 (by kernel_rfl) hC
theorem all_ok:ZoV tbl:=
 ⟨Zbe,ZmJ,ZiP,ZmK,ZmL,ZmM,ZmN,ZmO,ZmP,ZiQ,ZiR,ZiS,Zla,Zgc,Zlb,Zgd,ZiT,Zlc,Zia,Zge,Zgf,Zld,Zib,Zle,Zlf,Zic,Zlg,Zlh,Zli,ZiU,Zob,Zlj,Zid,Zlk,ZmQ,Zgg,ZiV,Zll,ZiW,ZmR,ZiX,Zfm,ZmS,Zie,ZiY,ZiZ,Zoc,ZmT,Zif,Zi0,Zi1,Zi2,Zi3,Zod,Zig,Zi4,Zi5,Zih,Zi6,Zlm,Zi7,Zii,ZmU,Zgh,Zi8,Zij,Zgi,ZmV,Zik,Zil,Zgj,Zi9,Zoe,Zgk,ZmW,ZmX,ZmY,Zja,Zjb,trivial⟩
theorem table_ok:Zcz Try.prog Xs Ms where
 text:=fun f cf h=>by
  rcases ZcE all_ok h with ⟨aa,e,h'⟩ | ⟨p,e,_⟩
  ·cases e;exact h'
  ·cases e
 prim:=fun f p h=>by
  rcases ZcE all_ok h with ⟨aa,e,_⟩ | ⟨p',e,h'⟩
  ·cases e
  ·cases e;exact h'
theorem sound:Qe Try.prog (Zi Xs Ms):=Zkp (by kernel_rfl) table_ok
theorem own:ownKnob Try.prog.godebug=none:=by kernel_rfl
theorem Zsw:laidOutB Try.prog=true:=by kernel_rfl
theorem hI:Try.prog.underlying 3=some (.int .i64):=Try.underlying3
theorem hB:Try.prog.underlying 4=some .bool:=Try.underlying4
theorem sT78:Qc Try.prog 78 [3,3,3,76]:=⟨_,Try.underlying78,by kernel_rfl⟩
theorem sT138:Qc Try.prog 138 [3,3,3,3]:=⟨_,Try.underlying138,by kernel_rfl⟩
theorem sT44:Qc Try.prog 44 [3,3,42]:=⟨_,Try.underlying44,by kernel_rfl⟩
theorem sT157:Qc Try.prog 157 [3,3,4,3]:=⟨_,Try.underlying157,by kernel_rfl⟩
theorem sT47:Qc Try.prog 47 [3,3,3,4,45]:=⟨_,Try.underlying47,by kernel_rfl⟩
theorem argT:Zka Try.prog [78,3,76,138,44,42,157,4,47,45]=true:=by kernel_rfl
theorem ZpW:∀ t∈[78,44,47,3,3],Try.prog.readableRec t=true∧t<Try.prog.types.size:=by
 intro t ht;simp only[Ke,LB,or_false] at ht;rcases ht with rfl | rfl | rfl | rfl | rfl
 ·exact⟨by kernel_rfl,of_decide_eq_true (by kernel_rfl)⟩
 ·exact⟨by kernel_rfl,of_decide_eq_true (by kernel_rfl)⟩
 ·exact⟨by kernel_rfl,of_decide_eq_true (by kernel_rfl)⟩
 ·exact⟨by kernel_rfl,of_decide_eq_true (by kernel_rfl)⟩
 ·exact⟨by kernel_rfl,of_decide_eq_true (by kernel_rfl)⟩
theorem law_ev (xs:List D) (h:Zez Try.prog [78,44,47,3,3] xs):Zi Xs Ms QK (xs.map .d) []=some (.d (.bool true),[]):=by
 obtain⟨n0,e0,y0,rfl,t0,h0⟩:=WL h;obtain⟨n1,e1,y1,rfl,t1,h1⟩:=WL h0;obtain⟨n2,e2,y2,rfl,t2,h2⟩:=WL h1;obtain⟨n3,e3,y3,rfl,t3,h3⟩:=WL h2;obtain⟨n4,e4,y4,rfl,t4,h4⟩:=WL h3;obtain rfl:=ZmZ h4;obtain⟨a0,o0,_,g0,_⟩:=(Zfo hI sT138 Try.underlying76 sT78) n0 e0 t0;rw[g0];obtain⟨a1,o1,_,g1,_⟩:=(Zm1 hI hB sT157 Try.underlying42 sT44) n1 e1 t1;rw[g1];obtain⟨a2,o2,_,g2,_⟩:=(Zm2 hI hB Try.underlying45 sT47) n2 e2 t2;rw[g2];obtain⟨a3,o3,_,g3,_⟩:=(ZY hI) n3 e3 t3;rw[g3];obtain⟨a4,o4,_,g4,_⟩:=(ZY hI) n4 e4 t4;rw[g4];exact ZaU a0 a1 a2 a3 a4 o0 o1 o2
set_option maxRecDepth 100000 in
theorem lifted (os:Os) (aa:os.Started) (H:Type) (enc:TypeId×Value→H) :
  ReturnsInHanded {} Try.checked os 6 .any (Rows.fnExactRemnantsOfSpec.pre6 enc Try.prog Try.f6 Rows.fnExactRemnantsOfRow.domain false) (Rows.fnExactRemnantsOfSpec.post enc Try.prog Try.f6 false true false false):=by
 refine returnsInHanded_of_change (C:=Try.checked) own aa (by kernel_rfl) Try.func6
  (ChangeSpec.witness6 (enc:=enc) (C:=Try.checked) false ⟨#[],#[.agg #[Value.int .i64 0,Value.int .i64 0,Value.int .i64 0,.slice none 0 0],.agg #[Value.int .i64 0,Value.int .i64 0,.slice none 0 0],.agg #[Value.int .i64 0,Value.int .i64 0,Value.int .i64 0,.bool false,.slice none 0 0],Value.int .i64 0,Value.int .i64 0],[]⟩ 8 (by kernel_rfl) (by kernel_rfl) (by kernel_rfl) (by kernel_rfl)) ?_
 intro W base args ds gs ae ab hW _ _;have ad:∀ (j:Nat) t v,Try.f6.params[j]?=some t→args[j]?=some v→Value.okWide Try.prog W .any base t v:=ab;have af:=hW;obtain⟨p,q,ai,hV,rfl,_,_⟩:=hW;have hA:DataW.TrodAll enc Try.prog W 0 (fun _=>true) true Try.f6.params.toList args.toList ds p:=ai;rw[Try.params6] at hA ad;obtain⟨rfl,rfl⟩:=trodVars_none hV;clear ai ab;simp only[List.append_nil] at af;have aj:∀ x∈p,x.block<W.heap.size:=fun x hx=>by simpa using af.lt x hx
 have ag:DataW.TrodAll enc Try.prog W 0 (fun _=>true) true [78,44,47,3,3] args.toList ds p:=hA;obtain⟨_,_,d0,aq,_,_,_,rfl,_,_,ak⟩:=trodAll_cons ag;obtain⟨_,_,d1,ar,_,_,_,rfl,_,_,al⟩:=trodAll_cons ak;obtain⟨_,_,d2,au,_,_,_,rfl,_,_,am⟩:=trodAll_cons al;obtain⟨_,_,d3,av,_,_,_,rfl,_,_,an⟩:=trodAll_cons am;obtain⟨_,_,d4,aw,_,_,_,rfl,_,_,ao⟩:=trodAll_cons an;obtain rfl:=(trodAll_nil ao).2.1;obtain⟨xs,ap,ah⟩:=Zln argT (by decide) (fun j t v ht hv=>ad j t v (by simpa using ht) (by simpa using hv)) ag;refine(Zm0 sound (law_ev xs ap) (fun q hq=>by cases hq) ah).mono fun e W' ⟨he,hn⟩=>?_;subst he;exact⟨_,rfl,⟨_,_,_,[],_,[],af,trodAll_mk1 (shut_bool Try.underlying4 _),ZcH Zsw hn ZpW aj ag,rfl,hn.frame _,fun h=>by cases h⟩⟩
theorem fnExactRemnantsOf_holds:Rows.FnExactRemnantsOfSaid:=
 OpenClaim.holds_of_wide 6 Try.f6 rfl rfl rfl rfl rfl rfl rfl ⟨rfl,rfl,rfl,rfl,rfl⟩ rfl rfl rfl rfl rfl (by kernel_rfl) Try.func6 (by kernel_rfl)
  (of_decide_eq_true (by kernel_rfl)) (by unfold Func.isWrapper;first | (rw[Kt (by decide +kernel)];kernel_rfl) | (rw[Ko (by decide +kernel)];exact⟨rfl,rfl⟩))
  (fun os aa H enc _=>lifted os aa H enc)
#print axioms fnExactRemnantsOf_holds
end Go.Proofs.Ytnachaiejoflhaa

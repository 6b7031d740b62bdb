/- The statement that the law FnExactCutStock holds of all arguments that read as data: it answers true,and its arguments read as before. -/
import Derived.Test.YtnachaiejoflhaaDC7
import Derived.Test.YtnachaiejoflhaaDCodeOk
import Derived.Test.YtnachaiejoflhaaRows
import Derived.Test.YtnachaiejoflhaaAbsArg2
namespace Go.Proofs.Ytnachaiejoflhaa
open Go Go.Abs Go.Abs.L Go.ChangeShapes Go.WideShapes Go.ChangeAt Go.RowKit
def Zqg:List (Nat×Go.Abs.Fn)→Prop
 | []=>True
 | (f,.text cf) :: r=>Zr f cf∧Zqg r
 | (f,.prim p) :: r=>Zlk Try.prog f p∧Zqg r
theorem Zdm:∀ {l:List (Nat×Go.Abs.Fn)} {f:Nat} {x:Go.Abs.Fn},Zqg l→lkp l f=some x→(∃ cf,x=.text cf∧Zr f cf)∨∃ p,x=.prim p∧Zlk Try.prog f p
 | [],f,x,_,h=>by cases h
 | (g,.text cf) :: r,f,x,ha,h=>by
  simp only[lkp] at h;split at h
  ·rename_i e;cases h;subst e;exact .inl ⟨cf,rfl,ha.1⟩
  ·exact Zdm ha.2 h
 | (g,.prim p) :: r,f,x,ha,h=>by
  simp only[lkp] at h;split at h
  ·rename_i e;cases h;subst e;exact .inr ⟨p,rfl,ha.1⟩
  ·exact Zdm ha.2 h
theorem draws (C:Orc) (M:Zj) (nt:Nat) (hC:Qb Try.prog C):YW Try.prog C M nt:=ZhM (by kernel_rfl) hC
theorem all_ok:Zqg tbl:=
 ⟨ZcR,Zn3,ZjQ,Zn4,Zn5,Zn6,Zn7,Zn8,Zn9,ZjR,ZjS,ZjT,Zmn,Zmo,ZjU,Zmp,ZgV,ZgW,ZjV,ZjW,ZjX,ZjY,Zi3,Zi4,Zmq,Zi5,Zmr,Zms,Zi6,Zmt,Zmu,Zmv,ZjZ,Zpw,Zmw,Zi7,Zmx,Zoa,ZgX,Zj0,Zmy,Zj1,Zob,Zj2,Zf6,ZgY,Zmz,Zi8,Zi9,ZgZ,ZbS,Zf7,Zoc,Zja,Zj3,Zj4,Zpx,Zod,Zjb,Zj5,Zj6,Zj7,Zj8,Zpy,Zjc,Zj9,Zka,Zjd,Zkb,ZmA,Zkc,Zje,Zoe,Zg0,Zkd,Zjf,Zg1,Zof,Zjg,Zjh,Zji,Zjj,Zjk,Zg2,Zke,Zpz,Zg3,Zog,Zoh,Zoi,Zkf,Zkg,trivial⟩
theorem table_ok:Zdd Try.prog Xs Ms where
 text:=fun f cf h=>by
  rcases Zdm all_ok h with ⟨aa,e,h'⟩ | ⟨p,e,_⟩
  ·cases e;exact h'
  ·cases e
 prim:=fun f p h=>by
  rcases Zdm all_ok h with ⟨aa,e,_⟩ | ⟨p',e,h'⟩
  ·cases e
  ·cases e;exact h'
theorem sound:Qb Try.prog (Zh Xs Ms):=Zlx (by kernel_rfl) table_ok
theorem own:ownKnob Try.prog.godebug=none:=by kernel_rfl
theorem ZtK:laidOutB Try.prog=true:=by kernel_rfl
theorem hI:Try.prog.underlying 3=some (.int .i64):=Try.underlying3
theorem hB:Try.prog.underlying 4=some .bool:=Try.underlying4
theorem sT78:Z9 Try.prog 78 [3,3,3,76]:=⟨_,Try.underlying78,by kernel_rfl⟩
theorem sT138:Z9 Try.prog 138 [3,3,3,3]:=⟨_,Try.underlying138,by kernel_rfl⟩
theorem sT44:Z9 Try.prog 44 [3,3,42]:=⟨_,Try.underlying44,by kernel_rfl⟩
theorem sT157:Z9 Try.prog 157 [3,3,4,3]:=⟨_,Try.underlying157,by kernel_rfl⟩
theorem sT47:Z9 Try.prog 47 [3,3,3,4,45]:=⟨_,Try.underlying47,by kernel_rfl⟩
theorem argT:Zli Try.prog [22,78,3,76,138,44,42,157,4,47,45]=true:=by kernel_rfl
theorem Zri:∀ t∈[22,3,44,47,3],Try.prog.readableRec t=true∧t<Try.prog.types.size:=by
 intro t ht;simp only[Kf,LJ,or_false] at ht;rcases ht with rfl | rfl | rfl | rfl | rfl
 ·exact⟨by kernel_rfl,of_decide_eq_true (by kernel_rfl)⟩
 ·exact⟨by kernel_rfl,of_decide_eq_true (by kernel_rfl)⟩
 ·exact⟨by kernel_rfl,of_decide_eq_true (by kernel_rfl)⟩
 ·exact⟨by kernel_rfl,of_decide_eq_true (by kernel_rfl)⟩
 ·exact⟨by kernel_rfl,of_decide_eq_true (by kernel_rfl)⟩
theorem law_ev (xs:List D) (h:Zfk Try.prog [22,3,44,47,3] xs):Zh Xs Ms Q4 (xs.map .d) []=some (.d (.bool true),[]):=by
 obtain⟨n0,e0,y0,rfl,t0,h0⟩:=W4 h;obtain⟨n1,e1,y1,rfl,t1,h1⟩:=W4 h0;obtain⟨n2,e2,y2,rfl,t2,h2⟩:=W4 h1;obtain⟨n3,e3,y3,rfl,t3,h3⟩:=W4 h2;obtain⟨n4,e4,y4,rfl,t4,h4⟩:=W4 h3;obtain rfl:=Zoj h4;obtain⟨a0,o0,_,g0,_⟩:=(Zao Try.underlying22 (Zf9 hI sT138 Try.underlying76 sT78)) n0 e0 t0;rw[g0];obtain⟨a1,o1,_,g1,_⟩:=(Z0 hI) n1 e1 t1;rw[g1];obtain⟨a2,o2,_,g2,_⟩:=(Zol hI hB sT157 Try.underlying42 sT44) n2 e2 t2;rw[g2];obtain⟨a3,o3,_,g3,_⟩:=(Zom hI hB Try.underlying45 sT47) n3 e3 t3;rw[g3];obtain⟨a4,o4,_,g4,_⟩:=(Z0 hI) n4 e4 t4;rw[g4];exact ZcG a0 a1 a2 a3 a4 o0 o2 o3
set_option maxRecDepth 100000 in
theorem lifted (os:Os) (aa:os.Started) (H:Type) (enc:TypeId×Value→H) :
  ReturnsInHanded {} Try.checked os 7 .any (Rows.fnExactCutStockSpec.pre6 enc Try.prog Try.f7 Rows.fnExactCutStockRow.domain false) (Rows.fnExactCutStockSpec.post enc Try.prog Try.f7 false true false false):=by
 refine returnsInHanded_of_change (C:=Try.checked) own aa (by kernel_rfl) Try.func7
  (ChangeSpec.witness6 (enc:=enc) (C:=Try.checked) false ⟨#[],#[.slice none 0 0,Value.int .i64 0,.agg #[Value.int .i64 0,Value.int .i64 0,.slice none 0 0],.agg #[Value.int .i64 0,Value.int .i64 0,Value.int .i64 0,.bool false,.slice none 0 0],Value.int .i64 0],[]⟩ 8 (by kernel_rfl) (by kernel_rfl) (by kernel_rfl) (by kernel_rfl)) ?_
 intro W base args ds gs ae ab hW _ _;have ad:∀ (j:Nat) t v,Try.f7.params[j]?=some t→args[j]?=some v→Value.okWide Try.prog W .any base t v:=ab;have af:=hW;obtain⟨p,q,ai,hV,rfl,_,_⟩:=hW;have hA:DataW.TrodAll enc Try.prog W 0 (fun _=>true) true Try.f7.params.toList args.toList ds p:=ai;rw[Try.params7] at hA ad;obtain⟨rfl,rfl⟩:=trodVars_none hV;clear ai ab;simp only[List.append_nil] at af;have aj:∀ x∈p,x.block<W.heap.size:=fun x hx=>by simpa using af.lt x hx
 have ag:DataW.TrodAll enc Try.prog W 0 (fun _=>true) true [22,3,44,47,3] args.toList ds p:=hA;obtain⟨_,_,d0,aq,_,_,_,rfl,_,_,ak⟩:=trodAll_cons ag;obtain⟨_,_,d1,ar,_,_,_,rfl,_,_,al⟩:=trodAll_cons ak;obtain⟨_,_,d2,au,_,_,_,rfl,_,_,am⟩:=trodAll_cons al;obtain⟨_,_,d3,av,_,_,_,rfl,_,_,an⟩:=trodAll_cons am;obtain⟨_,_,d4,aw,_,_,_,rfl,_,_,ao⟩:=trodAll_cons an;obtain rfl:=(trodAll_nil ao).2.1;obtain⟨xs,ap,ah⟩:=ZmB argT (by decide) (fun j t v ht hv=>ad j t v (by simpa using ht) (by simpa using hv)) ag;refine(Zok sound (law_ev xs ap) (fun q hq=>by cases hq) ah).mono fun e W' ⟨he,hn⟩=>?_;subst he;exact⟨_,rfl,⟨_,_,_,[],_,[],af,trodAll_mk1 (shut_bool Try.underlying4 _),Zdp ZtK hn Zri aj ag,rfl,hn.frame _,fun h=>by cases h⟩⟩
theorem fnExactCutStock_holds:Rows.FnExactCutStockSaid:=
 OpenClaim.holds_of_wide 7 Try.f7 rfl rfl rfl rfl rfl rfl rfl ⟨rfl,rfl,rfl,rfl,rfl⟩ rfl rfl rfl rfl rfl (by kernel_rfl) Try.func7 (by kernel_rfl)
  (of_decide_eq_true (by kernel_rfl)) (by unfold Func.isWrapper;first | (rw[Kt (by decide +kernel)];kernel_rfl) | (rw[Kn (by decide +kernel)];exact⟨rfl,rfl⟩))
  (fun os aa H enc _=>lifted os aa H enc)
#print axioms fnExactCutStock_holds
end Go.Proofs.Ytnachaiejoflhaa

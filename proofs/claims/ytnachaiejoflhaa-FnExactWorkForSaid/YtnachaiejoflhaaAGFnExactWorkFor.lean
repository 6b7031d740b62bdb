/- The statement that the law FnExactWorkFor holds of all arguments that read as data: it answers true,and its arguments read as before. -/
import Derived.Test.YtnachaiejoflhaaAC6
import Derived.Test.YtnachaiejoflhaaACodeOk
import Derived.Test.YtnachaiejoflhaaRows
import Derived.Test.YtnachaiejoflhaaAbsArg2
namespace Go.Proofs.Ytnachaiejoflhaa
open Go Go.Abs Go.Abs.L Go.ChangeShapes Go.WideShapes Go.ChangeAt Go.RowKit
def Zm7:List (Nat×Go.Abs.Fn)→Prop
 | []=>True
 | (f,.text cf) :: r=>ZC f cf∧Zm7 r
 | (f,.prim p) :: r=>Zjx Try.prog f p∧Zm7 r
theorem Zbf:∀ {l:List (Nat×Go.Abs.Fn)} {f:Nat} {x:Go.Abs.Fn},Zm7 l→lkp l f=some x→(∃ cf,x=.text cf∧ZC f cf)∨∃ p,x=.prim p∧Zjx Try.prog f p
 | [],f,x,_,h=>by cases h
 | (g,.text cf) :: r,f,x,ha,h=>by
  simp only[lkp] at h;split at h
  ·rename_i e;cases h;subst e;exact .inl ⟨cf,rfl,ha.1⟩
  ·exact Zbf ha.2 h
 | (g,.prim p) :: r,f,x,ha,h=>by
  simp only[lkp] at h;split at h
  ·rename_i e;cases h;subst e;exact .inr ⟨p,rfl,ha.1⟩
  ·exact Zbf ha.2 h
theorem draws (C:Orc) (M:Zf) (nt:Nat) (hC:Z6 Try.prog C):Yh Try.prog C M nt:=Zgw (by kernel_rfl) hC
theorem all_ok:Zm7 tbl:=
 ⟨ZbC,ZkC,Zjl,ZkD,Zjm,ZkE,ZkF,ZhG,ZhH,ZhI,ZkG,ZhJ,Zjn,Zjo,ZhK,Zjp,Ze0,ZhL,ZhM,Zjq,ZfM,ZfN,ZkH,Zjr,ZfO,ZfP,Zjs,Zjt,ZfQ,ZfR,ZfS,ZlZ,ZkI,Ze1,Zju,ZkJ,Ze2,Ze3,ZhN,ZkK,Ze4,Ze5,ZfT,ZfU,Zap,ZdE,ZkL,ZkM,ZkN,ZhO,ZhP,Zl0,ZhQ,ZhR,Ze6,ZfV,ZfW,ZfX,ZfY,ZhS,ZkO,ZhT,JI,Ze7,trivial⟩
theorem table_ok:Zbw Try.prog Xs Ms where
 text:=fun f cf h=>by
  rcases Zbf all_ok h with ⟨aa,e,h'⟩ | ⟨p,e,_⟩
  ·cases e;exact h'
  ·cases e
 prim:=fun f p h=>by
  rcases Zbf all_ok h with ⟨aa,e,_⟩ | ⟨p',e,h'⟩
  ·cases e
  ·cases e;exact h'
theorem sound:Z6 Try.prog (Zj Xs Ms):=ZjK (by kernel_rfl) table_ok
theorem own:ownKnob Try.prog.godebug=none:=by kernel_rfl
theorem Zqz:laidOutB Try.prog=true:=by kernel_rfl
theorem hI:Try.prog.underlying 3=some (.int .i64):=Try.underlying3
theorem hB:Try.prog.underlying 4=some .bool:=Try.underlying4
theorem sT25:Z4 Try.prog 25 [22,23,23,3,3]:=⟨_,Try.underlying25,by kernel_rfl⟩
theorem sT78:Z4 Try.prog 78 [3,3,3,76]:=⟨_,Try.underlying78,by kernel_rfl⟩
theorem sT138:Z4 Try.prog 138 [3,3,3,3]:=⟨_,Try.underlying138,by kernel_rfl⟩
theorem sT159:Z4 Try.prog 159 [157,3]:=⟨_,Try.underlying159,by kernel_rfl⟩
theorem sT157:Z4 Try.prog 157 [3,3,4,3]:=⟨_,Try.underlying157,by kernel_rfl⟩
theorem argT:Zjv Try.prog [25,22,78,3,76,138,23,159,157,4]=true:=by kernel_rfl
theorem ZnP:∀ t∈[25,3],Try.prog.readableRec t=true∧t<Try.prog.types.size:=by
 intro t ht;simp only[Ke,LC,or_false] at ht;rcases ht with rfl | rfl
 ·exact⟨by kernel_rfl,of_decide_eq_true (by kernel_rfl)⟩
 ·exact⟨by kernel_rfl,of_decide_eq_true (by kernel_rfl)⟩
theorem law_ev (xs:List D) (h:ZdF Try.prog [25,3] xs):Zj Xs Ms QS (xs.map .d) []=some (.d (.bool true),[]):=by
 obtain⟨n0,e0,y0,rfl,t0,h0⟩:=Zei h;obtain⟨n1,e1,y1,rfl,t1,h1⟩:=Zei h0;obtain rfl:=Zl1 h1;obtain⟨a0,o0,_,g0,_⟩:=(Zl3 hI hB sT138 Try.underlying76 sT78 Try.underlying22 sT157 sT159 Try.underlying23 sT25) n0 e0 t0;rw[g0];obtain⟨a1,o1,_,g1,_⟩:=(Z2 hI) n1 e1 t1;rw[g1];exact ZbB a0 a1 o0
set_option maxRecDepth 100000 in
theorem lifted (os:Os) (aa:os.Started) (H:Type) (enc:TypeId×Value→H) :
  ReturnsInHanded {} Try.checked os 3 .any (Rows.fnExactWorkForSpec.pre6 enc Try.prog Try.f3 Rows.fnExactWorkForRow.domain false) (Rows.fnExactWorkForSpec.post enc Try.prog Try.f3 false true false false):=by
 refine returnsInHanded_of_change (C:=Try.checked) own aa (by kernel_rfl) Try.func3
  (ChangeSpec.witness6 (enc:=enc) (C:=Try.checked) false ⟨#[],#[.agg #[.slice none 0 0,.slice none 0 0,.slice none 0 0,Value.int .i64 0,Value.int .i64 0],Value.int .i64 0],[]⟩ 8 (by kernel_rfl) (by kernel_rfl) (by kernel_rfl) (by kernel_rfl)) ?_
 intro W base args ds gs ae ab hW _ _;have ad:∀ (j:Nat) t v,Try.f3.params[j]?=some t→args[j]?=some v→Value.okWide Try.prog W .any base t v:=ab;have af:=hW;obtain⟨p,q,ai,hV,rfl,_,_⟩:=hW;have hA:DataW.TrodAll enc Try.prog W 0 (fun _=>true) true Try.f3.params.toList args.toList ds p:=ai;rw[Try.params3] at hA ad;obtain⟨rfl,rfl⟩:=trodVars_none hV;clear ai ab;simp only[List.append_nil] at af;have aj:∀ x∈p,x.block<W.heap.size:=fun x hx=>by simpa using af.lt x hx
 have ag:DataW.TrodAll enc Try.prog W 0 (fun _=>true) true [25,3] args.toList ds p:=hA;obtain⟨_,_,d0,an,_,_,_,rfl,_,_,ak⟩:=trodAll_cons ag;obtain⟨_,_,d1,ao,_,_,_,rfl,_,_,al⟩:=trodAll_cons ak;obtain rfl:=(trodAll_nil al).2.1;obtain⟨xs,am,ah⟩:=ZkP argT (by decide) (fun j t v ht hv=>ad j t v (by simpa using ht) (by simpa using hv)) ag;refine(Zl2 sound (law_ev xs am) (fun q hq=>by cases hq) ah).mono fun e W' ⟨he,hn⟩=>?_;subst he;exact⟨_,rfl,⟨_,_,_,[],_,[],af,trodAll_mk1 (shut_bool Try.underlying4 _),ZbL Zqz hn ZnP aj ag,rfl,hn.frame _,fun h=>by cases h⟩⟩
theorem fnExactWorkFor_holds:Rows.FnExactWorkForSaid:=
 OpenClaim.holds_of_wide 3 Try.f3 rfl rfl rfl rfl rfl rfl rfl ⟨rfl,rfl,rfl,rfl,rfl⟩ rfl rfl rfl rfl rfl (by kernel_rfl) Try.func3 (by kernel_rfl)
  (of_decide_eq_true (by kernel_rfl)) (by unfold Func.isWrapper;first | (rw[Kw (by decide +kernel)];kernel_rfl) | (rw[Ko (by decide +kernel)];exact⟨rfl,rfl⟩))
  (fun os aa H enc _=>lifted os aa H enc)
#print axioms fnExactWorkFor_holds
end Go.Proofs.Ytnachaiejoflhaa

/- The statement that the law FnExactRunSteps holds of all arguments that read as data: it answers true,and its arguments read as before. -/
import Derived.Test.YtighjmleicikhaaAC9
import Derived.Test.YtighjmleicikhaaACodeOk
import Derived.Test.YtighjmleicikhaaRows
import Derived.Test.YtighjmleicikhaaAbsArg2
namespace Go.Proofs.Ytighjmleicikhaa
open Go Go.Abs Go.Abs.L Go.ChangeShapes Go.WideShapes Go.ChangeAt Go.RowKit
def ZnG:List (Nat×Go.Abs.Fn)→Prop
 | []=>True
 | (f,.text cf) :: r=>ZF f cf∧ZnG r
 | (f,.prim p) :: r=>ZjU Try.prog f p∧ZnG r
theorem ZbF:∀ {l:List (Nat×Go.Abs.Fn)} {f:Nat} {x:Go.Abs.Fn},ZnG l→lkp l f=some x→(∃ cf,x=.text cf∧ZF f cf)∨∃ p,x=.prim p∧ZjU Try.prog f p
 | [],f,x,_,h=>by cases h
 | (g,.text cf) :: r,f,x,ha,h=>by
  simp only[lkp] at h;split at h
  ·rename_i e;cases h;subst e;exact .inl ⟨cf,rfl,ha.1⟩
  ·exact ZbF ha.2 h
 | (g,.prim p) :: r,f,x,ha,h=>by
  simp only[lkp] at h;split at h
  ·rename_i e;cases h;subst e;exact .inr ⟨p,rfl,ha.1⟩
  ·exact ZbF ha.2 h
theorem draws (C:Orc) (M:Zg) (nt:Nat) (hC:Z7 Try.prog C):YL Try.prog C M nt:=ZgS (by kernel_rfl) hC
theorem all_ok:ZnG tbl:=
 ⟨ZaW,Zh1,Zh2,ZkX,ZkY,ZkZ,Zk0,Zk1,Zk2,Zk3,Zk4,Zk5,Zh3,Zh4,Zh5,Zh6,Zh7,Zgb,ZjH,ZjI,Zed,Zdd,Zoy Zb2 draws,Zh8,Zgc,Zft,Zk6,ZjJ,Zk7,Zmq,Zh9,ZjK,ZjL,ZjM,ZjN,Zmr,ZjO,ZjP,Zgd,Zge,Zgf,ZjQ,Zia,Zgg,ZjR,Zib,Zic,Zid,Zie,Zif,Zms,Zfu,Zmt,Zk8,Zk9,Zfv,Zgh,Zgi,J5,Zfw,Zgj,trivial⟩
theorem table_ok:ZbW Try.prog Xs Ms where
 text:=fun f cf h=>by
  rcases ZbF all_ok h with ⟨aa,e,h'⟩ | ⟨p,e,_⟩
  ·cases e;exact h'
  ·cases e
 prim:=fun f p h=>by
  rcases ZbF all_ok h with ⟨aa,e,_⟩ | ⟨p',e,h'⟩
  ·cases e
  ·cases e;exact h'
theorem sound:Z7 Try.prog (Zj Xs Ms):=Zj7 (by kernel_rfl) table_ok
theorem own:ownKnob Try.prog.godebug=none:=by kernel_rfl
theorem Zrw:laidOutB Try.prog=true:=by kernel_rfl
theorem hI:Try.prog.underlying 3=some (.int .i64):=Try.underlying3
theorem hB:Try.prog.underlying 4=some .bool:=Try.underlying4
theorem sT51:Qn Try.prog 51 [3,3,49]:=⟨_,Try.underlying51,by kernel_rfl⟩
theorem sT167:Qn Try.prog 167 [3,3,4,3]:=⟨_,Try.underlying167,by kernel_rfl⟩
theorem sT54:Qn Try.prog 54 [3,3,3,4,52]:=⟨_,Try.underlying54,by kernel_rfl⟩
theorem argT:ZjS Try.prog [51,3,49,167,4,54,52,26]=true:=by kernel_rfl
theorem Zoq:∀ t∈[51,54,26],Try.prog.readableRec t=true∧t<Try.prog.types.size:=by
 intro t ht;simp only[Ke,LG,or_false] at ht;rcases ht with rfl | rfl | rfl
 ·exact⟨by kernel_rfl,of_decide_eq_true (by kernel_rfl)⟩
 ·exact⟨by kernel_rfl,of_decide_eq_true (by kernel_rfl)⟩
 ·exact⟨by kernel_rfl,of_decide_eq_true (by kernel_rfl)⟩
theorem law_ev (xs:List D) (h:Zee Try.prog [51,54,26] xs):Zj Xs Ms Q6 (xs.map .d) []=some (.d (.bool true),[]):=by
 obtain⟨n0,e0,y0,rfl,t0,h0⟩:=ZaZ h;obtain⟨n1,e1,y1,rfl,t1,h1⟩:=ZaZ h0;obtain⟨n2,e2,y2,rfl,t2,h2⟩:=ZaZ h1;obtain rfl:=Zmu h2;obtain⟨a0,o0,_,g0,_⟩:=(Zmw hI hB sT167 Try.underlying49 sT51) n0 e0 t0;rw[g0];obtain⟨a1,o1,_,g1,_⟩:=(Zmx hI hB Try.underlying52 sT54) n1 e1 t1;rw[g1];obtain⟨a2,o2,_,g2,_⟩:=(JC Try.underlying26 (Z3 hI)) n2 e2 t2;rw[g2];exact ZaO a0 a1 a2 o0 o1 o2
set_option maxRecDepth 100000 in
theorem lifted (os:Os) (aa:os.Started) (H:Type) (enc:TypeId×Value→H) :
  ReturnsInHanded {} Try.checked os 5 .any (Rows.fnExactRunStepsSpec.pre6 enc Try.prog Try.f5 Rows.fnExactRunStepsRow.domain false) (Rows.fnExactRunStepsSpec.post enc Try.prog Try.f5 false true false false):=by
 refine returnsInHanded_of_change (C:=Try.checked) own aa (by kernel_rfl) Try.func5
  (ChangeSpec.witness6 (enc:=enc) (C:=Try.checked) false ⟨#[],#[.agg #[Value.int .i64 0,Value.int .i64 0,.slice none 0 0],.agg #[Value.int .i64 0,Value.int .i64 0,Value.int .i64 0,.bool false,.slice none 0 0],.slice none 0 0],[]⟩ 8 (by kernel_rfl) (by kernel_rfl) (by kernel_rfl) (by kernel_rfl)) ?_
 intro W base args ds gs ae ab hW _ _;have ad:∀ (j:Nat) t v,Try.f5.params[j]?=some t→args[j]?=some v→Value.okWide Try.prog W .any base t v:=ab;have af:=hW;obtain⟨p,q,ai,hV,rfl,_,_⟩:=hW;have hA:DataW.TrodAll enc Try.prog W 0 (fun _=>true) true Try.f5.params.toList args.toList ds p:=ai;rw[Try.params5] at hA ad;obtain⟨rfl,rfl⟩:=trodVars_none hV;clear ai ab;simp only[Lu] at af;have aj:∀ x∈p,x.block<W.heap.size:=fun x hx=>by simpa using af.lt x hx
 have ag:DataW.TrodAll enc Try.prog W 0 (fun _=>true) true [51,54,26] args.toList ds p:=hA;obtain⟨_,_,d0,ao,_,_,_,rfl,_,_,ak⟩:=trodAll_cons ag;obtain⟨_,_,d1,ap,_,_,_,rfl,_,_,al⟩:=trodAll_cons ak;obtain⟨_,_,d2,aq,_,_,_,rfl,_,_,am⟩:=trodAll_cons al;obtain rfl:=(trodAll_nil am).2.1;obtain⟨xs,an,ah⟩:=Zla argT (by decide) (fun j t v ht hv=>ad j t v (by simpa using ht) (by simpa using hv)) ag;refine(Zmv sound (law_ev xs an) (fun q hq=>by cases hq) ah).mono fun e W' ⟨he,hn⟩=>?_;subst he;exact⟨_,rfl,⟨_,_,_,[],_,[],af,trodAll_mk1 (shut_bool Try.underlying4 _),Zcb Zrw hn Zoq aj ag,rfl,hn.frame _,fun h=>by cases h⟩⟩
theorem fnExactRunSteps_holds:Rows.FnExactRunStepsSaid:=
 OpenClaim.holds_of_wide 5 Try.f5 rfl rfl rfl rfl rfl rfl rfl ⟨rfl,rfl,rfl,rfl,rfl⟩ rfl rfl rfl rfl rfl (by kernel_rfl) Try.func5 (by kernel_rfl)
  (of_decide_eq_true (by kernel_rfl)) (by unfold Func.isWrapper;first | (rw[Ku (by decide +kernel)];kernel_rfl) | (rw[Kp (by decide +kernel)];exact⟨rfl,rfl⟩))
  (fun os aa H enc _=>lifted os aa H enc)
#print axioms fnExactRunSteps_holds
end Go.Proofs.Ytighjmleicikhaa

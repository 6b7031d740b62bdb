/- The statement that the law FnExactNextCut holds of all arguments that read as data: it answers true,and its arguments read as before. -/
import Derived.Test.YthgciclhiaoecaaGreatAC20
import Derived.Test.YthgciclhiaoecaaGreatACodeOk
import Derived.Test.YthgciclhiaoecaaGreatRows
import Derived.Test.YthgciclhiaoecaaGreatAbsArg2
namespace Go.Proofs.YthgciclhiaoecaaGreat
open Go Go.Abs Go.Abs.L Go.ChangeShapes Go.WideShapes Go.ChangeAt Go.RowKit
def AllOK:List (Nat×Go.Abs.Fn)→Prop
 | []=>True
 | (f,.text cf) :: r=>Zk f cf∧AllOK r
 | (f,.prim p) :: r=>Zng Tryz.prog f p∧AllOK r
theorem allOK_get:∀ {l:List (Nat×Go.Abs.Fn)} {f:Nat} {x:Go.Abs.Fn},AllOK l→lkp l f=some x→(∃ cf,x=.text cf∧Zk f cf)∨∃ p,x=.prim p∧Zng Tryz.prog f p
 | [],f,x,_,h=>by cases h
 | (g,.text cf) :: r,f,x,ha,h=>by
  simp only[lkp] at h;split at h
  ·rename_i e;cases h;subst e;exact .inl ⟨cf,rfl,ha.1⟩
  ·exact allOK_get ha.2 h
 | (g,.prim p) :: r,f,x,ha,h=>by
  simp only[lkp] at h;split at h
  ·rename_i e;cases h;subst e;exact .inr ⟨p,rfl,ha.1⟩
  ·exact allOK_get ha.2 h
theorem draws (C:Orc) (M:Zm) (nt:Nat) (hC:Qi Tryz.prog C):VR Tryz.prog C M nt:=ZkK (by kernel_rfl) hC
theorem all_ok:AllOK tbl:=
 ⟨Zbx,U0,Zn1,Zlw,Zn2,Zlx,Zly,Zn3,Zjg,Zha,Zhb,Zer,Zes,Zjh,Zgb,Zji,Zgc,Zjj,Zlz,Zhc,ZlA,Zjk,ZlB,Zhd,Zhe,Zhf,Zn4,Zqw,Zn5,Zn6,Zjl,ZlC,Zgd,Zhg,Zjm,Zjn,ZlD,Zjo,Zge,Zjp,Zgf,Zhh,Zgg,Zhi,Zhj,ZlE,Zgh,Zgi,Zjq,Zhk,Zhl,Zgj,ZlF,ZlG,Zn7,Zgk,Zgl,Zhm,Zhn,Zho,Zhp,Zaf,Zet,ZlH,Zgm,Zdn,Zn8,ZlI,ZlJ,Zjr,ZlK,Zjs,Zhq,Zgn,Zjt,Zn9,Zgo,Zhr,Zhs,Zht,ZlL,Zqx,Ztc,Zhu,Zoa,Zob,Zgp,Zju,Zhv,Zeu,Zgq,ZlM,Zoc,Zhw,Zjv,Zhx,Zod,Zjw,ZlN,Zjx,Zoe,Zhy,Zjy,ZlO,Zgr,Zjz,Zgs,Zgt,ZjA,ZjB,Zof,ZlP,Zqy,ZjC,ZjD,ZjE,JP,Zgu,Zog,Zhz,ZhA,Zgv,ZhB,ZjF,ZjG,ZhC,Zqz,ZhD,ZjH,ZhE,ZjI,ZjJ,ZlQ,Zgw,ZlR,ZjK,ZjL,Zoh,ZjM,ZjN,ZhF,Zgx,ZjO,ZjP,Zoi,ZhG,ZjQ,ZjR,Zoj,ZvZ Zdo draws,ZjS,Zev,ZlS,ZhH,Ztl ZcF draws,ZjT,Zok,ZjU,Zgy,Zgz,Zol,ZjV,ZjW,ZjX,ZqA,ZgA,trivial⟩
theorem table_ok:ZfV Tryz.prog Xs Ms where
 text:=fun f cf h=>by
  rcases allOK_get all_ok h with ⟨aa,e,h'⟩ | ⟨p,e,_⟩
  ·cases e;exact h'
  ·cases e
 prim:=fun f p h=>by
  rcases allOK_get all_ok h with ⟨aa,e,_⟩ | ⟨p',e,h'⟩
  ·cases e
  ·cases e;exact h'
theorem sound:Qi Tryz.prog (Zd Xs Ms):=Zl7 (by kernel_rfl) table_ok
theorem own:ownKnob Tryz.prog.godebug=none:=by kernel_rfl
theorem laidOut:laidOutB Tryz.prog=true:=by kernel_rfl
theorem hI:Tryz.prog.underlying 3=some (.int .i64):=Tryz.underlying3
theorem hB:Tryz.prog.underlying 4=some .bool:=Tryz.underlying4
theorem sT25:Z7 Tryz.prog 25 [22,23,23,3,3]:=⟨_,Tryz.underlying25,by kernel_rfl⟩
theorem sT82:Z7 Tryz.prog 82 [3,3,3,80]:=⟨_,Tryz.underlying82,by kernel_rfl⟩
theorem sT147:Z7 Tryz.prog 147 [3,3,3,3]:=⟨_,Tryz.underlying147,by kernel_rfl⟩
theorem sT97:Z7 Tryz.prog 97 [95,3]:=⟨_,Tryz.underlying97,by kernel_rfl⟩
theorem sT95:Z7 Tryz.prog 95 [3,3,4,3]:=⟨_,Tryz.underlying95,by kernel_rfl⟩
theorem argT:ZqB Tryz.prog [25,22,82,3,80,147,23,97,95,4]=true:=by kernel_rfl
theorem params_ok:∀ t∈[25],Tryz.prog.readableRec t=true∧t<Tryz.prog.types.size:=by
 intro t ht;simp only[Kf,L9,or_false] at ht;subst ht;exact⟨by kernel_rfl,of_decide_eq_true (by kernel_rfl)⟩
theorem law_ev (xs:List D) (h:ZkA Tryz.prog [25] xs):Zd Xs Ms Yf (xs.map .d) []=some (.d (.bool true),[]):=by
 obtain⟨n0,e0,y0,rfl,t0,h0⟩:=ZhK h;obtain rfl:=ZqD h0;obtain⟨a0,o0,_,g0,_⟩:=(ZqI hI hB sT147 Tryz.underlying80 sT82 Tryz.underlying22 sT95 sT97 Tryz.underlying23 sT25) n0 e0 t0;rw[g0];exact ZiY a0 o0
set_option maxRecDepth 100000 in
theorem lifted (os:Os) (aa:os.Started) (H:Type) (enc:TypeId×Value→H) :
  ReturnsInHanded {} Tryz.checked os 3 .any (Rows.fnExactNextCutSpec.pre6 enc Tryz.prog Tryz.f3 Rows.fnExactNextCutRow.domain false) (Rows.fnExactNextCutSpec.post enc Tryz.prog Tryz.f3 false true false false):=by
 refine returnsInHanded_of_change (C:=Tryz.checked) own aa (by kernel_rfl) Tryz.func3
  (ChangeSpec.witness6 (enc:=enc) (C:=Tryz.checked) false ⟨#[],#[.agg #[.slice none 0 0,.slice none 0 0,.slice none 0 0,Value.int .i64 0,Value.int .i64 0]],[]⟩ 8 (by kernel_rfl) (by kernel_rfl) (by kernel_rfl) (by kernel_rfl)) ?_
 intro W base args ds gs ae ab hW _ _;have ad:∀ (j:Nat) t v,Tryz.f3.params[j]?=some t→args[j]?=some v→Value.okWide Tryz.prog W .any base t v:=ab;have af:=hW;obtain⟨p,q,ai,hV,rfl,_,_⟩:=hW;have hA:DataW.TrodAll enc Tryz.prog W 0 (fun _=>true) true Tryz.f3.params.toList args.toList ds p:=ai;rw[Tryz.params3] at hA ad;obtain⟨rfl,rfl⟩:=trodVars_none hV;clear ai ab;simp only[KE] at af;have aj:∀ x∈p,x.block<W.heap.size:=fun x hx=>by simpa using af.lt x hx
 have ag:DataW.TrodAll enc Tryz.prog W 0 (fun _=>true) true [25] args.toList ds p:=hA;obtain⟨_,_,d0,am,_,_,_,rfl,_,_,ak⟩:=trodAll_cons ag;obtain rfl:=(trodAll_nil ak).2.1;obtain⟨xs,al,ah⟩:=ZqE argT (by decide) (fun j t v ht hv=>ad j t v (by simpa using ht) (by simpa using hv)) ag;refine(ZqF sound (law_ev xs al) (fun q hq=>by cases hq) ah).mono fun e W' ⟨he,hn⟩=>?_;subst he;exact⟨_,rfl,⟨_,_,_,[],_,[],af,trodAll_mk1 (shut_bool Tryz.underlying4 _),Zd3 laidOut hn params_ok aj ag,rfl,hn.frame _,fun h=>by cases h⟩⟩
theorem fnExactNextCut_holds:Rows.FnExactNextCutSaid:=
 OpenClaim.holds_of_wide 3 Tryz.f3 rfl rfl rfl rfl rfl rfl rfl ⟨rfl,rfl,rfl,rfl,rfl⟩ rfl rfl rfl rfl rfl (by kernel_rfl) Tryz.func3 (by kernel_rfl)
  (of_decide_eq_true (by kernel_rfl)) (by unfold Func.isWrapper;first | (rw[Kj (by decide +kernel)];kernel_rfl) | (rw[Kg (by decide +kernel)];exact⟨rfl,rfl⟩))
  (fun os aa H enc _=>lifted os aa H enc)
#print axioms fnExactNextCut_holds
end Go.Proofs.YthgciclhiaoecaaGreat

/- The statement that the law FnExactRunBook holds of all arguments that read as data: it answers true,and its arguments read as before. -/
import Derived.Test.YtdhgppkldoopaaaGreatAC16
import Derived.Test.YtdhgppkldoopaaaGreatACodeOk
import Derived.Test.YtdhgppkldoopaaaGreatRows
import Derived.Test.YtdhgppkldoopaaaGreatAbsArg2
namespace Go.Proofs.YtdhgppkldoopaaaGreat
open Go Go.Abs Go.Abs.L Go.ChangeShapes Go.WideShapes Go.ChangeAt Go.RowKit
def AllOK:List (Nat×Go.Abs.Fn)→Prop
 | []=>True
 | (f,.text cf) :: r=>Zk f cf∧AllOK r
 | (f,.prim p) :: r=>ZlG Tryz.prog f p∧AllOK r
theorem allOK_get:∀ {l:List (Nat×Go.Abs.Fn)} {f:Nat} {x:Go.Abs.Fn},AllOK l→lkp l f=some x→(∃ cf,x=.text cf∧Zk f cf)∨∃ p,x=.prim p∧ZlG Tryz.prog f p
 | [],f,x,_,h=>by cases h
 | (g,.text cf) :: r,f,x,ha,h=>by
  simp only[lkp] at h;split at h
  ·rename_i e;cases h;subst e;exact .inl ⟨cf,rfl,ha.1⟩
  ·exact allOK_get ha.2 h
 | (g,.prim p) :: r,f,x,ha,h=>by
  simp only[lkp] at h;split at h
  ·rename_i e;cases h;subst e;exact .inr ⟨p,rfl,ha.1⟩
  ·exact allOK_get ha.2 h
theorem draws (C:Orc) (M:Zm) (nt:Nat) (hC:Qf Tryz.prog C):Vs Tryz.prog C M nt:=Zjo (by kernel_rfl) hC
theorem all_ok:AllOK tbl:=
 ⟨ZaN,Jf,ZhT,Zj3,ZhU,Zj4,Zmn,ZhV,Zfg,ZhW,ZhX,Zmo,Zj5,Zfh,Zmp,Zj6,Zfi,Zj7,Zf2,Zj8,ZhY,Zj9,Zf3,Zfj,Zf4,Zfk,Zf5,ZhZ,Zka,Zmq,Zf6,Zfl,Zh0,Zkb,ZoC,Zmr,Zms,Zf7,Zh1,Zfm,ZoD,Zmt,Zmu,Zh2,Zkc,Zh3,Zh4,Zkd,Zke,Zfn,Zfo,Zkf,Zh5,Zfp,Zf8,Zh6,Zh7,Zkg,Zmv,Zkh,Zfq,Zfr,Zf9,Zga,Zgb,Zh8,Zki,Zfs,Zh9,Zft,Zfu,Zmw,Zkj,Zmx,Zmy,Zfv,Zgc,Zgd,Zge,Zgf,Zia,Zgg,Zkk,Zib,Zgh,Zmz,Zic,Zkl,Zid,ZmA,ZmB,Zfw,Zgi,Zie,Zgj,Zif,Zkm,Zgk,Zfx,Zkn,Zko,Zig,Zih,ZmC,Zii,Zij,Zgl,Zik,Zil,Zim,Zin,Zio,Zgm,ZoE,Zgn,Zip,Zgo,Ziq,Zir,Zis,Zit,Jg,Zfy,JF,Zdv,ZtP Zcm draws,Ziu,Zdw,Zkp,Zgp,Zrc ZbK draws,Ziv,Zkq,ZmD,Zgq,Ziw,Zix,ZmE,ZmF,Zgr,Zfz,ZmG,Ziy,Zkr,Zgs,Ziz,ZiA,ZmH,ZfA,ZoF,ZiB,ZfB,Zgt,trivial⟩
theorem table_ok:Ze1 Tryz.prog Xs Ms where
 text:=fun f cf h=>by
  rcases allOK_get all_ok h with ⟨aa,e,h'⟩ | ⟨p,e,_⟩
  ·cases e;exact h'
  ·cases e
 prim:=fun f p h=>by
  rcases allOK_get all_ok h with ⟨aa,e,_⟩ | ⟨p',e,h'⟩
  ·cases e
  ·cases e;exact h'
theorem sound:Qf Tryz.prog (Zf Xs Ms):=ZkG (by kernel_rfl) table_ok
theorem own:ownKnob Tryz.prog.godebug=none:=by kernel_rfl
theorem laidOut:laidOutB Tryz.prog=true:=by kernel_rfl
theorem reads_Event {P:Program} {i b:TypeId} (hi:P.underlying i=some (.int .i64)) (hb:P.underlying b=some .bool) {t x p l q s:TypeId} (hx:ZG P x [i,i,i,i]) (hp:ZG P p [i,i,b,i]) (hl:ZG P l [p,i])
  (hs:P.underlying s=some (.slice q)) (hq:ZG P q [i,i,i,b,s]) (h:ZG P t [i,i,x,l,q]):ZbL P t Zt.enc (fun e=>(I64 e.kind∧I64 e.label∧e.box.ok∧e.line.ok)∧e.plan.ok):=by
 intro n ds hd;cases n with
 | zero=>exact hd.elim
 | succ n=>
  obtain⟨_,_,rfl,h1,_,_,rfl,h2,_,_,rfl,h3,_,_,rfl,h4,_,_,rfl,h5,rfl⟩:=Yv h hd;obtain⟨a1,g1,rfl,_⟩:=Z7 hi n _ h1;obtain⟨a2,g2,rfl,_⟩:=Z7 hi n _ h2;obtain⟨a3,g3,rfl,_⟩:=Zhg hi hx n _ h3;obtain⟨a4,g4,rfl,_⟩:=Zew hi hb hp hl n _ h4;obtain⟨a5,g5,rfl,_⟩:=ZoM hi hb hs hq n _ h5;have e:(ZgJ a1).cells++((ZgJ a2).cells++((Box.enc a3).cells++((Zc.enc a4).cells++(a5.enc.cells++[]))))=(Zt.enc ⟨a1,a2,a3,a4,a5⟩).cells:=by
   rw[Ln];rfl
  refine⟨⟨a1,a2,a3,a4,a5⟩,⟨⟨g1,g2,g3,g4⟩,g5⟩,e,?_,?_⟩
  ·rw[XT h,e];rfl
  ·rw[e];rfl
theorem hI:Tryz.prog.underlying 3=some (.int .i64):=Tryz.underlying3
theorem hB:Tryz.prog.underlying 4=some .bool:=Tryz.underlying4
theorem sT51:ZG Tryz.prog 51 [3,3,42,46,49]:=⟨_,Tryz.underlying51,by kernel_rfl⟩
theorem sT42:ZG Tryz.prog 42 [3,3,3,3]:=⟨_,Tryz.underlying42,by kernel_rfl⟩
theorem sT46:ZG Tryz.prog 46 [44,3]:=⟨_,Tryz.underlying46,by kernel_rfl⟩
theorem sT44:ZG Tryz.prog 44 [3,3,4,3]:=⟨_,Tryz.underlying44,by kernel_rfl⟩
theorem sT49:ZG Tryz.prog 49 [3,3,3,4,47]:=⟨_,Tryz.underlying49,by kernel_rfl⟩
theorem argT:ZoG Tryz.prog [22,51,3,42,46,44,4,49,47]=true:=by kernel_rfl
theorem params_ok:∀ t∈[22],Tryz.prog.readableRec t=true∧t<Tryz.prog.types.size:=by
 intro t ht;simp only[Kf,LV,or_false] at ht;subst ht;exact⟨by kernel_rfl,of_decide_eq_true (by kernel_rfl)⟩
theorem law_ev (xs:List D) (h:Zje Tryz.prog [22] xs):Zf Xs Ms XY (xs.map .d) []=some (.d (.bool true),[]):=by
 obtain⟨n0,e0,y0,rfl,t0,h0⟩:=Zgw h;obtain rfl:=ZoI h0;obtain⟨a0,o0,_,g0,_⟩:=(Zdx Tryz.underlying22 (reads_Event hI hB sT42 sT44 sT46 Tryz.underlying47 sT49 sT51)) n0 e0 t0;rw[g0];exact ZhG a0 o0.1 (fun e he=>⟨(o0.2 e he).2,(o0.2 e he).1.2.2.1⟩)
set_option maxRecDepth 100000 in
theorem lifted (os:Os) (aa:os.Started) (H:Type) (enc:TypeId×Value→H) :
  ReturnsInHanded {} Tryz.checked os 3 .any (Rows.fnExactRunBookSpec.pre6 enc Tryz.prog Tryz.f3 Rows.fnExactRunBookRow.domain false) (Rows.fnExactRunBookSpec.post enc Tryz.prog Tryz.f3 false true false false):=by
 refine returnsInHanded_of_change (C:=Tryz.checked) own aa (by kernel_rfl) Tryz.func3
  (ChangeSpec.witness6 (enc:=enc) (C:=Tryz.checked) false ⟨#[],#[.slice none 0 0],[]⟩ 8 (by kernel_rfl) (by kernel_rfl) (by kernel_rfl) (by kernel_rfl)) ?_
 intro W base args ds gs ae ab hW _ _;have ad:∀ (j:Nat) t v,Tryz.f3.params[j]?=some t→args[j]?=some v→Value.okWide Tryz.prog W .any base t v:=ab;have af:=hW;obtain⟨p,q,ai,hV,rfl,_,_⟩:=hW;have hA:DataW.TrodAll enc Tryz.prog W 0 (fun _=>true) true Tryz.f3.params.toList args.toList ds p:=ai;rw[Tryz.params3] at hA ad;obtain⟨rfl,rfl⟩:=trodVars_none hV;clear ai ab;simp only[Ln] at af;have aj:∀ x∈p,x.block<W.heap.size:=fun x hx=>by simpa using af.lt x hx
 have ag:DataW.TrodAll enc Tryz.prog W 0 (fun _=>true) true [22] args.toList ds p:=hA;obtain⟨_,_,d0,am,_,_,_,rfl,_,_,ak⟩:=trodAll_cons ag;obtain rfl:=(trodAll_nil ak).2.1;obtain⟨xs,al,ah⟩:=ZoJ argT (by decide) (fun j t v ht hv=>ad j t v (by simpa using ht) (by simpa using hv)) ag;refine(ZoK sound (law_ev xs al) (fun q hq=>by cases hq) ah).mono fun e W' ⟨he,hn⟩=>?_;subst he;exact⟨_,rfl,⟨_,_,_,[],_,[],af,trodAll_mk1 (shut_bool Tryz.underlying4 _),Zc2 laidOut hn params_ok aj ag,rfl,hn.frame _,fun h=>by cases h⟩⟩
theorem fnExactRunBook_holds:Rows.FnExactRunBookSaid:=
 OpenClaim.holds_of_wide 3 Tryz.f3 rfl rfl rfl rfl rfl rfl rfl ⟨rfl,rfl,rfl,rfl,rfl⟩ rfl rfl rfl rfl rfl (by kernel_rfl) Tryz.func3 (by kernel_rfl)
  (of_decide_eq_true (by kernel_rfl)) (by unfold Func.isWrapper;first | (rw[Kl (by decide +kernel)];kernel_rfl) | (rw[Kj (by decide +kernel)];exact⟨rfl,rfl⟩))
  (fun os aa H enc _=>lifted os aa H enc)
#print axioms fnExactRunBook_holds
end Go.Proofs.YtdhgppkldoopaaaGreat

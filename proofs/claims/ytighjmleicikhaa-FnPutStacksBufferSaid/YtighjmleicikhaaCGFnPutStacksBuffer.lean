/- The statement that the law FnPutStacksBuffer holds of every row of bytes: it answers true,and its argument reads as before. -/
import Derived.Test.YtighjmleicikhaaCC7
import Derived.Test.YtighjmleicikhaaCCodeOk
import Derived.Test.YtighjmleicikhaaRows
import Derived.Test.YtighjmleicikhaaAbsLaw
import Derived.Test.YtighjmleicikhaaCLays
namespace Go.Proofs.Ytighjmleicikhaa
open Go Go.Abs Go.Abs.L Go.ChangeShapes Go.WideShapes Go.ChangeAt Go.RowKit
def Zk3:List (Nat×Go.Abs.Fn)→Prop
 | []=>True
 | (f,.text cf) :: r=>QG f cf∧Zk3 r
 | (f,.prim p) :: r=>Zcr Try.prog f p∧Zk3 r
theorem Zav:∀ {l:List (Nat×Go.Abs.Fn)} {f:Nat} {x:Go.Abs.Fn},Zk3 l→lkp l f=some x→(∃ cf,x=.text cf∧QG f cf)∨∃ p,x=.prim p∧Zcr Try.prog f p
 | [],f,x,_,h=>by cases h
 | (g,.text cf) :: r,f,x,ha,h=>by
  simp only[lkp] at h;split at h
  ·rename_i e;cases h;subst e;exact .inl ⟨cf,rfl,ha.1⟩
  ·exact Zav ha.2 h
 | (g,.prim p) :: r,f,x,ha,h=>by
  simp only[lkp] at h;split at h
  ·rename_i e;cases h;subst e;exact .inr ⟨p,rfl,ha.1⟩
  ·exact Zav ha.2 h
theorem draws (C:Orc) (M:Zf) (nt:Nat) (hC:Z4 Try.prog C):Yb Try.prog C M nt:=Zek (by kernel_rfl) hC
set_option maxRecDepth 100000 in
theorem sorts:Zcr Try.prog ZB (Zgw):=by
 have h:=ZnX Try.lays189 ⟨Try.f112,Try.func112,by kernel_rfl,by kernel_rfl⟩;exact h
theorem all_ok:Zk3 tbl:=
 ⟨Je,Zbg,Zfv,Zfw,Zfx,Zfy,ZdB,Zfz,ZhQ,ZdC,ZfT,ZfA,ZfB,ZdD,ZcP,ZhR,ZhS,Jf,ZcQ,ZfC,ZfD,ZhT,ZcR,Zbh,Zkj,ZhU,sorts,ZcS,ZhV,ZfU,ZhW,ZdE,ZfV,trivial⟩
theorem table_ok:Zak Try.prog Xs Ms where
 text:=fun f cf h=>by
  rcases Zav all_ok h with ⟨aa,e,h'⟩ | ⟨p,e,_⟩
  ·cases e;exact h'
  ·cases e
 prim:=fun f p h=>by
  rcases Zav all_ok h with ⟨aa,e,_⟩ | ⟨p',e,h'⟩
  ·cases e
  ·cases e;exact h'
theorem sound:Z4 Try.prog (Zu Xs Ms):=Zg7 (by kernel_rfl) table_ok
theorem own:ownKnob Try.prog.godebug=none:=by kernel_rfl
theorem Zof:laidOutB Try.prog=true:=by kernel_rfl
theorem cells5:Try.prog.cellsOf 5=1:=by kernel_rfl
set_option maxRecDepth 100000 in
theorem lifted (os:Os) (aa:os.Started) (H:Type) (enc:TypeId×Value→H) :
  ReturnsInHanded {} Try.checked os 6 .any (Rows.fnPutStacksBufferSpec.pre6 enc Try.prog Try.f6 Rows.fnPutStacksBufferRow.domain false) (Rows.fnPutStacksBufferSpec.post enc Try.prog Try.f6 false true false false):=by
 refine returnsInHanded_of_change (C:=Try.checked) own aa (by kernel_rfl) Try.func6
  (ChangeSpec.witness6 (enc:=enc) (C:=Try.checked) false ⟨#[],#[.slice none 0 0],[]⟩ 8 (by kernel_rfl) (by kernel_rfl) (by kernel_rfl) (by kernel_rfl)) ?_
 intro W base args ds gs af ab hW _ _;have ad:∀ (j:Nat) t v,Try.f6.params[j]?=some t→args[j]?=some v→Value.okWide Try.prog W .any base t v:=ab;have ag:=hW;obtain⟨p,q,ai,hV,rfl,_,_⟩:=hW;have hA:DataW.TrodAll enc Try.prog W 0 (fun _=>true) true Try.f6.params.toList args.toList ds p:=ai;rw[Try.params6] at hA ad;obtain⟨v0,d0,rfl,rfl,h0⟩:=trodAll_one hA;obtain⟨rfl,rfl⟩:=trodVars_none hV;clear ai ab;simp only[LI] at ag;have aj:∀ x∈p,x.block<W.heap.size:=fun x hx=>by simpa using ag.lt x hx
 have ae:∀ (W' : World),Below W.heap.size W W'→DataW.Trod enc Try.prog W' 0 (fun b=>decide (b<W.heap.size)) true 22 v0 d0 p:=
  fun W' hn=>Below.trod Zof (by kernel_rfl) (of_decide_eq_true (by kernel_rfl)) h0 hn aj
 obtain⟨ak,ah⟩:=ZlD Try.underlying22 Try.underlying5 cells5 (ad 0 22 v0 rfl rfl) h0;refine(ZlC sound Ja (fun q hq=>by cases hq) ah).mono fun e W' ⟨he,hn⟩=>?_;subst he;exact⟨_,rfl,⟨_,_,_,[],_,[],ag,trodAll_mk1 (shut_bool Try.underlying4 _),trodAll_mk1 (ae _ hn),rfl,hn.frame _,fun h=>by cases h⟩⟩
theorem fnPutStacksBuffer_holds:Rows.FnPutStacksBufferSaid:=
 OpenClaim.holds_of_wide 6 Try.f6 rfl rfl rfl rfl rfl rfl rfl ⟨rfl,rfl,rfl,rfl,rfl⟩ rfl rfl rfl rfl rfl (by kernel_rfl) Try.func6 (by kernel_rfl)
  (of_decide_eq_true (by kernel_rfl)) (by unfold Func.isWrapper;first | (rw[Kw (by decide +kernel)];kernel_rfl) | (rw[Kn (by decide +kernel)];exact⟨rfl,rfl⟩))
  (fun os aa H enc _=>lifted os aa H enc)
#print axioms fnPutStacksBuffer_holds
end Go.Proofs.Ytighjmleicikhaa

/- The statement that the law FnShelfPlansFound holds of every row of bytes: it answers true,and its argument reads as before. -/
import Derived.Test.YtefabmohhbhlfaaCC19
import Derived.Test.YtefabmohhbhlfaaCCodeOk
import Derived.Test.YtefabmohhbhlfaaRows
import Derived.Test.YtefabmohhbhlfaaAbsLaw
namespace Go.Proofs.Ytefabmohhbhlfaa
open Go Go.Abs Go.Abs.L Go.ChangeShapes Go.WideShapes Go.ChangeAt Go.RowKit
def Zo1:List (Nat×Go.Abs.Fn)→Prop
 | []=>True
 | (f,.text cf) :: r=>ZN f cf∧Zo1 r
 | (f,.prim p) :: r=>Zkl Try.prog f p∧Zo1 r
theorem Zcc:∀ {l:List (Nat×Go.Abs.Fn)} {f:Nat} {x:Go.Abs.Fn},Zo1 l→lkp l f=some x→(∃ cf,x=.text cf∧ZN f cf)∨∃ p,x=.prim p∧Zkl Try.prog f p
 | [],f,x,_,h=>by cases h
 | (g,.text cf) :: r,f,x,ha,h=>by
  simp only[lkp] at h;split at h
  ·rename_i e;cases h;subst e;exact .inl ⟨cf,rfl,ha.1⟩
  ·exact Zcc ha.2 h
 | (g,.prim p) :: r,f,x,ha,h=>by
  simp only[lkp] at h;split at h
  ·rename_i e;cases h;subst e;exact .inr ⟨p,rfl,ha.1⟩
  ·exact Zcc ha.2 h
theorem draws (C:Orc) (M:Zg) (nt:Nat) (hC:Qh Try.prog C):Y5 Try.prog C M nt:=ZgN (by kernel_rfl) hC
theorem all_ok:Zo1 tbl:=
 ⟨ZaZ,ZfT,Zch,ZfU,ZfV,Zi2,Zqe,Zli,Zec,ZfW,Zip,Ziq,Zed,ZfX,ZeY,Zir,Zlj,Zis,Zit,Ziu,Zn9,ZfY,Zlk,ZeZ,ZfZ,Zll,Zi3,Zi4,Zi5,Ziv,Ziw,Zlm,Zix,Ziy,Zln,Zi6,Zf0,Zlo,Zlp,Zi7,Zi8,Zi9,Ziz,Zf1,ZiA,Zf2,Zoa,ZiB,Jd,ZiC,Zja,Zob,ZmS,Zf3,Zjb,Jg,ZmT,Zjc,Wq,trivial⟩
theorem table_ok:Zb5 Try.prog Xs Ms where
 text:=fun f cf h=>by
  rcases Zcc all_ok h with ⟨aa,e,h'⟩ | ⟨p,e,_⟩
  ·cases e;exact h'
  ·cases e
 prim:=fun f p h=>by
  rcases Zcc all_ok h with ⟨aa,e,_⟩ | ⟨p',e,h'⟩
  ·cases e
  ·cases e;exact h'
theorem sound:Qh Try.prog (Zj Xs Ms):=Zky (by kernel_rfl) table_ok
theorem own:ownKnob Try.prog.godebug=none:=by kernel_rfl
theorem Zsl:laidOutB Try.prog=true:=by kernel_rfl
theorem cells5:Try.prog.cellsOf 5=1:=by kernel_rfl
set_option maxRecDepth 100000 in
theorem lifted (os:Os) (aa:os.Started) (H:Type) (enc:TypeId×Value→H) :
  ReturnsInHanded {} Try.checked os 4 .any (Rows.fnShelfPlansFoundSpec.pre6 enc Try.prog Try.f4 Rows.fnShelfPlansFoundRow.domain false) (Rows.fnShelfPlansFoundSpec.post enc Try.prog Try.f4 false true false false):=by
 refine returnsInHanded_of_change (C:=Try.checked) own aa (by kernel_rfl) Try.func4
  (ChangeSpec.witness6 (enc:=enc) (C:=Try.checked) false ⟨#[],#[.slice none 0 0],[]⟩ 8 (by kernel_rfl) (by kernel_rfl) (by kernel_rfl) (by kernel_rfl)) ?_
 intro W base args ds gs af ab hW _ _;have ad:∀ (j:Nat) t v,Try.f4.params[j]?=some t→args[j]?=some v→Value.okWide Try.prog W .any base t v:=ab;have ag:=hW;obtain⟨p,q,ai,hV,rfl,_,_⟩:=hW;have hA:DataW.TrodAll enc Try.prog W 0 (fun _=>true) true Try.f4.params.toList args.toList ds p:=ai;rw[Try.params4] at hA ad;obtain⟨v0,d0,rfl,rfl,h0⟩:=trodAll_one hA;obtain⟨rfl,rfl⟩:=trodVars_none hV;clear ai ab;simp only[Lf] at ag;have aj:∀ x∈p,x.block<W.heap.size:=fun x hx=>by simpa using ag.lt x hx
 have ae:∀ (W' : World),Below W.heap.size W W'→DataW.Trod enc Try.prog W' 0 (fun b=>decide (b<W.heap.size)) true 22 v0 d0 p:=
  fun W' hn=>Below.trod Zsl (by kernel_rfl) (of_decide_eq_true (by kernel_rfl)) h0 hn aj
 obtain⟨ak,ah⟩:=Zpz Try.underlying22 Try.underlying5 cells5 (ad 0 22 v0 rfl rfl) h0;refine(Zpy sound ZaP (fun q hq=>by cases hq) ah).mono fun e W' ⟨he,hn⟩=>?_;subst he;exact⟨_,rfl,⟨_,_,_,[],_,[],ag,trodAll_mk1 (shut_bool Try.underlying4 _),trodAll_mk1 (ae _ hn),rfl,hn.frame _,fun h=>by cases h⟩⟩
theorem fnShelfPlansFound_holds:Rows.FnShelfPlansFoundSaid:=
 OpenClaim.holds_of_wide 4 Try.f4 rfl rfl rfl rfl rfl rfl rfl ⟨rfl,rfl,rfl,rfl,rfl⟩ rfl rfl rfl rfl rfl (by kernel_rfl) Try.func4 (by kernel_rfl)
  (of_decide_eq_true (by kernel_rfl)) (by unfold Func.isWrapper;first | (rw[Ko (by decide +kernel)];kernel_rfl) | (rw[Kn (by decide +kernel)];exact⟨rfl,rfl⟩))
  (fun os aa H enc _=>lifted os aa H enc)
#print axioms fnShelfPlansFound_holds
end Go.Proofs.Ytefabmohhbhlfaa

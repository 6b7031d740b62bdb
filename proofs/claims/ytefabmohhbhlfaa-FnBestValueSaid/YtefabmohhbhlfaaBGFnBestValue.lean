/- The statement that the law FnBestValue holds of every row of bytes: it answers true,and its argument reads as before. -/
import Derived.Test.YtefabmohhbhlfaaBC15
import Derived.Test.YtefabmohhbhlfaaBCodeOk
import Derived.Test.YtefabmohhbhlfaaRows
import Derived.Test.YtefabmohhbhlfaaAbsLaw
namespace Go.Proofs.Ytefabmohhbhlfaa
open Go Go.Abs Go.Abs.L Go.ChangeShapes Go.WideShapes Go.ChangeAt Go.RowKit
def Zno:List (Nat×Go.Abs.Fn)→Prop
 | []=>True
 | (f,.text cf) :: r=>Qa f cf∧Zno r
 | (f,.prim p) :: r=>Zjo Try.prog f p∧Zno r
theorem ZbB:∀ {l:List (Nat×Go.Abs.Fn)} {f:Nat} {x:Go.Abs.Fn},Zno l→lkp l f=some x→(∃ cf,x=.text cf∧Qa f cf)∨∃ p,x=.prim p∧Zjo Try.prog f p
 | [],f,x,_,h=>by cases h
 | (g,.text cf) :: r,f,x,ha,h=>by
  simp only[lkp] at h;split at h
  ·rename_i e;cases h;subst e;exact .inl ⟨cf,rfl,ha.1⟩
  ·exact ZbB ha.2 h
 | (g,.prim p) :: r,f,x,ha,h=>by
  simp only[lkp] at h;split at h
  ·rename_i e;cases h;subst e;exact .inr ⟨p,rfl,ha.1⟩
  ·exact ZbB ha.2 h
theorem draws (C:Orc) (M:Zg) (nt:Nat) (hC:Qc Try.prog C):YJ Try.prog C M nt:=ZfY (by kernel_rfl) hC
theorem all_ok:Zno tbl:=
 ⟨Zeg,Zcr,Zht,Zhu,Ze8,Zhv,Ze9,Zh7,Zhw,Zdx,Zfa,Zeh,Zh8,Zh9,Zei,Zfb,Zhx,Zkd,Zhy,Zhz,ZhA,Zke,Zkf,Zia,Zib,ZhB,ZhC,Zic,Zkg,ZhD,ZhE,ZhF,Zkh,Zid,Zfc,Zie,ZhG,Zfd,ZmC,ZhH,Zif,UA,ZhI,UE,V2,trivial⟩
theorem table_ok:Zbr Try.prog Xs Ms where
 text:=fun f cf h=>by
  rcases ZbB all_ok h with ⟨aa,e,h'⟩ | ⟨p,e,_⟩
  ·cases e;exact h'
  ·cases e
 prim:=fun f p h=>by
  rcases ZbB all_ok h with ⟨aa,e,_⟩ | ⟨p',e,h'⟩
  ·cases e
  ·cases e;exact h'
theorem sound:Qc Try.prog (Zu Xs Ms):=ZjB (by kernel_rfl) table_ok
theorem own:ownKnob Try.prog.godebug=none:=by kernel_rfl
theorem ZqU:laidOutB Try.prog=true:=by kernel_rfl
theorem cells5:Try.prog.cellsOf 5=1:=by kernel_rfl
set_option maxRecDepth 100000 in
theorem lifted (os:Os) (aa:os.Started) (H:Type) (enc:TypeId×Value→H) :
  ReturnsInHanded {} Try.checked os 3 .any (Rows.fnBestValueSpec.pre6 enc Try.prog Try.f3 Rows.fnBestValueRow.domain false) (Rows.fnBestValueSpec.post enc Try.prog Try.f3 false true false false):=by
 refine returnsInHanded_of_change (C:=Try.checked) own aa (by kernel_rfl) Try.func3
  (ChangeSpec.witness6 (enc:=enc) (C:=Try.checked) false ⟨#[],#[.slice none 0 0],[]⟩ 8 (by kernel_rfl) (by kernel_rfl) (by kernel_rfl) (by kernel_rfl)) ?_
 intro W base args ds gs af ab hW _ _;have ad:∀ (j:Nat) t v,Try.f3.params[j]?=some t→args[j]?=some v→Value.okWide Try.prog W .any base t v:=ab;have ag:=hW;obtain⟨p,q,ai,hV,rfl,_,_⟩:=hW;have hA:DataW.TrodAll enc Try.prog W 0 (fun _=>true) true Try.f3.params.toList args.toList ds p:=ai;rw[Try.params3] at hA ad;obtain⟨v0,d0,rfl,rfl,h0⟩:=trodAll_one hA;obtain⟨rfl,rfl⟩:=trodVars_none hV;clear ai ab;simp only[LG] at ag;have aj:∀ x∈p,x.block<W.heap.size:=fun x hx=>by simpa using ag.lt x hx
 have ae:∀ (W' : World),Below W.heap.size W W'→DataW.Trod enc Try.prog W' 0 (fun b=>decide (b<W.heap.size)) true 22 v0 d0 p:=
  fun W' hn=>Below.trod ZqU (by kernel_rfl) (of_decide_eq_true (by kernel_rfl)) h0 hn aj
 obtain⟨ak,ah⟩:=ZnW Try.underlying22 Try.underlying5 cells5 (ad 0 22 v0 rfl rfl) h0;refine(ZnV sound Zec (fun q hq=>by cases hq) ah).mono fun e W' ⟨he,hn⟩=>?_;subst he;exact⟨_,rfl,⟨_,_,_,[],_,[],ag,trodAll_mk1 (shut_bool Try.underlying4 _),trodAll_mk1 (ae _ hn),rfl,hn.frame _,fun h=>by cases h⟩⟩
theorem fnBestValue_holds:Rows.FnBestValueSaid:=
 OpenClaim.holds_of_wide 3 Try.f3 rfl rfl rfl rfl rfl rfl rfl ⟨rfl,rfl,rfl,rfl,rfl⟩ rfl rfl rfl rfl rfl (by kernel_rfl) Try.func3 (by kernel_rfl)
  (of_decide_eq_true (by kernel_rfl)) (by unfold Func.isWrapper;first | (rw[Kt (by decide +kernel)];kernel_rfl) | (rw[Kp (by decide +kernel)];exact⟨rfl,rfl⟩))
  (fun os aa H enc _=>lifted os aa H enc)
#print axioms fnBestValue_holds
end Go.Proofs.Ytefabmohhbhlfaa

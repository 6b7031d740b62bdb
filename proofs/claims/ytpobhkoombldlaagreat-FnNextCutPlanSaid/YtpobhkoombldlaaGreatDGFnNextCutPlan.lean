/- The statement that the law FnNextCutPlan holds of every row of bytes: it answers true,and its argument reads as before. -/
import Derived.Test.YtpobhkoombldlaaGreatDC7
import Derived.Test.YtpobhkoombldlaaGreatDCodeOk
import Derived.Test.YtpobhkoombldlaaGreatRows
import Derived.Test.YtpobhkoombldlaaGreatAbsLaw
namespace Go.Proofs.YtpobhkoombldlaaGreat
open Go Go.Abs Go.Abs.L Go.ChangeShapes Go.WideShapes Go.ChangeAt Go.RowKit
def AllOK:List (Nat×Go.Abs.Fn)→Prop
 | []=>True
 | (f,.text cf) :: r=>Zn f cf∧AllOK r
 | (f,.prim p) :: r=>Zhq Tryz.prog f p∧AllOK r
theorem allOK_get:∀ {l:List (Nat×Go.Abs.Fn)} {f:Nat} {x:Go.Abs.Fn},AllOK l→lkp l f=some x→(∃ cf,x=.text cf∧Zn f cf)∨∃ p,x=.prim p∧Zhq Tryz.prog f p
 | [],f,x,_,h=>by cases h
 | (g,.text cf) :: r,f,x,ha,h=>by
  simp only[lkp] at h
  split at h
  ·rename_i e
   cases h
   subst e
   exact .inl ⟨cf,rfl,ha.1⟩
  ·exact allOK_get ha.2 h
 | (g,.prim p) :: r,f,x,ha,h=>by
  simp only[lkp] at h
  split at h
  ·rename_i e
   cases h
   subst e
   exact .inr ⟨p,rfl,ha.1⟩
  ·exact allOK_get ha.2 h
theorem draws (C:Orc) (M:Zu) (nt:Nat) (hC:Ql Tryz.prog C) (hB:V1 C):Vu Tryz.prog C M nt:=Zf7 (by kernel_rfl) hC hB
theorem all_ok:AllOK tbl:=
 ⟨ZcA,Ua,Ub,ZcB,ZaW,ZcC,ZcD,ZiT,JY,ZfC,ZfD,ZcE,ZcF,JZ,ZfE,ZfF,ZaX,ZfG,ZcG,ZdU,UM,ZdV,ZfH,ZcH,ZcI,ZfI,ZcJ,J0,ZaY,ZdW,ZaZ,ZcK,Za0,Za1,Za2,Za3,Za4,ZfJ,ZfK,ZcL,ZcM,Zg7,ZfL,ZcN,ZcO,ZfM,J1,Za5,ZfN,Za6,ZcP,ZcQ,ZdX,ZdY,ZfO,ZdZ,Zmq UN draws,ZfP,Zd0,ZcR,ZfQ,Zd1,Zd2,ZfR,Za7,Zd3,Za8,Za9,Zba,Zbb,Zd4,Zbc,ZcS,Zd5,Zbd,ZcT,Zd6,ZcU,Vo,J2,Zbe,ZcV,ZcW,Zbf,ZfS,Zd7,ZcX,Zd8,ZcY,Zbg,ZcZ,Zd9,Zea,Zg8,ZfT,Zeb,ZfU,Zbh,Zec,Zg9,Zed,Zee,Zbi,Zc0,Zc1,Zc2,Zef,Zc3,Zeg,Zc4,Zha,Zeh,ZfV,Zei,Zhb,Zbj,YO,Zbk,ZfW,ZiU,ZkL,Zc5,ZiV,Zej,Zbl,Zek,Zbm,J3,Zkg Uc draws,Zel,Zem,Zen,Zeo,Zep,Zeq,ZiW,Zc6,Zer,Zc7,Zes,Zhc,ZfX,Zhd,Zet,Zbn,Zhe,Zhf,Zc8,Zeu,Zev,Zhg,Zbo,trivial⟩
theorem table_ok:ZdN Tryz.prog Xs Ms where
 text:=fun f cf h=>by
  rcases allOK_get all_ok h with ⟨cf',e,h'⟩ | ⟨p,e,_⟩
  ·cases e
   exact h'
  ·cases e
 prim:=fun f p h=>by
  rcases allOK_get all_ok h with ⟨cf',e,_⟩ | ⟨p',e,h'⟩
  ·cases e
  ·cases e
   exact h'
theorem sound:Ql Tryz.prog (Zg Xs Ms):=Zfj (by kernel_rfl) table_ok
theorem own:ownKnob Tryz.prog.godebug=none:=by kernel_rfl
theorem laidOut:laidOutB Tryz.prog=true:=by kernel_rfl
theorem cells5:Tryz.prog.cellsOf 5=1:=by kernel_rfl
set_option maxRecDepth 100000 in
theorem lifted (os:Os) (started:os.Started) (H:Type) (enc:TypeId×Value→H) :
  ReturnsInHanded {} Tryz.checked os 8 .any (Rows.fnNextCutPlanSpec.pre6 enc Tryz.prog Tryz.f8 Rows.fnNextCutPlanRow.domain false) (Rows.fnNextCutPlanSpec.post enc Tryz.prog Tryz.f8 false true false false):=by
 refine returnsInHanded_of_change (C:=Tryz.checked) own started (by kernel_rfl) Tryz.func8
  (ChangeSpec.witness6 (enc:=enc) (C:=Tryz.checked) false ⟨#[],#[.slice none 0 0],[]⟩ 8 (by kernel_rfl) (by kernel_rfl) (by kernel_rfl) (by kernel_rfl)) ?_
 intro W base args ds gs before hval0 hW _ _
 have hval:∀ (j:Nat) t v,Tryz.f8.params[j]?=some t→args[j]?=some v→Value.okWide Tryz.prog W .any base t v:=hval0
 have hW':=hW
 obtain⟨p,q,hA0,hV,rfl,_,_⟩:=hW
 have hA:DataW.TrodAll enc Tryz.prog W 0 (fun _=>true) true Tryz.f8.params.toList args.toList ds p:=hA0
 rw[Tryz.params8] at hA hval
 obtain⟨v0,d0,rfl,rfl,h0⟩:=trodAll_one hA
 obtain⟨rfl,rfl⟩:=trodVars_none hV
 clear hA0 hval0
 simp only[List.append_nil] at hW'
 have hlt:∀ x∈p,x.block<W.heap.size:=fun x hx=>by simpa using hW'.lt x hx
 have hargs:∀ (W' : World),Below W.heap.size W W'→DataW.Trod enc Tryz.prog W' 0 (fun b=>decide (b<W.heap.size)) true 22 v0 d0 p:=
  fun W' hn=>Below.trod laidOut (by kernel_rfl) (of_decide_eq_true (by kernel_rfl)) h0 hn hlt
 obtain⟨code,hrep⟩:=Zko Tryz.underlying22 Tryz.underlying5 cells5 (hval 0 22 v0 rfl rfl) h0
 refine(Zkn sound ZlX (fun q hq => by cases hq) hrep).mono fun e W' ⟨he,hn⟩=>?_
 subst he
 exact⟨_,rfl,⟨_,_,_,[],_,[],hW',trodAll_mk1 (shut_bool Tryz.underlying4 _),trodAll_mk1 (hargs _ hn),rfl,hn.frame _,fun h=>by cases h⟩⟩
theorem fnNextCutPlan_holds:Rows.FnNextCutPlanSaid:=
 OpenClaim.holds_of_wide 8 Tryz.f8 rfl rfl rfl rfl rfl rfl rfl ⟨rfl,rfl,rfl,rfl,rfl⟩ rfl rfl rfl rfl rfl (by kernel_rfl) Tryz.func8 (by kernel_rfl)
  (of_decide_eq_true (by kernel_rfl)) (by unfold Func.isWrapper;first | (rw[if_pos (by decide +kernel)];kernel_rfl) | (rw[if_neg (by decide +kernel)];exact⟨rfl,rfl⟩))
  (fun os started H enc _=>lifted os started H enc)
#print axioms fnNextCutPlan_holds
end Go.Proofs.YtpobhkoombldlaaGreat

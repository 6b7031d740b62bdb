/- The statement that the law FnWorkThroughGlass holds of every row of bytes: it answers true,and its argument reads as before. -/
import Derived.Test.YtpobhkoombldlaaGreatEC7
import Derived.Test.YtpobhkoombldlaaGreatECodeOk
import Derived.Test.YtpobhkoombldlaaGreatRows
import Derived.Test.YtpobhkoombldlaaGreatAbsLaw
namespace Go.Proofs.YtpobhkoombldlaaGreat
open Go Go.Abs Go.Abs.L Go.ChangeShapes Go.WideShapes Go.ChangeAt Go.RowKit
def AllOK:List (Nat×Go.Abs.Fn)→Prop
 | []=>True
 | (f,.text cf) :: r=>Zn f cf∧AllOK r
 | (f,.prim p) :: r=>ZmS Tryz.prog f p∧AllOK r
theorem allOK_get:∀ {l:List (Nat×Go.Abs.Fn)} {f:Nat} {x:Go.Abs.Fn},AllOK l→lkp l f=some x→(∃ cf,x=.text cf∧Zn f cf)∨∃ p,x=.prim p∧ZmS Tryz.prog f p
 | [],f,x,_,h=>by cases h
 | (g,.text cf) :: r,f,x,ha,h=>by
  simp only[lkp] at h
  split at h
  ·rename_i e
   cases h
   subst e
   exact .inl ⟨cf,rfl,ha.1⟩
  ·exact allOK_get ha.2 h
 | (g,.prim p) :: r,f,x,ha,h=>by
  simp only[lkp] at h
  split at h
  ·rename_i e
   cases h
   subst e
   exact .inr ⟨p,rfl,ha.1⟩
  ·exact allOK_get ha.2 h
theorem draws (C:Orc) (M:Zu) (nt:Nat) (hC:QH Tryz.prog C) (hB:WP C):Ug Tryz.prog C M nt:=ZkC (by kernel_rfl) hC hB
theorem all_ok:AllOK tbl:=
 ⟨Zeo,ZaO,ZgP,Zij,Zik,ZjT,Zrn,Zil,Zim,Zmj,ZgQ,Zmk,Zin,ZjU,ZeO,ZjV,Zio,ZcU,ZfS,ZfT,ZfU,ZfV,Zip,Zml,Ziq,ZfW,ZgR,ZjW,ZgS,Zir,ZgT,ZgU,ZgV,ZgW,ZgX,Zis,Zit,Zn8,Zmm,Ziu,Ziv,Zmn,ZfX,ZgY,Zmo,ZgZ,Ziw,Zix,ZjX,ZjY,Zmp,ZjZ,ZvC ZeP draws,Zmq,Zj0,Ziy,Zmr,Zj1,Zj2,Zms,Zg0,Zj3,Zg1,Zg2,Zg3,Zg4,Zj4,Zg5,Ziz,Zj5,Zg6,ZiA,Zj6,ZiB,ZbN,ZfY,Zg7,ZiC,ZiD,Zg8,Zmt,Zj7,ZiE,Zj8,ZiF,Zg9,ZiG,Zj9,Zka,Zn9,Zmu,Zkb,Zmv,Zha,Zkc,Zoa,Zkd,Zke,Zhb,ZiH,ZiI,ZiJ,Zkf,ZiK,Zkg,ZiL,Zob,Zkh,Zmw,Zki,Zoc,Zhc,ZbH,Zhd,Zmx,Zro,Ztv,ZiM,Zrp,Zkj,Zhe,Zkk,Zhf,ZfZ,Zsr Zep draws,Zkl,Zkm,Zkn,Zko,Zkp,Zkq,Zrq,ZiN,Zkr,ZiO,Zks,Zod,Zmy,Zoe,Zkt,Zhg,Zof,Zog,ZiP,Zku,Zkv,Zoh,Zhh,trivial⟩
theorem table_ok:ZeE Tryz.prog Xs Ms where
 text:=fun f cf h=>by
  rcases allOK_get all_ok h with ⟨cf',e,h'⟩ | ⟨p,e,_⟩
  ·cases e
   exact h'
  ·cases e
 prim:=fun f p h=>by
  rcases allOK_get all_ok h with ⟨cf',e,_⟩ | ⟨p',e,h'⟩
  ·cases e
  ·cases e
   exact h'
theorem sound:QH Tryz.prog (Zg Xs Ms):=Zlm (by kernel_rfl) table_ok
theorem own:ownKnob Tryz.prog.godebug=none:=by kernel_rfl
theorem laidOut:laidOutB Tryz.prog=true:=by kernel_rfl
theorem cells5:Tryz.prog.cellsOf 5=1:=by kernel_rfl
set_option maxRecDepth 100000 in
theorem lifted (os:Os) (started:os.Started) (H:Type) (enc:TypeId×Value→H) :
  ReturnsInHanded {} Tryz.checked os 11 .any (Rows.fnWorkThroughGlassSpec.pre6 enc Tryz.prog Tryz.f11 Rows.fnWorkThroughGlassRow.domain false) (Rows.fnWorkThroughGlassSpec.post enc Tryz.prog Tryz.f11 false true false false):=by
 refine returnsInHanded_of_change (C:=Tryz.checked) own started (by kernel_rfl) Tryz.func11
  (ChangeSpec.witness6 (enc:=enc) (C:=Tryz.checked) false ⟨#[],#[.slice none 0 0],[]⟩ 8 (by kernel_rfl) (by kernel_rfl) (by kernel_rfl) (by kernel_rfl)) ?_
 intro W base args ds gs before hval0 hW _ _
 have hval:∀ (j:Nat) t v,Tryz.f11.params[j]?=some t→args[j]?=some v→Value.okWide Tryz.prog W .any base t v:=hval0
 have hW':=hW
 obtain⟨p,q,hA0,hV,rfl,_,_⟩:=hW
 have hA:DataW.TrodAll enc Tryz.prog W 0 (fun _=>true) true Tryz.f11.params.toList args.toList ds p:=hA0
 rw[Tryz.params11] at hA hval
 obtain⟨v0,d0,rfl,rfl,h0⟩:=trodAll_one hA
 obtain⟨rfl,rfl⟩:=trodVars_none hV
 clear hA0 hval0
 simp only[List.append_nil] at hW'
 have hlt:∀ x∈p,x.block<W.heap.size:=fun x hx=>by simpa using hW'.lt x hx
 have hargs:∀ (W' : World),Below W.heap.size W W'→DataW.Trod enc Tryz.prog W' 0 (fun b=>decide (b<W.heap.size)) true 22 v0 d0 p:=
  fun W' hn=>Below.trod laidOut (by kernel_rfl) (of_decide_eq_true (by kernel_rfl)) h0 hn hlt
 obtain⟨code,hrep⟩:=ZsM Tryz.underlying22 Tryz.underlying5 cells5 (hval 0 22 v0 rfl rfl) h0
 refine(ZsL sound ZfO (fun q hq=>by cases hq) hrep).mono fun e W' ⟨he,hn⟩=>?_
 subst he
 exact⟨_,rfl,⟨_,_,_,[],_,[],hW',trodAll_mk1 (shut_bool Tryz.underlying4 _),trodAll_mk1 (hargs _ hn),rfl,hn.frame _,fun h=>by cases h⟩⟩
theorem fnWorkThroughGlass_holds:Rows.FnWorkThroughGlassSaid:=
 OpenClaim.holds_of_wide 11 Tryz.f11 rfl rfl rfl rfl rfl rfl rfl ⟨rfl,rfl,rfl,rfl,rfl⟩ rfl rfl rfl rfl rfl (by kernel_rfl) Tryz.func11 (by kernel_rfl)
  (of_decide_eq_true (by kernel_rfl)) (by unfold Func.isWrapper;first | (rw[if_pos (by decide +kernel)];kernel_rfl) | (rw[if_neg (by decide +kernel)];exact⟨rfl,rfl⟩))
  (fun os started H enc _=>lifted os started H enc)
#print axioms fnWorkThroughGlass_holds
end Go.Proofs.YtpobhkoombldlaaGreat

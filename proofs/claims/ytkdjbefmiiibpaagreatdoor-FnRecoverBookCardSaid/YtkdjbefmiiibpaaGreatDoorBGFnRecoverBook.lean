/- The statement that the law FnRecoverBook holds of every row of bytes,where the tables of the library hold what they hold: it answers true,and its argument reads as before;and its card. -/
import Derived.Test.YtkdjbefmiiibpaaGreatDoorBC8
import Derived.Test.YtkdjbefmiiibpaaGreatDoorBCodeOk
import Derived.Test.YtkdjbefmiiibpaaGreatDoorBLays
import Derived.Test.YtkdjbefmiiibpaaGreatDoorCards
import Derived.Test.YtkdjbefmiiibpaaGreatDoorTie
import Derived.Test.YtkdjbefmiiibpaaGreatDoorAbsLaw
import Derived.Deep.DeepHandedRow
import Derived.Lib.LaidTab
import Derived.Stop.LaidErr
namespace Go.Proofs.YtkdjbefmiiibpaaGreatDoor
open Go Go.Proofs Go.Abs Go.Abs.L Go.ChangeShapes Go.WideShapes Go.ChangeAt Go.RowKit
def AllOK:List (Nat×Go.Abs.Fn)→Prop
 | []=>True
 | (f,.text cf) :: r=>Zq f cf∧AllOK r
 | (f,.prim p) :: r=>QS Tryz.prog f p∧AllOK r
theorem allOK_get:∀ {l:List (Nat×Go.Abs.Fn)} {f:Nat} {x:Go.Abs.Fn},AllOK l→lkp l f=some x→(∃ cf,x=.text cf∧Zq f cf)∨∃ p,x=.prim p∧QS Tryz.prog f p
 | [],f,x,_,h=>by cases h
 | (g,.text cf) :: r,f,x,ha,h=>by
  simp only[lkp] at h
  split at h
  ·rename_i e
   cases h
   subst e
   exact .inl ⟨cf,rfl,ha.1⟩
  ·exact allOK_get ha.2 h
 | (g,.prim p) :: r,f,x,ha,h=>by
  simp only[lkp] at h
  split at h
  ·rename_i e
   cases h
   subst e
   exact .inr ⟨p,rfl,ha.1⟩
  ·exact allOK_get ha.2 h
theorem draws (C:Orc) (M:Zt) (nt:Nat) (hC:QD Tryz.prog C) (hB:Wo C):Wp Tryz.prog C M nt:=Zhg (by kernel_rfl) hC hB
theorem itoaName:Tryz.laysM171_ren.f 171=50:=by kernel_rfl
set_option maxRecDepth 10000
theorem prim_strings_Builder_WriteString:QS Tryz.prog ZF (Zva TB 5):=Ztx Tryz.lays166 Tryz.ext166 ⟨Tryz.f42,Tryz.func42,by kernel_rfl,by kernel_rfl⟩
theorem prim_strings_Builder_WriteByte:QS Tryz.prog Zn (ZnL TB 5):=ZpX Tryz.lays167 Tryz.ext167 ⟨Tryz.f43,Tryz.func43,by kernel_rfl,by kernel_rfl⟩
theorem prim_strings_Builder_String:QS Tryz.prog Z0 (ZnM TB 5):=ZpY Tryz.lays169 Tryz.ext169 ⟨Tryz.f44,Tryz.func44,by kernel_rfl,by kernel_rfl⟩
theorem prim_strconv_Itoa:QS Tryz.prog Qj (ZnN):=by
 have h:=Zty Tryz.laysM171 (by rw[itoaName];exact⟨Tryz.f50,Tryz.func50,by kernel_rfl,by kernel_rfl⟩) (by kernel_rfl)
 rw[itoaName] at h
 exact h
theorem prim_strings_Join:QS Tryz.prog XX (ZnO):=Zp0 Tryz.lays156 Tryz.ext156 ⟨Tryz.f51,Tryz.func51,by kernel_rfl,by kernel_rfl⟩
theorem prim_internal_stringslite_Index:QS Tryz.prog ZO (Zvd):=Ztz Tryz.lays219 ⟨Tryz.f78,Tryz.func78,by kernel_rfl,by kernel_rfl⟩
theorem prim_strings_Count:QS Tryz.prog Yc (Zve):=ZtA Tryz.lays138 ⟨Tryz.f81,Tryz.func81,by kernel_rfl,by kernel_rfl⟩
theorem all_ok:AllOK tbl:=
 ⟨Zbv,WY,ZaC,Zb8,Zb9,ZcZ,JL,Zc0,Zc1,U9,Zca,Zcb,Zcc,Zc2,ZfT,Zc3,ZfU,Zcd,ZfV,JM,ZeI,ZeJ,ZfW,ZhU,Zce,Zcf,Zbw,ZeK,ZfX,ZeL,Zcg,Zjk,Zc4,ZeM,ZfY,Zch,prim_strings_Builder_WriteString,prim_strings_Builder_WriteByte,prim_strings_Builder_String,Zc5,ZfZ,Zc6,ZeN,prim_strconv_Itoa,prim_strings_Join,ZhV,Zf0,ZeO,Zf1,Zc7,Zjl,Zf2,Y8,Zc8,ZeP,JN,Zc9,ZeQ,ZhW,Zf3,ZhX,ZeR,ZeS,ZhY,Zda,ZhZ,Zdb,Zk6,prim_internal_stringslite_Index,Zf4,ZaD,prim_strings_Count,Zci,Zdc,ZeT,Zf5,ZeU,Zf6,ZeV,ZeW,Zdd,Zh0,Zf7,Zde,ZeX,ZeY,Zdf,Ja,XF,Xy,Zf8,ZeZ,Zh1,Ze0,Zf9,Ze1,Zjm,Zga,Zh2,Zgb,Zjn,Zdg,Zdh,Zgc,Zh3,Zk7,Znh,Ze2,ZaE,XG,Q3,Zdi,Zgd,Zge,Zgf,Ze3,Zgg,Ze4,Zgh,Ze5,Ze6,Zjo,Zh4,ZaF,JO,ZaG,XH,Zgi,Zgj,Zjp,Ze7,Zgk,Zjq,Zdj,trivial⟩
theorem table_ok:ZdD Tryz.prog Xs Ms where
 text:=fun f cf h=>by
  rcases allOK_get all_ok h with ⟨cf',e,h'⟩ | ⟨p,e,_⟩
  ·cases e
   exact h'
  ·cases e
 prim:=fun f p h=>by
  rcases allOK_get all_ok h with ⟨cf',e,_⟩ | ⟨p',e,h'⟩
  ·cases e
  ·cases e
   exact h'
theorem sound:QD Tryz.prog (Zh Xs Ms):=Zhh (by kernel_rfl) table_ok
theorem own:ownKnob Tryz.prog.godebug=none:=by kernel_rfl
theorem laidOut:laidOutB Tryz.prog=true:=by kernel_rfl
theorem cells5:Tryz.prog.cellsOf 5=1:=by kernel_rfl
theorem gPow:Tryz.prog.globalNamed "internal/strconv.uint64pow10"=some 1:=by kernel_rfl
theorem gPowType:(Tryz.prog.globals[1]?).map (·.type)=some 194:=by kernel_rfl
theorem powTab {W:World} (h:laidMetH Tryz.prog Rows.fnRecoverBookRow.laid W):Zht (fun b=>b<W.heap.size) W:=by
 have h0:laidMet Tryz.prog Rows.fnRecoverBookRow.laid W:=by
  first | exact h | exact h.1 | (rw[MakeChecks.laidMetH_plain _ _ _ (by kernel_rfl)] at h;exact h)
 have h1:=Lib.tabIs_of_head (k:=.u64) (zs:=Lib.pow10Tab) (n:=20) gPow gPowType Tryz.underlying194 Tryz.underlying170 (by kernel_rfl) (by kernel_rfl) (laidMet.tail (laidMet.tail h0))
 unfold Lib.TabIs World.var? at h1
 rw[gPow] at h1
 simp only[Option.bind_some] at h1
 intro q hq
 simp only[Zx6,List.mem_singleton] at hq
 subst hq
 split at h1
 ·rename_i cs e fr hc
  refine⟨(Array.getElem?_eq_some_iff.1 hc).1,e,fr,?_⟩
  rw[hc]
  simp only[Option.some.injEq] at h1
  rw[h1]
  simp[ZmK,Lib.pow10Tab]
 ·cases h1
def cellsOf:DataW Unit→Array Value
 | .agg xs=>(xs.map one).flatten.toArray
 | _ => #[]
where
 one:DataW Unit→List Value
 | .lit (.int k z)=>[.int k z]
 | .agg xs=>xs.map two
 | _=>[]
 two:DataW Unit→Value
 | .lit (.int k z)=>.int k z
 | _=>.int .u8 0
def lay (c:Array Value):Obj→Obj
 | .cells _ t fr=>.cells c t fr
 | o=>o
noncomputable def laidWorld (os:Os):World:=
 { World.holding Tryz.prog os ⟨#[],#[],[]⟩ with heap:=(World.holding Tryz.prog os ⟨#[],#[],[]⟩).heap |>.modify 4 (lay (cellsOf (Rows.laid_math_bits_deBruijn32tab:DataW Unit))) |>.modify 5 (lay (cellsOf (Rows.laid_math_bits_deBruijn64tab:DataW Unit))) |>.modify 1 (lay (cellsOf (Rows.laid_internal_strconv_uint64pow10:DataW Unit))) |>.modify 3 (lay (cellsOf (Rows.laid_unicode_utf8_acceptRanges:DataW Unit))) |>.modify 2 (lay (cellsOf (Rows.laid_unicode_utf8_first:DataW Unit))) }
theorem laid_met (os:Os):laidMet Tryz.prog Rows.fnRecoverBookRow.laid ((laidWorld os).forCall (fun _ _=>0) ⟨#[],#[.slice none 0 0],[]⟩).memory:=
 laidMet_of_run' 8 (by kernel_rfl) (by kernel_rfl)
theorem reads (os:Os) {H:Type} (enc:TypeId×Value→H):∃ d places,DataW.whole enc Tryz.prog ((laidWorld os).forCall (fun _ _=>0) ⟨#[],#[.slice none 0 0],[]⟩).memory Tryz.f6.params.toList Rows.fnRecoverBookSpec.vars false #[Value.slice none 0 0].toList 8=some (d,[],places):=
 ⟨[.nil],[],by kernel_rfl⟩
set_option maxRecDepth 100000 in
theorem lifted (os:Os) (started:os.Started) (H:Type) (enc:TypeId×Value→H) (F:Stop.Interp) :
  ReturnsInHanded {} Tryz.checked os 6 .any ((OpenSpec.ofChange Rows.fnRecoverBookSpec).preRow enc Tryz.prog Tryz.f6 Rows.fnRecoverBookRow.domain false Rows.fnRecoverBookRow.laid) (((OpenSpec.ofChange Rows.fnRecoverBookSpec).at F).post enc Tryz.prog Tryz.f6 false true false false):=by
 obtain⟨dd,places,hx⟩:=reads os enc
 refine returnsInHanded_of_row (C:=Tryz.checked) (s:=OpenSpec.ofChange Rows.fnRecoverBookSpec) own started (by kernel_rfl) Tryz.func6
  (witness_row_at (enc:=enc) (C:=Tryz.checked) false (laidWorld os) #[.slice none 0 0] rfl (by kernel_rfl) (by kernel_rfl) (by kernel_rfl)
   (OpenSpec.preRow_of_cond 8 hx (by kernel_rfl) (fun k hk=>by cases hk) (by kernel_rfl) (laid_met os))) ?_
 intro W base args ds gs before hval0 hW _ _ _ hL _ _
 have hval:∀ (j:Nat) t v,Tryz.f6.params[j]?=some t→args[j]?=some v→Value.okWide Tryz.prog W .any base t v:=hval0
 have hW':=hW
 obtain⟨p,q,hA0,hV,rfl,_,_⟩:=hW
 have hA:DataW.TrodAll enc Tryz.prog W 0 (fun _=>true) true Tryz.f6.params.toList args.toList ds p:=hA0
 rw[Tryz.params6] at hA hval
 obtain⟨v0,d0,rfl,rfl,h0⟩:=trodAll_one hA
 obtain⟨rfl,rfl⟩:=trodVars_none hV
 clear hA0 hval0
 simp only[List.append_nil] at hW'
 have hlt:∀ x∈p,x.block<W.heap.size:=fun x hx=>by simpa using hW'.lt x hx
 have hargs:∀ (W' : World),Below W.heap.size W W'→DataW.Trod enc Tryz.prog W' 0 (fun b=>decide (b<W.heap.size)) true 22 v0 d0 p:=
  fun W' hn=>Below.trod laidOut (by kernel_rfl) (of_decide_eq_true (by kernel_rfl)) h0 hn hlt
 obtain⟨code,hrep⟩:=ZmA Tryz.underlying22 Tryz.underlying5 cells5 (hval 0 22 v0 rfl rfl) h0
 refine(Zmz sound Zk2 (powTab hL) hrep).mono fun e W' ⟨he,hn⟩=>?_
 subst he
 exact⟨_,rfl,⟨_,_,_,[],_,[],hW',trodAll_mk1 (shut_bool Tryz.underlying4 _),trodAll_mk1 (hargs _ hn),rfl,hn.frame _,fun h=>by cases h⟩⟩
theorem said:Rows.FnRecoverBookSaid:=
 OpenClaim.holds_of_cond 6 Tryz.f6 rfl rfl rfl rfl rfl rfl rfl ⟨rfl,rfl,rfl,rfl,rfl⟩ rfl rfl rfl rfl rfl (by kernel_rfl) Tryz.func6 (by kernel_rfl)
  (of_decide_eq_true (by kernel_rfl)) (by unfold Func.isWrapper;first | (rw[if_pos (by decide +kernel)];kernel_rfl) | (rw[if_neg (by decide +kernel)];exact⟨rfl,rfl⟩))
  (fun os started H enc _ F=>by rw[OpenClaim.pre_eq_preRow];exact lifted os started H enc F)
theorem plain (f:FuncId) (fn:Func) (hf:Tryz.pinned.checked.prog.funcNamed "loop.example/panecutter/laws.FnRecoverBook"=some f) (hfn:Tryz.pinned.checked.prog.funcs[f]?=some fn) :
  false=Tryz.pinned.checked.prog.looks []∧∀ (j:Nat) t,fn.params[j]?=some t→Tryz.pinned.checked.prog.wantsStandIn t=false:=by
 obtain rfl:f=6:=Option.some.inj ((show Tryz.prog.funcNamed "loop.example/panecutter/laws.FnRecoverBook"=some 6 by kernel_rfl).symm.trans hf) |>.symm
 obtain rfl:fn=Tryz.f6:=(Option.some.inj (Tryz.func6.symm.trans hfn)).symm
 refine⟨by kernel_rfl,fun j t ht=>?_⟩
 rw[Tryz.params6] at ht
 obtain rfl:t=22:=by simpa using Array.mem_of_getElem? ht
 exact(show Tryz.prog.wantsStandIn 22=false by kernel_rfl)
theorem fnRecoverBook_holds:Rows.FnRecoverBookCardSaid:=
 Claim7.holds_tied_plain_at .later [] _ _ _ _ said (fun _ h=>by cases h) (by kernel_rfl) (fun _ h=>by cases h) fnRecoverBook_row_tie rfl ⟨rfl,rfl⟩ (by kernel_rfl) rfl plain (by kernel_rfl)
#print axioms fnRecoverBook_holds
end Go.Proofs.YtkdjbefmiiibpaaGreatDoor

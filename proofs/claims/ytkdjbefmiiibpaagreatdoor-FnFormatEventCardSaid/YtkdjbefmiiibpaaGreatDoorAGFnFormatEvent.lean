/- The statement that the law FnFormatEvent holds of every row of bytes,where the tables of the library hold what they hold: it answers true,and its argument reads as before;and its card. -/
import Derived.Test.YtkdjbefmiiibpaaGreatDoorAC7
import Derived.Test.YtkdjbefmiiibpaaGreatDoorACodeOk
import Derived.Test.YtkdjbefmiiibpaaGreatDoorALays
import Derived.Test.YtkdjbefmiiibpaaGreatDoorCards
import Derived.Test.YtkdjbefmiiibpaaGreatDoorTie
import Derived.Test.YtkdjbefmiiibpaaGreatDoorAbsLaw
import Derived.Deep.DeepHandedRow
import Derived.Lib.LaidTab
import Derived.Stop.LaidErr
namespace Go.Proofs.YtkdjbefmiiibpaaGreatDoor
open Go Go.Proofs Go.Abs Go.Abs.L Go.ChangeShapes Go.WideShapes Go.ChangeAt Go.RowKit
def Zuv:List (Nat×Go.Abs.Fn)→Prop
 | []=>True
 | (f,.text cf) :: r=>Zy f cf∧Zuv r
 | (f,.prim p) :: r=>Wo Tryz.prog f p∧Zuv r
theorem ZfN:∀ {l:List (Nat×Go.Abs.Fn)} {f:Nat} {x:Go.Abs.Fn},Zuv l→lkp l f=some x→(∃ cf,x=.text cf∧Zy f cf)∨∃ p,x=.prim p∧Wo Tryz.prog f p
 | [],f,x,_,h=>by cases h
 | (g,.text cf) :: r,f,x,ha,h=>by
  simp only[lkp] at h
  split at h
  ·rename_i e
   cases h
   subst e
   exact .inl ⟨cf,rfl,ha.1⟩
  ·exact ZfN ha.2 h
 | (g,.prim p) :: r,f,x,ha,h=>by
  simp only[lkp] at h
  split at h
  ·rename_i e
   cases h
   subst e
   exact .inr ⟨p,rfl,ha.1⟩
  ·exact ZfN ha.2 h
theorem draws (C:Orc) (M:Zo) (nt:Nat) (hC:QW Tryz.prog C) (hB:Wr C):Up Tryz.prog C M nt:=Zme (by kernel_rfl) hC hB
theorem Zry:Tryz.laysM171_ren.f 171=50:=by kernel_rfl
set_option maxRecDepth 10000
theorem JQ:Wo Tryz.prog ZV (Zwu TB 5):=ZAL Tryz.lays166 Tryz.ext166 ⟨Tryz.f42,Tryz.func42,by kernel_rfl,by kernel_rfl⟩
theorem Zak:Wo Tryz.prog Zr (Zpp TB 5):=Zyi Tryz.lays167 Tryz.ext167 ⟨Tryz.f43,Tryz.func43,by kernel_rfl,by kernel_rfl⟩
theorem Zbu:Wo Tryz.prog QE (Zpq TB 5):=Zyj Tryz.lays169 Tryz.ext169 ⟨Tryz.f44,Tryz.func44,by kernel_rfl,by kernel_rfl⟩
theorem ZhM:Wo Tryz.prog QC (Zps):=by
 have h:=ZAM Tryz.laysM171 (by rw[Zry];exact⟨Tryz.f50,Tryz.func50,by kernel_rfl,by kernel_rfl⟩) (by kernel_rfl)
 rw[Zry] at h
 exact h
theorem ZhN:Wo Tryz.prog Yx (Zpt):=Zyk Tryz.lays156 Tryz.ext156 ⟨Tryz.f51,Tryz.func51,by kernel_rfl,by kernel_rfl⟩
theorem J6:Wo Tryz.prog Z2 (Zwv):=ZAN Tryz.lays219 ⟨Tryz.f78,Tryz.func78,by kernel_rfl,by kernel_rfl⟩
theorem ZgT:Wo Tryz.prog YP (Zww):=ZAO Tryz.lays138 ⟨Tryz.f81,Tryz.func81,by kernel_rfl,by kernel_rfl⟩
theorem all_ok:Zuv tbl:=
 ⟨ZgR,Ze6,ZiM,ZiN,Zkn,Zgg,Zko,ZnG,ZiO,ZnH,Zgh,Zls,Zlt,ZnI,Zp1,ZiP,ZiQ,ZhL,Zlu,ZnJ,Zlv,ZiR,JQ,Zak,Zbu,Zp2,Zkp,ZnK,Zkq,Zlw,ZhM,ZhN,Zp3,ZnL,Zlx,ZnM,Zkr,Zrs,ZnN,Zbt,Zks,Zly,Zgi,Zkt,Zlz,Zp4,ZnO,Zp5,Zku,Zta,J6,ZnP,ZgS,ZgT,ZiS,Zkv,ZlA,ZnQ,ZlB,ZnR,ZlC,ZlD,Zkw,Zp6,Zkx,Ze7,Jo,U7,ZnS,ZlE,Zp7,ZlF,ZnT,ZlG,Zrt,ZnU,Zp8,ZnV,Zru,Zky,Zkz,ZnW,Zp9,Ztb,Zvv,ZlH,Jp,WR,ZkA,ZnX,ZnY,ZnZ,ZlI,Zn0,ZlJ,Zn1,ZlK,ZlL,Zrv,Zqa,Jq,Zn2,Zn3,Zrw,ZlM,Zn4,Zrx,ZkB,trivial⟩
theorem table_ok:Zew Tryz.prog Xs Ms where
 text:=fun f cf h=>by
  rcases ZfN all_ok h with ⟨cf',e,h'⟩ | ⟨p,e,_⟩
  ·cases e
   exact h'
  ·cases e
 prim:=fun f p h=>by
  rcases ZfN all_ok h with ⟨cf',e,_⟩ | ⟨p',e,h'⟩
  ·cases e
  ·cases e
   exact h'
theorem sound:QW Tryz.prog (Zk Xs Ms):=Zqo (by kernel_rfl) table_ok
theorem own:ownKnob Tryz.prog.godebug=none:=by kernel_rfl
theorem Zz2:laidOutB Tryz.prog=true:=by kernel_rfl
theorem cells5:Tryz.prog.cellsOf 5=1:=by kernel_rfl
theorem gPow:Tryz.prog.globalNamed "internal/strconv.uint64pow10"=some 1:=by kernel_rfl
theorem Zxi:(Tryz.prog.globals[1]?).map (·.type)=some 194:=by kernel_rfl
theorem powTab {W:World} (h:laidMetH Tryz.prog Rows.fnFormatEventRow.laid W):Zhb (fun b=>b<W.heap.size) W:=by
 have h0:laidMet Tryz.prog Rows.fnFormatEventRow.laid W:=by
  first | exact h | exact h.1 | (rw[MakeChecks.laidMetH_plain _ _ _ (by kernel_rfl)] at h;exact h)
 have h1:=Lib.tabIs_of_head (k:=.u64) (zs:=Lib.pow10Tab) (n:=20) gPow Zxi Tryz.underlying194 Tryz.underlying170 (by kernel_rfl) (by kernel_rfl) (laidMet.tail (laidMet.tail h0))
 unfold Lib.TabIs World.var? at h1
 rw[gPow] at h1
 simp only[Option.bind_some] at h1
 intro q hq
 simp only[gtabs,List.mem_singleton] at hq
 subst hq
 split at h1
 ·rename_i cs e fr hc
  refine⟨(Array.getElem?_eq_some_iff.1 hc).1,e,fr,?_⟩
  rw[hc]
  simp only[Option.some.injEq] at h1
  rw[h1]
  simp[ZqE,Lib.pow10Tab]
 ·cases h1
def cellsOf:DataW Unit→Array Value
 | .agg xs=>(xs.map one).flatten.toArray
 | _ => #[]
where
 one:DataW Unit→List Value
 | .lit (.int k z)=>[.int k z]
 | .agg xs=>xs.map two
 | _=>[]
 two:DataW Unit→Value
 | .lit (.int k z)=>.int k z
 | _=>.int .u8 0
def lay (c:Array Value):Obj→Obj
 | .cells _ t fr=>.cells c t fr
 | o=>o
noncomputable def ZiT (os:Os):World:=
 { World.holding Tryz.prog os ⟨#[],#[],[]⟩ with heap:=(World.holding Tryz.prog os ⟨#[],#[],[]⟩).heap |>.modify 4 (lay (cellsOf (Rows.laid_math_bits_deBruijn32tab:DataW Unit))) |>.modify 5 (lay (cellsOf (Rows.laid_math_bits_deBruijn64tab:DataW Unit))) |>.modify 1 (lay (cellsOf (Rows.laid_internal_strconv_uint64pow10:DataW Unit))) |>.modify 3 (lay (cellsOf (Rows.laid_unicode_utf8_acceptRanges:DataW Unit))) |>.modify 2 (lay (cellsOf (Rows.laid_unicode_utf8_first:DataW Unit))) }
theorem Zxj (os:Os):laidMet Tryz.prog Rows.fnFormatEventRow.laid ((ZiT os).forCall (fun _ _=>0) ⟨#[],#[.slice none 0 0],[]⟩).memory:=
 laidMet_of_run' 8 (by kernel_rfl) (by kernel_rfl)
theorem reads (os:Os) {H:Type} (enc:TypeId×Value→H):∃ d places,DataW.whole enc Tryz.prog ((ZiT os).forCall (fun _ _=>0) ⟨#[],#[.slice none 0 0],[]⟩).memory Tryz.f3.params.toList Rows.fnFormatEventSpec.vars false #[Value.slice none 0 0].toList 8=some (d,[],places):=
 ⟨[.nil],[],by kernel_rfl⟩
set_option maxRecDepth 100000 in
theorem lifted (os:Os) (started:os.Started) (H:Type) (enc:TypeId×Value→H) (F:Stop.Interp) :
  ReturnsInHanded {} Tryz.checked os 3 .any ((OpenSpec.ofChange Rows.fnFormatEventSpec).preRow enc Tryz.prog Tryz.f3 Rows.fnFormatEventRow.domain false Rows.fnFormatEventRow.laid) (((OpenSpec.ofChange Rows.fnFormatEventSpec).at F).post enc Tryz.prog Tryz.f3 false true false false):=by
 obtain⟨dd,places,hx⟩:=reads os enc
 refine returnsInHanded_of_row (C:=Tryz.checked) (s:=OpenSpec.ofChange Rows.fnFormatEventSpec) own started (by kernel_rfl) Tryz.func3
  (witness_row_at (enc:=enc) (C:=Tryz.checked) false (ZiT os) #[.slice none 0 0] rfl (by kernel_rfl) (by kernel_rfl) (by kernel_rfl)
   (OpenSpec.preRow_of_cond 8 hx (by kernel_rfl) (fun k hk=>by cases hk) (by kernel_rfl) (Zxj os))) ?_
 intro W base args ds gs before hval0 hW _ _ _ hL _ _
 have hval:∀ (j:Nat) t v,Tryz.f3.params[j]?=some t→args[j]?=some v→Value.okWide Tryz.prog W .any base t v:=hval0
 have hW':=hW
 obtain⟨p,q,hA0,hV,rfl,_,_⟩:=hW
 have hA:DataW.TrodAll enc Tryz.prog W 0 (fun _=>true) true Tryz.f3.params.toList args.toList ds p:=hA0
 rw[Tryz.params3] at hA hval
 obtain⟨v0,d0,rfl,rfl,h0⟩:=trodAll_one hA
 obtain⟨rfl,rfl⟩:=trodVars_none hV
 clear hA0 hval0
 simp only[List.append_nil] at hW'
 have hlt:∀ x∈p,x.block<W.heap.size:=fun x hx=>by simpa using hW'.lt x hx
 have hargs:∀ (W' : World),Below W.heap.size W W'→DataW.Trod enc Tryz.prog W' 0 (fun b=>decide (b<W.heap.size)) true 22 v0 d0 p:=
  fun W' hn=>Below.trod Zz2 (by kernel_rfl) (of_decide_eq_true (by kernel_rfl)) h0 hn hlt
 obtain⟨code,hrep⟩:=Zv8 Tryz.underlying22 Tryz.underlying5 cells5 (hval 0 22 v0 rfl rfl) h0
 refine(Zv7 sound ZgN (powTab hL) hrep).mono fun e W' ⟨he,hn⟩=>?_
 subst he
 exact⟨_,rfl,⟨_,_,_,[],_,[],hW',trodAll_mk1 (shut_bool Tryz.underlying4 _),trodAll_mk1 (hargs _ hn),rfl,hn.frame _,fun h=>by cases h⟩⟩
theorem said:Rows.FnFormatEventSaid:=
 OpenClaim.holds_of_cond 3 Tryz.f3 rfl rfl rfl rfl rfl rfl rfl ⟨rfl,rfl,rfl,rfl,rfl⟩ rfl rfl rfl rfl rfl (by kernel_rfl) Tryz.func3 (by kernel_rfl)
  (of_decide_eq_true (by kernel_rfl)) (by unfold Func.isWrapper;first | (rw[if_pos (by decide +kernel)];kernel_rfl) | (rw[if_neg (by decide +kernel)];exact⟨rfl,rfl⟩))
  (fun os started H enc _ F=>by rw[OpenClaim.pre_eq_preRow];exact lifted os started H enc F)
theorem plain (f:FuncId) (fn:Func) (hf:Tryz.pinned.checked.prog.funcNamed "loop.example/panecutter/laws.FnFormatEvent"=some f) (hfn:Tryz.pinned.checked.prog.funcs[f]?=some fn) :
  false=Tryz.pinned.checked.prog.looks []∧∀ (j:Nat) t,fn.params[j]?=some t→Tryz.pinned.checked.prog.wantsStandIn t=false:=by
 obtain rfl:f=3:=Option.some.inj ((show Tryz.prog.funcNamed "loop.example/panecutter/laws.FnFormatEvent"=some 3 by kernel_rfl).symm.trans hf) |>.symm
 obtain rfl:fn=Tryz.f3:=(Option.some.inj (Tryz.func3.symm.trans hfn)).symm
 refine⟨by kernel_rfl,fun j t ht=>?_⟩
 rw[Tryz.params3] at ht
 obtain rfl:t=22:=by simpa using Array.mem_of_getElem? ht
 exact(show Tryz.prog.wantsStandIn 22=false by kernel_rfl)
theorem fnFormatEvent_holds:Rows.FnFormatEventCardSaid:=
 Claim7.holds_tied_plain_at .later [] _ _ _ _ said (fun _ h=>by cases h) (by kernel_rfl) (fun _ h=>by cases h) fnFormatEvent_row_tie rfl ⟨rfl,rfl⟩ (by kernel_rfl) rfl plain (by kernel_rfl)
#print axioms fnFormatEvent_holds
end Go.Proofs.YtkdjbefmiiibpaaGreatDoor

/- The statement that the law FnFormatBookCrash holds of every row of bytes,where the tables of the library hold what they hold: it answers true,and its argument reads as before;and its card. -/
import Derived.Test.YtcefneehgbiebaaGreatDoorAC12
import Derived.Test.YtcefneehgbiebaaGreatDoorACodeOk
import Derived.Test.YtcefneehgbiebaaGreatDoorALays
import Derived.Test.YtcefneehgbiebaaGreatDoorCards
import Derived.Test.YtcefneehgbiebaaGreatDoorTie
import Derived.Test.YtcefneehgbiebaaGreatDoorAbsLaw
import Derived.Deep.DeepHandedRow
import Derived.Lib.LaidTab
import Derived.Stop.LaidErr
namespace Go.Proofs.YtcefneehgbiebaaGreatDoor
open Go Go.Proofs Go.Abs Go.Abs.L Go.ChangeShapes Go.WideShapes Go.ChangeAt Go.RowKit
def AllOK:List (Nat×Go.Abs.Fn)→Prop
 | []=>True
 | (f,.text cf) :: r=>Zk f cf∧AllOK r
 | (f,.prim p) :: r=>Q5 Tryz.prog f p∧AllOK r
theorem allOK_get:∀ {l:List (Nat×Go.Abs.Fn)} {f:Nat} {x:Go.Abs.Fn},AllOK l→lkp l f=some x→(∃ cf,x=.text cf∧Zk f cf)∨∃ p,x=.prim p∧Q5 Tryz.prog f p
 | [],f,x,_,h=>by cases h
 | (g,.text cf) :: r,f,x,ha,h=>by
  simp only[lkp] at h;split at h
  ·rename_i e;cases h;subst e;exact .inl ⟨cf,rfl,ha.1⟩
  ·exact allOK_get ha.2 h
 | (g,.prim p) :: r,f,x,ha,h=>by
  simp only[lkp] at h;split at h
  ·rename_i e;cases h;subst e;exact .inr ⟨p,rfl,ha.1⟩
  ·exact allOK_get ha.2 h
theorem draws (C:Orc) (M:Zp) (nt:Nat) (hC:Qz Tryz.prog C) (hB:Wf C):WH Tryz.prog C M nt:=ZlA (by kernel_rfl) hC hB
theorem itoaName:Tryz.laysM171_ren.f 171=88:=by kernel_rfl
set_option maxRecDepth 10000
theorem prim_strings_Builder_WriteString:Q5 Tryz.prog ZG (Zys TB 5):=Zzf Tryz.lays166 Tryz.ext166 ⟨Tryz.f48,Tryz.func48,by kernel_rfl,by kernel_rfl⟩
theorem prim_strings_Builder_WriteByte:Q5 Tryz.prog Zo (Zsd TB 5):=ZwT Tryz.lays167 Tryz.ext167 ⟨Tryz.f49,Tryz.func49,by kernel_rfl,by kernel_rfl⟩
theorem prim_strings_Builder_String:Q5 Tryz.prog Z3 (Zse TB 5):=ZwV Tryz.lays169 Tryz.ext169 ⟨Tryz.f50,Tryz.func50,by kernel_rfl,by kernel_rfl⟩
theorem prim_strconv_Itoa:Q5 Tryz.prog Qj (Zsg):=by
 have h:=Zzg Tryz.laysM171 (by rw[itoaName];exact⟨Tryz.f88,Tryz.func88,by kernel_rfl,by kernel_rfl⟩) (by kernel_rfl);rw[itoaName] at h;exact h
theorem prim_strings_Join:Q5 Tryz.prog XU (Zsh):=ZwX Tryz.lays156 Tryz.ext156 ⟨Tryz.f89,Tryz.func89,by kernel_rfl,by kernel_rfl⟩
theorem prim_internal_stringslite_Index:Q5 Tryz.prog ZN (Zyt):=Zzh Tryz.lays219 ⟨Tryz.f135,Tryz.func135,by kernel_rfl,by kernel_rfl⟩
theorem prim_strings_Count:Q5 Tryz.prog Ya (Zyu):=Zzi Tryz.lays138 ⟨Tryz.f138,Tryz.func138,by kernel_rfl,by kernel_rfl⟩
theorem prim_slices_Clone_g:Q5 Tryz.prog QJ (Zlw 5 40):=Zv1 Zee draws
theorem prim_slices_Delete_g:Q5 Tryz.prog ZQ (ZgP 5 40 YS):=Ztv ZdA draws
theorem all_ok:AllOK tbl:=
 ⟨Zec,ZaH,Zho,Zit,Zhp,Zfp,Zcs,Zhq,Zhr,Zfq,Zmn,Ziu,Ziv,Zfr,Zhs,Ziw,Zkn,Zht,Zix,Zhu,Zhv,Zhw,Ziy,Zko,Zmo,Zfs,Zft,Zed,Zhx,Zkp,Zfu,Zkq,Zmp,prim_strings_Builder_WriteString,prim_strings_Builder_WriteByte,prim_strings_Builder_String,Zct,Ziz,Zhy,Zmq,Zkr,Zmr,Zks,ZiA,Zms,Zkt,Zhz,ZiB,ZiC,ZiD,Zku,Zmt,ZhA,Zkv,ZhB,ZhC,ZhD,ZhE,Zkw,ZhF,ZiE,Zkx,ZhG,WO,ZhH,ZiF,Zcu,Zky,ZhI,ZiG,prim_strconv_Itoa,prim_strings_Join,Zkz,ZiH,ZkA,ZhJ,ZoG,ZkB,ZiI,ZkC,ZiJ,Zmu,ZiK,ZiL,ZhK,Zmv,ZhL,ZiM,ZkD,Zmw,ZhM,Zmx,Zmy,ZkE,ZkF,ZoH,ZkG,ZkH,ZiN,ZhN,ZiO,ZiP,ZiQ,ZkI,ZiR,ZkJ,ZiS,ZoI,ZkK,Zmz,ZkL,ZoJ,ZhO,prim_internal_stringslite_Index,ZkM,prim_strings_Count,Zfv,ZhP,ZqU,ZaI,ZhQ,Za4,Zfw,ZmA,ZqV,Ztl,ZiT,ZkN,ZkO,ZkP,prim_slices_Clone_g,ZkQ,Zfx,ZmB,ZiU,prim_slices_Delete_g,ZkR,ZkS,ZkT,ZkU,ZkV,ZkW,ZiV,ZkX,ZiW,ZkY,ZhR,ZbX,ZiX,ZmC,ZoK,ZmD,ZoL,ZhS,ZoM,ZkZ,ZiY,Zk0,ZoN,ZiZ,Zk1,ZoO,YF,Zi0,ZqW,Zk2,ZhT,YG,trivial⟩
theorem table_ok:Zes Tryz.prog Xs Ms where
 text:=fun f cf h=>by
  rcases allOK_get all_ok h with ⟨aa,e,h'⟩ | ⟨p,e,_⟩
  ·cases e;exact h'
  ·cases e
 prim:=fun f p h=>by
  rcases allOK_get all_ok h with ⟨aa,e,_⟩ | ⟨p',e,h'⟩
  ·cases e
  ·cases e;exact h'
theorem sound:Qz Tryz.prog (Ze Xs Ms):=ZmQ (by kernel_rfl) table_ok
theorem own:ownKnob Tryz.prog.godebug=none:=by kernel_rfl
theorem laidOut:laidOutB Tryz.prog=true:=by kernel_rfl
theorem cells5:Tryz.prog.cellsOf 5=1:=by kernel_rfl
theorem gPow:Tryz.prog.globalNamed "internal/strconv.uint64pow10"=some 3:=by kernel_rfl
theorem gPowType:(Tryz.prog.globals[3]?).map (·.type)=some 240:=by kernel_rfl
theorem powTab {W:World} (h:laidMetH Tryz.prog Rows.fnFormatBookCrashRow.laid W):Zjm (fun b=>b<W.heap.size) W:=by
 have h0:laidMet Tryz.prog Rows.fnFormatBookCrashRow.laid W:=by
  first | exact h | exact h.1 | (rw[MakeChecks.laidMetH_plain _ _ _ (by kernel_rfl)] at h;exact h)
 have h1:=Lib.tabIs_of_head (k:=.u64) (zs:=Lib.pow10Tab) (n:=20) gPow gPowType Tryz.underlying240 Tryz.underlying223 (by kernel_rfl) (by kernel_rfl) (laidMet.tail (laidMet.tail h0));unfold Lib.TabIs World.var? at h1;rw[gPow] at h1;simp only[KI] at h1;intro q hq;simp only[ZBx,KA] at hq;subst hq;split at h1
 ·rename_i cs e fr hc;refine⟨(KO.1 hc).1,e,fr,?_⟩;rw[hc];simp only[Option.some.injEq] at h1;rw[h1];simp[ZrO,Lib.pow10Tab]
 ·cases h1
def cellsOf:DataW Unit→Array Value
 | .agg xs=>(xs.map one).flatten.toArray
 | _ => #[]
where
 one:DataW Unit→List Value
 | .lit (.int k z)=>[.int k z]
 | .agg xs=>xs.map two
 | _=>[]
 two:DataW Unit→Value
 | .lit (.int k z)=>.int k z
 | _=>.int .u8 0
def lay (c:Array Value):Obj→Obj
 | .cells _ t fr=>.cells c t fr
 | o=>o
noncomputable def laidWorld (os:Os):World:=
 { World.holding Tryz.prog os ⟨#[],#[],[]⟩ with heap:=(World.holding Tryz.prog os ⟨#[],#[],[]⟩).heap |>.modify 4 (lay (cellsOf (Rows.laid_math_bits_deBruijn32tab:DataW Unit))) |>.modify 5 (lay (cellsOf (Rows.laid_math_bits_deBruijn64tab:DataW Unit))) |>.modify 3 (lay (cellsOf (Rows.laid_internal_strconv_uint64pow10:DataW Unit))) |>.modify 2 (lay (cellsOf (Rows.laid_unicode_utf8_acceptRanges:DataW Unit))) |>.modify 1 (lay (cellsOf (Rows.laid_unicode_utf8_first:DataW Unit))) }
theorem laid_met (os:Os):laidMet Tryz.prog Rows.fnFormatBookCrashRow.laid ((laidWorld os).forCall (fun _ _=>0) ⟨#[],#[.slice none 0 0],[]⟩).memory:=
 laidMet_of_run' 8 (by kernel_rfl) (by kernel_rfl)
theorem reads (os:Os) {H:Type} (enc:TypeId×Value→H):∃ d places,DataW.whole enc Tryz.prog ((laidWorld os).forCall (fun _ _=>0) ⟨#[],#[.slice none 0 0],[]⟩).memory Tryz.f5.params.toList Rows.fnFormatBookCrashSpec.vars false #[Value.slice none 0 0].toList 8=some (d,[],places):=
 ⟨[.nil],[],by kernel_rfl⟩
set_option maxRecDepth 100000 in
theorem lifted (os:Os) (aa:os.Started) (H:Type) (enc:TypeId×Value→H) (F:Stop.Interp) :
  ReturnsInHanded {} Tryz.checked os 5 .any ((OpenSpec.ofChange Rows.fnFormatBookCrashSpec).preRow enc Tryz.prog Tryz.f5 Rows.fnFormatBookCrashRow.domain false Rows.fnFormatBookCrashRow.laid) (((OpenSpec.ofChange Rows.fnFormatBookCrashSpec).at F).post enc Tryz.prog Tryz.f5 false true false false):=by
 obtain⟨dd,af,hx⟩:=reads os enc;refine returnsInHanded_of_row (C:=Tryz.checked) (s:=OpenSpec.ofChange Rows.fnFormatBookCrashSpec) own aa (by kernel_rfl) Tryz.func5
  (witness_row_at (enc:=enc) (C:=Tryz.checked) false (laidWorld os) #[.slice none 0 0] rfl (by kernel_rfl) (by kernel_rfl) (by kernel_rfl)
   (OpenSpec.preRow_of_cond 8 hx (by kernel_rfl) (fun k hk=>by cases hk) (by kernel_rfl) (laid_met os))) ?_
 intro W base args ds gs ag ab hW _ _ _ hL _ _;have ad:∀ (j:Nat) t v,Tryz.f5.params[j]?=some t→args[j]?=some v→Value.okWide Tryz.prog W .any base t v:=ab;have ah:=hW;obtain⟨p,q,aj,hV,rfl,_,_⟩:=hW;have hA:DataW.TrodAll enc Tryz.prog W 0 (fun _=>true) true Tryz.f5.params.toList args.toList ds p:=aj;rw[Tryz.params5] at hA ad;obtain⟨v0,d0,rfl,rfl,h0⟩:=trodAll_one hA;obtain⟨rfl,rfl⟩:=trodVars_none hV;clear aj ab;simp only[KU] at ah;have ak:∀ x∈p,x.block<W.heap.size:=fun x hx=>by simpa using ah.lt x hx
 have ae:∀ (W' : World),Below W.heap.size W W'→DataW.Trod enc Tryz.prog W' 0 (fun b=>decide (b<W.heap.size)) true 22 v0 d0 p:=
  fun W' hn=>Below.trod laidOut (by kernel_rfl) (of_decide_eq_true (by kernel_rfl)) h0 hn ak
 obtain⟨al,ai⟩:=ZtQ Tryz.underlying22 Tryz.underlying5 cells5 (ad 0 22 v0 rfl rfl) h0;refine(ZtP sound Zga (powTab hL) ai).mono fun e W' ⟨he,hn⟩=>?_;subst he;exact⟨_,rfl,⟨_,_,_,[],_,[],ah,trodAll_mk1 (shut_bool Tryz.underlying4 _),trodAll_mk1 (ae _ hn),rfl,hn.frame _,fun h=>by cases h⟩⟩
theorem said:Rows.FnFormatBookCrashSaid:=
 OpenClaim.holds_of_cond 5 Tryz.f5 rfl rfl rfl rfl rfl rfl rfl ⟨rfl,rfl,rfl,rfl,rfl⟩ rfl rfl rfl rfl rfl (by kernel_rfl) Tryz.func5 (by kernel_rfl)
  (of_decide_eq_true (by kernel_rfl)) (by unfold Func.isWrapper;first | (rw[Kh (by decide +kernel)];kernel_rfl) | (rw[Kd (by decide +kernel)];exact⟨rfl,rfl⟩))
  (fun os aa H enc _ F=>by rw[OpenClaim.pre_eq_preRow];exact lifted os aa H enc F)
theorem plain (f:FuncId) (fn:Func) (hf:Tryz.pinned.checked.prog.funcNamed "loop.example/panecutter/laws.FnFormatBookCrash"=some f) (aa:Tryz.pinned.checked.prog.funcs[f]?=some fn) :
  false=Tryz.pinned.checked.prog.looks []∧∀ (j:Nat) t,fn.params[j]?=some t→Tryz.pinned.checked.prog.wantsStandIn t=false:=by
 obtain rfl:f=5:=Option.some.inj ((show Tryz.prog.funcNamed "loop.example/panecutter/laws.FnFormatBookCrash"=some 5 by kernel_rfl).symm.trans hf) |>.symm;obtain rfl:fn=Tryz.f5:=(Option.some.inj (Tryz.func5.symm.trans aa)).symm;refine⟨by kernel_rfl,fun j t ht=>?_⟩;rw[Tryz.params5] at ht;obtain rfl:t=22:=by simpa using Array.mem_of_getElem? ht
 exact(show Tryz.prog.wantsStandIn 22=false by kernel_rfl)
theorem fnFormatBookCrash_holds:Rows.FnFormatBookCrashCardSaid:=
 Claim7.holds_tied_plain_at .later [] _ _ _ _ said (fun _ h=>by cases h) (by kernel_rfl) (fun _ h=>by cases h) fnFormatBookCrash_row_tie rfl ⟨rfl,rfl⟩ (by kernel_rfl) rfl plain (by kernel_rfl)
#print axioms fnFormatBookCrash_holds
end Go.Proofs.YtcefneehgbiebaaGreatDoor

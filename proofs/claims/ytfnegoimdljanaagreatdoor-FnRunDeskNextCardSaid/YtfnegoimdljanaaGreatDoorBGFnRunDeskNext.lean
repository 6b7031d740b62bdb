/- The statement that the law FnRunDeskNext holds of every row of bytes,where the tables of the library hold what they hold: it answers true,and its argument reads as before;and its card. -/
import Derived.Test.YtfnegoimdljanaaGreatDoorBC24
import Derived.Test.YtfnegoimdljanaaGreatDoorBCodeOk
import Derived.Test.YtfnegoimdljanaaGreatDoorBLays
import Derived.Test.YtfnegoimdljanaaGreatDoorCards
import Derived.Test.YtfnegoimdljanaaGreatDoorTie
import Derived.Test.YtfnegoimdljanaaGreatDoorAbsLaw
import Derived.Deep.DeepHandedRow
import Derived.Lib.LaidTab
import Derived.Stop.LaidErr
set_option linter.unusedSimpArgs false
set_option linter.unusedVariables false
namespace Go.Proofs.YtfnegoimdljanaaGreatDoor
open Go Go.Proofs Go.Abs Go.Abs.L Go.ChangeShapes Go.WideShapes Go.ChangeAt Go.RowKit
def AllOK:List (Nat×Go.Abs.Fn)→Prop
 | []=>True
 | (f,.text cf) :: r=>Zyz f cf∧AllOK r
 | (f,.prim p) :: r=>Q6 Tryz.prog f p∧AllOK r
theorem allOK_get:∀ {l:List (Nat×Go.Abs.Fn)} {f:Nat} {x:Go.Abs.Fn},AllOK l→lkp l f=some x→(∃ cf,x=.text cf∧Zyz f cf)∨∃ p,x=.prim p∧Q6 Tryz.prog f p
 | [],f,x,_,h=>by cases h
 | (g,.text cf) :: r,f,x,ha,h=>by
  simp only[lkp] at h;split at h
  ·rename_i e;cases h;subst e;exact .inl ⟨cf,rfl,ha.1⟩
  ·exact allOK_get ha.2 h
 | (g,.prim p) :: r,f,x,ha,h=>by
  simp only[lkp] at h;split at h
  ·rename_i e;cases h;subst e;exact .inr ⟨p,rfl,ha.1⟩
  ·exact allOK_get ha.2 h
theorem draws (C:Orc) (M:Zr) (nt:Nat) (hC:Qy Tryz.prog C):VN Tryz.prog C M nt:=ZkD (by kernel_rfl) hC
theorem itoaName:Tryz.laysM171_ren.f 171=63:=by kernel_rfl
set_option maxRecDepth 10000
theorem prim_strings_Builder_WriteString:Q6 Tryz.prog 28 (ZzB 66 5):=ZAR Tryz.lays166 Tryz.ext166 ⟨Tryz.f28,Tryz.func28,by kernel_rfl,by kernel_rfl⟩
theorem prim_strings_Builder_WriteByte:Q6 Tryz.prog 30 (ZrQ 66 5):=ZxE Tryz.lays167 Tryz.ext167 ⟨Tryz.f30,Tryz.func30,by kernel_rfl,by kernel_rfl⟩
theorem prim_strings_Builder_String:Q6 Tryz.prog 31 (ZrR 66 5):=ZxG Tryz.lays169 Tryz.ext169 ⟨Tryz.f31,Tryz.func31,by kernel_rfl,by kernel_rfl⟩
theorem prim_strconv_Itoa:Q6 Tryz.prog 63 (ZrT):=by
 have h:=ZAS Tryz.laysM171 (by rw[itoaName];exact⟨Tryz.f63,Tryz.func63,by kernel_rfl,by kernel_rfl⟩) (by kernel_rfl);rw[itoaName] at h;exact h
theorem prim_strings_Join:Q6 Tryz.prog 89 (ZrU):=ZxI Tryz.lays156 Tryz.ext156 ⟨Tryz.f89,Tryz.func89,by kernel_rfl,by kernel_rfl⟩
theorem prim_internal_stringslite_Index:Q6 Tryz.prog 118 (ZzC):=ZAT Tryz.lays219 ⟨Tryz.f118,Tryz.func118,by kernel_rfl,by kernel_rfl⟩
theorem prim_strings_Count:Q6 Tryz.prog 173 (ZzD):=ZAU Tryz.lays138 ⟨Tryz.f173,Tryz.func173,by kernel_rfl,by kernel_rfl⟩
theorem prim_slices_Clone_g:Q6 Tryz.prog 201 (ZkB 5 40):=ZwJ ⟨⟨_,_,_,_,_,_,_,_,_,_,Tryz.func201,by kernel_rfl,rfl,by kernel_rfl,rfl,by kernel_rfl,by kernel_rfl,by kernel_rfl,rfl,rfl,rfl,rfl,rfl,rfl,rfl⟩⟩ draws
theorem prim_slices_Delete_g:Q6 Tryz.prog 206 (Zfr 5 40 Wc):=Zt2 (okM Tryz.func206) draws
theorem all_ok:AllOK tbl:=
 ⟨(okM Tryz.func4),(okM Tryz.func5),(okM Tryz.func8),(okM Tryz.func10),(okM Tryz.func12),(okM Tryz.func13),(okM Tryz.func14),(okM Tryz.func15),(okM Tryz.func16),(okM Tryz.func17),(okM Tryz.func24),(okM Tryz.func25),(okM Tryz.func26),(okM Tryz.func27),prim_strings_Builder_WriteString,(okM Tryz.func29),prim_strings_Builder_WriteByte,prim_strings_Builder_String,(okM Tryz.func32),(okM Tryz.func33),(okM Tryz.func34),(okM Tryz.func35),(okM Tryz.func36),(okM Tryz.func37),(okM Tryz.func38),(okM Tryz.func39),(okM Tryz.func40),(okM Tryz.func41),(okM Tryz.func42),(okM Tryz.func43),(okM Tryz.func44),(okM Tryz.func45),(okM Tryz.func47),(okM Tryz.func48),(okM Tryz.func49),(okM Tryz.func50),(okM Tryz.func51),(okM Tryz.func52),(okM Tryz.func56),(okM Tryz.func57),(okM Tryz.func58),(okM Tryz.func59),(okM Tryz.func60),(okM Tryz.func61),prim_strconv_Itoa,(okM Tryz.func64),(okM Tryz.func65),(okM Tryz.func66),(okM Tryz.func67),(okM Tryz.func68),(okM Tryz.func69),(okM Tryz.func70),(okM Tryz.func71),(okM Tryz.func72),(okM Tryz.func73),(okM Tryz.func74),(okM Tryz.func75),(okM Tryz.func76),(okM Tryz.func77),(okM Tryz.func78),(okM Tryz.func79),(okM Tryz.func80),(okM Tryz.func81),(okM Tryz.func82),(okM Tryz.func83),(okM Tryz.func84),(okM Tryz.func85),(okM Tryz.func86),(okM Tryz.func87),(okM Tryz.func88),prim_strings_Join,(okM Tryz.func90),(okM Tryz.func91),(okM Tryz.func92),(okM Tryz.func93),(okM Tryz.func94),(okM Tryz.func95),(okM Tryz.func96),(okM Tryz.func97),(okM Tryz.func98),(okM Tryz.func99),(okM Tryz.func100),(okM Tryz.func101),(okM Tryz.func102),(okM Tryz.func105),(okM Tryz.func106),(okM Tryz.func107),(okM Tryz.func108),(okM Tryz.func109),(okM Tryz.func110),(okM Tryz.func111),(okM Tryz.func112),(okM Tryz.func113),(okM Tryz.func114),(okM Tryz.func115),prim_internal_stringslite_Index,(okM Tryz.func119),(okM Tryz.func120),(okM Tryz.func121),(okM Tryz.func122),(okM Tryz.func123),(okM Tryz.func124),(okM Tryz.func125),(okM Tryz.func126),(okM Tryz.func127),(okM Tryz.func128),(okM Tryz.func130),(okM Tryz.func131),(okM Tryz.func132),(okM Tryz.func133),(okM Tryz.func134),(okM Tryz.func135),(okM Tryz.func136),(okM Tryz.func137),(okM Tryz.func138),(okM Tryz.func139),(okM Tryz.func140),(okM Tryz.func141),(okM Tryz.func142),(okM Tryz.func143),(okM Tryz.func144),(okM Tryz.func145),(okM Tryz.func146),(okM Tryz.func147),(okM Tryz.func148),(okM Tryz.func150),(okM Tryz.func151),(okM Tryz.func152),(okM Tryz.func153),(okM Tryz.func154),(okM Tryz.func155),(okM Tryz.func156),(okM Tryz.func157),(okM Tryz.func158),(okM Tryz.func159),(okM Tryz.func160),(okM Tryz.func161),(okM Tryz.func162),(okM Tryz.func163),(okM Tryz.func164),(okM Tryz.func165),(okM Tryz.func171),prim_strings_Count,(okM Tryz.func174),(okM Tryz.func175),(okM Tryz.func176),(okM Tryz.func177),(okM Tryz.func178),(okM Tryz.func179),(okM Tryz.func180),(okM Tryz.func181),(okM Tryz.func182),(okM Tryz.func183),(okM Tryz.func184),(okM Tryz.func186),(okM Tryz.func187),(okM Tryz.func188),(okM Tryz.func189),(okM Tryz.func190),(okM Tryz.func191),(okM Tryz.func192),(okM Tryz.func193),(okM Tryz.func194),(okM Tryz.func195),(okM Tryz.func196),(okM Tryz.func197),(okM Tryz.func198),(okM Tryz.func199),(okM Tryz.func200),prim_slices_Clone_g,(okM Tryz.func202),(okM Tryz.func203),(okM Tryz.func204),(okM Tryz.func205),prim_slices_Delete_g,(okM Tryz.func207),(okM Tryz.func208),(okM Tryz.func215),(okM Tryz.func216),(okM Tryz.func220),(okM Tryz.func221),(okM Tryz.func222),(okM Tryz.func224),(okM Tryz.func225),(okM Tryz.func226),(okM Tryz.func227),(okM Tryz.func228),(okM Tryz.func229),(okM Tryz.func230),(okM Tryz.func231),(okM Tryz.func232),(okM Tryz.func233),(okM Tryz.func234),(okM Tryz.func240),(okM Tryz.func242),(okM Tryz.func243),(okM Tryz.func244),(okM Tryz.func245),(okM Tryz.func248),trivial⟩
theorem table_ok:Zfu Tryz.prog Xs Ms where
 text:=fun f cf h=>by
  rcases allOK_get all_ok h with ⟨aa,e,h'⟩ | ⟨p,e,_⟩
  ·cases e;exact h'
  ·cases e
 prim:=fun f p h=>by
  rcases allOK_get all_ok h with ⟨aa,e,_⟩ | ⟨p',e,h'⟩
  ·cases e
  ·cases e;exact h'
theorem sound:Qy Tryz.prog (Zd Xs Ms):=Zlx (by kernel_rfl) table_ok
theorem own:ownKnob Tryz.prog.godebug=none:=by kernel_rfl
theorem laidOut:laidOutB Tryz.prog=true:=by kernel_rfl
theorem cells5:Tryz.prog.cellsOf 5=1:=by kernel_rfl
theorem gPow:Tryz.prog.globalNamed "internal/strconv.uint64pow10"=some 1:=by kernel_rfl
theorem gPowType:(Tryz.prog.globals[1]?).map (·.type)=some 250:=by kernel_rfl
theorem powTab {W:World} (h:laidMetH Tryz.prog Rows.fnRunDeskNextRow.laid W):Zhy (fun b=>b<W.heap.size) W:=by
 have h0:laidMet Tryz.prog Rows.fnRunDeskNextRow.laid W:=by
  first | exact h | exact h.1 | (rw[MakeChecks.laidMetH_plain _ _ _ (by kernel_rfl)] at h;exact h)
 have h1:=Lib.tabIs_of_head (k:=.u64) (zs:=Lib.pow10Tab) (n:=20) gPow gPowType Tryz.underlying250 Tryz.underlying223 (by kernel_rfl) (by kernel_rfl) (laidMet.tail (laidMet.tail h0));unfold Lib.TabIs World.var? at h1;rw[gPow] at h1;simp only[KS] at h1;intro q hq;simp only[ZC5,KD] at hq;subst hq;split at h1
 ·rename_i cs e fr hc;refine⟨(KP.1 hc).1,e,fr,?_⟩;rw[hc];simp only[Option.some.injEq] at h1;rw[h1];simp[ZqZ,Lib.pow10Tab]
 ·cases h1
def cellsOf:DataW Unit→Array Value
 | .agg xs=>(xs.map one).flatten.toArray
 | _ => #[]
where
 one:DataW Unit→List Value
 | .lit (.int k z)=>[.int k z]
 | .agg xs=>xs.map two
 | _=>[]
 two:DataW Unit→Value
 | .lit (.int k z)=>.int k z
 | _=>.int .u8 0
def lay (c:Array Value):Obj→Obj
 | .cells _ t fr=>.cells c t fr
 | o=>o
noncomputable def laidWorld (os:Os):World:=
 { World.holding Tryz.prog os ⟨#[],#[],[]⟩ with heap:=(World.holding Tryz.prog os ⟨#[],#[],[]⟩).heap |>.modify 4 (lay (cellsOf (Rows.laid_math_bits_deBruijn32tab:DataW Unit))) |>.modify 5 (lay (cellsOf (Rows.laid_math_bits_deBruijn64tab:DataW Unit))) |>.modify 1 (lay (cellsOf (Rows.laid_internal_strconv_uint64pow10:DataW Unit))) |>.modify 3 (lay (cellsOf (Rows.laid_unicode_utf8_acceptRanges:DataW Unit))) |>.modify 2 (lay (cellsOf (Rows.laid_unicode_utf8_first:DataW Unit))) }
theorem laid_met (os:Os):laidMet Tryz.prog Rows.fnRunDeskNextRow.laid ((laidWorld os).forCall (fun _ _=>0) ⟨#[],#[.slice none 0 0],[]⟩).memory:=
 laidMet_of_run' 8 (by kernel_rfl) (by kernel_rfl)
theorem reads (os:Os) {H:Type} (enc:TypeId×Value→H):∃ d places,DataW.whole enc Tryz.prog ((laidWorld os).forCall (fun _ _=>0) ⟨#[],#[.slice none 0 0],[]⟩).memory Tryz.f4.params.toList Rows.fnRunDeskNextSpec.vars false #[Value.slice none 0 0].toList 8=some (d,[],places):=
 ⟨[.nil],[],by kernel_rfl⟩
set_option maxRecDepth 100000 in
theorem lifted (os:Os) (aa:os.Started) (H:Type) (enc:TypeId×Value→H) (F:Stop.Interp) :
  ReturnsInHanded {} Tryz.checked os 4 .any ((OpenSpec.ofChange Rows.fnRunDeskNextSpec).preRow enc Tryz.prog Tryz.f4 Rows.fnRunDeskNextRow.domain false Rows.fnRunDeskNextRow.laid) (((OpenSpec.ofChange Rows.fnRunDeskNextSpec).at F).post enc Tryz.prog Tryz.f4 false true false false):=by
 obtain⟨dd,places,hx⟩:=reads os enc;refine returnsInHanded_of_row (C:=Tryz.checked) (s:=OpenSpec.ofChange Rows.fnRunDeskNextSpec) own aa (by kernel_rfl) Tryz.func4
  (witness_row_at (enc:=enc) (C:=Tryz.checked) false (laidWorld os) #[.slice none 0 0] rfl (by kernel_rfl) (by kernel_rfl) (by kernel_rfl)
   (OpenSpec.preRow_of_cond 8 hx (by kernel_rfl) (fun k hk=>by cases hk) (by kernel_rfl) (laid_met os))) ?_
 intro W base args ds gs af ab hW _ _ _ hL _ _;have ad:∀ (j:Nat) t v,Tryz.f4.params[j]?=some t→args[j]?=some v→Value.okWide Tryz.prog W .any base t v:=ab;have ag:=hW;obtain⟨p,q,ai,hV,rfl,_,_⟩:=hW;have hA:DataW.TrodAll enc Tryz.prog W 0 (fun _=>true) true Tryz.f4.params.toList args.toList ds p:=ai;rw[Tryz.params4] at hA ad;obtain⟨v0,d0,rfl,rfl,h0⟩:=trodAll_one hA;obtain⟨rfl,rfl⟩:=trodVars_none hV;clear ai ab;simp only[KE] at ag;have aj:∀ x∈p,x.block<W.heap.size:=fun x hx=>by simpa using ag.lt x hx
 have ae:∀ (W' : World),Below W.heap.size W W'→DataW.Trod enc Tryz.prog W' 0 (fun b=>decide (b<W.heap.size)) true 28 v0 d0 p:=
  fun W' hn=>Below.trod laidOut (by kernel_rfl) (of_decide_eq_true (by kernel_rfl)) h0 hn aj
 obtain⟨ak,ah⟩:=Zuq Tryz.underlying28 Tryz.underlying5 cells5 (ad 0 28 v0 rfl rfl) h0;refine(Zup sound Zk6 (powTab hL) ah).mono fun e W' ⟨he,hn⟩=>?_;subst he;exact⟨_,rfl,⟨_,_,_,[],_,[],ag,trodAll_mk1 (shut_bool Tryz.underlying4 _),trodAll_mk1 (ae _ hn),rfl,hn.frame _,fun h=>by cases h⟩⟩
theorem said:Rows.FnRunDeskNextSaid:=
 OpenClaim.holds_of_cond 4 Tryz.f4 rfl rfl rfl rfl rfl rfl rfl ⟨rfl,rfl,rfl,rfl,rfl⟩ rfl rfl rfl rfl rfl (by kernel_rfl) Tryz.func4 (by kernel_rfl)
  (of_decide_eq_true (by kernel_rfl)) (by unfold Func.isWrapper;first | (rw[Kg (by decide +kernel)];kernel_rfl) | (rw[Kd (by decide +kernel)];exact⟨rfl,rfl⟩))
  (fun os aa H enc _ F=>by rw[OpenClaim.pre_eq_preRow];exact lifted os aa H enc F)
theorem plain (f:FuncId) (fn:Func) (hf:Tryz.pinned.checked.prog.funcNamed "loop.example/panecutter/laws.FnRunDeskNext"=some f) (aa:Tryz.pinned.checked.prog.funcs[f]?=some fn) :
  false=Tryz.pinned.checked.prog.looks []∧∀ (j:Nat) t,fn.params[j]?=some t→Tryz.pinned.checked.prog.wantsStandIn t=false:=by
 obtain rfl:f=4:=Option.some.inj ((show Tryz.prog.funcNamed "loop.example/panecutter/laws.FnRunDeskNext"=some 4 by kernel_rfl).symm.trans hf) |>.symm;obtain rfl:fn=Tryz.f4:=(Option.some.inj (Tryz.func4.symm.trans aa)).symm;refine⟨by kernel_rfl,fun j t ht=>?_⟩;rw[Tryz.params4] at ht;obtain rfl:t=28:=by simpa using Array.mem_of_getElem? ht
 exact(show Tryz.prog.wantsStandIn 28=false by kernel_rfl)
theorem fnRunDeskNext_holds:Rows.FnRunDeskNextCardSaid:=
 Claim7.holds_tied_plain_at .later [] _ _ _ _ said (fun _ h=>by cases h) (by kernel_rfl) (fun _ h=>by cases h) fnRunDeskNext_row_tie rfl ⟨rfl,rfl⟩ (by kernel_rfl) rfl plain (by kernel_rfl)
#print axioms fnRunDeskNext_holds
end Go.Proofs.YtfnegoimdljanaaGreatDoor

/- Contracts of the functions,by the abstract semantics. -/
import Derived.Test.YtkdjbefmiiibpaaGreatDoorBCode
import Derived.Test.YtkdjbefmiiibpaaGreatDoorAbsParts
import Derived.Test.YtkdjbefmiiibpaaGreatDoorBC6
namespace Go.Proofs.YtkdjbefmiiibpaaGreatDoor
open Go Go.Abs Go.Abs.E Go.Abs.L
open Nat (reduceMul reduceSub reduceLeDiff reduceEqDiff)
open Int (reduceLE reduceEq reduceToNat reduceNeg)
set_option linter.unusedSimpArgs false
set_option linter.unusedVariables false
set_option maxRecDepth 20000
set_option maxHeartbeats 4000000
theorem Zb0:∀ (b:BT),Zh Xs Ms V5 [.d b.plan.enc,.d b.plan.enc] []=some ((.d (.bool true)),[])
 | .waste=>by
  have nb:∀ a b:Bool,ZiC .neq true (.d (.bool a)) (.d (.bool b))=QT (.d (.bool (!(a==b)))):=fun _ _=>rfl
  simp only[BT.plan,Zj.enc_mk]
  refine Zb Xs Ms Yx ZfO (by show 2≤_;decide) ?_
  simp +contextual -implicitDefEqProofs (maxSteps:=10^7) only[go_sem,seval,↓gZ,Yx,nb,beq_self_eq_true]
  refine ZM Xs Ms ?_
  simp +contextual -implicitDefEqProofs (maxSteps:=10^7) only[go_sem,seval,↓gZ]
 | .pane i t=>by
  have nb:∀ a b:Bool,ZiC .neq true (.d (.bool a)) (.d (.bool b))=QT (.d (.bool (!(a==b)))):=fun _ _=>rfl
  simp only[BT.plan,Zj.enc_mk]
  refine Zb Xs Ms Yx ZfO (by show 2≤_;decide) ?_
  simp +contextual -implicitDefEqProofs (maxSteps:=10^7) only[go_sem,seval,↓gZ,Yx,nb,beq_self_eq_true]
  refine ZM Xs Ms ?_
  simp +contextual -implicitDefEqProofs (maxSteps:=10^7) only[go_sem,seval,↓gZ]
 | .cut d a l r=>by
  have nb:∀ a b:Bool,ZiC .neq true (.d (.bool a)) (.d (.bool b))=QT (.d (.bool (!(a==b)))):=fun _ _=>rfl
  have e1:=Zb0 l
  have e2:=Zb0 r
  have c2:(1:Int)<((2:Nat):Int):=by omega
  have c3:(0:Int)<((2:Nat):Int):=by omega
  have c4:¬(2:Int)<((2:Nat):Int):=by omega
  simp only[BT.plan,Zj.enc_mk]
  refine Zb Xs Ms Yx ZfO (by show 2≤_;decide) ?_
  simp +contextual -implicitDefEqProofs (maxSteps:=10^7) only[go_sem,seval,↓gZ,Yx,nb,beq_self_eq_true]
  refine ZM Xs Ms ?_
  simp +contextual -implicitDefEqProofs (maxSteps:=10^7) only[go_sem,seval,↓gZ,e1,c3]
  refine ZM Xs Ms ?_
  simp +contextual -implicitDefEqProofs (maxSteps:=10^7) only[go_sem,seval,↓gZ,e2,c2]
  refine ZM Xs Ms ?_
  simp +contextual -implicitDefEqProofs (maxSteps:=10^7) only[go_sem,seval,↓gZ,c4]
theorem Zfq (K Lb X Y W H pW pH:Int) (pT:Bool) (pK Ct:Int) (B:BT):Zh Xs Ms YD [.d (Zl.enc ⟨K,Lb,⟨X,Y,W,H⟩,⟨⟨pW,pH,pT,pK⟩,Ct⟩,B.plan⟩),.d (Zl.enc ⟨K,Lb,⟨X,Y,W,H⟩,⟨⟨pW,pH,pT,pK⟩,Ct⟩,B.plan⟩)] []=some ((.d (.bool true)),[]):=by
 have e1:=Zb0 B
 cases hB:B.plan with
 | mk o a q t ks=>
  rw[hB,Zj.enc_mk] at e1
  rw[Zl.enc_mk]
  refine Zb Xs Ms UY Zqw (by show 2≤_;decide) ?_
  simp +contextual -implicitDefEqProofs (maxSteps:=10^7) only[go_sem,seval,↓gZ,UY,e1]
def Q8:List UInt8:=[115,104,101,101,116]
def XS:List UInt8:=[102,108,97,119]
def Y4:List UInt8:=[111,114,100,101,114]
def ZcC:List UInt8:=[99,117,116]
def Y5:List UInt8:=[98,114,101,97,107]
def XD:List UInt8:=[115,99,114,97,112]
inductive Ev where
 | sheet (l w h:Nat)
 | flaw (l x y w h:Nat)
 | order (n:Zi)
 | cut (l:Nat) (b:BT)
 | brk (n:Zi)
 | scrap (l:Nat)
deriving DecidableEq
def bx0:Box:=⟨0,0,0,0⟩
def ln0:Zi:=⟨⟨0,0,false,0⟩,0⟩
def Ev.ev:Ev→Zl
 | .sheet l w h=>⟨0,l,⟨0,0,w,h⟩,ln0,BT.waste.plan⟩
 | .flaw l x y w h=>⟨1,l,⟨x,y,w,h⟩,ln0,BT.waste.plan⟩
 | .order n=>⟨2,0,bx0,n,BT.waste.plan⟩
 | .cut l b=>⟨3,l,bx0,ln0,b.plan⟩
 | .brk n=>⟨4,0,bx0,n,BT.waste.plan⟩
 | .scrap l=>⟨5,l,bx0,ln0,BT.waste.plan⟩
def Ev.words:Ev→List (List UInt8)
 | .sheet l w h=>[Q8,num l,num w,num h]
 | .flaw l x y w h=>[XS,num l,num x,num y,num w,num h]
 | .order n=>Y4 :: XC n
 | .cut l b=>[ZcC,num l,shw b]
 | .brk n=>Y5 :: XC n
 | .scrap l=>[XD,num l]
def Ev.text (v:Ev):List UInt8:=Y0 32 v.words
def Zm9 (b:BT):Prop:=b.cnt≤255∧Wv b=true∧(shw b).length≤1600
instance (b:BT):Decidable (Zm9 b):=by unfold Zm9;infer_instance
def Ev.ok:Ev→Prop
 | .sheet l w h=>l≤999999∧w≤999999∧h≤999999
 | .flaw l x y w h=>l≤999999∧x≤999999∧y≤999999∧w≤999999∧h≤999999
 | .order n=>Zqh n
 | .cut l b=>l≤999999∧Zm9 b
 | .brk n=>Zqh n
 | .scrap l=>l≤999999
def ZtL (s:List UInt8):Option BT:=if s.length≤1600 then Zm3 s else none
theorem Zmb {s:List UInt8} {b:BT}:ZtL s=some b↔s=shw b∧Zm9 b:=by
 unfold ZtL
 constructor
 ·intro h
  split at h
  ·rename_i hl
   obtain⟨h1,h2,h3⟩:=Zi9.1 h
   exact⟨h1,h2,h3,h1 ▸ hl⟩
  ·cases h
 ·rintro ⟨rfl,h1,h2,h3⟩
  rw[if_pos h3]
  exact ZzS h1 h2
def ZcX:List (List UInt8)→Option (List Nat)
 | []=>some []
 | w :: r=>(rd w).bind fun n=>(ZcX r).bind fun l=>some (n :: l)
theorem Zjd:∀ {ws:List (List UInt8)} {ns:List Nat},ZcX ws=some ns→ws=ns.map num∧∀ n∈ns,n≤999999
 | [],ns,h=>by simp[ZcX] at h;subst h;simp
 | w :: r,ns,h=>by
  simp only[ZcX,Option.bind_eq_some_iff] at h
  obtain⟨n,h1,l,h2,h3⟩:=h
  cases h3
  obtain⟨e1,b1⟩:=Zaj h1
  obtain⟨e2,b2⟩:=Zjd h2
  refine⟨by rw[e1,e2];rfl,fun x hx=>?_⟩
  rcases List.mem_cons.1 hx with rfl | hx
  ·exact b1
  ·exact b2 x hx
theorem Zew:∀ {ns:List Nat},(∀ n∈ns,n≤999999)→ZcX (ns.map num)=some ns
 | [],_=>rfl
 | n :: r,h=>by
  have ih:=Zew (ns:=r) (fun x hx=>h x (List.mem_cons_of_mem _ hx))
  simp only[List.map_cons,ZcX,Zet (h n (List.mem_cons_self ..)),Option.bind_some,ih]
def ZhO (w:List UInt8):List Nat→Option Ev
 | [l]=>if w=XD then some (.scrap l) else none
 | [l,a,b]=>if w=Q8 then some (.sheet l a b) else none
 | [l,x,y,a,b]=>if w=XS then some (.flaw l x y a b) else none
 | _=>none
def Zyw:List (List UInt8)→Option Ev
 | [a,p]=>(rd a).bind fun l=>(ZtL p).bind fun b=>some (.cut l b)
 | _=>none
def Jj:List (List UInt8)→Option Ev
 | []=>none
 | w :: r=>if w=Y4 then (ZgV r).bind fun n=>some (.order n) else if w=Y5 then (ZgV r).bind fun n=>some (.brk n) else if w=ZcC then Zyw r else (ZcX r).bind (ZhO w)
theorem ZtM {ws:List (List UInt8)} {v:Ev} (h:Jj ws=some v):ws=v.words∧v.ok:=by
 cases ws with
 | nil=>simp[Jj] at h
 | cons w r=>
  simp only[Jj] at h
  split at h
  ·rename_i hw
   simp only[Option.bind_eq_some_iff] at h
   obtain⟨n,h1,h2⟩:=h
   cases h2
   obtain⟨e,s⟩:=ZsF h1
   exact⟨by rw[hw,e];rfl,s⟩
  ·split at h
   ·rename_i hw
    simp only[Option.bind_eq_some_iff] at h
    obtain⟨n,h1,h2⟩:=h
    cases h2
    obtain⟨e,s⟩:=ZsF h1
    exact⟨by rw[hw,e];rfl,s⟩
   ·split at h
    ·rename_i hw
     unfold Zyw at h
     split at h
     ·simp only[Option.bind_eq_some_iff] at h
      obtain⟨n,h1,b,h2,h3⟩:=h
      cases h3
      obtain⟨e1,b1⟩:=Zaj h1
      obtain⟨e2,b2⟩:=Zmb.1 h2
      exact⟨by rw[hw,e1,e2];rfl,b1,b2⟩
     ·cases h
    ·simp only[Option.bind_eq_some_iff] at h
     obtain⟨ns,h1,h2⟩:=h
     obtain⟨e1,b1⟩:=Zjd h1
     unfold ZhO at h2
     split at h2
     ·split at h2
      ·rename_i hw;cases h2
       exact⟨by rw[hw,e1];rfl,b1 _ (by simp)⟩
      ·cases h2
     ·split at h2
      ·rename_i hw;cases h2
       exact⟨by rw[hw,e1];rfl,b1 _ (by simp),b1 _ (by simp),b1 _ (by simp)⟩
      ·cases h2
     ·split at h2
      ·rename_i hw;cases h2
       exact⟨by rw[hw,e1];rfl,b1 _ (by simp),b1 _ (by simp),b1 _ (by simp),b1 _ (by simp),b1 _ (by simp)⟩
      ·cases h2
     ·cases h2
theorem Zrh {v:Ev} (h:v.ok):Jj v.words=some v:=by
 have d1:¬Q8=Y4:=by decide
 have d2:¬Q8=Y5:=by decide
 have d3:¬Q8=ZcC:=by decide
 have d4:¬XS=Y4:=by decide
 have d5:¬XS=Y5:=by decide
 have d6:¬XS=ZcC:=by decide
 have d7:¬XD=Y4:=by decide
 have d8:¬XD=Y5:=by decide
 have d9:¬XD=ZcC:=by decide
 have d10:¬ZcC=Y4:=by decide
 have d11:¬ZcC=Y5:=by decide
 have d12:¬Y5=Y4:=by decide
 cases v with
 | sheet l w h' =>
  obtain⟨h1,h2,h3⟩:=h
  have e:=Zew (ns:=[l,w,h']) (by simp;omega)
  simp only[List.map_cons,List.map_nil] at e
  simp only[Ev.words,Jj,if_neg d1,if_neg d2,if_neg d3,e,Option.bind_some,ZhO,if_true]
 | flaw l x y w h' =>
  obtain⟨h1,h2,h3,h4,h5⟩:=h
  have e:=Zew (ns:=[l,x,y,w,h']) (by simp;omega)
  simp only[List.map_cons,List.map_nil] at e
  simp only[Ev.words,Jj,if_neg d4,if_neg d5,if_neg d6,e,Option.bind_some,ZhO,if_true]
 | order n=>simp only[Ev.words,Jj,if_true,ZhN (l:=n) h,Option.bind_some]
 | brk n=>simp only[Ev.words,Jj,if_neg d12,if_true,ZhN (l:=n) h,Option.bind_some]
 | cut l b=>
  obtain⟨h1,h2⟩:=h
  simp only[Ev.words,Jj,if_neg d10,if_neg d11,if_true,Zyw,Zet h1,Zmb.2 ⟨rfl,h2⟩,Option.bind_some]
 | scrap l=>
  have h1:l≤999999:=h
  have e:=Zew (ns:=[l]) (by simp;omega)
  simp only[List.map_cons,List.map_nil] at e
  simp only[Ev.words,Jj,if_neg d7,if_neg d8,if_neg d9,e,Option.bind_some,ZhO,if_true]
theorem Zqn {c:UInt8} (hd:isD c=false) (h:c≠119∧c≠112∧c≠116∧c≠100∧c≠97∧c≠40∧c≠44∧c≠41):∀ b:BT,c∉shw b
 | .waste=>by simp[shw,h]
 | .pane i t=>by
  simp only[shw,List.mem_cons,not_or]
  exact⟨by cases t<;>simp[h],Zaw hd _⟩
 | .cut d a l r=>by
  simp only[shw,List.mem_cons,List.mem_append,not_or,List.not_mem_nil,not_false_eq_true,and_true]
  exact⟨by cases d<;>simp[h],Zaw hd _,h.2.2.2.2.2.1,Zqn hd h l,h.2.2.2.2.2.2.1,Zqn hd h r,h.2.2.2.2.2.2.2⟩
theorem Zyx (v:Ev):∀ w∈v.words,(32:UInt8)∉w:=by
 intro w hw
 cases v with
 | order n=>
  rcases List.mem_cons.1 hw with rfl | hw
  ·decide
  ·exact Zqj n w hw
 | brk n=>
  rcases List.mem_cons.1 hw with rfl | hw
  ·decide
  ·exact Zqj n w hw
 | cut l b=>
  simp only[Ev.words,List.mem_cons,List.not_mem_nil,or_false] at hw
  rcases hw with rfl | rfl | rfl
  ·decide
  ·exact Zaw rfl _
  ·exact Zqn rfl (by decide) b
 | sheet l a b=>
  simp only[Ev.words,List.mem_cons,List.not_mem_nil,or_false] at hw
  rcases hw with rfl | rfl | rfl | rfl<;>first | decide | exact Zaw rfl _
 | flaw l x y a b=>
  simp only[Ev.words,List.mem_cons,List.not_mem_nil,or_false] at hw
  rcases hw with rfl | rfl | rfl | rfl | rfl | rfl<;>first | decide | exact Zaw rfl _
 | scrap l=>
  simp only[Ev.words,List.mem_cons,List.not_mem_nil,or_false] at hw
  rcases hw with rfl | rfl<;>first | decide | exact Zaw rfl _
theorem ZDm (v:Ev):(10:UInt8)∉v.text:=by
 refine ZvC (by decide) fun w hw=>?_
 have ln:∀ n:Zi,∀ w∈XC n,(10:UInt8)∉w:=by
  intro n w hw
  simp only[XC,List.mem_cons,List.not_mem_nil,or_false] at hw
  rcases hw with rfl | rfl | rfl | rfl | rfl<;>first | exact Zaw rfl _ | exact Zxx _
 cases v with
 | order n=>
  rcases List.mem_cons.1 hw with rfl | hw
  ·decide
  ·exact ln n w hw
 | brk n=>
  rcases List.mem_cons.1 hw with rfl | hw
  ·decide
  ·exact ln n w hw
 | cut l b=>
  simp only[Ev.words,List.mem_cons,List.not_mem_nil,or_false] at hw
  rcases hw with rfl | rfl | rfl
  ·decide
  ·exact Zaw rfl _
  ·exact Zqn rfl (by decide) b
 | sheet l a b=>
  simp only[Ev.words,List.mem_cons,List.not_mem_nil,or_false] at hw
  rcases hw with rfl | rfl | rfl | rfl<;>first | decide | exact Zaw rfl _
 | flaw l x y a b=>
  simp only[Ev.words,List.mem_cons,List.not_mem_nil,or_false] at hw
  rcases hw with rfl | rfl | rfl | rfl | rfl | rfl<;>first | decide | exact Zaw rfl _
 | scrap l=>
  simp only[Ev.words,List.mem_cons,List.not_mem_nil,or_false] at hw
  rcases hw with rfl | rfl<;>first | decide | exact Zaw rfl _
def Zex (s:List UInt8):Option Ev:=Jj (ZV 32 s)
theorem ZvI (v:Ev):v.words≠[]:=by cases v<;>simp[Ev.words]
theorem Zb1 {s:List UInt8} {v:Ev}:Zex s=some v↔s=v.text∧v.ok:=by
 unfold Zex
 constructor
 ·intro h
  obtain⟨h1,h2⟩:=ZtM h
  exact⟨by rw[Ev.text,← h1,Zqc],h2⟩
 ·rintro ⟨rfl,h⟩
  rw[Ev.text,ZkW (ZvI v) (Zyx v),Zrh h]
def ZgZ:Nat→Nat→List UInt8→List Ev
 | 0,_,_=>[]
 | n+1,k,s=>if 40≤k then [] else match QK 10 s with
  | none=>[]
  | some i=>match Zex (s.take i) with
   | none=>[]
   | some v=>v :: ZgZ n (k+1) (s.drop (i+1))
def Yh (l:List Ev):List UInt8:=ZbZ Ev.text l
theorem ZsI:∀ {n k:Nat} {s:List UInt8},∃ r,s=Yh (ZgZ n k s)++r∧(ZgZ n k s).length+k≤max k 40∧(∀ v∈ZgZ n k s,v.ok)
 | 0,k,s=>⟨s,by simp[ZgZ,Yh,ZbZ],by simp[ZgZ];omega,by simp[ZgZ]⟩
 | n+1,k,s=>by
  rw[ZgZ]
  split
  ·exact⟨s,by simp[Yh,ZbZ],by simp;omega,by simp⟩
  ·split
   ·exact⟨s,by simp[Yh,ZbZ],by simp;omega,by simp⟩
   ·rename_i i hi
    split
    ·exact⟨s,by simp[Yh,ZbZ],by simp;omega,by simp⟩
    ·rename_i v hv
     obtain⟨h1,h2,h3⟩:=Wu hi
     obtain⟨e1,e2⟩:=Zb1.1 hv
     obtain⟨r,g1,g2,g3⟩:=ZsI (n:=n) (k:=k+1) (s:=s.drop (i+1))
     refine⟨r,?_,by simp only[List.length_cons];omega,fun x hx=>?_⟩
     ·rw[Yh,Zjc,← Yh,List.append_assoc,List.cons_append,← g1,← e1];exact h1
     ·rcases List.mem_cons.1 hx with rfl | hx
      ·exact e2
      ·exact g3 x hx
theorem Zna (c:UInt8) (m:Nat):∀ ws:List (List UInt8),(∀ w∈ws,w.length≤m)→(Y0 c ws).length≤ws.length*(m+1)
 | [],_=>by simp[Y0]
 | [x],h=>by have:=h x (by simp);simp[Y0];omega
 | x :: y :: r,h=>by
  have ih:=Zna c m (y :: r) (fun w hw=>h w (by simp[hw]))
  have hx:=h x (by simp)
  simp only[Y0,List.length_append,List.length_cons] at ih ⊢
  rw[Nat.add_mul _ 1]
  omega
theorem Zey (n:Int) (h:six n):(num n.toNat).length≤6:=VA 5 n.toNat (by have:=h.1;have:=h.2;omega)
theorem Jk (w:List UInt8) (ns:List Int) (hl:ns.length≤10) (h6:∀ n∈ns,six n) (hw:w.length≤10):Zh Xs Ms Xr [.d (.str w),.d (.sl (ns.map YL))] []=some (.d (.str (Y0 32 (w :: ns.map fun n=>num n.toNat))),[]):=by
 have hlen:(Y0 32 (w :: ns.map fun n=>num n.toNat)).length≤1000:=by
  have:=Zna 32 10 (w :: ns.map fun n=>num n.toNat) (by
   intro x hx
   rcases List.mem_cons.1 hx with rfl | hx
   ·exact hw
   ·obtain⟨n,hn,rfl⟩:=List.mem_map.1 hx
    have:=Zey n (h6 n hn)
    omega)
  simp only[List.length_cons,List.length_map] at this
  omega
 have hj:=Zie (w :: ns.map fun n=>num n.toNat) 32 (by simp) (by simp;omega) (by omega)
 simp only[List.map_cons] at hj
 refine Zb Xs Ms Ua Zoj (by show 2≤_;decide) ?_
 simp +contextual -implicitDefEqProofs (maxSteps:=10^7) only[go_sem,seval,↓gZ,Ua]
 refine ZQ Xs Ms (st0:=?st0) (α:=Nat) (fun k=>[(12,.d (J (k:Int)))]) (fun k=>[(0,.row 1 ((w :: (ns.take k).map fun n=>num n.toNat).map .str) true false)]) (fun k=>k≤ns.length) (fun k=>ns.length-k) 0 ?hc (by simp) ?h0 ?step
 case hc=>simp +contextual -implicitDefEqProofs (maxSteps:=10^7) only[go_sem,seval,↓gZ]<;>exact rfl
 case h0=>rfl
 case step=>
  intro k hk ih
  by_cases hlt:k<ns.length
  ·obtain⟨x,hx⟩:=ZU hlt
   have hlt' : (k:Int)<(ns.length:Int):=by omega
   have hw1:=Zm (k:=k) (by omega)
   have hs:=h6 x (List.mem_of_getElem? hx)
   have e1:=YS x hs.1 (by have:=hs.2;omega)
   have hroom:((ns.take k).length+1+1)*16≤140737488355328∧(ns.take k).length≤140737488355326:=by simp;omega
   have ht:ns.take (k+1)=ns.take k++[x]:=by rw[List.take_add_one,hx];rfl
   simp +contextual -implicitDefEqProofs (maxSteps:=10^7) only[go_sem,seval,↓gZ,hlt',hlt,hx,hw1,e1,hroom,YL]
   refine ih (k+1) _ (by omega) (by omega) ?_
   simp +contextual -implicitDefEqProofs (maxSteps:=10^7) only[go_sem,seval,↓gZ,ht,List.map_append,List.map_cons,List.map_nil,List.cons_append]
  ·have:k=ns.length:=by omega
   subst this
   simp +contextual -implicitDefEqProofs (maxSteps:=10^7) only[go_sem,seval,↓gZ,List.take_length,hj]
def VF (e:Zl):List Int:=[e.kind,e.label,e.box.X,e.box.Y,e.box.W,e.box.H,e.line.Pane.W,e.line.Pane.H,e.line.Pane.Kind,e.line.Count]
theorem Zri (eK eL eX eY eW eH epW epH:Int) (epT:Bool) (epK eC eo ea ep:Int) (et:Bool) (ek:List Zj):Zh Xs Ms Jo [(.d (.agg [J eK,J eL,J eX,J eY,J eW,J eH,J epW,J epH,.bool epT,J epK,J eC,J eo,J ea,J ep,.bool et,.sl (ek.map Zj.enc)]))] []=some ((.d (.bool (decide (∀ n∈VF (Zl.mk eK eL (Box.mk eX eY eW eH) (Zi.mk (Pane.mk epW epH epT epK) eC) (Zj.mk eo ea ep et ek)),six n)))),[]):=by
 obtain⟨xs,hxs⟩:∃ xs,xs=VF (Zl.mk eK eL (Box.mk eX eY eW eH) (Zi.mk (Pane.mk epW epH epT epK) eC) (Zj.mk eo ea ep et ek)):=⟨_,rfl⟩
 have hlen:xs.length=10:=by rw[hxs];rfl
 rw[← hxs]
 refine Zb Xs Ms Zbh ZtR (by show 1≤_;decide) ?_
 simp +contextual -implicitDefEqProofs (maxSteps:=10^7) only[go_sem,seval,↓gZ,Zbh]
 have hrow:([J eK,J eL,J eX,J eY,J eW,J eH,J epW,J epH,J epK,J eC]:List D)=xs.map YL:=by rw[hxs];rfl
 rw[hrow]
 refine ZQ Xs Ms (st0:=?st0) (α:=Nat) (fun k=>[(38,.d (J (k:Int)))]) (fun _=>[]) (fun k=>k≤10∧∀ n∈xs.take k,six n) (fun k=>10-k) 0 ?hc (by simp) ?h0 ?step
 case hc=>simp +contextual -implicitDefEqProofs (maxSteps:=10^7) only[go_sem,seval,↓gZ]<;>exact rfl
 case h0=>rfl
 case step=>
  intro k ⟨hk,hp⟩ ih
  by_cases hlt:k<xs.length
  ·obtain⟨x,hx⟩:=ZU hlt
   have hlt' : (k:Int)<10:=by omega
   have hlt10:k<10:=by omega
   have hw1:=Zm (k:=k) (by omega)
   by_cases hs:six x
   ·have n1:¬x<0:=by have:=hs.1;omega
    have n2:¬999999<x:=by have:=hs.2;omega
    simp +contextual -implicitDefEqProofs (maxSteps:=10^7) only[go_sem,seval,↓gZ,hlt',hlt,hlt10,hx,hw1,YL,n1,n2,hlen]
    refine ih (k+1) _ ⟨by omega,?_⟩ (by omega) ?_
    ·intro n hn
     rw[List.take_add_one,hx] at hn
     rcases List.mem_append.1 hn with hn | hn
     ·exact hp n hn
     ·simp only[Option.toList_some,List.mem_singleton] at hn
      rw[hn];exact hs
    ·simp +contextual -implicitDefEqProofs (maxSteps:=10^7) only[go_sem,seval,↓gZ]
   ·have hno:decide (∀ n∈xs,six n)=false:=decide_eq_false fun h=>hs (h x (List.mem_of_getElem? hx))
    rw[hno]
    by_cases n1:x<0
    ·simp +contextual -implicitDefEqProofs (maxSteps:=10^7) only[go_sem,seval,↓gZ,hlt',hlt,hlt10,hx,hw1,YL,n1,hlen]
    ·have n2:999999<x:=by
      rcases Int.lt_or_le 999999 x with h | h
      ·exact h
      ·exact absurd ⟨by omega,h⟩ hs
     simp +contextual -implicitDefEqProofs (maxSteps:=10^7) only[go_sem,seval,↓gZ,hlt',hlt,hlt10,hx,hw1,YL,n1,n2,hlen]
  ·have hke:k=10:=by omega
   subst hke
   have hyes:decide (∀ n∈xs,six n)=true:=by
    refine decide_eq_true fun n hn=>hp n ?_
    rw[List.take_of_length_le (by omega)]
    exact hn
   rw[hyes]
   simp +contextual -implicitDefEqProofs (maxSteps:=10^7) only[go_sem,seval,↓gZ,hlen]
def Vo (e:Zl) (b:BT):Option Ev:=
 if e.kind=0 then (if e.box.X=0∧e.box.Y=0 then some (.sheet e.label.toNat e.box.W.toNat e.box.H.toNat) else none)
 else if e.kind=1 then some (.flaw e.label.toNat e.box.X.toNat e.box.Y.toNat e.box.W.toNat e.box.H.toNat)
 else if e.kind=2 then some (.order e.line)
 else if e.kind=3 then some (.cut e.label.toNat b)
 else if e.kind=4 then some (.brk e.line)
 else if e.kind=5 then some (.scrap e.label.toNat)
 else none
def W6 (e:Zl):Option Ev:=if ∀ n∈VF e,six n then
  match Xi e.plan with
  | some b=>if Zm9 b then Vo e b else none
  | none=>none
 else none
def ZvJ (e:Zl):List UInt8:=match W6 e with
 | some v=>v.text
 | none=>[]
theorem ZaM {e:Zl} (h:W6 e=none):ZvJ e=[]:=by unfold ZvJ;rw[h]
theorem Uk {e:Zl} {v:Ev} (h:W6 e=some v):ZvJ e=v.text:=by unfold ZvJ;rw[h]
theorem Zje {e:Zl} (h:¬∀ n∈VF e,six n):W6 e=none:=by unfold W6;rw[if_neg h]
theorem Zez {e:Zl} (h:∀ b,Xi e.plan=some b→¬Zm9 b):W6 e=none:=by
 unfold W6
 split
 ·cases hb:Xi e.plan with
  | none=>rfl
  | some b=>simp only;rw[if_neg (h b hb)]
 ·rfl
theorem Ww {e:Zl} {b:BT} (h:∀ n∈VF e,six n) (hb:Xi e.plan=some b) (hp:Zm9 b):W6 e=Vo e b:=by
 unfold W6;rw[if_pos h,hb];simp only;rw[if_pos hp]
theorem Zg0 (eK eL eX eY eW eH epW epH:Int) (epT:Bool) (epK eC eo ea ep:Int) (et:Bool) (ek:List Zj):Zh Xs Ms YU [(.d (.agg [J eK,J eL,J eX,J eY,J eW,J eH,J epW,J epH,.bool epT,J epK,J eC,J eo,J ea,J ep,.bool et,.sl (ek.map Zj.enc)]))] []=some (.d (.str (ZvJ (Zl.mk eK eL (Box.mk eX eY eW eH) (Zi.mk (Pane.mk epW epH epT epK) eC) (Zj.mk eo ea ep et ek)))),[]):=by
 have e1:=Zoa (.mk eo ea ep et ek)
 rw[Zj.enc_mk] at e1
 have e2:=Zri eK eL eX eY eW eH epW epH epT epK eC eo ea ep et ek
 by_cases hw:∀ n∈VF (Zl.mk eK eL (Box.mk eX eY eW eH) (Zi.mk (Pane.mk epW epH epT epK) eC) (Zj.mk eo ea ep et ek)),six n
 ·rw[decide_eq_true hw] at e2
  rcases Zxt (.mk eo ea ep et ek) with hf | ⟨b,hb,hb1,hb2,hf⟩
  ·rw[hf] at e1
   have hno:W6 (Zl.mk eK eL (Box.mk eX eY eW eH) (Zi.mk (Pane.mk epW epH epT epK) eC) (Zj.mk eo ea ep et ek))=none:=by
    refine Zez fun b hb hp=>?_
    have:=Zm4 hb
    rw[hf,if_pos ⟨hp.1,hp.2.1⟩] at this
    cases b<;>cases this
   rw[ZaM hno]
   refine Zb Xs Ms Zu Qs (by show 1≤_;decide) ?_
   simp +contextual -implicitDefEqProofs (maxSteps:=10^7) only[go_sem,seval,↓gZ,Zu,e1,e2]
  ·rw[hf] at e1
   have hnil:(shw b==[])=false:=by cases b<;>rfl
   have htb:Xi (.mk eo ea ep et ek)=some b:=by rw[hb];exact Vh b
   by_cases hl:(shw b).length≤1600
   ·have hl' : ¬(1600:Int)<((shw b).length:Int):=by omega
    have hk:=Ww (e:=(Zl.mk eK eL (Box.mk eX eY eW eH) (Zi.mk (Pane.mk epW epH epT epK) eC) (Zj.mk eo ea ep et ek))) hw htb ⟨hb1,hb2,hl⟩
    simp only[VF,List.mem_cons,List.not_mem_nil,or_false,forall_eq_or_imp,forall_eq] at hw
    obtain⟨n1,n2,n3,n4,n5,n6,n7,n8,n9,n10⟩:=hw
    simp only[Vo] at hk
    by_cases k0:eK=0
    ·rw[if_pos k0] at hk
     by_cases hxy:eX=0∧eY=0
     ·rw[if_pos hxy] at hk
      rw[Uk hk]
      obtain⟨hx,hy⟩:=hxy
      subst k0 hx hy
      have e3:=Jk Q8 [eL,eW,eH] (by simp) (by simp[n2,n5,n6]) (by decide)
      simp only[List.map_cons,List.map_nil,YL,Q8] at e3
      simp only[Ev.text,Ev.words,Q8]
      refine Zb Xs Ms Zu Qs (by show 1≤_;decide) ?_
      simp +contextual -implicitDefEqProofs (maxSteps:=10^7) only[go_sem,seval,↓gZ,Zu,e1,e2,hnil,hl',e3]
     ·rw[if_neg hxy] at hk
      rw[ZaM hk]
      by_cases hx:eX=0
      ·have hy:¬eY=0:=fun h=>hxy ⟨hx,h⟩
       subst k0 hx
       refine Zb Xs Ms Zu Qs (by show 1≤_;decide) ?_
       simp +contextual -implicitDefEqProofs (maxSteps:=10^7) only[go_sem,seval,↓gZ,Zu,e1,e2,hnil,hl',hy]
      ·subst k0
       refine Zb Xs Ms Zu Qs (by show 1≤_;decide) ?_
       simp +contextual -implicitDefEqProofs (maxSteps:=10^7) only[go_sem,seval,↓gZ,Zu,e1,e2,hnil,hl',hx]
    rw[if_neg k0] at hk
    by_cases k1:eK=1
    ·rw[if_pos k1] at hk
     rw[Uk hk]
     subst k1
     have e3:=Jk XS [eL,eX,eY,eW,eH] (by simp) (by simp[n2,n3,n4,n5,n6]) (by decide)
     simp only[List.map_cons,List.map_nil,YL,XS] at e3
     simp only[Ev.text,Ev.words,XS]
     refine Zb Xs Ms Zu Qs (by show 1≤_;decide) ?_
     simp +contextual -implicitDefEqProofs (maxSteps:=10^7) only[go_sem,seval,↓gZ,Zu,e1,e2,hnil,hl',e3]
    rw[if_neg k1] at hk
    have hsx:Zqh ⟨⟨epW,epH,epT,epK⟩,eC⟩:=⟨n10,n7,n8,n9⟩
    have e4:=Zrd epW epH epT epK eC hsx
    have hwl:=Zfp ⟨⟨epW,epH,epT,epK⟩,eC⟩ hsx
    have bl:6+(ZbY ⟨⟨epW,epH,epT,epK⟩,eC⟩).length≤1152921504606846976:=by unfold ZbY;omega
    by_cases k2:eK=2
    ·rw[if_pos k2] at hk
     rw[Uk hk]
     subst k2
     have ht:Ev.text (.order ⟨⟨epW,epH,epT,epK⟩,eC⟩)=[111,114,100,101,114,32]++ZbY ⟨⟨epW,epH,epT,epK⟩,eC⟩:=rfl
     rw[ht]
     refine Zb Xs Ms Zu Qs (by show 1≤_;decide) ?_
     simp +contextual -implicitDefEqProofs (maxSteps:=10^7) only[go_sem,seval,↓gZ,Zu,e1,e2,hnil,hl',e4,bl]
    rw[if_neg k2] at hk
    by_cases k3:eK=3
    ·rw[if_pos k3] at hk
     rw[Uk hk]
     subst k3
     have e3:=Jk ZcC [eL] (by simp) (by simp[n2]) (by decide)
     simp only[List.map_cons,List.map_nil,YL,ZcC] at e3
     have hnl:=Zey eL n2
     have ht:Ev.text (.cut eL.toNat b)=Y0 32 [[99,117,116],num eL.toNat]++[32]++shw b:=by simp[Ev.text,Ev.words,Y0,ZcC]
     have hjl:(Y0 32 [[99,117,116],num eL.toNat]).length≤20:=by simp[Y0];omega
     rw[ht]
     generalize Y0 32 [[99,117,116],num eL.toNat]=jt at *
     have b1:jt.length+1≤1152921504606846976:=by omega
     have b2:jt.length+1+(shw b).length≤1152921504606846976:=by omega
     refine Zb Xs Ms Zu Qs (by show 1≤_;decide) ?_
     simp +contextual -implicitDefEqProofs (maxSteps:=10^7) only[go_sem,seval,↓gZ,Zu,e1,e2,hnil,hl',e3,b1,b2]
    rw[if_neg k3] at hk
    by_cases k4:eK=4
    ·rw[if_pos k4] at hk
     rw[Uk hk]
     subst k4
     have ht:Ev.text (.brk ⟨⟨epW,epH,epT,epK⟩,eC⟩)=[98,114,101,97,107,32]++ZbY ⟨⟨epW,epH,epT,epK⟩,eC⟩:=rfl
     rw[ht]
     refine Zb Xs Ms Zu Qs (by show 1≤_;decide) ?_
     simp +contextual -implicitDefEqProofs (maxSteps:=10^7) only[go_sem,seval,↓gZ,Zu,e1,e2,hnil,hl',e4,bl]
    rw[if_neg k4] at hk
    by_cases k5:eK=5
    ·rw[if_pos k5] at hk
     rw[Uk hk]
     subst k5
     have e3:=Jk XD [eL] (by simp) (by simp[n2]) (by decide)
     simp only[List.map_cons,List.map_nil,YL,XD] at e3
     simp only[Ev.text,Ev.words,XD]
     refine Zb Xs Ms Zu Qs (by show 1≤_;decide) ?_
     simp +contextual -implicitDefEqProofs (maxSteps:=10^7) only[go_sem,seval,↓gZ,Zu,e1,e2,hnil,hl',e3]
    ·rw[if_neg k5] at hk
     rw[ZaM hk]
     refine Zb Xs Ms Zu Qs (by show 1≤_;decide) ?_
     simp +contextual -implicitDefEqProofs (maxSteps:=10^7) only[go_sem,seval,↓gZ,Zu,e1,e2,hnil,hl',k0,k1,k2,k3,k4,k5]
   ·have hl' : (1600:Int)<((shw b).length:Int):=by omega
    have hno:W6 (Zl.mk eK eL (Box.mk eX eY eW eH) (Zi.mk (Pane.mk epW epH epT epK) eC) (Zj.mk eo ea ep et ek))=none:=by
     refine Zez fun b' hb' hp=>?_
     rw[show Xi (Zl.plan (Zl.mk eK eL (Box.mk eX eY eW eH) (Zi.mk (Pane.mk epW epH epT epK) eC) (Zj.mk eo ea ep et ek)))=Xi (.mk eo ea ep et ek) from rfl,htb] at hb'
     cases hb'
     exact hl hp.2.2
    rw[ZaM hno]
    refine Zb Xs Ms Zu Qs (by show 1≤_;decide) ?_
    simp +contextual -implicitDefEqProofs (maxSteps:=10^7) only[go_sem,seval,↓gZ,Zu,e1,e2,hnil,hl']
 ·rw[decide_eq_false hw] at e2
  rw[ZaM (Zje hw)]
  refine Zb Xs Ms Zu Qs (by show 1≤_;decide) ?_
  simp +contextual -implicitDefEqProofs (maxSteps:=10^7) only[go_sem,seval,↓gZ,Zu,e1,e2]
theorem Zif:Zh Xs Ms YG [] []=some (.own 0,[.row 1 [.str Q8,.str XS,.str Y4,.str ZcC,.str Y5,.str XD] true false]):=by
 refine Zb Xs Ms U0 ZqA (by show 0≤_;decide) ?_
 simp +contextual -implicitDefEqProofs (maxSteps:=10^7) only[go_sem,seval,↓gZ,U0]
 all_goals rfl
def Znb (e:Zl):List Int:=[e.label,e.box.X,e.box.Y,e.box.W,e.box.H,e.line.Count,e.line.Pane.W,e.line.Pane.H,e.line.Pane.Kind]
theorem ZzX {e:Zl} (h:¬∀ n∈Znb e,six n):W6 e=none:=by
 refine Zje fun h'=>h fun n hn=>h' n ?_
 simp only[Znb,VF,List.mem_cons,List.not_mem_nil,or_false] at hn ⊢
 rcases hn with h | h | h | h | h | h | h | h | h<;>simp[h]
theorem ZzY {e:Zl} (h:∀ n∈Znb e,six n) (hk:0≤e.kind∧e.kind≤5):∀ n∈VF e,six n:=by
 intro n hn
 simp only[VF,List.mem_cons,List.not_mem_nil,or_false] at hn
 rcases hn with rfl | hn
 ·exact⟨hk.1,by omega⟩
 ·refine h n ?_
  simp only[Znb,List.mem_cons,List.not_mem_nil,or_false]
  rcases hn with h | h | h | h | h | h | h | h | h<;>simp[h]
theorem ZvK {e:Zl} {b:BT} (hk:0≤e.kind∧e.kind≤5) (h0:e.kind=0→e.box.X=0∧e.box.Y=0):(Vo e b).isSome=true:=by
 unfold Vo
 by_cases k0:e.kind=0
 ·rw[if_pos k0,if_pos (h0 k0)];rfl
 rw[if_neg k0]
 by_cases k1:e.kind=1
 ·rw[if_pos k1];rfl
 rw[if_neg k1]
 by_cases k2:e.kind=2
 ·rw[if_pos k2];rfl
 rw[if_neg k2]
 by_cases k3:e.kind=3
 ·rw[if_pos k3];rfl
 rw[if_neg k3]
 by_cases k4:e.kind=4
 ·rw[if_pos k4];rfl
 rw[if_neg k4,if_pos (by omega)];rfl
theorem ZvL {e:Zl} {b:BT} (hk:¬(0≤e.kind∧e.kind≤5)):Vo e b=none:=by
 unfold Vo
 rw[if_neg (by omega),if_neg (by omega),if_neg (by omega),if_neg (by omega),if_neg (by omega),if_neg (by omega)]
theorem ZnX {e:Zl} (h:∀ b,Vo e b=none):W6 e=none:=by
 unfold W6
 split
 ·split
  ·split
   ·exact h _
   ·rfl
  ·rfl
 ·rfl
theorem JK (eK eL eX eY eW eH epW epH:Int) (epT:Bool) (epK eC eo ea ep:Int) (et:Bool) (ek:List Zj):Zh Xs Ms QX [(.d (.agg [J eK,J eL,J eX,J eY,J eW,J eH,J epW,J epH,.bool epT,J epK,J eC,J eo,J ea,J ep,.bool et,.sl (ek.map Zj.enc)]))] []=some ((.d (.bool ((W6 (Zl.mk eK eL (Box.mk eX eY eW eH) (Zi.mk (Pane.mk epW epH epT epK) eC) (Zj.mk eo ea ep et ek))).isSome))),[]):=by
 obtain⟨xs,hxs⟩:∃ xs,xs=Znb (Zl.mk eK eL (Box.mk eX eY eW eH) (Zi.mk (Pane.mk epW epH epT epK) eC) (Zj.mk eo ea ep et ek)):=⟨_,rfl⟩
 have hlen:xs.length=9:=by rw[hxs];rfl
 refine Zb Xs Ms Vv Zk3 (by show 1≤_;decide) ?_
 simp +contextual -implicitDefEqProofs (maxSteps:=10^7) only[go_sem,seval,↓gZ,Vv]
 have hrow:([J eL,J eX,J eY,J eW,J eH,J eC,J epW,J epH,J epK]:List D)=xs.map YL:=by rw[hxs];rfl
 rw[hrow]
 refine ZQ Xs Ms (st0:=?st0) (α:=Nat) (fun k=>[(4,.d (J (k:Int)))]) (fun _=>[]) (fun k=>k≤9∧∀ n∈xs.take k,six n) (fun k=>9-k) 0 ?hc (by simp) ?h0 ?step
 case hc=>simp +contextual -implicitDefEqProofs (maxSteps:=10^7) only[go_sem,seval,↓gZ]<;>exact rfl
 case h0=>rfl
 case step=>
  intro k ⟨hk,hp⟩ ih
  by_cases hlt:k<xs.length
  ·obtain⟨x,hx⟩:=ZU hlt
   have hlt' : (k:Int)<9:=by omega
   have hlt10:k<9:=by omega
   have hlt2:(k:Int)<(xs.length:Int):=by omega
   have hw1:=Zm (k:=k) (by omega)
   have e1:=ZA x 0 999999
   by_cases hs:six x
   ·rw[decide_eq_true (show 0≤x∧x≤999999 from hs)] at e1
    simp +contextual -implicitDefEqProofs (maxSteps:=10^7) only[go_sem,seval,↓gZ,hlt',hlt,hlt10,hlt2,hx,hw1,YL,e1]
    refine ih (k+1) _ ⟨by omega,?_⟩ (by omega) ?_
    ·intro n hn
     rw[List.take_add_one,hx] at hn
     rcases List.mem_append.1 hn with hn | hn
     ·exact hp n hn
     ·simp only[Option.toList_some,List.mem_singleton] at hn
      rw[hn];exact hs
    ·simp +contextual -implicitDefEqProofs (maxSteps:=10^7) only[go_sem,seval,↓gZ]
   ·rw[decide_eq_false (show ¬(0≤x∧x≤999999) from hs)] at e1
    have hno:W6 (Zl.mk eK eL (Box.mk eX eY eW eH) (Zi.mk (Pane.mk epW epH epT epK) eC) (Zj.mk eo ea ep et ek))=none:=ZzX fun h=>hs (h x (by rw[← hxs];exact List.mem_of_getElem? hx))
    rw[hno]
    simp +contextual -implicitDefEqProofs (maxSteps:=10^7) only[go_sem,seval,↓gZ,hlt',hlt,hlt10,hlt2,hx,hw1,YL,e1,Option.isSome_none]
  ·have hke:k=9:=by omega
   subst hke
   have hall:∀ n∈Znb (Zl.mk eK eL (Box.mk eX eY eW eH) (Zi.mk (Pane.mk epW epH epT epK) eC) (Zj.mk eo ea ep et ek)),six n:=by
    intro n hn
    rw[← hxs] at hn
    refine hp n ?_
    rw[List.take_of_length_le (by omega)]
    exact hn
   have hge:¬(9:Int)<(xs.length:Int):=by omega
   have e1:=ZA eK 0 5
   have e2:=ZfK (.mk eo ea ep et ek)
   rw[Zj.enc_mk] at e2
   by_cases hbad:eK=0∧¬(eX=0∧eY=0)
   ·obtain⟨k0,hxy⟩:=hbad
    have hno:W6 (Zl.mk eK eL (Box.mk eX eY eW eH) (Zi.mk (Pane.mk epW epH epT epK) eC) (Zj.mk eo ea ep et ek))=none:=ZnX fun b=>by unfold Vo;rw[if_pos k0,if_neg hxy]
    rw[hno]
    subst k0
    by_cases hX:eX=0
    ·have hY:¬eY=0:=fun h=>hxy ⟨hX,h⟩
     simp +contextual -implicitDefEqProofs (maxSteps:=10^7) only[go_sem,seval,↓gZ,hge,hX,hY,Option.isSome_none]
    ·simp +contextual -implicitDefEqProofs (maxSteps:=10^7) only[go_sem,seval,↓gZ,hge,hX,Option.isSome_none]
   have hok:eK=0→eX=0∧eY=0:=fun h=>Classical.byContradiction fun h'=>hbad ⟨h,h'⟩
   have rest:∀ R:Prop,R→R:=fun _ h=>h
   by_cases hkr:0≤eK∧eK≤5
   ·rw[decide_eq_true hkr] at e1
    have hnums:=ZzY (e:=(Zl.mk eK eL (Box.mk eX eY eW eH) (Zi.mk (Pane.mk epW epH epT epK) eC) (Zj.mk eo ea ep et ek))) hall hkr
    cases hT:Xi (.mk eo ea ep et ek) with
    | none=>
     rw[hT,show ZC 255 none=-1 from rfl] at e2
     have hno:W6 (Zl.mk eK eL (Box.mk eX eY eW eH) (Zi.mk (Pane.mk epW epH epT epK) eC) (Zj.mk eo ea ep et ek))=none:=Zez fun b hb=>by rw[show Xi (Zl.plan (Zl.mk eK eL (Box.mk eX eY eW eH) (Zi.mk (Pane.mk epW epH epT epK) eC) (Zj.mk eo ea ep et ek)))=Xi (.mk eo ea ep et ek) from rfl,hT] at hb;cases hb
     rw[hno]
     by_cases k0:eK=0
     ·obtain⟨hX,hY⟩:=hok k0
      subst k0 hX hY
      simp +contextual -implicitDefEqProofs (maxSteps:=10^7) only[go_sem,seval,↓gZ,hge,e1,e2,Option.isSome_none]
     ·simp +contextual -implicitDefEqProofs (maxSteps:=10^7) only[go_sem,seval,↓gZ,hge,k0,e1,e2,Option.isSome_none]
    | some b=>
     have hpb:=ZbL hT
     rw[hT] at e2
     by_cases hpl:Zm9 b
     ·have hz:0<ZC 255 (some b):=by
       have:=b.cnt_pos
       have:=hpl.1
       rcases Xz 255 b with ⟨_,h⟩ | ⟨h,_⟩
       ·rw[h];omega
       ·omega
      have e3:=UQ b
      have e4:=Uj b hpl.2.1 (by have:=hpl.1;omega)
      rw[← hpb,Zj.enc_mk] at e3 e4
      rw[hpl.2.1] at e3
      have hl:=hpl.2.2
      have hl' : ((shw b).length:Int)≤1600:=by omega
      have hyes:(W6 (Zl.mk eK eL (Box.mk eX eY eW eH) (Zi.mk (Pane.mk epW epH epT epK) eC) (Zj.mk eo ea ep et ek))).isSome=true:=by
       rw[Ww hnums hT hpl]
       exact ZvK hkr hok
      rw[hyes]
      by_cases k0:eK=0
      ·obtain⟨hX,hY⟩:=hok k0
       subst k0 hX hY
       simp +contextual -implicitDefEqProofs (maxSteps:=10^7) only[go_sem,seval,↓gZ,hge,e1,e2,hz,e3,e4,hl']
      ·simp +contextual -implicitDefEqProofs (maxSteps:=10^7) only[go_sem,seval,↓gZ,hge,k0,e1,e2,hz,e3,e4,hl']
     ·have hno:W6 (Zl.mk eK eL (Box.mk eX eY eW eH) (Zi.mk (Pane.mk epW epH epT epK) eC) (Zj.mk eo ea ep et ek))=none:=Zez fun b' hb=>by
       rw[show Xi (Zl.plan (Zl.mk eK eL (Box.mk eX eY eW eH) (Zi.mk (Pane.mk epW epH epT epK) eC) (Zj.mk eo ea ep et ek)))=Xi (.mk eo ea ep et ek) from rfl,hT] at hb
       cases hb;exact hpl
      rw[hno]
      have e3:=UQ b
      rw[← hpb,Zj.enc_mk] at e3
      rcases Xz 255 b with ⟨hc,hz⟩ | ⟨hc,hz⟩
      ·rw[hz] at e2
       have hz' : (0:Int)<b.cnt:=by have:=b.cnt_pos;omega
       cases hcb:Wv b with
       | false=>
        rw[hcb] at e3
        by_cases k0:eK=0
        ·obtain⟨hX,hY⟩:=hok k0
         subst k0 hX hY
         simp +contextual -implicitDefEqProofs (maxSteps:=10^7) only[go_sem,seval,↓gZ,hge,e1,e2,hz',e3,Option.isSome_none]
        ·simp +contextual -implicitDefEqProofs (maxSteps:=10^7) only[go_sem,seval,↓gZ,hge,k0,e1,e2,hz',e3,Option.isSome_none]
       | true=>
        rw[hcb] at e3
        have e4:=Uj b hcb (by omega)
        rw[← hpb,Zj.enc_mk] at e4
        have hl' : ¬((shw b).length:Int)≤1600:=fun h=>hpl ⟨by omega,hcb,by omega⟩
        by_cases k0:eK=0
        ·obtain⟨hX,hY⟩:=hok k0
         subst k0 hX hY
         simp +contextual -implicitDefEqProofs (maxSteps:=10^7) only[go_sem,seval,↓gZ,hge,e1,e2,hz',e3,e4,hl',Option.isSome_none]
        ·simp +contextual -implicitDefEqProofs (maxSteps:=10^7) only[go_sem,seval,↓gZ,hge,k0,e1,e2,hz',e3,e4,hl',Option.isSome_none]
      ·rw[hz] at e2
       by_cases k0:eK=0
       ·obtain⟨hX,hY⟩:=hok k0
        subst k0 hX hY
        simp +contextual -implicitDefEqProofs (maxSteps:=10^7) only[go_sem,seval,↓gZ,hge,e1,e2,Option.isSome_none]
       ·simp +contextual -implicitDefEqProofs (maxSteps:=10^7) only[go_sem,seval,↓gZ,hge,k0,e1,e2,Option.isSome_none]
   ·rw[decide_eq_false hkr] at e1
    have hno:W6 (Zl.mk eK eL (Box.mk eX eY eW eH) (Zi.mk (Pane.mk epW epH epT epK) eC) (Zj.mk eo ea ep et ek))=none:=ZnX fun b=>ZvL hkr
    rw[hno]
    have k0:¬eK=0:=fun h=>hkr ⟨by omega,by omega⟩
    simp +contextual -implicitDefEqProofs (maxSteps:=10^7) only[go_sem,seval,↓gZ,hge,k0,e1,Option.isSome_none]
theorem Zjf (n:Int) (h:six n):Zh Xs Ms Z4 [(.d (J n))] []=some (.d (.str (num n.toNat)),[]):=by
 have e:=WH n.toNat (by have:=h.2;have:=h.1;omega)
 rw[Int.toNat_of_nonneg h.1] at e
 exact e
theorem ZeA (eK eL eX eY eW eH epW epH:Int) (epT:Bool) (epK eC eo ea ep:Int) (et:Bool) (ek:List Zj) (v:Ev) (hv:W6 (Zl.mk eK eL (Box.mk eX eY eW eH) (Zi.mk (Pane.mk epW epH epT epK) eC) (Zj.mk eo ea ep et ek))=some v):Zh Xs Ms Vc [(.d (.agg [J eK,J eL,J eX,J eY,J eW,J eH,J epW,J epH,.bool epT,J epK,J eC,J eo,J ea,J ep,.bool et,.sl (ek.map Zj.enc)]))] []=some (.d (.str v.text),[]):=by
 have hnums:∀ n∈VF (Zl.mk eK eL (Box.mk eX eY eW eH) (Zi.mk (Pane.mk epW epH epT epK) eC) (Zj.mk eo ea ep et ek)),six n:=Classical.byContradiction fun h=>by rw[Zje h] at hv;cases hv
 obtain⟨b,hb,hpl⟩:∃ b,Xi (.mk eo ea ep et ek)=some b∧Zm9 b:=Classical.byContradiction fun h=>by
  rw[Zez (e:=(Zl.mk eK eL (Box.mk eX eY eW eH) (Zi.mk (Pane.mk epW epH epT epK) eC) (Zj.mk eo ea ep et ek))) fun b hb hp=>h ⟨b,hb,hp⟩] at hv;cases hv
 have hpb:=ZbL hb
 rw[Ww hnums hb hpl] at hv
 have e0:=Zif
 simp only[VF,List.mem_cons,List.not_mem_nil,or_false,forall_eq_or_imp,forall_eq] at hnums
 obtain⟨n1,n2,n3,n4,n5,n6,n7,n8,n9,n10⟩:=hnums
 have eL':=Zjf eL n2
 have eX':=Zjf eX n3
 have eY':=Zjf eY n4
 have eW':=Zjf eW n5
 have eH':=Zjf eH n6
 have lL:=Zey eL n2
 have lX:=Zey eX n3
 have lY:=Zey eY n4
 have lW:=Zey eW n5
 have lH:=Zey eH n6
 have hsx:Zqh ⟨⟨epW,epH,epT,epK⟩,eC⟩:=⟨n10,n7,n8,n9⟩
 have e4:=Zre epW epH epT epK eC hsx
 have hwl:=Zfp ⟨⟨epW,epH,epT,epK⟩,eC⟩ hsx
 have e5:=Uj b hpl.2.1 (by have:=hpl.1;omega)
 rw[← hpb,Zj.enc_mk] at e5
 have hpl3:=hpl.2.2
 have hsl:(ZbY ⟨⟨epW,epH,epT,epK⟩,eC⟩).length≤40:=hwl
 unfold Vo at hv
 simp only at hv
 by_cases k0:eK=0
 ·rw[if_pos k0] at hv
  split at hv
  ·cases hv
   subst k0
   have ht:Ev.text (.sheet eL.toNat eW.toNat eH.toNat)=Q8++[32]++num eL.toNat++[32]++num eW.toNat++[32]++num eH.toNat:=by simp[Ev.text,Ev.words,Y0]
   rw[ht]
   generalize num eL.toNat=a at *
   generalize num eW.toNat=c at *
   generalize num eH.toNat=d at *
   have hw0:Q8.length=5:=rfl
   have b0:Q8.length+1≤1152921504606846976:=by omega
   have b1:Q8.length+1+a.length≤1152921504606846976:=by omega
   have b2:Q8.length+1+a.length+1≤1152921504606846976:=by omega
   have b3:Q8.length+1+a.length+1+c.length≤1152921504606846976:=by omega
   have b4:Q8.length+1+a.length+1+c.length+1≤1152921504606846976:=by omega
   have b5:Q8.length+1+a.length+1+c.length+1+d.length≤1152921504606846976:=by omega
   refine Zb Xs Ms Qn Ul (by show 1≤_;decide) ?_
   simp +contextual -implicitDefEqProofs (maxSteps:=10^7) only[go_sem,seval,↓gZ,Qn,e0,eL',eW',eH',b0,b1,b2,b3,b4,b5]
  ·cases hv
 rw[if_neg k0] at hv
 by_cases k1:eK=1
 ·rw[if_pos k1] at hv
  cases hv
  subst k1
  have ht:Ev.text (.flaw eL.toNat eX.toNat eY.toNat eW.toNat eH.toNat)=XS++[32]++num eL.toNat++[32]++num eX.toNat++[32]++num eY.toNat++[32]++num eW.toNat++[32]++num eH.toNat:=by simp[Ev.text,Ev.words,Y0]
  rw[ht]
  generalize num eL.toNat=a at *
  generalize num eX.toNat=x at *
  generalize num eY.toNat=y at *
  generalize num eW.toNat=c at *
  generalize num eH.toNat=d at *
  have hw0:XS.length=4:=rfl
  have b0:XS.length+1≤1152921504606846976:=by omega
  have b1:XS.length+1+a.length≤1152921504606846976:=by omega
  have b2:XS.length+1+a.length+1≤1152921504606846976:=by omega
  have b3:XS.length+1+a.length+1+x.length≤1152921504606846976:=by omega
  have b4:XS.length+1+a.length+1+x.length+1≤1152921504606846976:=by omega
  have b5:XS.length+1+a.length+1+x.length+1+y.length≤1152921504606846976:=by omega
  have b6:XS.length+1+a.length+1+x.length+1+y.length+1≤1152921504606846976:=by omega
  have b7:XS.length+1+a.length+1+x.length+1+y.length+1+c.length≤1152921504606846976:=by omega
  have b8:XS.length+1+a.length+1+x.length+1+y.length+1+c.length+1≤1152921504606846976:=by omega
  have b9:XS.length+1+a.length+1+x.length+1+y.length+1+c.length+1+d.length≤1152921504606846976:=by omega
  refine Zb Xs Ms Qn Ul (by show 1≤_;decide) ?_
  simp +contextual -implicitDefEqProofs (maxSteps:=10^7) only[go_sem,seval,↓gZ,Qn,e0,eL',eX',eY',eW',eH',b0,b1,b2,b3,b4,b5,b6,b7,b8,b9]
 rw[if_neg k1] at hv
 by_cases k2:eK=2
 ·rw[if_pos k2] at hv
  cases hv
  subst k2
  have ht:Ev.text (.order ⟨⟨epW,epH,epT,epK⟩,eC⟩)=Y4++[32]++ZbY ⟨⟨epW,epH,epT,epK⟩,eC⟩:=rfl
  rw[ht]
  generalize ZbY ⟨⟨epW,epH,epT,epK⟩,eC⟩=a at *
  have hw0:Y4.length=5:=rfl
  have b0:Y4.length+1≤1152921504606846976:=by omega
  have b1:Y4.length+1+a.length≤1152921504606846976:=by omega
  refine Zb Xs Ms Qn Ul (by show 1≤_;decide) ?_
  simp +contextual -implicitDefEqProofs (maxSteps:=10^7) only[go_sem,seval,↓gZ,Qn,e0,e4,b0,b1]
 rw[if_neg k2] at hv
 by_cases k3:eK=3
 ·rw[if_pos k3] at hv
  cases hv
  subst k3
  have ht:Ev.text (.cut eL.toNat b)=ZcC++[32]++num eL.toNat++[32]++shw b:=by simp[Ev.text,Ev.words,Y0]
  rw[ht]
  generalize num eL.toNat=a at *
  generalize shw b=c at *
  have hw0:ZcC.length=3:=rfl
  have b0:ZcC.length+1≤1152921504606846976:=by omega
  have b1:ZcC.length+1+a.length≤1152921504606846976:=by omega
  have b2:ZcC.length+1+a.length+1≤1152921504606846976:=by omega
  have b3:ZcC.length+1+a.length+1+c.length≤1152921504606846976:=by omega
  refine Zb Xs Ms Qn Ul (by show 1≤_;decide) ?_
  simp +contextual -implicitDefEqProofs (maxSteps:=10^7) only[go_sem,seval,↓gZ,Qn,e0,eL',e5,b0,b1,b2,b3]
 rw[if_neg k3] at hv
 by_cases k4:eK=4
 ·rw[if_pos k4] at hv
  cases hv
  subst k4
  have ht:Ev.text (.brk ⟨⟨epW,epH,epT,epK⟩,eC⟩)=Y5++[32]++ZbY ⟨⟨epW,epH,epT,epK⟩,eC⟩:=rfl
  rw[ht]
  generalize ZbY ⟨⟨epW,epH,epT,epK⟩,eC⟩=a at *
  have hw0:Y5.length=5:=rfl
  have b0:Y5.length+1≤1152921504606846976:=by omega
  have b1:Y5.length+1+a.length≤1152921504606846976:=by omega
  refine Zb Xs Ms Qn Ul (by show 1≤_;decide) ?_
  simp +contextual -implicitDefEqProofs (maxSteps:=10^7) only[go_sem,seval,↓gZ,Qn,e0,e4,b0,b1]
 rw[if_neg k4] at hv
 by_cases k5:eK=5
 ·rw[if_pos k5] at hv
  cases hv
  subst k5
  have ht:Ev.text (.scrap eL.toNat)=XD++[32]++num eL.toNat:=rfl
  rw[ht]
  generalize num eL.toNat=a at *
  have hw0:XD.length=5:=rfl
  have b0:XD.length+1≤1152921504606846976:=by omega
  have b1:XD.length+1+a.length≤1152921504606846976:=by omega
  refine Zb Xs Ms Qn Ul (by show 1≤_;decide) ?_
  simp +contextual -implicitDefEqProofs (maxSteps:=10^7) only[go_sem,seval,↓gZ,Qn,e0,eL',b0,b1]
 ·rw[if_neg k5] at hv
  cases hv
theorem Znc (eK eL eX eY eW eH epW epH:Int) (epT:Bool) (epK eC eo ea ep:Int) (et:Bool) (ek:List Zj):Zh Xs Ms VH [(.d (.agg [J eK,J eL,J eX,J eY,J eW,J eH,J epW,J epH,.bool epT,J epK,J eC,J eo,J ea,J ep,.bool et,.sl (ek.map Zj.enc)]))] []=some (.d (.str (ZvJ (Zl.mk eK eL (Box.mk eX eY eW eH) (Zi.mk (Pane.mk epW epH epT epK) eC) (Zj.mk eo ea ep et ek)))),[]):=by
 have e1:=JK eK eL eX eY eW eH epW epH epT epK eC eo ea ep et ek
 cases hv:W6 (Zl.mk eK eL (Box.mk eX eY eW eH) (Zi.mk (Pane.mk epW epH epT epK) eC) (Zj.mk eo ea ep et ek)) with
 | none=>
  rw[hv,Option.isSome_none] at e1
  rw[ZaM hv]
  refine Zb Xs Ms YY Zij (by show 1≤_;decide) ?_
  simp +contextual -implicitDefEqProofs (maxSteps:=10^7) only[go_sem,seval,↓gZ,YY,e1]
 | some v=>
  have e2:=ZeA eK eL eX eY eW eH epW epH epT epK eC eo ea ep et ek v hv
  rw[hv,Option.isSome_some] at e1
  rw[Uk hv]
  refine Zb Xs Ms YY Zij (by show 1≤_;decide) ?_
  simp +contextual -implicitDefEqProofs (maxSteps:=10^7) only[go_sem,seval,↓gZ,YY,e1,e2]
def evZ:Zl:=⟨0,0,bx0,ln0,BT.waste.plan⟩
def evM (m:Option Ev):Zl:=match m with
 | some v=>v.ev
 | none=>evZ
def PeR (res:Option (AV×List Zo)) (m:Option Ev):Prop:=∃ (K L X Y W H pW pH:Int) (pT:Bool) (pK C o a q:Int) (t:Bool) (ks:List Zj),
 res=some (.tup [.agg [(.d (J K)),(.d (J L)),(.d (J X)),(.d (J Y)),(.d (J W)),(.d (J H)),(.d (J pW)),(.d (J pH)),(.d (.bool pT)),(.d (J pK)),(.d (J C)),(.d (J o)),(.d (J a)),(.d (J q)),(.d (.bool t)),.own 0],(.d (.bool (m.isSome)))],[.row 5 (ks.map Zj.enc) true false]) ∧
 Zl.mk K L ⟨X,Y,W,H⟩ ⟨⟨pW,pH,pT,pK⟩,C⟩ (.mk o a q t ks)=evM m
theorem ZfN {res:Option (AV×List Zo)} (h:res=some (.tup [.agg [(.d (J 0)),(.d (J 0)),(.d (J 0)),(.d (J 0)),(.d (J 0)),(.d (J 0)),(.d (J 0)),(.d (J 0)),(.d (.bool false)),(.d (J 0)),(.d (J 0)),(.d (J 0)),(.d (J 0)),(.d (J 0)),(.d (.bool false)),.own 0],(.d (.bool false))],[.row 5 [] true false])):PeR res none:=
 ⟨0,0,0,0,0,0,0,0,false,0,0,0,0,0,false,[],h,rfl⟩
def rcM (s:List UInt8):Option Ev:=match QK 32 s with
 | none=>none
 | some i=>(rd (s.take i)).bind fun l=>(ZgS (s.drop (i+1))).bind fun b=>some (.cut l b)
theorem ZBA:ZgS []=none:=rfl
theorem ZtN (s:List UInt8) (hs:s.length≤1000000):PeR (Zh Xs Ms ZaN [.d (.str s)] []) (rcM s):=by
 have e1:=Zev s 32 hs
 unfold rcM
 cases hi:QK 32 s with
 | none=>
  rw[hi] at e1
  simp only at e1 ⊢
  have e2:=Zal s
  obtain⟨o,a,q,t,ks,e3,h3⟩:=Zja [] (by simp)
  rw[ZBA] at e3
  simp only[Option.isSome_none] at e3
  refine ZfN ?_
  cases hr:rd s with
  | none=>
   rw[hr] at e2
   simp only[ZhL] at e2
   refine Zb Xs Ms XB ZcE (by show 1≤_;decide) ?_
   simp +contextual -implicitDefEqProofs (maxSteps:=10^7) only[go_sem,seval,↓gZ,XB,e1,e2,e3]
  | some v=>
   rw[hr] at e2
   simp only[ZhL] at e2
   refine Zb Xs Ms XB ZcE (by show 1≤_;decide) ?_
   simp +contextual -implicitDefEqProofs (maxSteps:=10^7) only[go_sem,seval,↓gZ,XB,e1,e2,e3]
 | some i=>
  rw[hi] at e1
  simp only at e1 ⊢
  have e2:=Zal (s.take i)
  obtain⟨o,a,q,t,ks,e3,h3⟩:=Zja (s.drop (i+1)) (by simp;omega)
  cases hr:rd (s.take i) with
  | none=>
   rw[hr] at e2
   simp only[ZhL] at e2
   refine ZfN ?_
   refine Zb Xs Ms XB ZcE (by show 1≤_;decide) ?_
   simp +contextual -implicitDefEqProofs (maxSteps:=10^7) only[go_sem,seval,↓gZ,XB,e1,e2,e3]
  | some v=>
   rw[hr] at e2
   simp only[ZhL] at e2
   cases hp:ZgS (s.drop (i+1)) with
   | none=>
    rw[hp] at e3
    simp only[Option.isSome_none] at e3
    refine ZfN ?_
    refine Zb Xs Ms XB ZcE (by show 1≤_;decide) ?_
    simp +contextual -implicitDefEqProofs (maxSteps:=10^7) only[go_sem,seval,↓gZ,XB,e1,e2,e3]
   | some b=>
    rw[hp] at e3 h3
    simp only[Option.isSome_some] at e3
    refine⟨3,v,0,0,0,0,0,0,false,0,0,o,a,q,t,ks,?_,?_⟩
    ·refine Zb Xs Ms XB ZcE (by show 1≤_;decide) ?_
     simp +contextual -implicitDefEqProofs (maxSteps:=10^7) only[go_sem,seval,↓gZ,XB,e1,e2,e3]
     all_goals rfl
    ·rw[h3];rfl
theorem Zmc (w:List UInt8) (vs:List Nat) (hl:vs.length≤2000000):PeR (Zh Xs Ms Vi [.d (.str w),.d (.sl ((vs.map fun n:Nat=>(n:Int)).map YL))] []) (ZhO w vs):=by
 by_cases h3:w=Q8∧vs.length=3
 ·obtain⟨rfl,h⟩:=h3
  obtain⟨a,b,c,rfl⟩:∃ a b c,vs=[a,b,c]:=by
   match vs,h with
   | [a,b,c],_=>exact⟨a,b,c,rfl⟩
  refine⟨0,a,0,0,b,c,0,0,false,0,0,0,0,0,false,[],?_,rfl⟩
  simp only[List.map_cons,List.map_nil,YL,Q8]
  refine Zb Xs Ms ZS Ym (by show 2≤_;decide) ?_
  simp +contextual -implicitDefEqProofs (maxSteps:=10^7) only[go_sem,seval,↓gZ,ZS]
  all_goals rfl
 by_cases h5:w=XS∧vs.length=5
 ·obtain⟨rfl,h⟩:=h5
  obtain⟨a,b,c,d,f,rfl⟩:∃ a b c d f,vs=[a,b,c,d,f]:=by
   match vs,h with
   | [a,b,c,d,f],_=>exact⟨a,b,c,d,f,rfl⟩
  refine⟨1,a,b,c,d,f,0,0,false,0,0,0,0,0,false,[],?_,rfl⟩
  have q1:(XS==[115,104,101,101,116])=false:=rfl
  have q2:(XS==[102,108,97,119])=true:=rfl
  simp only[List.map_cons,List.map_nil,YL]
  refine Zb Xs Ms ZS Ym (by show 2≤_;decide) ?_
  simp +contextual -implicitDefEqProofs (maxSteps:=10^7) only[go_sem,seval,↓gZ,ZS,q1,q2]
  all_goals rfl
 by_cases h1:w=XD∧vs.length=1
 ·obtain⟨rfl,h⟩:=h1
  obtain⟨a,rfl⟩:∃ a,vs=[a]:=by
   match vs,h with
   | [a],_=>exact⟨a,rfl⟩
  refine⟨5,a,0,0,0,0,0,0,false,0,0,0,0,0,false,[],?_,rfl⟩
  have q1:(XD==[115,104,101,101,116])=false:=rfl
  have q2:(XD==[102,108,97,119])=false:=rfl
  have q3:(XD==[115,99,114,97,112])=true:=rfl
  simp only[List.map_cons,List.map_nil,YL]
  refine Zb Xs Ms ZS Ym (by show 2≤_;decide) ?_
  simp +contextual -implicitDefEqProofs (maxSteps:=10^7) only[go_sem,seval,↓gZ,ZS,q1,q2,q3]
  all_goals rfl
 ·have hno:ZhO w vs=none:=by
   unfold ZhO
   split
   ·rw[if_neg (fun e=>h1 ⟨e,rfl⟩)]
   ·rw[if_neg (fun e=>h3 ⟨e,rfl⟩)]
   ·rw[if_neg (fun e=>h5 ⟨e,rfl⟩)]
   ·rfl
  rw[hno]
  refine ZfN ?_
  have p1:(w==[115,104,101,101,116])=true→¬(vs.length:Int)=3:=fun h e=>h3 ⟨by simpa [Q8] using h,by omega⟩
  have p2:(w==[102,108,97,119])=true→¬(vs.length:Int)=5:=fun h e=>h5 ⟨by simpa [XS] using h,by omega⟩
  have p3:(w==[115,99,114,97,112])=true→¬(vs.length:Int)=1:=fun h e=>h1 ⟨by simpa [XD] using h,by omega⟩
  cases q1:(w==[115,104,101,101,116]) with
  | true=>
   have e:w=Q8:=by simpa [Q8] using q1
   have q2:(w==[102,108,97,119])=false:=by rw[e];rfl
   have q3:(w==[115,99,114,97,112])=false:=by rw[e];rfl
   have p1:=p1 q1
   refine Zb Xs Ms ZS Ym (by show 2≤_;decide) ?_
   simp +contextual -implicitDefEqProofs (maxSteps:=10^7) only[go_sem,seval,↓gZ,ZS,q1,q2,q3,p1,List.length_map]
  | false=>
   cases q2:(w==[102,108,97,119]) with
   | true=>
    have e:w=XS:=by simpa [XS] using q2
    have q3:(w==[115,99,114,97,112])=false:=by rw[e];rfl
    have p2:=p2 q2
    refine Zb Xs Ms ZS Ym (by show 2≤_;decide) ?_
    simp +contextual -implicitDefEqProofs (maxSteps:=10^7) only[go_sem,seval,↓gZ,ZS,q1,q2,q3,p2,List.length_map]
   | false=>
    cases q3:(w==[115,99,114,97,112]) with
    | true=>
     have p3:=p3 q3
     refine Zb Xs Ms ZS Ym (by show 2≤_;decide) ?_
     simp +contextual -implicitDefEqProofs (maxSteps:=10^7) only[go_sem,seval,↓gZ,ZS,q1,q2,q3,p3,List.length_map]
    | false=>
     refine Zb Xs Ms ZS Ym (by show 2≤_;decide) ?_
     simp +contextual -implicitDefEqProofs (maxSteps:=10^7) only[go_sem,seval,↓gZ,ZS,q1,q2,q3]
theorem ZkY:∀ ws:List (List UInt8),Vn ws=(ZcX ws).map fun ns=>ns.map fun n:Nat=>(n:Int)
 | []=>rfl
 | w :: r=>by
  simp only[Vn,ZcX,ZkY r]
  cases rd w with
  | none=>rfl
  | some v=>cases ZcX r<;>rfl
theorem ZvM (s:List UInt8):Zyw (ZV 32 s)=rcM s:=by
 rw[ZdQ]
 unfold rcM
 cases hi:QK 32 s with
 | none=>rfl
 | some i=>
  simp only
  rw[ZdQ 32 (s.drop (i+1))]
  cases hj:QK 32 (s.drop (i+1)) with
  | none=>rfl
  | some j=>
   simp only
   have hno:ZgS (s.drop (i+1))=none:=by
    cases hp:ZgS (s.drop (i+1)) with
    | none=>rfl
    | some b=>
     obtain⟨_,h2,_⟩:=ZjU.1 hp
     obtain⟨h3,_⟩:=Wu hj
     have h4:(32:UInt8)∉shw b:=Zqn rfl (by decide) b
     rw[← h2] at h4
     exact absurd (by rw[h3];simp) h4
   rw[hno]
   have hne:=Ji 32 ((s.drop (i+1)).drop (j+1))
   cases hs:ZV 32 ((s.drop (i+1)).drop (j+1)) with
   | nil=>exact absurd hs hne
   | cons x r=>cases rd (s.take i)<;>rfl
def Zqo (w rest:List UInt8):Option Ev:=if w=Y4 then (ZgV (ZV 32 rest)).bind fun n=>some (.order n)
 else if w=Y5 then (ZgV (ZV 32 rest)).bind fun n=>some (.brk n)
 else if w=ZcC then rcM rest else (ZcX (ZV 32 rest)).bind (ZhO w)
theorem ZBB (s:List UInt8):Zex s=match QK 32 s with
  | none=>Zqo s []
  | some i=>Zqo (s.take i) (s.drop (i+1)):=by
 unfold Zex Zqo
 rw[ZdQ]
 cases hi:QK 32 s with
 | none=>
  simp only[Jj]
  by_cases h1:s=Y4
  ·rw[if_pos h1,if_pos h1];rfl
  rw[if_neg h1,if_neg h1]
  by_cases h2:s=Y5
  ·rw[if_pos h2,if_pos h2];rfl
  rw[if_neg h2,if_neg h2]
  by_cases h3:s=ZcC
  ·rw[if_pos h3,if_pos h3];rfl
  rw[if_neg h3,if_neg h3]
  rfl
 | some i=>
  simp only[Jj,ZvM]
theorem Zig (s:List UInt8) (hs:s.length≤1000000):PeR (Zh Xs Ms YC [.d (.str s)] []) (Zex s):=by
 have e1:=Zev s 32 hs
 have main:∀ (w rest:List UInt8) (f:Bool),rest.length≤s.length→Zh Xs Ms Yt [.d (.str s),.d (.str [32])] []=some (.tup [.d (.str w),.d (.str rest),(.d (.bool f))],[])→PeR (Zh Xs Ms YC [.d (.str s)] []) (Zqo w rest):=by
  intro w rest f hr e1
  have e2:=Zrc rest (by omega)
  unfold Zqo
  by_cases h1:w=Y4∨w=Y5
  ·rcases h1 with rfl | rfl
   ·rw[if_pos rfl]
    have q1:(Y4==[111,114,100,101,114])=true:=rfl
    have q2:(Y4==[98,114,101,97,107])=false:=rfl
    cases hl:ZgV (ZV 32 rest) with
    | none=>
     rw[hl] at e2
     simp only[rlV] at e2
     refine ZfN ?_
     refine Zb Xs Ms Z5 Vp (by show 1≤_;decide) ?_
     simp +contextual -implicitDefEqProofs (maxSteps:=10^7) only[go_sem,seval,↓gZ,Z5,e1,q1,q2,e2]
    | some l=>
     obtain⟨⟨W,H,T,K⟩,C⟩:=l
     rw[hl] at e2
     simp only[rlV,Zi.enc] at e2
     refine⟨2,0,0,0,0,0,W,H,T,K,C,0,0,0,false,[],?_,rfl⟩
     refine Zb Xs Ms Z5 Vp (by show 1≤_;decide) ?_
     simp +contextual -implicitDefEqProofs (maxSteps:=10^7) only[go_sem,seval,↓gZ,Z5,e1,q1,q2,e2]
     all_goals rfl
   ·rw[if_neg (by decide),if_pos rfl]
    have q1:(Y5==[111,114,100,101,114])=false:=rfl
    have q2:(Y5==[98,114,101,97,107])=true:=rfl
    cases hl:ZgV (ZV 32 rest) with
    | none=>
     rw[hl] at e2
     simp only[rlV] at e2
     refine ZfN ?_
     refine Zb Xs Ms Z5 Vp (by show 1≤_;decide) ?_
     simp +contextual -implicitDefEqProofs (maxSteps:=10^7) only[go_sem,seval,↓gZ,Z5,e1,q1,q2,e2]
    | some l=>
     obtain⟨⟨W,H,T,K⟩,C⟩:=l
     rw[hl] at e2
     simp only[rlV,Zi.enc] at e2
     refine⟨4,0,0,0,0,0,W,H,T,K,C,0,0,0,false,[],?_,rfl⟩
     refine Zb Xs Ms Z5 Vp (by show 1≤_;decide) ?_
     simp +contextual -implicitDefEqProofs (maxSteps:=10^7) only[go_sem,seval,↓gZ,Z5,e1,q1,q2,e2]
     all_goals rfl
  have n1:¬w=Y4:=fun h=>h1 (.inl h)
  have n2:¬w=Y5:=fun h=>h1 (.inr h)
  have q1:(w==[111,114,100,101,114])=false:=by simpa [Y4] using n1
  have q2:(w==[98,114,101,97,107])=false:=by simpa [Y5] using n2
  rw[if_neg n1,if_neg n2]
  by_cases h3:w=ZcC
  ·rw[if_pos h3]
   have q3:(w==[99,117,116])=true:=by rw[h3];rfl
   obtain⟨K,L,X,Y,W,H,pW,pH,pT,pK,C,o,a,q,t,ks,e3,h⟩:=ZtN rest (by omega)
   refine⟨K,L,X,Y,W,H,pW,pH,pT,pK,C,o,a,q,t,ks,?_,h⟩
   refine Zb Xs Ms Z5 Vp (by show 1≤_;decide) ?_
   simp +contextual -implicitDefEqProofs (maxSteps:=10^7) only[go_sem,seval,↓gZ,Z5,e1,q1,q2,q3,e3]
  ·rw[if_neg h3]
   have q3:(w==[99,117,116])=false:=by simpa [ZcC] using h3
   have e3:=ZgX rest 32 (by omega)
   have hc:(ZV 32 rest).length≤1000001:=by rw[ZgW];have:rest.count 32≤rest.length:=List.count_le_length;omega
   generalize ZV 32 rest=ws at e3 hc
   have e4:=ZgY ws (by omega)
   have htk:List.take ws.length (List.map D.str ws)=List.map D.str ws:=List.take_of_length_le (by simp)
   rw[ZkY] at e4
   cases hn:ZcX ws with
   | none=>
    rw[hn] at e4
    simp only[Option.map_none,rnV] at e4
    refine ZfN ?_
    refine Zb Xs Ms Z5 Vp (by show 1≤_;decide) ?_
    simp +contextual -implicitDefEqProofs (maxSteps:=10^7) only[go_sem,seval,↓gZ,Z5,e1,q1,q2,q3,e3,e4,htk,List.drop_zero]
   | some ns=>
    rw[hn] at e4
    simp only[Option.map_some,rnV] at e4
    have hns:ns.length≤1000001:=by
     have:=(Zjd hn).1
     rw[this,List.length_map] at hc
     exact hc
    simp only[Option.bind_some]
    obtain⟨K,L,X,Y,W,H,pW,pH,pT,pK,C,o,a,q,t,ks,e5,h⟩:=Zmc w ns (by omega)
    refine⟨K,L,X,Y,W,H,pW,pH,pT,pK,C,o,a,q,t,ks,?_,h⟩
    refine Zb Xs Ms Z5 Vp (by show 1≤_;decide) ?_
    simp +contextual -implicitDefEqProofs (maxSteps:=10^7) only[go_sem,seval,↓gZ,Z5,e1,q1,q2,q3,e3,e4,htk,List.drop_zero,e5]
 rw[ZBB]
 cases hi:QK 32 s with
 | none=>
  rw[hi] at e1
  exact main _ _ _ (by simp) e1
 | some i=>
  rw[hi] at e1
  exact main _ _ _ (by simp) e1
end Go.Proofs.YtkdjbefmiiibpaaGreatDoor

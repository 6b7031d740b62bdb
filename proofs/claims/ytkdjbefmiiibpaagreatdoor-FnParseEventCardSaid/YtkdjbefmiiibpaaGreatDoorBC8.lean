/- Contracts of the functions,by the abstract semantics. -/
import Derived.Test.YtkdjbefmiiibpaaGreatDoorBCode
import Derived.Test.YtkdjbefmiiibpaaGreatDoorAbsParts
import Derived.Test.YtkdjbefmiiibpaaGreatDoorBC7
namespace Go.Proofs.YtkdjbefmiiibpaaGreatDoor
open Go Go.Abs Go.Abs.E Go.Abs.L
open Nat (reduceMul reduceSub reduceLeDiff reduceEqDiff)
open Int (reduceLE reduceEq reduceToNat reduceNeg)
set_option linter.unusedSimpArgs false
set_option linter.unusedVariables false
set_option maxRecDepth 20000
set_option maxHeartbeats 4000000
theorem ZeB:Zm9 .waste:=⟨by decide,rfl,by decide⟩
theorem ZtO {v:Ev} (h:v.ok):W6 v.ev=some v:=by
 cases v with
 | sheet l w g=>
  obtain⟨h1,h2,h3⟩:=h
  rw[Ww (b:=.waste) (by simp[VF,Ev.ev,six,ln0];omega) (Vh .waste) ZeB]
  simp[Vo,Ev.ev]
 | flaw l x y w g=>
  obtain⟨h1,h2,h3,h4,h5⟩:=h
  rw[Ww (b:=.waste) (by simp[VF,Ev.ev,six,ln0];omega) (Vh .waste) ZeB]
  simp[Vo,Ev.ev]
 | order n=>
  obtain⟨h1,h2,h3,h4⟩:=h
  simp only[six] at h1 h2 h3 h4
  rw[Ww (b:=.waste) (by simp[VF,Ev.ev,six,bx0];omega) (Vh .waste) ZeB]
  simp[Vo,Ev.ev]
 | cut l b=>
  obtain⟨h1,h2⟩:=h
  rw[Ww (b:=b) (by simp[VF,Ev.ev,six,bx0,ln0];omega) (Vh b) h2]
  simp[Vo,Ev.ev]
 | brk n=>
  obtain⟨h1,h2,h3,h4⟩:=h
  simp only[six] at h1 h2 h3 h4
  rw[Ww (b:=.waste) (by simp[VF,Ev.ev,six,bx0];omega) (Vh .waste) ZeB]
  simp[Vo,Ev.ev]
 | scrap l=>
  have h1:l≤999999:=h
  rw[Ww (b:=.waste) (by simp[VF,Ev.ev,six,bx0,ln0];omega) (Vh .waste) ZeB]
  simp[Vo,Ev.ev]
theorem Zmd {e:Zl} {v:Ev} (hv:W6 e=some v):v.ok∧v.ev.kind=e.kind:=by
 have hnums:∀ n∈VF e,six n:=Classical.byContradiction fun h=>by rw[Zje h] at hv;cases hv
 obtain⟨b,hb,hpl⟩:∃ b,Xi e.plan=some b∧Zm9 b:=Classical.byContradiction fun h=>by
  rw[Zez (e:=e) fun b hb hp=>h ⟨b,hb,hp⟩] at hv;cases hv
 rw[Ww hnums hb hpl] at hv
 simp only[VF,List.mem_cons,List.not_mem_nil,or_false,forall_eq_or_imp,forall_eq] at hnums
 obtain⟨n1,n2,n3,n4,n5,n6,n7,n8,n9,n10⟩:=hnums
 have hsx:Zqh e.line:=⟨n10,n7,n8,n9⟩
 simp only[six] at n2 n3 n4 n5 n6
 unfold Vo at hv
 by_cases k0:e.kind=0
 ·rw[if_pos k0] at hv
  split at hv
  ·cases hv
   exact⟨⟨by omega,by omega,by omega⟩,k0.symm⟩
  ·cases hv
 rw[if_neg k0] at hv
 by_cases k1:e.kind=1
 ·rw[if_pos k1] at hv
  cases hv
  exact⟨⟨by omega,by omega,by omega,by omega,by omega⟩,k1.symm⟩
 rw[if_neg k1] at hv
 by_cases k2:e.kind=2
 ·rw[if_pos k2] at hv
  cases hv
  exact⟨hsx,k2.symm⟩
 rw[if_neg k2] at hv
 by_cases k3:e.kind=3
 ·rw[if_pos k3] at hv
  cases hv
  exact⟨⟨by omega,hpl⟩,k3.symm⟩
 rw[if_neg k3] at hv
 by_cases k4:e.kind=4
 ·rw[if_pos k4] at hv
  cases hv
  exact⟨hsx,k4.symm⟩
 rw[if_neg k4] at hv
 by_cases k5:e.kind=5
 ·rw[if_pos k5] at hv
  cases hv
  exact⟨by show e.label.toNat≤999999;omega,k5.symm⟩
 ·rw[if_neg k5] at hv
  cases hv
theorem ZzZ {v:Ev} (h:v.ok):v.words.length≤6∧∀ w∈v.words,w.length≤1600:=by
 have nl:∀ n:Nat,n≤999999→(num n).length≤1600:=fun n hn=>by have:=VA 5 n (by omega);omega
 have ln:∀ l:Zi,Zqh l→(XC l).length=5∧∀ w∈XC l,w.length≤1600:=by
  intro l hl
  obtain⟨h1,h2,h3,h4⟩:=hl
  simp only[six] at h1 h2 h3 h4
  refine⟨rfl,fun w hw=>?_⟩
  simp only[XC,List.mem_cons,List.not_mem_nil,or_false] at hw
  rcases hw with rfl | rfl | rfl | rfl | rfl
  ·exact nl _ (by omega)
  ·exact nl _ (by omega)
  ·exact nl _ (by omega)
  ·cases l.Pane.Turns<;>decide
  ·exact nl _ (by omega)
 cases v with
 | sheet l w g=>
  obtain⟨h1,h2,h3⟩:=h
  refine⟨by simp[Ev.words],fun x hx=>?_⟩
  simp only[Ev.words,List.mem_cons,List.not_mem_nil,or_false] at hx
  rcases hx with rfl | rfl | rfl | rfl
  ·decide
  ·exact nl _ h1
  ·exact nl _ h2
  ·exact nl _ h3
 | flaw l a b w g=>
  obtain⟨h1,h2,h3,h4,h5⟩:=h
  refine⟨by simp[Ev.words],fun x hx=>?_⟩
  simp only[Ev.words,List.mem_cons,List.not_mem_nil,or_false] at hx
  rcases hx with rfl | rfl | rfl | rfl | rfl | rfl
  ·decide
  ·exact nl _ h1
  ·exact nl _ h2
  ·exact nl _ h3
  ·exact nl _ h4
  ·exact nl _ h5
 | order n=>
  obtain⟨g1,g2⟩:=ln n h
  refine⟨by simp only[Ev.words,List.length_cons];omega,fun x hx=>?_⟩
  rcases List.mem_cons.1 hx with rfl | hx
  ·decide
  ·exact g2 x hx
 | cut l b=>
  obtain⟨h1,h2⟩:=h
  refine⟨by simp[Ev.words],fun x hx=>?_⟩
  simp only[Ev.words,List.mem_cons,List.not_mem_nil,or_false] at hx
  rcases hx with rfl | rfl | rfl
  ·decide
  ·exact nl _ h1
  ·exact h2.2.2
 | brk n=>
  obtain⟨g1,g2⟩:=ln n h
  refine⟨by simp only[Ev.words,List.length_cons];omega,fun x hx=>?_⟩
  rcases List.mem_cons.1 hx with rfl | hx
  ·decide
  ·exact g2 x hx
 | scrap l=>
  refine⟨by simp[Ev.words],fun x hx=>?_⟩
  simp only[Ev.words,List.mem_cons,List.not_mem_nil,or_false] at hx
  rcases hx with rfl | rfl
  ·decide
  ·exact nl _ h
theorem Zme {v:Ev} (h:v.ok):v.text.length≤20000:=by
 obtain⟨h1,h2⟩:=ZzZ h
 have h3:=Zna 32 1600 v.words h2
 have:v.words.length*1601≤6*1601:=Nat.mul_le_mul_right _ h1
 unfold Ev.text
 omega
theorem Zyy (v:Ev):(v.text==[])=false:=by cases v<;>rfl
def EvI (e:Zl):Prop:=e.kind=0→I5 e.box.W∧I5 e.box.H
def PBook2 (bs:List UInt8) (p:Nat) (r:AV×List Zo):Prop:=∃ (out:List Zl) (S:List Zd) (O D:List Zi) (L C:Int) (f:Bool) (p' : Nat),Wf ⟨S,O,D,L,C⟩∧(∀ e∈out,EvI e)∧out.length≤16∧p≤p'∧p'≤p+200 ∧
 r=(.tup [.own 1,.agg [.own 2,.own 3,.own 4,(.d (J L)),(.d (J C))]],[.box [.d (.sl (bs.map VM)),(.d (J (p')))],.row 16 (out.map Zl.enc) true false,.row 4 (S.map Zd.enc) true f,.row 5 (O.map Zi.enc) true f,.row 5 (D.map Zi.enc) true f])
theorem Zqp (bs:List UInt8) (hb:bs.length≤2000) (p:Nat) (hp:p<700000000) (most:Int):∃ r,Zh Xs Ms VU [.ptr 0 0,(.d (J most))] [.box [.d (.sl (bs.map VM)),(.d (J p))]]=some r∧PBook2 bs p r:=by
 obtain⟨n,hn,eN⟩:=Zek bs p [8,12,5,16,0,2] hb (by omega) (by decide)
 have hn' : 0≤n∧n≤16:=by simp only[List.mem_cons,List.not_mem_nil,or_false] at hn;omega
 simp only[List.map_cons,List.map_nil,YL] at eN
 refine ZrX Xs Ms WX Zmh (by show 2≤_;decide) ?_
 simp +contextual -implicitDefEqProofs (maxSteps:=10^7) only[go_sem,seval,↓gZ,WX,eN]
 refine ZQ Xs Ms (st0:=?st0) (α:=Int×List Zl×Z9×Nat×Bool) (fun s=>[(8,.d (J s.1))]) (fun s=>[(0,.box [.d (.sl (bs.map VM)),(.d (J (s.2.2.2.1)))]),(1,.row 16 (s.2.1.map Zl.enc) true false),(2,.box [.own 4,.own 5,.own 6,(.d (J (s.2.2.1.Lost))),(.d (J (s.2.2.1.Came)))]),(4,.row 4 (s.2.2.1.Stock.map Zd.enc) true s.2.2.2.2),(5,.row 5 (s.2.2.1.Opn.map Zi.enc) true s.2.2.2.2),(6,.row 5 (s.2.2.1.Done.map Zi.enc) true s.2.2.2.2)]) (fun s=>0≤s.1∧s.1≤16∧(s.2.1.length:Int)≤16-s.1∧Wf s.2.2.1∧(∀ e∈s.2.1,EvI e)∧p+1≤s.2.2.2.1∧(s.2.2.2.1:Int)≤p+1+10*(16-s.1)) (fun s=>s.1.toNat) (n,[],⟨[],[],[],0,0⟩,p+1,false) ?hc ⟨hn'.1,hn'.2,by simp;omega,Zqa,by simp,by simp,by simp;omega⟩ ?h0 ?step
 case hc=>simp +contextual -implicitDefEqProofs (maxSteps:=10^7) only[go_sem,seval,↓gZ]<;>exact rfl
 case h0=>rfl
 case step=>
  intro⟨m,out,⟨S,O,D,L,C⟩,pp,f⟩ ⟨i1,i2,i3,i4,iE,i5,i6⟩ ih
  simp only at i1 i2 i3 i4 iE i5 i6
  by_cases hm:0<m
  ·by_cases ho:(out.length:Int)<most
   ·obtain⟨r,eE,K,Lb,X,Y,W,H,pW,pH,pT,pK,Ct,o,a,q,t,ks,p',g1,g2,g3,rfl⟩:=Zes bs hb pp (by omega) S O D L C (Zoz i4)
    have ea:=Zid S O D L C K Lb X Y W H pW pH pT pK Ct o a q t ks i4 (fun e=>(g1 e).1) (fun e=>(g1 e).2)
    have hw:=wi (m-1) (by omega) (by omega)
    have hr:(out.length+1)*144≤140737488355328∧out.length≤140737488355327:=by omega
    cases hap:Jh ⟨S,O,D,L,C⟩ ⟨K,Lb,⟨X,Y,W,H⟩,⟨⟨pW,pH,pT,pK⟩,Ct⟩,.mk o a q t ks⟩ with
    | none=>
     rw[hap] at ea
     unfold shV at ea
     simp +contextual -implicitDefEqProofs (maxSteps:=10^7) only[go_sem,seval,↓gZ,hm,ho,eE,ea,hw,hr]
     refine ih (m-1,out,⟨S,O,D,L,C⟩,p',true) _ ⟨by simp only;omega,by simp only;omega,by simp only;omega,i4,iE,by simp only;omega,by simp only;omega⟩ (by simp only;omega) ?_
     simp +contextual -implicitDefEqProofs (maxSteps:=10^7) only[go_sem,seval,↓gZ]
    | some u=>
     have hvu:=Zp7 hap
     rw[hap] at ea
     obtain⟨S',O',D',L',C'⟩:=u
     unfold shV at ea
     simp only at ea
     simp +contextual -implicitDefEqProofs (maxSteps:=10^7) only[go_sem,seval,↓gZ,hm,ho,eE,ea,hw,hr]
     refine ih (m-1,out++[⟨K,Lb,⟨X,Y,W,H⟩,⟨⟨pW,pH,pT,pK⟩,Ct⟩,.mk o a q t ks⟩],⟨S',O',D',L',C'⟩,p',false) _ ⟨by simp only;omega,by simp only;omega,by simp only[List.length_append,List.length_cons,List.length_nil];omega,hvu,(fun e he=>by
      rcases List.mem_append.1 he with he | he
      ·exact iE e he
      ·rw[List.mem_singleton.1 he];exact g1),by simp only;omega,by simp only;omega⟩ (by simp only;omega) ?_
     simp +contextual -implicitDefEqProofs (maxSteps:=10^7) only[go_sem,seval,↓gZ,List.map_append]
   ·simp +contextual -implicitDefEqProofs (maxSteps:=10^7) only[go_sem,seval,↓gZ,hm,ho]
    exact⟨out,S,O,D,L,C,f,pp,i4,iE,by omega,by omega,by omega,rfl⟩
  ·simp +contextual -implicitDefEqProofs (maxSteps:=10^7) only[go_sem,seval,↓gZ,hm]
   exact⟨out,S,O,D,L,C,f,pp,i4,iE,by omega,by omega,by omega,rfl⟩
def PAnyB (bs:List UInt8) (p:Nat) (r:AV×List Zo):Prop:=∃ (l:List Zl) (p' : Nat),(∀ e∈l,EvI e)∧l.length≤16∧p≤p'∧p'≤p+300 ∧
 ((∃ b,r=(.own 1,[.box [.d (.sl (bs.map VM)),(.d (J (p')))],.row 16 (l.map Zl.enc) b false]))∨∃ e0,r=(.ownv 1 1 l.length,[.box [.d (.sl (bs.map VM)),(.d (J (p')))],.row 16 ((e0 :: l).map Zl.enc) true false]))
theorem ZtP (bs:List UInt8) (hb:bs.length≤2000) (p:Nat) (hp:p<600000000):∃ r,Zh Xs Ms ZaQ [.ptr 0 0] [.box [.d (.sl (bs.map VM)),(.d (J p))]]=some r∧PAnyB bs p r:=by
 obtain⟨r,eB,out,S,O,D,L,C,f,p',hv,hE,h1,h2,h3,rfl⟩:=Zqp bs hb p (by omega) 30
 have c0:=Qa bs p' 10 hb (by omega)
 generalize Qq bs p' 10=c at c0
 refine ZrX Xs Ms VY ZvY (by show 1≤_;decide) ?_
 by_cases hl:(1:Int)<(out.length:Int)
 ·by_cases k0:c=0
  ·subst k0
   have hle:(1:Int)≤(out.length:Int):=by omega
   simp +contextual -implicitDefEqProofs (maxSteps:=10^7) only[go_sem,seval,↓gZ,VY,ZmM,eB,hl,c0,hle]
   cases out with
   | nil=>simp at hl
   | cons e0 l=>exact⟨l,p'+1,fun e he=>hE e (by simp[he]),by simp only[List.length_cons] at h1;omega,by omega,by omega,.inr ⟨e0,rfl⟩⟩
  ·by_cases k1:c=1
   ·subst k1
    obtain⟨e0,he0⟩:∃ e,out[0]?=some e:=ZU (by omega)
    obtain⟨m,hm⟩:∃ m:Nat,out.length=m+1:=⟨out.length-1,by omega⟩
    obtain⟨e1,he1⟩:∃ e,out[m]?=some e:=ZU (by omega)
    have hE0:=hE e0 (List.mem_of_getElem? he0)
    have hE1:=hE e1 (List.mem_of_getElem? he1)
    have hw:=wi ((out.length:Int)-1) (by omega) (by omega)
    have hw2:(out.length:Int)-1=(m:Int):=by omega
    have hm0:¬0=m:=by omega
    have hml:m<out.length:=by omega
    have h0l:0<out.length:=by omega
    rw[hw2] at hw
    have hwm:IntKind.i64.wrap (((m+1:Nat):Int)-1)=(m:Int):=by rw[← hm,hw2];exact hw
    obtain⟨K,Lb,⟨X,Y,W,H⟩,⟨⟨pW,pH,pT,pK⟩,Ct⟩,⟨o,a,q,t,ks⟩⟩:=e0
    obtain⟨K2,Lb2,⟨X2,Y2,W2,H2⟩,⟨⟨pW2,pH2,pT2,pK2⟩,Ct2⟩,⟨o2,a2,q2,t2,ks2⟩⟩:=e1
    simp +contextual -implicitDefEqProofs (maxSteps:=10^7) only[go_sem,seval,↓gZ,VY,eB,hl,c0,he0,he1,hw2,hw,hm0,hml,h0l,List.getElem?_set,List.length_set]
    refine⟨(out.set 0 ⟨K2,Lb2,⟨X2,Y2,W2,H2⟩,⟨⟨pW2,pH2,pT2,pK2⟩,Ct2⟩,.mk o2 a2 q2 t2 ks2⟩).set m ⟨K,Lb,⟨X,Y,W,H⟩,⟨⟨pW,pH,pT,pK⟩,Ct⟩,.mk o a q t ks⟩,p'+1,fun e he=>?_,by simpa using h1,by omega,by omega,.inl ⟨false,?_⟩⟩
    ·rcases List.mem_or_eq_of_mem_set he with he | rfl
     ·rcases List.mem_or_eq_of_mem_set he with he | rfl
      ·exact hE e he
      ·exact hE1
     ·exact hE0
    ·simp only[List.map_set,Zl.enc_mk]
   ·by_cases k2:c=2
    ·subst k2
     have u0:=Qa bs (p'+1) out.length hb (by omega)
     have u1:=Va bs (p'+1) out.length
     have u2:=ZaK bs (p'+1) out.length (by omega)
     obtain⟨i,hi⟩:∃ i:Nat,Qq bs (p'+1) (out.length:Int)=(i:Int):=⟨(Qq bs (p'+1) (out.length:Int)).toNat,by omega⟩
     rw[hi] at u0 u2
     have hil:i<out.length:=by omega
     obtain⟨e,he⟩:=ZU hil
     obtain⟨v,hv1,eV⟩:=Zek bs (p'+1+1) [1,0,1000000] hb (by omega) (by decide)
     simp only[List.map_cons,List.map_nil,YL] at eV
     have hEe:=hE e (List.mem_of_getElem? he)
     obtain⟨K,Lb,⟨X,Y,W,H⟩,⟨⟨pW,pH,pT,pK⟩,Ct⟩,⟨o,a,q,t,ks⟩⟩:=e
     simp +contextual -implicitDefEqProofs (maxSteps:=10^7) only[go_sem,seval,↓gZ,VY,eB,hl,c0,u0,hil,he,eV]
     refine⟨out.set i ⟨K,v,⟨X,Y,W,H⟩,⟨⟨pW,pH,pT,pK⟩,Ct⟩,.mk o a q t ks⟩,p'+1+1+1,fun e he=>?_,by simpa using h1,by omega,by omega,.inl ⟨true,?_⟩⟩
     ·rcases List.mem_or_eq_of_mem_set he with he | rfl
      ·exact hE e he
      ·exact hEe
     ·simp only[List.map_set,Zl.enc_mk]
      try rfl
    ·simp +contextual -implicitDefEqProofs (maxSteps:=10^7) only[go_sem,seval,↓gZ,VY,eB,hl,c0,k0,k1,k2]
     exact⟨out,p'+1,hE,h1,by omega,by omega,.inl ⟨true,rfl⟩⟩
 ·simp +contextual -implicitDefEqProofs (maxSteps:=10^7) only[go_sem,seval,↓gZ,VY,eB,hl]
  exact⟨out,p',hE,h1,by omega,by omega,.inl ⟨true,rfl⟩⟩
theorem Zax (l:List Zl) (hl:l.length≤1000000) (h:∀ e∈l,∃ B:BT,e.plan=B.plan):Zh Xs Ms Yb [(.d (.sl (l.map Zl.enc))),(.d (.sl (l.map Zl.enc)))] []=some ((.d (.bool true)),[]):=by
 refine Zb Xs Ms W8 Zoh (by show 2≤_;decide) ?_
 simp +contextual -implicitDefEqProofs (maxSteps:=10^7) only[go_sem,seval,↓gZ,W8]
 refine ZQ Xs Ms (st0:=?st0) (α:=Nat) (fun k=>[(5,.d (J (k:Int)))]) (fun _=>[]) (fun k=>k≤l.length) (fun k=>l.length-k) 0 ?hc (by omega) ?h0 ?step
 case hc=>simp +contextual -implicitDefEqProofs (maxSteps:=10^7) only[go_sem,seval,↓gZ]<;>exact rfl
 case h0=>rfl
 case step=>
  intro k hk ih
  by_cases hlt:k<l.length
  ·obtain⟨e,he⟩:=ZU hlt
   have hw:=Zm (k:=k) (by omega)
   obtain⟨B,hB⟩:=h e (List.mem_of_getElem? he)
   obtain⟨K,Lb,⟨X,Y,W,H⟩,⟨⟨pW,pH,pT,pK⟩,Ct⟩,⟨o,a,q,t,ks⟩⟩:=e
   simp only at hB
   have e1:=Zfq K Lb X Y W H pW pH pT pK Ct B
   rw[← hB,Zl.enc_mk] at e1
   simp +contextual -implicitDefEqProofs (maxSteps:=10^7) only[go_sem,seval,↓gZ,he,hlt,hw,e1]
   refine ih (k+1) _ (by omega) (by omega) ?_
   simp +contextual -implicitDefEqProofs (maxSteps:=10^7) only[go_sem,seval,↓gZ]
  ·have:k=l.length:=by omega
   subst this
   simp +contextual -implicitDefEqProofs (maxSteps:=10^7) only[go_sem,seval,↓gZ]
theorem Zqq (ws:List (List UInt8)) (hw:ws.length≤2000000) (hl:∀ w∈ws,w.length≤1000000):Zh Xs Ms Us [.d (.sl (ws.map .str))] []=some (rnV (Vn ws)):=by
 refine Zb Xs Ms J4 Zrs (by show 1≤_;decide) ?_
 simp +contextual -implicitDefEqProofs (maxSteps:=10^7) only[go_sem,seval,↓gZ,J4]
 refine ZQ Xs Ms (st0:=?st0) (α:=Nat×List Int) (fun a=>[(5,.d (J (a.1:Int)))]) (fun a=>[(0,.row 1 (a.2.map YL) true false)]) (fun a=>a.1≤ws.length∧a.2.length≤a.1∧Vn ws=(Vn (ws.drop a.1)).map fun r=>a.2++r) (fun a=>ws.length-a.1) (0,[]) ?hc ⟨by simp,by simp,by simp⟩ ?h0 ?step
 case hc=>simp +contextual -implicitDefEqProofs (maxSteps:=10^7) only[go_sem,seval,↓gZ]<;>exact rfl
 case h0=>rfl
 case step=>
  intro⟨k,vs⟩ ⟨hk,hv,hp⟩ ih
  simp only at hk hv hp ih ⊢
  by_cases hlt:k<ws.length
  ·obtain⟨x,hx⟩:=ZU hlt
   have hlt' : (k:Int)<(ws.length:Int):=by omega
   have w:=Zm (k:=k) (by omega)
   have e1:=YT x (hl x (List.mem_of_getElem? hx))
   rw[ZvG hx] at hp
   have hroom:(vs.length+1)*8≤140737488355328∧vs.length+1≤140737488355328:=by omega
   have hxe:(ws.map D.str)[k]?=some (.str x):=by rw[List.getElem?_map,hx];rfl
   cases hr:rd x with
   | none=>
    rw[hr] at hp
    rw[Zl7 hr] at e1
    simp only[Option.bind_none,Option.map_none] at hp
    rw[hp]
    simp +contextual -implicitDefEqProofs (maxSteps:=10^7) only[go_sem,seval,↓gZ,hlt',hlt,hxe,hx,w,e1,rnV]
   | some v=>
    rw[hr] at hp
    rw[ZcA hr] at e1
    have hv0:¬(v:Int)<0:=by omega
    simp +contextual -implicitDefEqProofs (maxSteps:=10^7) only[go_sem,seval,↓gZ,hlt',hlt,hxe,hx,w,e1,hroom,hv0]
    refine ih (k+1,vs++[(v:Int)]) _ ⟨by omega,by simp;omega,?_⟩ (by omega) ?_
    ·rw[hp]
     cases Vn (ws.drop (k+1))<;>simp
    ·simp +contextual -implicitDefEqProofs (maxSteps:=10^7) only[go_sem,seval,↓gZ,YL,List.map_append,List.map_cons,List.map_nil]
  ·have:k=ws.length:=by omega
   subst this
   simp only[List.drop_length,Vn,Option.map_some,List.append_nil] at hp
   rw[hp]
   simp +contextual -implicitDefEqProofs (maxSteps:=10^7) only[go_sem,seval,↓gZ,rnV]
def Zj2:List (List UInt8):=[Q8,XS,Y4,ZcC,Y5,XD]
theorem YB:Zj2.length=6:=rfl
def WI (w:List UInt8):List Int→Zl×Bool
 | [l]=>if w=XD then (⟨5,l,bx0,ln0,BT.waste.plan⟩,true) else (evZ,false)
 | [l,a,b]=>if w=Q8 then (⟨0,l,⟨0,0,a,b⟩,ln0,BT.waste.plan⟩,true) else (evZ,false)
 | [l,x,y,a,b]=>if w=XS then (⟨1,l,⟨x,y,a,b⟩,ln0,BT.waste.plan⟩,true) else (evZ,false)
 | _=>(evZ,false)
def ZkZ:List (List UInt8)→Zl×Bool
 | [a,p]=>(⟨3,ZdI a,bx0,ln0,((ZgS p).getD .waste).plan⟩,(ZgS p).isSome)
 | _=>(evZ,false)
def lnE (k:Int) (r:List (List UInt8)):Zl×Bool:=match lnS r with
 | some n=>(⟨k,0,bx0,n,BT.waste.plan⟩,true)
 | none=>(⟨k,0,bx0,ln0,BT.waste.plan⟩,false)
def rdE (w:List UInt8) (r:List (List UInt8)):Zl×Bool:=
 if r=[] then (evZ,false) else if w=Y4 then lnE 2 r else if w=Y5 then lnE 4 r else if w=ZcC then ZkZ r
 else if w=Q8∨w=XS∨w=XD then (match Vn r with
  | none=>(evZ,false)
  | some ns=>WI w ns) else (evZ,false)
theorem Zod:Zh Xs Ms YG [] []=some (.own 0,[.row 1 (Zj2.map .str) true false]):=Zif
theorem ZDn {w:List UInt8} {k:Nat} (h:∀ j x,j<k→Zj2[j]?=some x→x≠w) (hk:k≤6):∀ j,j<k→∃ x,Zj2[j]?=some x∧(x==w)=false∧(x != w)=true:=by
 intro j hj
 obtain⟨x,hx⟩:∃ x,Zj2[j]?=some x:=⟨_,List.getElem?_eq_getElem (by show j<6;omega)⟩
 have:=h j x hj hx
 exact⟨x,hx,by simpa using this,by simpa using this⟩
theorem ev_ix (w:List UInt8):∃ k:Nat,k≤6∧(∀ j,j<k→∃ x,Zj2[j]?=some x∧(x==w)=false∧(x != w)=true)∧(k<6→Zj2[k]?=some w):=by
 have hk:Zj2.findIdx (fun x=>x==w)≤6:=List.findIdx_le_length
 refine⟨Zj2.findIdx fun x=>x==w,hk,ZDn (fun j x hj hx=>?_) hk,fun h=>?_⟩
 ·have:=List.not_of_lt_findIdx hj
  obtain⟨h1,h2⟩:=List.getElem?_eq_some_iff.1 hx
  rw[h2] at this
  simpa using this
 ·have:=List.findIdx_getElem (w:=h)
  rw[List.getElem?_eq_getElem h]
  simpa using this
theorem ZsJ (r:List (List UInt8)) (h:r≠[]):rdE Q8 r=match Vn r with
  | none=>(evZ,false)
  | some ns=>WI Q8 ns:=by
 unfold rdE;rw[if_neg h,if_neg (by decide),if_neg (by decide),if_neg (by decide),if_pos (.inl rfl)]
theorem ZvN (r:List (List UInt8)) (h:r≠[]):rdE XS r=match Vn r with
  | none=>(evZ,false)
  | some ns=>WI XS ns:=by
 unfold rdE;rw[if_neg h,if_neg (by decide),if_neg (by decide),if_neg (by decide),if_pos (.inr (.inl rfl))]
theorem ZsK (r:List (List UInt8)) (h:r≠[]):rdE XD r=match Vn r with
  | none=>(evZ,false)
  | some ns=>WI XD ns:=by
 unfold rdE;rw[if_neg h,if_neg (by decide),if_neg (by decide),if_neg (by decide),if_pos (.inr (.inr rfl))]
theorem ZsL (r:List (List UInt8)) (h:r≠[]):rdE Y4 r=lnE 2 r:=by
 unfold rdE;rw[if_neg h,if_pos rfl]
theorem Zyz (r:List (List UInt8)) (h:r≠[]):rdE Y5 r=lnE 4 r:=by
 unfold rdE;rw[if_neg h,if_neg (by decide),if_pos rfl]
theorem ZyA (r:List (List UInt8)) (h:r≠[]):rdE ZcC r=ZkZ r:=by
 unfold rdE;rw[if_neg h,if_neg (by decide),if_neg (by decide),if_pos rfl]
theorem rdE_no (w:List UInt8) (r:List (List UInt8)) (h:∀ x∈Zj2,x≠w):rdE w r=(evZ,false):=by
 have h0:=h Q8 (by simp[Zj2]);have h1:=h XS (by simp[Zj2]);have h2:=h Y4 (by simp[Zj2])
 have h3:=h ZcC (by simp[Zj2]);have h4:=h Y5 (by simp[Zj2]);have h5:=h XD (by simp[Zj2])
 unfold rdE
 rw[if_neg (Ne.symm h2),if_neg (Ne.symm h4),if_neg (Ne.symm h3),if_neg (show ¬(w=Q8∨w=XS∨w=XD) from fun e=>e.elim (fun e=>h0 e.symm) fun e=>e.elim (fun e=>h1 e.symm) fun e=>h5 e.symm),ite_self]
theorem ZvO {ns:List Int} (h:ns.length≠3):WI Q8 ns=(evZ,false):=by
 unfold WI
 split
 ·exact if_neg (by decide)
 ·exact absurd rfl h
 ·exact if_neg (by decide)
 ·rfl
theorem ZxA {ns:List Int} (h:ns.length≠5):WI XS ns=(evZ,false):=by
 unfold WI
 split
 ·exact if_neg (by decide)
 ·exact if_neg (by decide)
 ·exact absurd rfl h
 ·rfl
theorem ZvP {ns:List Int} (h:ns.length≠1):WI XD ns=(evZ,false):=by
 unfold WI
 split
 ·exact absurd rfl h
 ·exact if_neg (by decide)
 ·exact if_neg (by decide)
 ·rfl
theorem ZjV:∀ {ws:List (List UInt8)} {ns:List Int},Vn ws=some ns→ns.length=ws.length
 | [],ns,h=>by cases h;rfl
 | w :: r,ns,h=>by
  simp only[Vn,Option.bind_eq_some_iff] at h
  obtain⟨v,_,vs,h2,h3⟩:=h
  cases h3
  simp[ZjV h2]
theorem Zqr (w:List UInt8) (r:List (List UInt8)) (hl:r.length≤1000000) (hw:∀ x∈r,x.length≤1000000) (eK eL eX eY eW eH epW epH:Int) (epT:Bool) (epK eC eo ea ep:Int) (et:Bool) (ek:List Zj) (ok:Bool) (hE:rdE w r=((Zl.mk eK eL (Box.mk eX eY eW eH) (Zi.mk (Pane.mk epW epH epT epK) eC) (Zj.mk eo ea ep et ek)),ok)):Zh Xs Ms Uo [.d (.sl (.str w :: r.map .str))] []=some (.tup [.agg [(.d (J eK)),(.d (J eL)),(.d (J eX)),(.d (J eY)),(.d (J eW)),(.d (J eH)),(.d (J epW)),(.d (J epH)),(.d (.bool epT)),(.d (J epK)),(.d (J eC)),(.d (J eo)),(.d (J ea)),(.d (J ep)),(.d (.bool et)),.own 0],(.d (.bool ok))],[.row 5 (ek.map Zj.enc) true false]):=by
 have e0:=Zod
 obtain⟨K,hK,hlo,hhi⟩:=ev_ix w
 refine Zb Xs Ms J1 Zro (by show 1≤_;decide) ?_
 simp +contextual -implicitDefEqProofs (maxSteps:=10^7) only[go_sem,seval,↓gZ,J1]
 refine ZQ Xs Ms (st0:=?st0) (α:=Nat) (fun _=>[]) (fun j=>[(0,.box [(.d (J j)),(.d (J 0)),(.d (J 0)),(.d (J 0)),(.d (J 0)),(.d (J 0)),(.d (J 0)),(.d (J 0)),(.d (.bool false)),(.d (J 0)),(.d (J 0)),(.d (J 0)),(.d (J 0)),(.d (J 0)),(.d (.bool false)),.own 2])]) (fun j=>j≤K) (fun j=>K-j) 0 ?hc (by omega) ?h0 ?step
 case hc=>simp +contextual -implicitDefEqProofs (maxSteps:=10^7) only[go_sem,seval,↓gZ]<;>exact rfl
 case h0=>rfl
 case step=>
  intro j hj ih
  by_cases hjk:j<K
  ·obtain⟨x,hx,hq,hq'⟩:=hlo j hjk
   have hj6:(j:Int)<6:=by omega
   have hj6' : j<6:=by omega
   have w1:=Zm (k:=j) (by omega)
   simp +contextual -implicitDefEqProofs (maxSteps:=10^7) only[go_sem,seval,↓gZ,e0,YB,hj6,hj6',hx,hq,hq',w1]
   refine ih (j+1) _ (by omega) (by omega) ?_
   simp +contextual -implicitDefEqProofs (maxSteps:=10^7) only[go_sem,seval,↓gZ]
  ·have hjK:j=K:=by omega
   subst hjK
   clear ih
   have hself:(w==w)=true:=by simp
   have hself' : (w != w)=false:=by simp
   by_cases h6:j=6
   ·subst h6
    rw[rdE_no w r fun x hx=>?_] at hE
    ·cases hE
     simp +contextual -implicitDefEqProofs (maxSteps:=10^7) only[go_sem,seval,↓gZ,evZ]
    ·obtain⟨i,hi⟩:=List.mem_iff_getElem?.1 hx
     obtain⟨hi6,_⟩:=List.getElem?_eq_some_iff.1 hi
     obtain⟨y,hy,hq,_⟩:=hlo i hi6
     rw[hi] at hy
     cases hy
     simpa using hq
   ·have hx:=hhi (by omega)
    have hj6:(j:Int)<6:=by omega
    have hj6' : j<6:=by omega
    have hjn:¬(j:Int)=6:=by omega
    by_cases hr:r=[]
    ·subst hr
     rw[show rdE w []=(evZ,false) from rfl] at hE
     cases hE
     simp only[List.map_nil]
     simp +contextual -implicitDefEqProofs (maxSteps:=10^7) only[go_sem,seval,↓gZ,e0,YB,hj6,hj6',hx,hself,hself',hjn]
    ·have h2:1≤r.length:=by
      cases r with
      | nil=>exact absurd rfl hr
      | cons _ _=>simp
     have hge:¬((r.length+1:Nat):Int)<2:=by omega
     have h1l:(1:Int)≤((r.length+1:Nat):Int):=by omega
     have hc:j=0∨j=1∨j=2∨j=3∨j=4∨j=5:=by omega
     have e1:=Zqq r (by omega) hw
     have e2:=Zrg r hw
     have hu:∀ x:List UInt8,uni 1 (.str x :: r.map D.str):=fun x y hy=>by
      rcases List.mem_cons.1 hy with rfl | hy
      ·rfl
      ·obtain⟨z,_,rfl⟩:=List.mem_map.1 hy
       rfl
     have htk:List.take r.length r=r:=List.take_length
     rcases hc with rfl | rfl | rfl | rfl | rfl | rfl
     ·obtain rfl:Q8=w:=Option.some.inj hx
      rw[ZsJ r hr] at hE
      cases hn:Vn r with
      | none=>
       rw[hn] at hE e1
       simp only[rnV] at e1
       cases hE
       simp +contextual -implicitDefEqProofs (maxSteps:=10^7) only[go_sem,seval,↓gZ,e0,YB,hx,hself,hself',hge,h1l,hu,htk,e1]
      | some ns=>
       have hnl:=ZjV hn
       rw[hn] at hE e1
       replace hE:WI Q8 ns=_:=hE
       simp only[rnV] at e1
       by_cases h3:ns.length=3
       ·obtain⟨l,a,b,rfl⟩:∃ l a b,ns=[l,a,b]:=by
         match ns,h3 with
         | [l,a,b],_=>exact⟨l,a,b,rfl⟩
        rw[show WI Q8 [l,a,b]=(⟨0,l,⟨0,0,a,b⟩,ln0,BT.waste.plan⟩,true) from by simp[WI]] at hE
        cases hE
        simp only[List.map_cons,List.map_nil,YL] at e1
        simp +contextual -implicitDefEqProofs (maxSteps:=10^7) only[go_sem,seval,↓gZ,e0,YB,hx,hself,hself',hge,h1l,hu,htk,e1]
        all_goals rfl
       ·rw[show WI Q8 ns=_ from ZvO h3] at hE
        cases hE
        obtain⟨v,vs,rfl⟩:∃ v vs,ns=v :: vs:=by
         cases ns with
         | nil=>simp at hnl;omega
         | cons v vs=>exact⟨v,vs,rfl⟩
        have h3' : ¬((vs.length+1:Nat):Int)=3:=by simp only[List.length_cons] at h3;omega
        have hz:0<vs.length+1:=by omega
        have h3n:¬vs.length+1=3:=by simp only[List.length_cons] at h3;omega
        simp +contextual -implicitDefEqProofs (maxSteps:=10^7) only[go_sem,seval,↓gZ,e0,YB,hx,hself,hself',hge,h1l,hu,htk,e1,h3',h3n,hz,List.map_cons,YL,List.length_cons]
     ·obtain rfl:XS=w:=Option.some.inj hx
      rw[ZvN r hr] at hE
      cases hn:Vn r with
      | none=>
       rw[hn] at hE e1
       simp only[rnV] at e1
       cases hE
       simp +contextual -implicitDefEqProofs (maxSteps:=10^7) only[go_sem,seval,↓gZ,e0,YB,hx,hself,hself',hge,h1l,hu,htk,e1]
      | some ns=>
       have hnl:=ZjV hn
       rw[hn] at hE e1
       replace hE:WI XS ns=_:=hE
       simp only[rnV] at e1
       by_cases h3:ns.length=5
       ·obtain⟨l,a,b,c,d,rfl⟩:∃ l a b c d,ns=[l,a,b,c,d]:=by
         match ns,h3 with
         | [l,a,b,c,d],_=>exact⟨l,a,b,c,d,rfl⟩
        rw[show WI XS [l,a,b,c,d]=(⟨1,l,⟨a,b,c,d⟩,ln0,BT.waste.plan⟩,true) from by simp[WI]] at hE
        cases hE
        simp only[List.map_cons,List.map_nil,YL] at e1
        simp +contextual -implicitDefEqProofs (maxSteps:=10^7) only[go_sem,seval,↓gZ,e0,YB,hx,hself,hself',hge,h1l,hu,htk,e1]
        all_goals rfl
       ·rw[show WI XS ns=_ from ZxA h3] at hE
        cases hE
        obtain⟨v,vs,rfl⟩:∃ v vs,ns=v :: vs:=by
         cases ns with
         | nil=>simp at hnl;omega
         | cons v vs=>exact⟨v,vs,rfl⟩
        have h3' : ¬((vs.length+1:Nat):Int)=5:=by simp only[List.length_cons] at h3;omega
        have hz:0<vs.length+1:=by omega
        have h3n:¬vs.length+1=5:=by simp only[List.length_cons] at h3;omega
        simp +contextual -implicitDefEqProofs (maxSteps:=10^7) only[go_sem,seval,↓gZ,e0,YB,hx,hself,hself',hge,h1l,hu,htk,e1,h3',h3n,hz,List.map_cons,YL,List.length_cons]
     ·obtain rfl:Y4=w:=Option.some.inj hx
      rw[ZsL r hr] at hE
      unfold lnE at hE
      cases hn:lnS r with
      | none=>
       rw[hn] at hE e2
       simp only[rlV] at e2
       cases hE
       simp +contextual -implicitDefEqProofs (maxSteps:=10^7) only[go_sem,seval,↓gZ,e0,YB,hx,hself,hself',hge,h1l,hu,htk,e2]
      | some n=>
       obtain⟨⟨nW,nH,nT,nK⟩,nC⟩:=n
       rw[hn] at hE e2
       simp only[rlV,Zi.enc] at e2
       cases hE
       simp +contextual -implicitDefEqProofs (maxSteps:=10^7) only[go_sem,seval,↓gZ,e0,YB,hx,hself,hself',hge,h1l,hu,htk,e2]
       all_goals rfl
     ·obtain rfl:ZcC=w:=Option.some.inj hx
      rw[ZyA r hr] at hE
      obtain⟨a,r,rfl⟩:∃ a r',r=a :: r':=by
       cases r with
       | nil=>exact absurd rfl hr
       | cons a r=>exact⟨a,r,rfl⟩
      have e3:=YT a (hw a (by simp))
      by_cases h3:r.length=1
      ·obtain⟨b,rfl⟩:∃ b,r=[b]:=by
        match r,h3 with
        | [b],_=>exact⟨b,rfl⟩
       obtain⟨o,a',q,t,ks,e4,h4⟩:=Zqg b (hw b (by simp))
       simp only[ZkZ,← h4] at hE
       cases hE
       simp only[List.map_cons,List.map_nil]
       simp +contextual -implicitDefEqProofs (maxSteps:=10^7) only[go_sem,seval,↓gZ,e0,YB,hx,hself,hself',e3,e4]
       all_goals rfl
      ·rw[show ZkZ (a :: r)=(evZ,false) from ?_] at hE
       ·cases hE
        have h3' : ¬((r.length+1+1:Nat):Int)=3:=by omega
        have h3n:¬r.length+1+1=3:=by omega
        have hge' : ¬((r.length+1+1:Nat):Int)<2:=by omega
        simp only[List.map_cons]
        simp +contextual -implicitDefEqProofs (maxSteps:=10^7) only[go_sem,seval,↓gZ,e0,YB,hx,hself,hself',hge',e3,h3',h3n,List.length_cons]
       ·unfold ZkZ
        split
        ·rename_i heq
         cases heq
         exact absurd rfl h3
        ·rfl
     ·obtain rfl:Y5=w:=Option.some.inj hx
      rw[Zyz r hr] at hE
      unfold lnE at hE
      cases hn:lnS r with
      | none=>
       rw[hn] at hE e2
       simp only[rlV] at e2
       cases hE
       simp +contextual -implicitDefEqProofs (maxSteps:=10^7) only[go_sem,seval,↓gZ,e0,YB,hx,hself,hself',hge,h1l,hu,htk,e2]
      | some n=>
       obtain⟨⟨nW,nH,nT,nK⟩,nC⟩:=n
       rw[hn] at hE e2
       simp only[rlV,Zi.enc] at e2
       cases hE
       simp +contextual -implicitDefEqProofs (maxSteps:=10^7) only[go_sem,seval,↓gZ,e0,YB,hx,hself,hself',hge,h1l,hu,htk,e2]
       all_goals rfl
     ·obtain rfl:XD=w:=Option.some.inj hx
      rw[ZsK r hr] at hE
      cases hn:Vn r with
      | none=>
       rw[hn] at hE e1
       simp only[rnV] at e1
       cases hE
       simp +contextual -implicitDefEqProofs (maxSteps:=10^7) only[go_sem,seval,↓gZ,e0,YB,hx,hself,hself',hge,h1l,hu,htk,e1]
      | some ns=>
       have hnl:=ZjV hn
       rw[hn] at hE e1
       replace hE:WI XD ns=_:=hE
       simp only[rnV] at e1
       by_cases h3:ns.length=1
       ·obtain⟨l,rfl⟩:∃ l,ns=[l]:=by
         match ns,h3 with
         | [l],_=>exact⟨l,rfl⟩
        rw[show WI XD [l]=(⟨5,l,bx0,ln0,BT.waste.plan⟩,true) from by simp[WI]] at hE
        cases hE
        simp only[List.map_cons,List.map_nil,YL] at e1
        simp +contextual -implicitDefEqProofs (maxSteps:=10^7) only[go_sem,seval,↓gZ,e0,YB,hx,hself,hself',hge,h1l,hu,htk,e1]
        all_goals rfl
       ·rw[show WI XD ns=_ from ZvP h3] at hE
        cases hE
        obtain⟨v,vs,rfl⟩:∃ v vs,ns=v :: vs:=by
         cases ns with
         | nil=>simp at hnl;omega
         | cons v vs=>exact⟨v,vs,rfl⟩
        have h3' : ¬((vs.length+1:Nat):Int)=1:=by simp only[List.length_cons] at h3;omega
        have hz:0<vs.length+1:=by omega
        have h3n:¬vs.length+1=1:=by simp only[List.length_cons] at h3;omega
        simp +contextual -implicitDefEqProofs (maxSteps:=10^7) only[go_sem,seval,↓gZ,e0,YB,hx,hself,hself',hge,h1l,hu,htk,e1,h3',h3n,hz,List.map_cons,YL,List.length_cons]
theorem ZBC {w:List UInt8} {r:List (List UInt8)} {e:Zl} {v:Ev} (h:rdE w r=(e,true)) (hv:W6 e=some v):v.ev=e:=by
 have hnums:∀ n∈VF e,six n:=Classical.byContradiction fun h=>by rw[Zje h] at hv;cases hv
 obtain⟨b,hb,hpl⟩:∃ b,Xi e.plan=some b∧Zm9 b:=Classical.byContradiction fun h=>by
  rw[Zez (e:=e) fun b hb hp=>h ⟨b,hb,hp⟩] at hv;cases hv
 rw[Ww hnums hb hpl] at hv
 simp only[VF,List.mem_cons,List.not_mem_nil,or_false,forall_eq_or_imp,forall_eq] at hnums
 obtain⟨n1,n2,n3,n4,n5,n6,n7,n8,n9,n10⟩:=hnums
 simp only[six] at n2 n3 n4 n5 n6
 unfold rdE at h
 split at h
 ·cases h
 split at h
 ·unfold lnE at h
  split at h
  ·cases h
   simp[Vo] at hv
   rw[← hv];rfl
  ·cases h
 split at h
 ·unfold lnE at h
  split at h
  ·cases h
   simp[Vo] at hv
   rw[← hv];rfl
  ·cases h
 split at h
 ·unfold ZkZ at h
  split at h
  ·rename_i p
   obtain⟨rfl,hs⟩:=Prod.mk.inj h
   simp only[Vh,Option.some.injEq] at hb
   subst hb
   simp[Vo] at hv
   simp only at n2
   rw[← hv]
   simp only[Ev.ev,Int.toNat_of_nonneg n2.1]
  ·cases h
 split at h
 ·split at h
  ·cases h
  ·unfold WI at h
   split at h
   ·split at h
    ·cases h
     simp[Vo] at hv
     simp only at n2
     rw[← hv]
     simp only[Ev.ev,Int.toNat_of_nonneg n2.1]
    ·cases h
   ·split at h
    ·cases h
     simp[Vo] at hv
     simp only at n2 n5 n6
     rw[← hv]
     simp only[Ev.ev,Int.toNat_of_nonneg n2.1,Int.toNat_of_nonneg n5.1,Int.toNat_of_nonneg n6.1]
    ·cases h
   ·split at h
    ·cases h
     simp[Vo] at hv
     simp only at n2 n3 n4 n5 n6
     rw[← hv]
     simp only[Ev.ev,Int.toNat_of_nonneg n2.1,Int.toNat_of_nonneg n3.1,Int.toNat_of_nonneg n4.1,Int.toNat_of_nonneg n5.1,Int.toNat_of_nonneg n6.1]
    ·cases h
   ·cases h
 ·cases h
theorem Znd {ns:List Nat} (h:∀ n∈ns,n≤999999):Vn (ns.map num)=some (ns.map fun n:Nat=>(n:Int)):=by
 rw[ZkY,Zew h];rfl
theorem ZBD {b:BT} (h:Zm9 b):ZgS (shw b)=some b:=ZjU.2 ⟨h.2.2,rfl,h.1,h.2.1⟩
theorem Zz0 {v:Ev} (h:v.ok):∃ w r,v.words=w :: r∧rdE w r=(v.ev,true):=by
 cases v with
 | sheet l a b=>
  obtain⟨h1,h2,h3⟩:=h
  refine⟨_,_,rfl,?_⟩
  rw[ZsJ _ (by simp),show [num l,num a,num b]=[l,a,b].map num from rfl,Znd (by simp[h1,h2,h3])]
  simp[WI,Ev.ev]
 | flaw l x y a b=>
  obtain⟨h1,h2,h3,h4,h5⟩:=h
  refine⟨_,_,rfl,?_⟩
  rw[ZvN _ (by simp),show [num l,num x,num y,num a,num b]=[l,x,y,a,b].map num from rfl,Znd (by simp[h1,h2,h3,h4,h5])]
  simp[WI,Ev.ev]
 | order n=>
  refine⟨_,_,rfl,?_⟩
  rw[ZsL _ (by simp[XC])]
  unfold lnE
  rw[ZvH (ZhN h)]
  rfl
 | cut l b=>
  obtain⟨h1,h2⟩:=h
  refine⟨_,_,rfl,?_⟩
  rw[ZyA _ (by simp)]
  simp only[ZkZ,ZBD h2,ZcA (Zet h1)]
  rfl
 | brk n=>
  refine⟨_,_,rfl,?_⟩
  rw[Zyz _ (by simp[XC])]
  unfold lnE
  rw[ZvH (ZhN h)]
  rfl
 | scrap l=>
  have h1:l≤999999:=h
  refine⟨_,_,rfl,?_⟩
  rw[ZsK _ (by simp),show [num l]=[l].map num from rfl,Znd (by simp[h1])]
  simp[WI,Ev.ev]
theorem ZvQ {s w:List UInt8} {r:List (List UInt8)} {v:Ev} (hs:ZV 32 s=w :: r) (h:Zex s=some v):rdE w r=(v.ev,true):=by
 obtain⟨rfl,ho⟩:=Zb1.1 h
 obtain⟨w',r',h1,h2⟩:=Zz0 ho
 rw[Ev.text,ZkW (ZvI v) (Zyx v),h1] at hs
 obtain⟨rfl,rfl⟩:=List.cons.inj hs
 exact h2
theorem Zih (s:List UInt8) (hs:s.length≤1000000):PeR (Zh Xs Ms Vq [.d (.str s)] []) (Zex s):=by
 have e1:=Zma s 32 32 rfl hs
 obtain⟨w,r,hwr⟩:∃ w r,ZV 32 s=w :: r:=by
  cases h:ZV 32 s with
  | nil=>exact absurd h (Ji 32 s)
  | cons w r=>exact⟨w,r,rfl⟩
 have hwl:=ZkX 32 s
 have hsl:=ZgW 32 s
 have hcl:s.count 32≤s.length:=List.count_le_length
 rw[hwr] at e1 hwl hsl
 simp only[List.length_cons] at hsl
 simp only[List.map_cons] at e1
 obtain⟨⟨⟨K,L,⟨X,Y,W,H⟩,⟨⟨pW,pH,pT,pK⟩,C⟩,⟨o,a,q,t,ks⟩⟩,ok⟩,hE⟩:∃ x,rdE w r=x:=⟨_,rfl⟩
 have e2:=Zqr w r (by omega) (fun x hx=>by have:=hwl x (by simp[hx]);omega) K L X Y W H pW pH pT pK C o a q t ks ok hE
 have none_of:(∀ v,Zex s=some v→False)→Zex s=none:=fun h=>by
  cases hp:Zex s with
  | none=>rfl
  | some v=>exact absurd (h v hp) id
 cases ok with
 | false=>
  rw[none_of fun v h=>by rw[ZvQ hwr h] at hE;exact absurd (Prod.mk.inj hE).2 (by simp)]
  refine ZfN ?_
  refine Zb Xs Ms Q1 Zbd (by show 1≤_;decide) ?_
  simp +contextual -implicitDefEqProofs (maxSteps:=10^7) only[go_sem,seval,↓gZ,Q1,e1,e2]
 | true=>
  have e3:=JK K L X Y W H pW pH pT pK C o a q t ks
  have hback:∀ v,Zex s=some v→W6 ⟨K,L,⟨X,Y,W,H⟩,⟨⟨pW,pH,pT,pK⟩,C⟩,.mk o a q t ks⟩=some v∧v.text=s:=fun v h=>by
   have h1:=ZvQ hwr h
   rw[hE] at h1
   obtain⟨h2,h3⟩:=Zb1.1 h
   rw[(Prod.mk.inj h1).1]
   exact⟨ZtO h3,h2.symm⟩
  cases hv:W6 ⟨K,L,⟨X,Y,W,H⟩,⟨⟨pW,pH,pT,pK⟩,C⟩,.mk o a q t ks⟩ with
  | none=>
   rw[none_of fun v h=>by rw[(hback v h).1] at hv;cases hv]
   rw[hv,Option.isSome_none] at e3
   refine ZfN ?_
   refine Zb Xs Ms Q1 Zbd (by show 1≤_;decide) ?_
   simp +contextual -implicitDefEqProofs (maxSteps:=10^7) only[go_sem,seval,↓gZ,Q1,e1,e2,e3]
  | some v=>
   have e4:=ZeA K L X Y W H pW pH pT pK C o a q t ks v hv
   rw[hv,Option.isSome_some] at e3
   by_cases ht:v.text=s
   ·have hok:=(Zmd hv).1
    rw[Zb1.2 ⟨ht.symm,hok⟩]
    rw[ht] at e4
    have hne:(s != s)=false:=by simp
    refine⟨K,L,X,Y,W,H,pW,pH,pT,pK,C,o,a,q,t,ks,?_,(ZBC hE hv).symm⟩
    refine Zb Xs Ms Q1 Zbd (by show 1≤_;decide) ?_
    simp +contextual -implicitDefEqProofs (maxSteps:=10^7) only[go_sem,seval,↓gZ,Q1,e1,e2,e3,e4,hne]
    all_goals rfl
   ·have hne:(v.text==s)=false:=by simp[ht]
    rw[none_of fun v' h=>ht (by obtain⟨h1,h2⟩:=hback v' h;rw[hv] at h1;cases h1;exact h2)]
    refine ZfN ?_
    refine Zb Xs Ms Q1 Zbd (by show 1≤_;decide) ?_
    simp +contextual -implicitDefEqProofs (maxSteps:=10^7) only[go_sem,seval,↓gZ,Q1,e1,e2,e3,e4,hne]
theorem Zoe (s:List UInt8) (hs:s.length≤1000000):PeR (Zh Xs Ms Wy [.d (.str s)] []) (Zex s):=by
 obtain⟨K,L,X,Y,W,H,pW,pH,pT,pK,C,o,a,q,t,ks,e1,h⟩:=Zih s hs
 refine⟨K,L,X,Y,W,H,pW,pH,pT,pK,C,o,a,q,t,ks,?_,h⟩
 refine Zb Xs Ms UX Zqv (by show 1≤_;decide) ?_
 simp +contextual -implicitDefEqProofs (maxSteps:=10^7) only[go_sem,seval,↓gZ,UX,e1]
theorem ZBE (e:Zl):(ZvJ e).length≤20000:=by
 cases h:W6 e with
 | none=>rw[ZaM h];simp
 | some v=>rw[Uk h];exact Zme (Zmd h).1
theorem Zj3 (code:List UInt8):∃ s:List UInt8,s.length≤1000000∧Zh Xs Ms Yn [.d (.sl (code.map VM))] []=some (.d (.str s),[]):=by
 have e1:=ZiV code
 have hb:(code.take 2000).length≤2000:=by simp;omega
 obtain⟨r,e2,out,S,O,D,L,C,f,p',hv,h1,h2,h3,rfl⟩:=Zq9 (code.take 2000) hb 0 (by omega) 10
 rw[show ((0:Nat):Int)=0 from rfl] at e2
 obtain⟨r,e3,K,Lb,X,Y,W,H,pW,pH,pT,pK,Ct,o,a,q,t,ks,p,g1,g2,g3,rfl⟩:=Zes (code.take 2000) hb p' (by omega) S O D L C (Zoz hv)
 have e4:=Znc K Lb X Y W H pW pH pT pK Ct o a q t ks
 have hlen:=ZBE ⟨K,Lb,⟨X,Y,W,H⟩,⟨⟨pW,pH,pT,pK⟩,Ct⟩,.mk o a q t ks⟩
 generalize ZvJ ⟨K,Lb,⟨X,Y,W,H⟩,⟨⟨pW,pH,pT,pK⟩,Ct⟩,.mk o a q t ks⟩=tx at e4 hlen
 have e5:=Qa (code.take 2000) p 3 hb (by omega)
 obtain⟨c,hc⟩:∃ c,Qq (code.take 2000) p 3=c:=⟨_,rfl⟩
 rw[hc] at e5
 by_cases c0:c=0
 ·obtain⟨s',p2,k1,k2,k3,e6⟩:=ZnV (code.take 2000) hb (p+1) (by omega) tx (by omega)
  refine⟨s',by omega,?_⟩
  refine Zb Xs Ms Xx ZeC (by show 1≤_;decide) ?_
  simp +contextual -implicitDefEqProofs (maxSteps:=10^7) only[go_sem,seval,↓gZ,Xx,e1,e2,e3,e4,e5,c0,e6]
 ·refine⟨tx,by omega,?_⟩
  refine Zb Xs Ms Xx ZeC (by show 1≤_;decide) ?_
  simp +contextual -implicitDefEqProofs (maxSteps:=10^7) only[go_sem,seval,↓gZ,Xx,e1,e2,e3,e4,e5,c0]
theorem ZvR (m:Option Ev):∃ B:BT,(evM m).plan=B.plan:=by
 cases m with
 | none=>exact⟨.waste,rfl⟩
 | some v=>cases v<;>exact⟨_,rfl⟩
theorem Zmf (code:List UInt8):Zh Xs Ms Wx [.d (.sl (code.map VM))] []=some ((.d (.bool true)),[]):=by
 by_cases hc:code.length≤1048576
 ·have hc' : ¬(1048576:Int)<(code.length:Int):=by omega
  obtain⟨s,hs,e1⟩:=Zj3 code
  obtain⟨K,L,X,Y,W,H,pW,pH,pT,pK,C,o,a,q,t,ks,e2,h2⟩:=Zig s hs
  obtain⟨K',L',X',Y',W',H',pW',pH',pT',pK',C',o',a',q',t',ks',e3,h3⟩:=Zoe s hs
  rw[← h2] at h3
  cases h3
  obtain⟨B,hB⟩:=ZvR (Zex s)
  rw[← h2] at hB
  have e4:=Zfq K L X Y W H pW pH pT pK C B
  rw[← show Zj.mk o a q t ks=B.plan from hB] at e4
  simp only[Zl.enc_mk] at e4
  cases hm:Zex s with
  | none=>
   rw[hm] at e2 e3
   simp only[Option.isSome_none] at e2 e3
   refine Zb Xs Ms Xa Zb3 (by show 1≤_;decide) ?_
   simp +contextual -implicitDefEqProofs (maxSteps:=10^7) only[go_sem,seval,↓gZ,Xa,hc',e1,e2,e3,e4,ZsE,ZvB,bne_self_eq_false,beq_self_eq_true]
  | some v=>
   rw[hm] at e2 e3 h2
   simp only[Option.isSome_some,evM] at e2 e3 h2
   obtain⟨k1,k2⟩:=Zb1.1 hm
   have e5:=Zg0 K L X Y W H pW pH pT pK C o a q t ks
   rw[h2,Uk (ZtO k2),← k1] at e5
   have hself:(s==s)=true:=by simp
   refine Zb Xs Ms Xa Zb3 (by show 1≤_;decide) ?_
   simp +contextual -implicitDefEqProofs (maxSteps:=10^7) only[go_sem,seval,↓gZ,Xa,hc',e1,e2,e3,e4,e5,hself,ZsE,ZvB,bne_self_eq_false,beq_self_eq_true]
 ·have hc' : (1048576:Int)<(code.length:Int):=by omega
  refine Zb Xs Ms Xa Zb3 (by show 1≤_;decide) ?_
  simp +contextual -implicitDefEqProofs (maxSteps:=10^7) only[go_sem,seval,↓gZ,Xa,hc']
def ZbC:List Zl→Option (List Ev)
 | []=>some []
 | e :: r=>(W6 e).bind fun v=>(ZbC r).bind fun vs=>some (v :: vs)
theorem Zk0 (e:Zl):∀ l:List Zl,ZbC (l++[e])=(ZbC l).bind fun vs=>(W6 e).bind fun v=>some (vs++[v])
 | []=>by simp only[List.nil_append,ZbC];cases W6 e<;>rfl
 | x :: l=>by
  simp only[List.cons_append,ZbC,Zk0 e l]
  cases W6 x with
  | none=>rfl
  | some v=>cases ZbC l with
   | none=>rfl
   | some vs=>cases W6 e<;>rfl
theorem Zk1 {e:Zl} (h:W6 e=none):∀ {l:List Zl},e∈l→ZbC l=none
 | x :: l,hm=>by
  rcases List.mem_cons.1 hm with rfl | hm
  ·simp[ZbC,h]
  ·simp only[ZbC,Zk1 h hm]
   cases W6 x<;>rfl
theorem Zmg:∀ {l:List Zl} {vs:List Ev},ZbC l=some vs→vs.length=l.length∧∀ v∈vs,v.ok
 | [],vs,h=>by cases h;simp
 | e :: l,vs,h=>by
  simp only[ZbC,Option.bind_eq_some_iff] at h
  obtain⟨v,h1,vs',h2,h3⟩:=h
  cases h3
  obtain⟨g1,g2⟩:=Zmg h2
  refine⟨by simp[g1],fun x hx=>?_⟩
  rcases List.mem_cons.1 hx with rfl | hx
  ·exact(Zmd h1).1
  ·exact g2 x hx
theorem ZvS:∀ {l:List Ev},(∀ v∈l,v.ok)→ZbC (l.map Ev.ev)=some l
 | [],_=>rfl
 | v :: l,h=>by
  simp only[List.map_cons,ZbC,ZtO (h v (by simp)),ZvS (l:=l) fun x hx=>h x (by simp[hx]),Option.bind_some]
def Zqs (l:List Zl):List UInt8:=if l.length≤40 then match ZbC l with
 | some vs=>Yh vs
 | none=>[] else []
theorem ZyB {l:List Zl} (h:¬l.length≤40):Zqs l=[]:=if_neg h
theorem ZsM {l:List Zl} (h:ZbC l=none):Zqs l=[]:=by unfold Zqs;rw[h];exact ite_self _
theorem Zne {l:List Zl} {vs:List Ev} (h:l.length≤40) (hv:ZbC l=some vs):Zqs l=Yh vs:=by unfold Zqs;rw[if_pos h,hv]
theorem ZhP (v:Ev) (l:List Ev):Yh (v :: l)=v.text++10 :: Yh l:=Zjc ..
theorem Zqt (v:Ev) (l:List Ev):Yh (l++[v])=Yh l++(v.text++[10]):=ZvD ..
theorem ZdR:∀ {l:List Ev},(∀ v∈l,v.ok)→(Yh l).length≤20001*l.length
 | [],_=>by simp[Yh,ZbZ]
 | v :: l,h=>by
  have ih:=ZdR (l:=l) fun x hx=>h x (by simp[hx])
  have:=Zme (h v (by simp))
  rw[ZhP]
  simp only[List.length_append,List.length_cons]
  omega
theorem ZBF (l:List Zl):(Zqs l).length≤900000:=by
 unfold Zqs
 split
 ·split
  ·rename_i h _ vs hv
   obtain⟨g1,g2⟩:=Zmg hv
   have:=ZdR g2
   omega
  ·simp
 ·simp
theorem ZBG (v:Ev):0<v.text.length:=by
 have:=Zyy v
 cases h:v.text with
 | nil=>rw[h] at this;cases this
 | cons _ _=>simp
theorem Zii (l:List Zl):Zh Xs Ms YE [(.d (.sl (l.map Zl.enc)))] []=some (.d (.str (Zqs l)),[]):=by
 by_cases h40:l.length≤40
 ·have h40' : ¬(40:Int)<(l.length:Int):=by omega
  refine Zb Xs Ms Vu Zjh (by show 1≤_;decide) ?_
  simp +contextual -implicitDefEqProofs (maxSteps:=10^7) only[go_sem,seval,↓gZ,Vu,h40']
  refine ZQ Xs Ms (st0:=?st0) (α:=Nat×List Ev) (fun a=>[(12,.d (J (a.1:Int)))]) (fun a=>[(0,.box [.bnil 0 TB,.bbuf 5 (Yh a.2)])]) (fun a=>a.1≤l.length∧ZbC (l.take a.1)=some a.2) (fun a=>l.length-a.1) (0,[]) ?hc ⟨by simp,rfl⟩ ?h0 ?step
  case hc=>simp +contextual -implicitDefEqProofs (maxSteps:=10^7) only[go_sem,seval,↓gZ]<;>exact rfl
  case h0=>rfl
  case step=>
   intro⟨k,vs⟩ ⟨hk,hv⟩ ih
   simp only at hk hv ih ⊢
   obtain⟨g1,g2⟩:=Zmg hv
   have hb:=ZdR g2
   have hb2:vs.length≤40:=by rw[g1];simp;omega
   by_cases hlt:k<l.length
   ·obtain⟨e,he⟩:=ZU hlt
    have hlt' : (k:Int)<(l.length:Int):=by omega
    have w:=Zm (k:=k) (by omega)
    have hem:e∈l:=List.mem_of_getElem? he
    have htk:l.take (k+1)=l.take k++[e]:=by rw[List.take_add_one,he];rfl
    obtain⟨K,L,⟨X,Y,W,H⟩,⟨⟨pW,pH,pT,pK⟩,C⟩,⟨o,a,q,t,ks⟩⟩:=e
    have e1:=Zg0 K L X Y W H pW pH pT pK C o a q t ks
    cases hx:W6 ⟨K,L,⟨X,Y,W,H⟩,⟨⟨pW,pH,pT,pK⟩,C⟩,.mk o a q t ks⟩ with
    | none=>
     rw[ZaM hx] at e1
     rw[ZsM (Zk1 hx hem)]
     simp +contextual -implicitDefEqProofs (maxSteps:=10^7) only[go_sem,seval,↓gZ,hlt',hlt,he,w,e1]
    | some v=>
     rw[Uk hx] at e1
     have hok:=(Zmd hx).1
     have hne:=Zyy v
     have hpos:=ZBG v
     have htl:=Zme hok
     have e2:=Y3 (Yh vs) v.text hpos (by omega)
     have e3:=QF (Yh vs++v.text) 10 10 rfl (by simp;omega)
     have hbs:=Zqt v vs
     generalize v.text=tx at *
     simp +contextual -implicitDefEqProofs (maxSteps:=10^7) only[go_sem,seval,↓gZ,hlt',hlt,he,w,e1,hne,e2,e3]
     refine ih (k+1,vs++[v]) _ ⟨by simp only;omega,?_⟩ (by simp only;omega) ?_
     ·simp only
      rw[htk,Zk0,hv,hx];rfl
     ·simp +contextual -implicitDefEqProofs (maxSteps:=10^7) only[go_sem,seval,↓gZ,hbs,List.append_assoc]
   ·have:k=l.length:=by omega
    subst this
    rw[List.take_length] at hv
    rw[Zne h40 hv]
    have e4:=Zfn (Yh vs)
    simp +contextual -implicitDefEqProofs (maxSteps:=10^7) only[go_sem,seval,↓gZ,e4]
 ·have h40' : (40:Int)<(l.length:Int):=by omega
  rw[ZyB h40]
  refine Zb Xs Ms Vu Zjh (by show 1≤_;decide) ?_
  simp +contextual -implicitDefEqProofs (maxSteps:=10^7) only[go_sem,seval,↓gZ,Vu,h40']
theorem Zof (l:List Zl):Zh Xs Ms WA [(.d (.sl (l.map Zl.enc)))] []=some (.d (.str (Zqs l)),[]):=by
 by_cases h40:l.length≤40
 ·have h40' : ¬(40:Int)<(l.length:Int):=by omega
  refine Zb Xs Ms Vx Zji (by show 1≤_;decide) ?_
  simp +contextual -implicitDefEqProofs (maxSteps:=10^7) only[go_sem,seval,↓gZ,Vx,h40']
  refine ZQ Xs Ms (st0:=?st0) (α:=Nat×List Ev) (fun a=>[(4,.d (J (a.1:Int))),(3,.d (.str (Yh a.2)))]) (fun _=>[]) (fun a=>a.1≤l.length∧ZbC (l.take a.1)=some a.2) (fun a=>l.length-a.1) (0,[]) ?hc ⟨by simp,rfl⟩ ?h0 ?step
  case hc=>simp +contextual -implicitDefEqProofs (maxSteps:=10^7) only[go_sem,seval,↓gZ]<;>exact rfl
  case h0=>rfl
  case step=>
   intro⟨k,vs⟩ ⟨hk,hv⟩ ih
   simp only at hk hv ih ⊢
   obtain⟨g1,g2⟩:=Zmg hv
   have hb:=ZdR g2
   have hb2:vs.length≤40:=by rw[g1];simp;omega
   by_cases hlt:k<l.length
   ·obtain⟨e,he⟩:=ZU hlt
    have hlt' : (k:Int)<(l.length:Int):=by omega
    have w:=Zm (k:=k) (by omega)
    have hem:e∈l:=List.mem_of_getElem? he
    have htk:l.take (k+1)=l.take k++[e]:=by rw[List.take_add_one,he];rfl
    obtain⟨K,L,⟨X,Y,W,H⟩,⟨⟨pW,pH,pT,pK⟩,C⟩,⟨o,a,q,t,ks⟩⟩:=e
    have e1:=JK K L X Y W H pW pH pT pK C o a q t ks
    cases hx:W6 ⟨K,L,⟨X,Y,W,H⟩,⟨⟨pW,pH,pT,pK⟩,C⟩,.mk o a q t ks⟩ with
    | none=>
     rw[hx,Option.isSome_none] at e1
     rw[ZsM (Zk1 hx hem)]
     simp +contextual -implicitDefEqProofs (maxSteps:=10^7) only[go_sem,seval,↓gZ,hlt',hlt,he,w,e1]
    | some v=>
     rw[hx,Option.isSome_some] at e1
     have e2:=ZeA K L X Y W H pW pH pT pK C o a q t ks v hx
     have hok:=(Zmd hx).1
     have htl:=Zme hok
     have hbs:=Zqt v vs
     have b1:(Yh vs).length+v.text.length≤1152921504606846976:=by omega
     have b2:(Yh vs).length+v.text.length+1≤1152921504606846976:=by omega
     generalize v.text=tx at *
     simp +contextual -implicitDefEqProofs (maxSteps:=10^7) only[go_sem,seval,↓gZ,hlt',hlt,he,w,e1,e2,b1,b2]
     refine ih (k+1,vs++[v]) _ ⟨by simp only;omega,?_⟩ (by simp only;omega) ?_
     ·simp only
      rw[htk,Zk0,hv,hx];rfl
     ·simp +contextual -implicitDefEqProofs (maxSteps:=10^7) only[go_sem,seval,↓gZ,hbs,List.append_assoc]
   ·have:k=l.length:=by omega
    subst this
    rw[List.take_length] at hv
    rw[Zne h40 hv]
    simp +contextual -implicitDefEqProofs (maxSteps:=10^7) only[go_sem,seval,↓gZ]
 ·have h40' : (40:Int)<(l.length:Int):=by omega
  rw[ZyB h40]
  refine Zb Xs Ms Vx Zji (by show 1≤_;decide) ?_
  simp +contextual -implicitDefEqProofs (maxSteps:=10^7) only[go_sem,seval,↓gZ,Vx,h40']
def Zjg:Nat→List (List UInt8)→List Ev
 | _,[]=>[]
 | _,[_]=>[]
 | k,x :: y :: r=>if 40≤k then [] else match Zex x with
  | none=>[]
  | some v=>v :: Zjg (k+1) (y :: r)
def JZ (s:List UInt8):List Ev:=Zjg 0 (ZV 10 s)
theorem Znf:∀ {n k:Nat} {s:List UInt8},s.length<n→ZgZ n k s=Zjg k (ZV 10 s)
 | 0,k,s,h=>by omega
 | n+1,k,s,h=>by
  rw[ZgZ,ZdQ]
  cases hi:QK 10 s with
  | none=>simp only[Zjg,ite_self]
  | some i=>
   simp only
   have hne:=Ji 10 (s.drop (i+1))
   obtain⟨_,_,hil⟩:=Wu hi
   have ih:=Znf (n:=n) (k:=k+1) (s:=s.drop (i+1)) (by simp;omega)
   cases hs:ZV 10 (s.drop (i+1)) with
   | nil=>exact absurd hs hne
   | cons y r=>
    rw[hs] at ih
    rw[Zjg]
    split
    ·rfl
    ·cases Zex (s.take i) with
     | none=>rfl
     | some v=>simp only;rw[ih]
theorem ZsN (s:List UInt8):JZ s=ZgZ (s.length+1) 0 s:=(Znf (by omega)).symm
theorem ZsO (s:List UInt8):∃ r,s=Yh (JZ s)++r∧(JZ s).length≤40∧∀ v∈JZ s,v.ok:=by
 obtain⟨r,h1,h2,h3⟩:=ZsI (n:=s.length+1) (k:=0) (s:=s)
 rw[← ZsN] at h1 h2 h3
 exact⟨r,h1,by omega,h3⟩
theorem ZBH {c:UInt8} {s:List UInt8} {i:Nat} (h:QK c s=some i) (n:Nat):QK c (s.take n)=if n≤i then none else some i:=by
 obtain⟨h1,h3,h2⟩:=Wu h
 split
 ·rename_i hn
  cases hx:QK c (s.take n) with
  | none=>rfl
  | some j=>
   obtain⟨g1,g2,g3⟩:=Wu hx
   exfalso
   have:c∈s.take n:=by rw[g1];simp
   exact h3 (List.mem_of_mem_take (i:=n) (by rw[List.take_take,Nat.min_eq_left hn];exact this))
 ·rename_i hn
  have e:s.take n=s.take i++c :: (s.drop (i+1)).take (n-(i+1)):=by
   conv=>lhs;rw[h1]
   have hl:(s.take i).length=i:=by simp;omega
   rw[List.take_append,hl,List.take_of_length_le (by omega),show n-i=(n-(i+1))+1 by omega,List.take_succ_cons]
  have hl:(s.take i).length=i:=by simp;omega
  have:=Zyt (b:=(s.drop (i+1)).take (n-(i+1))) h3
  rw[hl] at this
  rw[e];exact this
theorem ZsP:∀ (N k n:Nat) (s:List UInt8),ZgZ N k (s.take n) <+: ZgZ N k s∧((ZgZ N k (s.take n)).length<(ZgZ N k s).length→n<(Yh (ZgZ N k s)).length)
 | 0,k,n,s=>by simp[ZgZ]
 | N+1,k,n,s=>by
  rw[ZgZ,ZgZ]
  by_cases hk:40≤k
  ·simp[if_pos hk]
  rw[if_neg hk,if_neg hk]
  cases hi:QK 10 s with
  | none=>
   have:QK 10 (s.take n)=none:=by
    cases hx:QK 10 (s.take n) with
    | none=>rfl
    | some j=>
     obtain⟨g1,g2,g3⟩:=Wu hx
     have:(10:UInt8)∈s.take n:=by rw[g1];simp
     exact absurd (List.mem_of_mem_take this) (Zi6.1 hi)
   rw[this];simp
  | some i=>
   obtain⟨h1,h3,h2⟩:=Wu hi
   rw[ZBH hi]
   by_cases hn:n≤i
   ·rw[if_pos hn]
    simp only
    cases hv:Zex (s.take i) with
    | none=>simp
    | some v=>
     refine⟨List.nil_prefix,fun _=>?_⟩
     have ht:=(Zb1.1 hv).1
     have hl:(s.take i).length=i:=by simp;omega
     rw[ZhP,← ht]
     simp only[List.length_append,List.length_cons,hl]
     omega
   ·rw[if_neg hn]
    simp only
    rw[List.take_take,Nat.min_eq_left (by omega)]
    cases hv:Zex (s.take i) with
    | none=>simp
    | some v=>
     simp only
     have ht:=(Zb1.1 hv).1
     have hl:(s.take i).length=i:=by simp;omega
     obtain⟨p1,p2⟩:=ZsP N (k+1) (n-(i+1)) (s.drop (i+1))
     rw[List.drop_take]
     refine⟨(List.prefix_cons_inj v).2 p1,fun h=>?_⟩
     simp only[List.length_cons] at h
     have:=p2 (by omega)
     rw[ZhP,← ht]
     simp only[List.length_append,List.length_cons,hl]
     omega
theorem Zz1 (s:List UInt8) (n:Nat):JZ (s.take n) <+: JZ s∧((JZ (s.take n)).length<(JZ s).length→n<(Yh (JZ s)).length):=by
 have e:JZ (s.take n)=ZgZ (s.length+1) 0 (s.take n):=(Znf (by simp;omega)).symm
 rw[e,ZsN]
 exact ZsP _ _ _ _
theorem Zb2 (s:List UInt8) (hs:s.length≤1000000):Zh Xs Ms Ya [.d (.str s)] []=some (.own 0,[.row 16 (((JZ s).map Ev.ev).map Zl.enc) true false]):=by
 refine Zb Xs Ms W7 Zog (by show 1≤_;decide) ?_
 simp +contextual -implicitDefEqProofs (maxSteps:=10^7) only[go_sem,seval,↓gZ,W7]
 refine ZQ Xs Ms (st0:=?st0) (α:=List UInt8×List Ev) (fun a=>[(0,.d (.str a.1))]) (fun a=>[(0,.row 16 ((a.2.map Ev.ev).map Zl.enc) true false)]) (fun a=>a.1.length≤s.length∧JZ s=a.2++Zjg a.2.length (ZV 10 a.1)) (fun a=>a.1.length) (s,[]) ?hc ⟨by simp,by simp[JZ]⟩ ?h0 ?step
 case hc=>simp +contextual -implicitDefEqProofs (maxSteps:=10^7) only[go_sem,seval,↓gZ]<;>exact rfl
 case h0=>rfl
 case step=>
  intro⟨t,vs⟩ ⟨hk,hp⟩ ih
  simp only at hk hp ih ⊢
  have e1:=Zev t 10 (by omega)
  rw[ZdQ] at hp
  by_cases h40:vs.length<40
  ·have h40' : (vs.length:Int)<40:=by omega
   have hroom:(vs.length+1)*144≤140737488355328∧vs.length≤140737488355327:=by omega
   cases hi:QK 10 t with
   | none=>
    rw[hi] at e1 hp
    simp only at e1 hp
    simp only[Zjg,List.append_nil] at hp
    rw[hp]
    simp +contextual -implicitDefEqProofs (maxSteps:=10^7) only[go_sem,seval,↓gZ,h40,h40',e1]
   | some i=>
    rw[hi] at e1 hp
    simp only at e1 hp
    obtain⟨_,_,hil⟩:=Wu hi
    have hne:=Ji 10 (t.drop (i+1))
    obtain⟨K,L,X,Y,W,H,pW,pH,pT,pK,C,o,a,q,tt,ks,e2,h2⟩:=Zig (t.take i) (by simp;omega)
    have hpe:JZ s=vs++match Zex (t.take i) with
      | none=>[]
      | some v=>v :: Zjg (vs.length+1) (ZV 10 (t.drop (i+1))):=by
     cases hsp:ZV 10 (t.drop (i+1)) with
     | nil=>exact absurd hsp hne
     | cons y r=>rw[hsp,Zjg,if_neg (by omega)] at hp;exact hp
    cases hv:Zex (t.take i) with
    | none=>
     rw[hv] at e2 hpe
     simp only[Option.isSome_none] at e2
     simp only[List.append_nil] at hpe
     rw[hpe]
     simp +contextual -implicitDefEqProofs (maxSteps:=10^7) only[go_sem,seval,↓gZ,h40,h40',e1,e2]
    | some v=>
     rw[hv] at e2 hpe h2
     simp only[Option.isSome_some] at e2
     simp only[evM] at hpe h2
     simp +contextual -implicitDefEqProofs (maxSteps:=10^7) only[go_sem,seval,↓gZ,h40,h40',e1,e2,hroom]
     refine ih (t.drop (i+1),vs++[v]) _ ⟨by simp;omega,?_⟩ (by simp;omega) ?_
     ·simp only[List.append_assoc,List.singleton_append,List.length_append,List.length_cons,List.length_nil,Nat.zero_add]
      exact hpe
     ·simp +contextual -implicitDefEqProofs (maxSteps:=10^7) only[go_sem,seval,↓gZ,List.map_append,List.map_cons,List.map_nil,← h2]
  ·have h40' : ¬(vs.length:Int)<40:=by omega
   have hnil:∀ ls,Zjg vs.length ls=[]:=by
    intro ls
    match ls with
    | []=>rfl
    | [_]=>rfl
    | x :: y :: r=>rw[Zjg,if_pos (by omega)]
   rw[hnil,List.append_nil] at hp
   rw[hp]
   simp +contextual -implicitDefEqProofs (maxSteps:=10^7) only[go_sem,seval,↓gZ,h40,h40']
theorem ZDo {ls:List (List UInt8)} {k m:Nat} {x:List UInt8} (hx:ls[k]?=some x) (hl:k+1<ls.length):Zjg m (ls.drop k)=if 40≤m then [] else match Zex x with
  | none=>[]
  | some v=>v :: Zjg (m+1) (ls.drop (k+1)):=by
 obtain⟨h1,h2⟩:=List.getElem?_eq_some_iff.1 hx
 rw[List.drop_eq_getElem_cons h1,h2,List.drop_eq_getElem_cons hl,Zjg]
theorem Zng (s:List UInt8) (hs:s.length≤1000000):Zh Xs Ms VI [.d (.str s)] []=some (.own 0,[.row 16 (((JZ s).map Ev.ev).map Zl.enc) true false]):=by
 have e1:=Zma s 10 10 rfl hs
 have hwl:=ZkX 10 s
 have hsl:=ZgW 10 s
 have hcl:s.count 10≤s.length:=List.count_le_length
 have hne:=Ji 10 s
 unfold JZ
 generalize ZV 10 s=ls at *
 have hpos:0<ls.length:=List.length_pos_iff.2 hne
 refine Zb Xs Ms Ud Zom (by show 1≤_;decide) ?_
 simp +contextual -implicitDefEqProofs (maxSteps:=10^7) only[go_sem,seval,↓gZ,Ud,e1]
 refine ZQ Xs Ms (st0:=?st0) (α:=Nat×List Ev) (fun a=>[(5,.d (J (a.1:Int)))]) (fun a=>[(1,.row 16 ((a.2.map Ev.ev).map Zl.enc) true false)]) (fun a=>a.1<ls.length∧a.2.length≤40∧Zjg 0 ls=a.2++Zjg a.2.length (ls.drop a.1)) (fun a=>ls.length-a.1) (0,[]) ?hc ⟨hpos,by simp,by simp⟩ ?h0 ?step
 case hc=>simp +contextual -implicitDefEqProofs (maxSteps:=10^7) only[go_sem,seval,↓gZ]<;>exact rfl
 case h0=>rfl
 case step=>
  intro⟨k,vs⟩ ⟨hk,h40,hp⟩ ih
  simp only at hk h40 hp ih ⊢
  have w:=Zm (k:=k) (by omega)
  by_cases hlt:k+1<ls.length
  ·obtain⟨x,hx⟩:=ZU hk
   have hlt' : ((k+1:Nat):Int)<(ls.length:Int):=by omega
   have hxl:=hwl x (List.mem_of_getElem? hx)
   obtain⟨K,L,X,Y,W,H,pW,pH,pT,pK,C,o,a,q,tt,ks,e2,h2⟩:=Zih x (by omega)
   have hroom:(vs.length+1)*144≤140737488355328∧vs.length≤140737488355327:=by omega
   rw[ZDo hx hlt] at hp
   cases hv:Zex x with
   | none=>
    rw[hv] at e2 hp
    simp only[Option.isSome_none] at e2
    simp only[ite_self,List.append_nil] at hp
    rw[hp]
    simp +contextual -implicitDefEqProofs (maxSteps:=10^7) only[go_sem,seval,↓gZ,hlt',hk,hx,w,e2]
   | some v=>
    rw[hv] at e2 hp h2
    simp only[Option.isSome_some] at e2
    simp only[evM] at hp h2
    by_cases hm:vs.length=40
    ·have hm' : (vs.length:Int)=40:=by omega
     rw[if_pos (by omega),List.append_nil] at hp
     rw[hp]
     simp +contextual -implicitDefEqProofs (maxSteps:=10^7) only[go_sem,seval,↓gZ,hlt',hk,hx,w,e2,hm,hm']
    ·have hm' : ¬(vs.length:Int)=40:=by omega
     rw[if_neg (by omega)] at hp
     simp +contextual -implicitDefEqProofs (maxSteps:=10^7) only[go_sem,seval,↓gZ,hlt',hk,hx,w,e2,hm,hm',hroom]
     refine ih (k+1,vs++[v]) _ ⟨by simp only;omega,by simp;omega,?_⟩ (by simp only;omega) ?_
     ·simp only[List.append_assoc,List.singleton_append,List.length_append,List.length_cons,List.length_nil,Nat.zero_add]
      exact hp
     ·simp +contextual -implicitDefEqProofs (maxSteps:=10^7) only[go_sem,seval,↓gZ,List.map_append,List.map_cons,List.map_nil,← h2]
  ·have hge:¬((k+1:Nat):Int)<(ls.length:Int):=by omega
   obtain⟨x,hx⟩:=ZU hk
   obtain⟨h1,h2⟩:=List.getElem?_eq_some_iff.1 hx
   rw[List.drop_eq_getElem_cons h1,List.drop_of_length_le (by omega),Zjg,List.append_nil] at hp
   rw[hp]
   simp +contextual -implicitDefEqProofs (maxSteps:=10^7) only[go_sem,seval,↓gZ,hge,w]
theorem Zg1 (s:List UInt8) (hs:s.length≤1000000):Zh Xs Ms YV [.d (.str s)] []=some (.own 0,[.row 16 (((JZ s).map Ev.ev).map Zl.enc) true false]):=by
 have e1:=Zng s hs
 refine Zb Xs Ms W9 Zoi (by show 1≤_;decide) ?_
 simp +contextual -implicitDefEqProofs (maxSteps:=10^7) only[go_sem,seval,↓gZ,W9,e1]
theorem Zrj (bs:List UInt8) (hb:bs.length≤2000):∃ (s:List UInt8) (p' : Nat),s.length≤1000000∧p'≤400∧Zh Xs Ms Jp [.ptr 0 0] [.box [.d (.sl (bs.map VM)),(.d (J 0))]]=some (.d (.str s),[.box [.d (.sl (bs.map VM)),(.d (J (p')))]]):=by
 obtain⟨r,e1,l,p,h1,h2,h3,h4,hr⟩:=ZtP bs hb 0 (by omega)
 rw[show ((0:Nat):Int)=0 from rfl] at e1
 have e2:=Zof l
 have hlen:=ZBF l
 generalize Zqs l=tx at e2 hlen
 have e3:=Qa bs p 4 hb (by omega)
 obtain⟨c,hc⟩:∃ c,Qq bs p 4=c:=⟨_,rfl⟩
 rw[hc] at e3
 have w:IntKind.i64.wrap ((tx.length:Int)+1)=((tx.length+1:Nat):Int):=Zm (k:=tx.length) (by omega)
 have e5:=Qa bs (p+1) ((tx.length+1:Nat):Int) hb (by omega)
 have q0:=Va bs (p+1) ((tx.length+1:Nat):Int)
 have q1:=ZaK bs (p+1) ((tx.length+1:Nat):Int) (by omega)
 obtain⟨v,hv⟩:∃ v:Nat,Qq bs (p+1) ((tx.length+1:Nat):Int)=v:=⟨(Qq bs (p+1) ((tx.length+1:Nat):Int)).toNat,by omega⟩
 rw[hv] at e5 q1
 have hv1:(v:Int)≤(tx.length:Int):=by omega
 obtain⟨s',p2,g1,g2,g3,e4⟩:=ZnV bs hb (p+1) (by omega) tx (by omega)
 have htk:List.take l.length l=l:=List.take_length
 have key:∀ f:Prop,(∀ b,r=(.own 1,[.box [.d (.sl (bs.map VM)),(.d (J p))],.row 16 (l.map Zl.enc) b false])→f)→(∀ e0,r=(.ownv 1 1 l.length,[.box [.d (.sl (bs.map VM)),(.d (J p))],.row 16 ((e0 :: l).map Zl.enc) true false])→f)→f:=by
  intro f a b
  rcases hr with ⟨x,rfl⟩ | ⟨x,rfl⟩
  ·exact a x rfl
  ·exact b x rfl
 by_cases c0:c=0
 ·refine⟨s',p2,by omega,by omega,?_⟩
  refine key _ (fun b hr=>?_) fun e0 hr=>?_
  ·subst hr
   refine Zb Xs Ms Qg Jl (by show 1≤_;decide) ?_
   cases b with
   | false=>simp +contextual -implicitDefEqProofs (maxSteps:=10^7) only[go_sem,seval,↓gZ,Qg,e1,e2,e3,c0,e4]
   | true=>simp +contextual -implicitDefEqProofs (maxSteps:=10^7) only[go_sem,seval,↓gZ,Qg,e1,e2,e3,c0,e4]
  ·subst hr
   refine Zb Xs Ms Qg Jl (by show 1≤_;decide) ?_
   simp +contextual -implicitDefEqProofs (maxSteps:=10^7) only[go_sem,seval,↓gZ,Qg,e1,e2,e3,c0,e4,htk]
 by_cases c1:c=1
 ·refine⟨tx.take v,p+2,by simp;omega,by omega,?_⟩
  refine key _ (fun b hr=>?_) fun e0 hr=>?_
  ·subst hr
   refine Zb Xs Ms Qg Jl (by show 1≤_;decide) ?_
   cases b with
   | false=>simp +contextual -implicitDefEqProofs (maxSteps:=10^7) only[go_sem,seval,↓gZ,Qg,e1,e2,e3,c0,c1,w,e5,hv1]
   | true=>simp +contextual -implicitDefEqProofs (maxSteps:=10^7) only[go_sem,seval,↓gZ,Qg,e1,e2,e3,c0,c1,w,e5,hv1]
  ·subst hr
   refine Zb Xs Ms Qg Jl (by show 1≤_;decide) ?_
   simp +contextual -implicitDefEqProofs (maxSteps:=10^7) only[go_sem,seval,↓gZ,Qg,e1,e2,e3,c0,c1,w,e5,hv1,htk]
 ·refine⟨tx,p+1,by omega,by omega,?_⟩
  refine key _ (fun b hr=>?_) fun e0 hr=>?_
  ·subst hr
   refine Zb Xs Ms Qg Jl (by show 1≤_;decide) ?_
   cases b with
   | false=>simp +contextual -implicitDefEqProofs (maxSteps:=10^7) only[go_sem,seval,↓gZ,Qg,e1,e2,e3,c0,c1]
   | true=>simp +contextual -implicitDefEqProofs (maxSteps:=10^7) only[go_sem,seval,↓gZ,Qg,e1,e2,e3,c0,c1]
  ·subst hr
   refine Zb Xs Ms Qg Jl (by show 1≤_;decide) ?_
   simp +contextual -implicitDefEqProofs (maxSteps:=10^7) only[go_sem,seval,↓gZ,Qg,e1,e2,e3,c0,c1,htk]
theorem ZcD (code:List UInt8):∃ s:List UInt8,s.length≤1000000∧Zh Xs Ms Xf [.d (.sl (code.map VM))] []=some (.d (.str s),[]):=by
 have e1:=ZiV code
 obtain⟨s,p,h1,h2,e2⟩:=Zrj (code.take 2000) (by simp;omega)
 refine⟨s,h1,?_⟩
 refine Zb Xs Ms Y1 Zj4 (by show 1≤_;decide) ?_
 simp +contextual -implicitDefEqProofs (maxSteps:=10^7) only[go_sem,seval,↓gZ,Y1,e1,e2]
theorem Zqu (l:List Ev):∀ e∈l.map Ev.ev,∃ B:BT,e.plan=B.plan:=by
 intro e he
 obtain⟨v,_,rfl⟩:=List.mem_map.1 he
 exact ZvR (some v)
theorem ZvT {l:List Ev} (h:l.length≤40) (hv:∀ v∈l,v.ok):Zqs (l.map Ev.ev)=Yh l:=Zne (by simpa using h) (ZvS hv)
theorem Zk2 (code:List UInt8):Zh Xs Ms VT [.d (.sl (code.map VM))] []=some ((.d (.bool true)),[]):=by
 by_cases hc:code.length≤1048576
 ·have hc' : ¬(1048576:Int)<(code.length:Int):=by omega
  obtain⟨s,hs,e1⟩:=ZcD code
  have e2:=Zb2 s hs
  have e3:=Zg1 s hs
  obtain⟨r,h1,h2,h3⟩:=ZsO s
  have e4:=Zax ((JZ s).map Ev.ev) (by simp;omega) (Zqu _)
  have e5:=Zii ((JZ s).map Ev.ev)
  rw[ZvT h2 h3] at e5
  have hbl:=ZdR h3
  have e6:=Zrf (Yh (JZ s)) (by omega)
  rw[show Zoc (Yh (JZ s))=(JZ s).length from Zqk fun v _=>ZDm v] at e6
  have hle:(Yh (JZ s)).length≤s.length:=by
   have:=congrArg List.length h1
   simp at this
   omega
  generalize JZ s=l at *
  have htk:s.take (Yh l).length=Yh l:=by rw[h1];simp
  have hle' : ((Yh l).length:Int)≤(s.length:Int):=by omega
  have hself:(Yh l==Yh l)=true:=by simp
  refine Zb Xs Ms X1 Zfr (by show 1≤_;decide) ?_
  simp +contextual -implicitDefEqProofs (maxSteps:=10^7) only[go_sem,seval,↓gZ,X1,hc',e1,e2,e3,e4,e5,e6,hle,hle',htk,hself]
 ·have hc' : (1048576:Int)<(code.length:Int):=by omega
  refine Zb Xs Ms X1 Zfr (by show 1≤_;decide) ?_
  simp +contextual -implicitDefEqProofs (maxSteps:=10^7) only[go_sem,seval,↓gZ,X1,hc']
theorem ZhQ (code:List UInt8):Zh Xs Ms Yi [.d (.sl (code.map VM))] []=some ((.d (.bool true)),[]):=by
 by_cases hc:code.length≤1048576
 ·have hc' : ¬(1048576:Int)<(code.length:Int):=by omega
  obtain⟨s,hs,e1⟩:=ZcD code
  have e2:=Zb2 s hs
  have e3:=Zg1 s hs
  obtain⟨r,h1,h2,h3⟩:=ZsO s
  have e4:=Zax ((JZ s).map Ev.ev) (by simp;omega) (Zqu _)
  have e5:=Zii ((JZ s).map Ev.ev)
  rw[ZvT h2 h3] at e5
  have hbl:=ZdR h3
  have htorn:=Zz1 s
  generalize JZ s=l at *
  refine Zb Xs Ms QQ ZbD (by show 1≤_;decide) ?_
  simp +contextual -implicitDefEqProofs (maxSteps:=10^7) only[go_sem,seval,↓gZ,QQ,hc',e1,e2,e3,e4]
  refine ZQ Xs Ms (st0:=?st0) (α:=Nat) (fun k=>[(5,.d (J (k:Int)))]) (fun _=>[]) (fun _=>True) (fun k=>s.length+1-k) 0 ?hc trivial ?h0 ?step
  case hc=>simp +contextual -implicitDefEqProofs (maxSteps:=10^7) only[go_sem,seval,↓gZ]<;>exact rfl
  case h0=>rfl
  case step=>
   intro k _ ih
   by_cases hk:k≤s.length
   ·have hk' : (k:Int)≤(s.length:Int):=by omega
    have e6:=Zb2 (s.take k) (by simp;omega)
    obtain⟨p1,p2⟩:=htorn k
    have hT3:∀ v∈JZ (s.take k),v.ok:=fun v hv=>h3 v (p1.subset hv)
    have hTl:=p1.length_le
    have hpt:l.take (JZ (s.take k)).length=JZ (s.take k):=List.prefix_iff_eq_take.1 p1 |>.symm
    have e7:=Zax ((JZ (s.take k)).map Ev.ev) (by simp;omega) (Zqu _)
    generalize JZ (s.take k)=T at *
    have hTl' : ¬(l.length:Int)<(T.length:Int):=by omega
    have hTl2:(T.length:Int)≤(l.length:Int):=by omega
    have w1:=Zm (k:=k) (by omega)
    have hq:((s.length:Int)).tdiv 40=((s.length / 40:Nat):Int):=rfl
    have w2:IntKind.i64.wrap (((k+1:Nat):Int)+((s.length / 40:Nat):Int))=((k+1+s.length / 40:Nat):Int):=by rw[wi _ (by omega) (by omega)];omega
    have w3:IntKind.i64.wrap ((s.length / 40:Nat):Int)=((s.length / 40:Nat):Int):=wi _ (by omega) (by omega)
    by_cases hd:T.length<l.length
    ·have hd' : (T.length:Int)<(l.length:Int):=by omega
     have hlt:=p2 hd
     have hlt' : ¬((Yh l).length:Int)≤(k:Int):=by omega
     have hlt2:¬(Yh l).length≤k:=by omega
     simp +contextual -implicitDefEqProofs (maxSteps:=10^7) only[go_sem,seval,↓gZ,hk,hk',e6,e7,hTl,hTl',hTl2,hpt,Nat.sub_zero,List.drop_zero,hd,hd',e5,hlt',hlt2,w1,hq,w2,w3]
     refine ih (k+1+s.length / 40) _ trivial (by omega) ?_
     simp +contextual -implicitDefEqProofs (maxSteps:=10^7) only[go_sem,seval,↓gZ]
    ·have hd' : ¬(T.length:Int)<(l.length:Int):=by omega
     simp +contextual -implicitDefEqProofs (maxSteps:=10^7) only[go_sem,seval,↓gZ,hk,hk',e6,e7,hTl,hTl',hTl2,hpt,Nat.sub_zero,List.drop_zero,hd,hd',e5,w1,hq,w2,w3]
     refine ih (k+1+s.length / 40) _ trivial (by omega) ?_
     simp +contextual -implicitDefEqProofs (maxSteps:=10^7) only[go_sem,seval,↓gZ]
   ·have hk' : ¬(k:Int)≤(s.length:Int):=by omega
    by_cases hl0:l=[]
    ·subst hl0
     simp only[List.map_nil] at e5
     simp +contextual -implicitDefEqProofs (maxSteps:=10^7) only[go_sem,seval,↓gZ,hk,hk',e5]
    ·have hne:(Yh l==[])=false:=by
      cases l with
      | nil=>exact absurd rfl hl0
      | cons v l=>rw[ZhP];cases v.text<;>rfl
     simp +contextual -implicitDefEqProofs (maxSteps:=10^7) only[go_sem,seval,↓gZ,hk,hk',e5,hne]
 ·have hc' : (1048576:Int)<(code.length:Int):=by omega
  refine Zb Xs Ms QQ ZbD (by show 1≤_;decide) ?_
  simp +contextual -implicitDefEqProofs (maxSteps:=10^7) only[go_sem,seval,↓gZ,QQ,hc']
end Go.Proofs.YtkdjbefmiiibpaaGreatDoor

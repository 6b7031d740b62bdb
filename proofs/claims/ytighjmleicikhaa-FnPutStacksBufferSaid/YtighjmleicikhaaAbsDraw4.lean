/- Own text. -/
import Derived.Test.YtighjmleicikhaaAbsDrawD
set_option linter.unusedVariables false
set_option linter.unusedSimpArgs false
namespace Go.Abs
open Go
section
variable {P:Program} {nt:Nat}
theorem Zea {α β:Type} {f:α→Option β}:∀ {l:List α} {r:List β},ZY f l=some r→∀ (i:Nat) (x:α),l[i]?=some x→∃ y,r[i]?=some y∧f x=some y
 | [],r,h,i,x,hx=>by simp at hx
 | a :: l,r,h,i,x,hx=>by
  simp only[ZY] at h;obtain⟨y,h1,h⟩:=Za h;obtain⟨ys,h2,h⟩:=Za h;cases h;cases i with
  | zero=>simp at hx;subst hx;exact⟨y,by simp,h1⟩
  | succ i=>simp at hx;obtain⟨z,h3,h4⟩:=Zea h2 i x hx;exact⟨z,by simpa using h3,h4⟩
theorem WQ {α β:Type} {f:α→Option β}:∀ {l:List α} {r:List β},ZY f l=some r→r.length=l.length
 | [],r,h=>by simp only[ZY] at h;cases h;rfl
 | a :: l,r,h=>by
  simp only[ZY] at h;obtain⟨y,h1,h⟩:=Za h;obtain⟨ys,h2,h⟩:=Za h;cases h;simp[WQ h2]
theorem Zji {C:Orc} {M:Zf} (hC:Z4 P C) {ops:Array Oper} {os:List CO} (ad:ZY (Zdi P nt ops.toList) ops.toList=some os) {nx i:Nat} {s s' : Sl×Hp} {U:Nat→Prop} (hs:ZaD nt s U) (hf:Qi U (nx+64*i))
  (h:Zp C M os nx i s=some s'):ZaD nt s' (Y2 U (nx+64*i)):=by
 obtain⟨F,A,I,Γ,a,w,aa⟩:=hs;unfold Zp at h;obtain⟨co,ae,h⟩:=Za h;have ag:i<ops.toList.length:=by rw[← WQ ad];exact(Kb.1 ae).1
 obtain⟨am,h1,h2⟩:=Zea ad i ops.toList[i] (Kj ag);rw[ae] at h1;cases h1;obtain⟨hg,ah,ab,af⟩:=Zbb h2;unfold Zt at h;obtain⟨b,hw,h⟩:=Za h;cases b with
 | true=>
  simp only[Ki] at h;obtain⟨ce,ai,aj,rfl⟩:=Qu h;have ak:=Zje hC aa ah hf ab aj (Ux ai) (fun a' w'=>∃ F A I Γ a w,Sim nt F A I Γ (Y2 U (nx+64*i)) (ce.on co.dst s.1 s.2).1 (ce.on co.dst s.1 s.2).2 a w) (fun _ _ _=>False) fun u w' hp=>by
   obtain⟨I1,Γ1,b1,b2,b3,b4,b5⟩:=hp;rw[← af] at b5;exact⟨F,A,I1,Γ1,_,_,b5⟩
  obtain⟨_,_,al⟩:=Oper.wp_ex ak;exact al
 | false=>
  simp only[Ka,Kh] at h;cases h;obtain⟨I1,Γ1,b1,b2,b3,b4,b5⟩:=aa.pure (U':=Y2 U (nx+64*i)) (v:=.tup []) (u:=undef) (dst:=co.dst) (fun id hu=>.inl hu) ZcD (by rw[af];exact ab);exact⟨F,A,I1,Γ1,_,_,b5⟩
theorem Zf5 {U:Nat→Prop} {nx i j:Nat} (aa:i≠j) (h:Qi U (nx+64*i)):Qi (Y2 U (nx+64*j)) (nx+64*i):=by
 intro id h1 h2 hu;rcases hu with hu | hu
 ·exact h id h1 h2 hu
 ·rcases Lv aa with h3 | h3<;>omega
theorem Zny {id:Nat} {v:AV} (h:Wx id v=true):okV v=true:=by
 cases v with
 | tup vs=>cases vs with
  | nil=>rfl
  | cons x r=>cases h
 | _=>first | rfl | cases h
def okW (v:AV):Bool:=okV v
theorem ZdH {v:AV} (h:okV v=true):okW v=true:=h
theorem Zms {g:List Nat} {v:AV} (h:okW (kill g v)=true):kill g v=v:=Wh h
theorem Znz {C:Orc} {M:Zf} {os:List CO} {nx q n:Nat} {s r:Sl×Hp} (h:Zp C M os nx q s=some r) (hd:Z6 (YH os q) [n]=true) (hk:okW (gs r.1 n)=true):gs s.1 n=gs r.1 n:=by
 unfold Zp at h;obtain⟨o,ho,h⟩:=Za h;have aa:o.dst≠some n:=by
  intro e;simp[YH,ho,e,Z6] at hd
 unfold Zt at h;obtain⟨b,_,h⟩:=Za h;cases b with
 | true=>
  simp only[Ki] at h;obtain⟨ce,_,_,rfl⟩:=Qu h;have e1:gs (ce.on o.dst s.1 s.2).1 n=kill ce.gone (gs s.1 n):=by
   show gs (Zh (Qj ce.gone s.1) o.dst ce.eff.val) n=_;rw[ZX,Kn aa,Z8]
  rw[e1] at hk ⊢;exact(Zms hk).symm
 | false=>
  simp only[Ka,Kh] at h;cases h;show gs s.1 n=gs (Zh s.1 o.dst (.tup [])) n;rw[ZX,Kn aa]
theorem Zg2 {C:Orc} {M:Zf} {os:List CO} {nx n:Nat}:∀ {l:List Nat} {s r:Sl×Hp},UG C M os nx l s=some r→(∀ q∈l,Z6 (YH os q) [n]=true)→okW (gs r.1 n)=true→gs s.1 n=gs r.1 n
 | [],s,r,h,_,_=>by simp only[UG] at h;cases h;rfl
 | i :: l,s,r,h,hd,hk=>by
  simp only[UG] at h;obtain⟨s1,h1,h⟩:=Za h;have h2:=Zg2 h (fun q hq=>hd q (by simp[hq])) hk;rw[← h2] at hk ⊢;exact Znz h1 (hd i (by simp)) hk
theorem Zmt {C:Orc} {M:Zf} {os:List CO} {nx n:Nat} {l:List Nat} {s r:Sl×Hp} (h:UG C M os nx l s=some r) (hd:∀ q∈l,Z6 (YH os q) [n]=true) (hk:okV (gs r.1 n)=true):gs s.1 n=gs r.1 n:=Zg2 h hd (ZdH hk)
theorem Zjj {C:Orc} {M:Zf} {sl:Sl} {hp:Hp} {base:Nat} {c:COp} {ce:Zb} (hc:ZjM c=true) (h:vop C M sl hp base c=some ce):Wz (vop C M sl hp base c)=some ce:=by
 rw[h];have aa:ce.gone=[]∧ce.eff.sets=[]∧ce.eff.dels=[]∧ce.eff.frz=[]:=by
  have o1:∀ {v:AV},Z7 v=some ce→ce.gone=[]∧ce.eff.sets=[]∧ce.eff.dels=[]∧ce.eff.frz=[]:=fun h=>by cases h;exact⟨rfl,rfl,rfl,rfl⟩
  have o2:∀ {v:Option AV},XN v=some ce→ce.gone=[]∧ce.eff.sets=[]∧ce.eff.dels=[]∧ce.eff.frz=[]:=fun h=>by obtain⟨v,_,h⟩:=Za h;exact o1 h
  cases c<;>simp only[ZjM,Ka] at hc<;>simp only[vop] at h
  case stuck=>cases h
  case move x=>exact o1 h
  case assign s x=>
   unfold UP at h;split at h
   ·obtain⟨s,_,h⟩:=Za h;cases h;exact⟨rfl,rfl,rfl,rfl⟩
   ·exact o1 h
  case pick c a b=>
   unfold JD at h;split at h
   ·split at h<;>exact o1 h
   ·cases h
  case alloc slc cs=>
   unfold JE ZeA at h;split at h
   ·split at h<;>first | (cases h;done) | (cases h;exact⟨rfl,rfl,rfl,rfl⟩)
   ·split at h<;>(cases h;exact⟨rfl,rfl,rfl,rfl⟩)
  case box x=>
   unfold ZlG at h;split at h
   ·cases h;exact⟨rfl,rfl,rfl,rfl⟩
   ·cases h
  case build zs ps=>obtain⟨cs,_,h⟩:=Za h;exact o1 h
  case load g s a=>exact o2 h
  case nilCheck x=>unfold Vm at h;split at h<;>first | exact o1 h | cases h
  case bin op eq x y=>
   unfold ZeC at h;split at h
   ·split at h
    ·exact o2 h
    ·cases h
   ·exact o2 h
  case un op x=>exact o2 h
  case eqA neg n x y=>
   unfold Zhj at h;split at h
   ·obtain⟨r,_,h⟩:=Za h;exact o1 h
   ·cases h
  case convI k x=>unfold Go.Abs.convI at h;split at h<;>first | exact o1 h | cases h
  case convS x=>unfold Go.Abs.convS at h;split at h<;>first | exact o1 h | cases h
  case fn f cs=>exact o2 h
  case make s b z l c=>
   obtain⟨l,_,h⟩:=Za h;obtain⟨c,_,h⟩:=Za h;unfold Zgm at h;split at h
   ·cases h;exact⟨rfl,rfl,rfl,rfl⟩
   ·cases h
  case slice s x lo hi=>exact o2 h
  case sliceS x lo hi=>exact o2 h
  case slice0 x hi mx=>exact o2 h
  case slice3 s x lo hi mx=>exact o2 h
  case shift off x=>unfold X0 at h;split at h<;>first | exact o1 h | cases h
  case part g s off x=>exact o2 h
  case iaS s x i=>
   obtain⟨n,_,h⟩:=Za h;unfold ZaL at h;split at h
   ·exact o2 h
   ·cases h
  case iaA len s x i=>
   obtain⟨n,_,h⟩:=Za h;unfold ZeE at h;split at h
   ·unfold X0 at h;split at h<;>first | exact o1 h | cases h
   ·cases h
  case ixS x i=>
   obtain⟨n,_,h⟩:=Za h;unfold ZjC at h;split at h
   ·unfold Ziz at h;split at h
    ·obtain⟨b,_,h⟩:=Za h;exact o1 h
    ·cases h
   ·cases h
  case ixA g s len x i=>
   obtain⟨n,_,h⟩:=Za h;unfold ZlI at h;split at h
   ·exact o2 h
   ·cases h
  case nth i x=>unfold ZiA at h;split at h<;>first | exact o2 h | cases h
  case len x=>obtain⟨n,_,h⟩:=Za h;exact o1 h
  case lenS x=>obtain⟨n,_,h⟩:=Za h;exact o1 h
  case min x y=>unfold Zdf at h;split at h<;>first | (split at h<;>first | exact o1 h | cases h) | cases h
  case max x y=>unfold Zdg at h;split at h<;>first | (split at h<;>first | exact o1 h | cases h) | cases h
 simp only[Wz,Zc,aa.1,aa.2.1,aa.2.2.1,aa.2.2.2,U0]
theorem Zle {C:Orc} {M:Zf} {nx i:Nat} {o:CO} (hc:ZjM o.op=true) (s:Sl×Hp):Zt C M nx i true o s=Zt C M nx i false o s:=by
 unfold Zt;have:XO C M nx i true o.op s.1 s.2=XO C M nx i false o.op s.1 s.2:=by
  unfold XO;simp only[Ki,Ka,Kh];cases h:vop C M s.1 s.2 (nx+64*i) o.op with
  | none=>rfl
  | some ce=>rw[← h,Zjj hc h,h]
 rw[this]
theorem vop_read {C:Orc} {M:Zf} {sl:Sl} {hp hp' : Hp} {base:Nat} {c:COp} (hc:Y3 c=true) (h:∀ x∈Zo c,∀ k∈Zj (evO sl x),lkp hp k=lkp hp' k):vop C M sl hp base c=vop C M sl hp' base c:=by
 have len:∀ v:AV,(∀ k∈Zj v,lkp hp k=lkp hp' k)→W2 hp v=W2 hp' v:=fun v hv=>by
  cases v<;>simp only[W2]
  case d x=>cases x<;>rfl
  case own id=>rw[hv id (by simp[Zj,Zm,Ze])]
 cases c<;>simp only[Y3,Ka] at hc<;>simp only[Zo] at h<;>simp only[vop]
 case load g s a=>
  have:=h a (by simp);cases hv:evO sl a<;>rw[hv] at this<;>simp only[Yo]
  case ptr id off=>rw[this id (by simp[Zj,Zm,Ze])]
  case prow id sz i off=>rw[this id (by simp[Zj,Zm,Ze])]
 case slice s x lo hi=>
  have:=h x (by simp);cases hv:evO sl x<;>rw[hv] at this<;>simp only[XB]
  case d x=>cases x<;>rfl
  case own id=>rw[this id (by simp[Zj,Zm,Ze])]
  case ownv id off n=>rw[this id (by simp[Zj,Zm,Ze])]
 case slice0 x hi mx=>
  unfold slice0;rw[len _ (h x (by simp))]
 case iaS s x i=>
  congr 1
  funext n
  simp only[ZaL];have:=h x (by simp);cases hv:evO sl x<;>rw[hv] at this<;>simp only[Z0]
  case d x=>cases x<;>rfl
  case own id=>rw[this id (by simp[Zj,Zm,Ze])]
  case ownv id off n=>rw[this id (by simp[Zj,Zm,Ze])]
 case len x=>rw[len _ (h x (by simp))]
theorem Zf6 {A B:Hp} (hd:∀ k x y,(k,x)∈A→(k,y)∈B→False) (hp:Hp) (id:Nat):lkp (Zd (Zd hp A) B) id=lkp (Zd (Zd hp B) A) id:=by
 have aa:∀ (l:Hp) (hp hp' : Hp),lkp hp id=lkp hp' id→lkp (Zd hp l) id=lkp (Zd hp' l) id:=by
  intro l
  induction l with
  | nil=>intro hp hp' h;exact h
  | cons q r ih=>
   intro hp hp' h;obtain⟨k,x⟩:=q;simp only[Zd];exact ih _ _ (by rw[ZV,ZV,h])
 by_cases h1:∃ o,(id,o)∈A
 ·have h2:∀ o,(id,o)∉B:=fun o ho=>by
   obtain⟨o',ab⟩:=h1;exact hd id o' o ab ho
  rw[Zn B _ id h2];exact aa A _ _ (Zn B hp id h2).symm
 ·have h2:∀ o,(id,o)∉A:=fun o ho=>h1 ⟨o,ho⟩;rw[Zn A _ id h2];exact aa B _ _ (Zn A hp id h2)
theorem Zib {hp:Hp} {v:AV} {q:D×Bool×List Nat} (h:V1 hp v=some q):∀ i∈q.2.2,i∈Ze v:=by
 intro i hi;cases v<;>simp only[V1] at h<;>first | (cases h;simp at hi;done) | (cases h;done) | skip
 obtain⟨p,_,h⟩:=Za h;cases h;simpa [Ze] using hi
theorem ZcZ {hp:Hp}:∀ {vs:List AV} {q:List D×Bool×List Nat},XE hp vs=some q→∀ i∈q.2.2,i∈vs.flatMap Ze
 | [],q,h,i,hi=>by simp only[XE] at h;cases h;simp at hi
 | v :: vs,q,h,i,hi=>by
  simp only[XE] at h;obtain⟨q1,h1,h⟩:=Za h;obtain⟨q2,h2,h⟩:=Za h;split at h
  ·cases h;rcases Kd.1 hi with hi | hi
   ·exact Kk.2 ⟨v,by simp,Zib h1 i hi⟩
   ·obtain⟨c,hc,aa⟩:=Kk.1 (ZcZ h2 i hi);exact Kk.2 ⟨c,by simp[hc],aa⟩
  ·cases h
theorem Zic {hp:Hp} {n:Nat} {v:AV} {q:D×List Nat} (h:Jy hp n v=some q):∀ i∈q.2,i∈Ze v:=by
 unfold Jy at h;split at h
 ·split at h
  ·cases h;simp
  ·cases h
 ·cases h;simp
 ·unfold Zae at h;split at h
  ·split at h
   ·cases h;simp[Ze]
   ·cases h
  ·split at h
   ·cases h;simp[Ze]
   ·cases h
  ·cases h
 ·cases h
theorem Zc0 {hp:Hp} {n:Nat}:∀ {vs:List AV} {q:List D×List Nat},XY hp n vs=some q→∀ i∈q.2,i∈vs.flatMap Ze
 | [],q,h,i,hi=>by simp only[XY] at h;cases h;simp at hi
 | v :: vs,q,h,i,hi=>by
  simp only[XY] at h;obtain⟨q1,h1,h⟩:=Za h;obtain⟨q2,h2,h⟩:=Za h;split at h
  ·cases h;rcases Kd.1 hi with hi | hi
   ·exact Kk.2 ⟨v,by simp,Zic h1 i hi⟩
   ·obtain⟨c,hc,aa⟩:=Kk.1 (Zc0 h2 i hi);exact Kk.2 ⟨c,by simp[hc],aa⟩
  ·cases h
theorem Zlf {hp:Hp} {slc:List (Option Nat)} {s base:Nat} {vs:List AV} {x:AV} {e:Eff} (h:VT hp slc s base vs x=some e):∃ id o,Xv x=some id∧e.val=.junk∧e.sets=[(id,o)]∧(∀ k∈e.dels,k∈vs.flatMap Ze∧∃ a b c d,x=.prow a b c d)∧∀ i∈e.frz,i∈vs.flatMap Ze:=by
 cases x<;>simp only[VT] at h<;>first | cases h | skip
 case ptr id off=>
  unfold Jx at h;split at h
  ·split at h
   ·split at h<;>(cases h;exact⟨id,_,rfl,rfl,rfl,fun i hi=>by simp at hi,fun i hi=>by simp at hi⟩)
   ·cases h
  ·cases h
 case prow id sz i off=>
  unfold Wn at h;split at h
  ·split at h
   ·obtain⟨x,_,h⟩:=Za h;obtain⟨q,hq,h⟩:=Za h;unfold Zad at h;split at h
    ·cases h;exact⟨id,_,rfl,rfl,rfl,fun i hi=>by simp at hi,ZcZ hq⟩
    ·cases h
   ·cases h
  ·split at h
   ·obtain⟨x,_,h⟩:=Za h;obtain⟨q,hq,h⟩:=Za h;unfold Zaf at h;split at h
    ·cases h;exact⟨id,_,rfl,rfl,rfl,fun k hk=>⟨Zc0 hq k hk,_,_,_,_,rfl⟩,fun i hi=>by simp at hi⟩
    ·cases h
   ·cases h
  ·cases h
def FzEq (o o' : Option Zg):Prop:=∃ b:Bool,o'=o.map fun x=>if b then Xl x else x
theorem FzEq.seen {o o' : Option Zg} (h:FzEq o o'):Wi [] o o':=by
 obtain⟨b,rfl⟩:=h;have hk:∀ x:Zg,Qo [] x=x:=fun x=>by
  cases x with
  | box cs=>simp only[Qo];congr 1;rw[KE (g:=id) (fun a _=>Ul a),Lk]
  | row _ _ _ _=>rfl
  | gone=>rfl
  | tree _ _ _ l=>rcases l with _ | ⟨_ | _,_⟩<;>simp[Qo,XQ]
 have:=Zik (g:=[]) (b:=b) o;have e:(o.map (Qo []))=o:=by cases o<;>simp[hk]
 rw[e] at this;exact this
theorem vop_fz {C:Orc} {M:Zf} {sl:Sl} {hp hp' : Hp} {base:Nat} {c:COp} (hc:Y3 c=true) (h:∀ x∈Zo c,∀ k∈Zj (evO sl x),FzEq (lkp hp k) (lkp hp' k)):vop C M sl hp' base c=vop C M sl hp base c:=by
 have hs:∀ x∈Zo c,Zbx [] hp hp' (evO sl x):=fun x hx k hk=>(h x hx k hk).seen;cases c<;>simp only[Y3,Ka] at hc<;>simp only[Zo] at h hs<;>simp only[vop]
 case load g s a=>
  have h1:=h a (by simp);have h2:=hs a (by simp);cases hv:evO sl a<;>rw[hv] at h1 h2<;>simp only[Yo]
  case ptr id off=>
   obtain⟨b,e⟩:=h1 id (by simp[Zj,Zm,Ze]);rw[e];cases lkp hp id with
   | none=>rfl
   | some o=>cases o<;>cases b<;>rfl
  case prow id sz i off=>
   obtain⟨b,e⟩:=h1 id (by simp[Zj,Zm,Ze]);rw[e];cases lkp hp id with
   | none=>rfl
   | some o=>cases o<;>cases b<;>rfl
 case slice s x lo hi=>rw[Js (hs x (by simp))]
 case slice0 x hi mx=>unfold slice0;rw[Uo (hs x (by simp))]
 case iaS s x i=>
  congr 1
  funext n
  simp only[ZaL];rw[VR (hs x (by simp))]
 case len x=>rw[Uo (hs x (by simp))]
def Zbu (sl:Sl) (a:COp):COp→Bool
 | .store _ _ x y=>UZ sl a (Xv (evO sl x))&&XC sl a (evO sl x) (evO sl y)
 | .append _ _ _ flat x y=>Y4 sl a (evO sl x)&&(flat || seenSrc sl a (evO sl y))
 | _=>false
def LooseS (s:Sl) (a b:COp):Prop:=ZeS b=true∧(X2 a=true∨(Y3 a=true∧Zbu s a b=true))
theorem Jq {sl:Sl} {id:Nat}:∀ {xs:List Opd},Qb sl id xs=true→∀ x∈xs,Wx id (evO sl x)=true
 | [],_,x,hx=>by simp at hx
 | y :: ys,h,x,hx=>by
  simp only[Qb,Kc] at h;rcases Ke.1 hx with rfl | hx
  ·exact h.1
  ·exact Jq h.2 x hx
theorem Zc1 {sl:Sl} {xs:List Opd}:∀ {ks:List Nat},QM sl xs ks=true→∀ k∈ks,Qb sl k xs=true
 | [],_,k,hk=>by simp at hk
 | j :: r,h,k,hk=>by
  simp only[QM,Kc] at h;rcases Ke.1 hk with rfl | hk
  ·exact h.1
  ·exact Zc1 h.2 k hk
theorem Zc2 {sl:Sl} {a:COp} {b1 b2 b3 b4:Nat} {v:AV} (h:XC sl a (.prow b1 b2 b3 b4) v=true):(∃ d,v=.d d)∨(okV v=true∧QM sl (Zo a) (Zj v)=true):=by
 cases v<;>first | exact .inl ⟨_,rfl⟩ | (simp only[XC,Kc] at h;exact .inr h)
theorem Zlg {sl:Sl} {a:COp} {b1 b2 b3 b4:Nat} {v:AV} (h:okV v=true∧QM sl (Zo a) (Zj v)=true):XC sl a (.prow b1 b2 b3 b4) v=true:=by
 cases v<;>first | rfl | (simp only[XC,Kc];exact h)
theorem Zg3 {sl:Sl} {a:COp} {x v:AV} (hx:∀ a b c d,x≠.prow a b c d):XC sl a x v=true:=by
 cases x<;>first | rfl | exact absurd rfl (hx _ _ _ _)
theorem Zeb {sl sl' : Sl} {xs:List Opd} (h:∀ k,Qb sl k xs=true→Qb sl' k xs=true):∀ {ks:List Nat},QM sl xs ks=true→QM sl' xs ks=true
 | [],_=>rfl
 | j :: r,hh=>by
  simp only[QM,Kc] at hh ⊢;exact⟨h j hh.1,Zeb h hh.2⟩
theorem Zec {id:Nat} {v:AV} (h:Wx id v=true):id∉Zj v:=by
 cases v with
 | tup vs=>cases vs with
  | nil=>simp[Zj]
  | cons x r=>cases h
 | _=>simp[Wx,Zj,Zm,Ze] at h ⊢ <;> exact fun e=>h e.symm
theorem Zjk {hp:Hp} {sz by_ base:Nat} {str flat:Bool} {x y:AV} {e:Eff} (h:YY hp sz by_ str flat base x y=some e):e.sets=[]∧e.frz=[]∧((x=.nil∧e.dels=[])∨∃ id,e.dels=[id]∧(x=.own id∨∃ o n,x=.ownv id o n)):=by
 unfold YY at h;obtain⟨q,_,h⟩:=Za h;split at h
 ·cases x<;>simp only[ZaK] at h<;>first | (cases h;done) | skip
  ·split at h
   ·cases h;exact⟨rfl,rfl,.inl ⟨rfl,rfl⟩⟩
   ·cases h
  ·split at h
   ·cases h
   ·unfold Zez at h;split at h
    ·split at h
     ·cases h;exact⟨rfl,rfl,.inr ⟨_,rfl,.inl rfl⟩⟩
     ·cases h
    ·cases h
  ·split at h
   ·split at h
    ·cases h
    ·unfold ZbE at h;split at h
     ·split at h
      ·cases h;exact⟨rfl,rfl,.inr ⟨_,rfl,.inr ⟨_,_,rfl⟩⟩⟩
      ·cases h
     ·cases h
   ·split at h
    ·unfold ZbD at h;split at h
     ·split at h
      ·cases h;exact⟨rfl,rfl,.inr ⟨_,rfl,.inr ⟨_,_,rfl⟩⟩⟩
      ·cases h
     ·cases h
    ·unfold ZbC at h;split at h
     ·split at h
      ·cases h;exact⟨rfl,rfl,.inr ⟨_,rfl,.inr ⟨_,_,rfl⟩⟩⟩
      ·cases h
     ·cases h
 ·cases h
theorem Zed {hp:Hp} {x:AV} {k:Nat} (h:k∈QI hp x):x=.own k:=by
 unfold QI at h;split at h
 ·split at h
  ·simp at h;subst h;rfl
  ·simp at h
 ·simp at h
theorem Zid {hp:Hp} {sz by_ base:Nat} {str flat:Bool} {x y:AV} {e:Eff}:∀ {ms:List Nat},(∀ k∈ms,x=.own k∨y=.own k)→Xn hp sz by_ str flat base x y ms=some e→e.frz=[] ∧
  e.sets=[]∧∀ k∈e.dels,(x=.own k∨∃ o n,x=.ownv k o n)∨(flat=false∧y=.own k):=by
 have plain:∀ {hp' : Hp} {e:Eff},YY hp' sz by_ str flat base x y=some e→e.sets=[]∧e.frz=[]∧∀ k∈e.dels,x=.own k∨∃ o n,x=.ownv k o n:=by
  intro hp' e h;obtain⟨g1,g2,g3⟩:=Zjk h;refine⟨g1,g2,fun k hk=>?_⟩;rcases g3 with ⟨_,g3⟩ | ⟨id,g3,g4⟩
  ·rw[g3] at hk;simp at hk
  ·rw[g3] at hk;simp at hk;subst hk;exact g4
 intro ms hm h;cases ms with
 | nil=>
  simp only[Xn] at h;obtain⟨g1,g2,g3⟩:=plain h;exact⟨g2,g1,fun k hk=>.inl (g3 k hk)⟩
 | cons i r=>
  simp only[Xn] at h;split at h
  ·cases h
  ·rename_i aa;obtain⟨e0,h1,h⟩:=Za h;cases h;obtain⟨g1,g2,g3⟩:=plain h1;refine⟨g2,g1,fun k hk=>?_⟩;rcases Kd.1 hk with hk | hk
   ·exact .inl (g3 k hk)
   ·rcases hm k hk with hk | hk
    ·exact .inl (.inl hk)
    ·exact .inr ⟨by simpa using aa,hk⟩
theorem Zmu {hp:Hp} {sz by_ base:Nat} {x y:AV} {ce:Zb} (h:appT hp sz by_ base x y=some ce):ce.gone=[]∧ce.eff.frz=[]∧ce.eff.sets=[]∧∀ k∈ce.eff.dels,x=.own k∨y=.own k:=by
 unfold appT at h;obtain⟨e,h1,h⟩:=Za h;cases h;obtain⟨q,h2,h1⟩:=Za h1;have hy:y=.own q.1:=by
  unfold WU at h2;split at h2
  ·obtain⟨q2,_,h2⟩:=Za h2;cases h2;rfl
  ·cases h2
 split at h1
 ·cases x<;>simp only[Wa] at h1<;>first | (cases h1;done) | skip
  ·split at h1
   ·cases h1;exact⟨rfl,rfl,rfl,fun k hk=>by simp at hk;subst hk;exact .inr hy⟩
   ·cases h1
  ·obtain⟨q3,_,h1⟩:=Za h1;split at h1
   ·cases h1;refine⟨rfl,rfl,rfl,fun k hk=>?_⟩;simp at hk;rcases hk with rfl | rfl
    ·exact .inl rfl
    ·exact .inr hy
   ·cases h1
 ·cases h1
theorem Zie {hp:Hp} {sz by_ base:Nat} {str flat:Bool} {x y:AV} {ce:Zb} (h:ZiB hp sz by_ str flat base x y=some ce):ce.gone=[]∧ce.eff.frz=[] ∧
  ce.eff.sets=[]∧∀ k∈ce.eff.dels,(x=.own k∨∃ o n,x=.ownv k o n)∨(flat=false∧y=.own k):=by
 have kx:∀ k∈QI hp x,x=.own k∨y=.own k:=fun k hk=>.inl (Zed hk);have ky:∀ k∈QI hp y,x=.own k∨y=.own k:=fun k hk=>.inr (Zed hk);have melt:∀ {ms:List Nat},(∀ k∈ms,x=.own k∨y=.own k)→Jj (Xn hp sz by_ str flat base x y ms)=some ce→ce.gone=[]∧ce.eff.frz=[] ∧
   ce.eff.sets=[]∧∀ k∈ce.eff.dels,(x=.own k∨∃ o n,x=.ownv k o n)∨(flat=false∧y=.own k):=by
  intro ms hm h;obtain⟨e,h1,h⟩:=Za h;cases h;exact⟨rfl,Zid hm h1⟩
 unfold ZiB at h;generalize QI hp x=mx at h kx;generalize QI hp y=my at h ky;cases mx with
 | nil=>exact melt ky h
 | cons i r=>
  cases my with
  | nil=>exact melt kx h
  | cons j t=>
   simp only[W7] at h;split at h
   ·cases h
   ·rename_i hc;obtain⟨g1,g2,g3,g4⟩:=Zmu h;have hf:flat=false:=by cases flat<;>simp_all
    exact⟨g1,g2,g3,fun k hk=>(g4 k hk).elim (fun e=>.inl (.inl e)) fun e=>.inr ⟨hf,e⟩⟩
theorem Zee {ds:List Nat} {l:Hp} {k:Nat} (h:k∈ds):lkp (ZI l ds) k=none:=by
 cases hl:lkp (ZI l ds) k with
 | none=>rfl
 | some o=>exact absurd h (X4 ds l k o hl).2
theorem ZnA {C:Orc} {M:Zf} {sl:Sl} {hp:Hp} {base:Nat} {c:COp} {ce:Zb} (hc:ZeS c=true) (h:vop C M sl hp base c=some ce) :
  ce.gone=[]∧(∀ k,k∈ce.eff.dels∨(∃ o,(k,o)∈ce.eff.sets)→(∃ x∈Zo c,k∈Zj (evO sl x))∧∀ a,Zbu sl a c=true→Qb sl k (Zo a)=true)∧∀ k∈ce.eff.frz,∃ x∈Zo c,k∈Zj (evO sl x):=by
 cases c<;>first | (cases hc;done) | skip
 case store slc sz x y=>
  simp only[vop,Jj] at h;obtain⟨e,h7,h⟩:=Za h;cases h;obtain⟨id,o,ht,g1,g2,g3,g4⟩:=Zlf h7;refine⟨rfl,fun k hk=>?_,fun k hk=>⟨y,by simp[Zo],Zd1 (U:=fun k=>k∈Zj (evO sl y)) (fun _ h=>h) k (g4 k hk)⟩⟩;rcases hk with hk | ⟨o',hk⟩
  ·obtain⟨k1,b1,b2,b3,b4,k2⟩:=g3 k hk;have k3:=Zd1 (U:=fun k=>k∈Zj (evO sl y)) (fun _ h=>h) k k1;refine⟨⟨y,by simp[Zo],k3⟩,fun a ha=>?_⟩;simp only[Zbu,Kc,k2] at ha;rcases Zc2 ha.2 with ⟨d,hv⟩ | hv
   ·rw[hv] at k3;simp[Zj,Zm,Ze] at k3
   ·exact Zc1 hv.2 k k3
  ·simp only[g2,KV,Prod.mk.injEq] at hk;have aa:=hk.1;subst aa;refine⟨⟨x,by simp[Zo],?_⟩,fun a ha=>?_⟩
   ·cases hv:evO sl x<;>rw[hv] at ht<;>simp only[Xv] at ht<;>cases ht<;>simp[Zj,Zm,Ze]
   ·simp only[Zbu,Kc,ht,UZ] at ha;exact ha.1
 case append sz by_ str flat x y=>
  simp only[vop] at h;obtain⟨g0,g2,g1,g3⟩:=Zie h;refine⟨g0,fun k hk=>?_,fun k hk=>by simp only[g2,LN] at hk⟩;have ab:k∈ce.eff.dels:=by
   rcases hk with hk | ⟨o',hk⟩
   ·exact hk
   ·simp only[g1,LN] at hk
  rcases g3 k ab with g4 | ⟨g4,g5⟩
  ·refine⟨⟨x,by simp[Zo],?_⟩,fun a ha=>?_⟩
   ·rcases g4 with g4 | ⟨o,n,g4⟩<;>rw[g4]<;>simp[Zj,Zm,Ze]
   ·simp only[Zbu,Kc] at ha;rcases g4 with g4 | ⟨o,n,g4⟩<;>rw[g4] at ha<;>exact ha.1
  ·refine⟨⟨y,by simp[Zo],by rw[g5];simp[Zj,Zm,Ze]⟩,fun a ha=>?_⟩;simp only[Zbu,Kc,g4,Bool.false_or] at ha;rw[g5] at ha;exact ha.2
theorem Zjl {C:Orc} {M:Zf} {os:List CO} {nx i j:Nat} {oi oj:CO} (ae:os[i]?=some oi) (ak:os[j]?=some oj) (ar:Zz os i=true) (am:Zz os j=false) (a3:i≠j) (au:Qw oj oi=true)
  (an:∀ (k:Nat) (o:CO),os[k]?=some o→∀ x∈Zo o.op,Xd x=true) {s s1 s2:Sl×Hp} {U:Nat→Prop} (hs:ZaD nt s U) (a4:Qi U (nx+64*i)) (av:Qi U (nx+64*j)) (hl:LooseS s.1 oj.op oi.op)
  (h1:Zp C M os nx j s=some s1) (h2:Zp C M os nx i s1=some s2):∃ t1,Zp C M os nx i s=some t1∧∃ t2,Zp C M os nx j t1=some t2∧QD t2 s2:=by
 obtain⟨F,A,I,Γ,a,w,ag⟩:=hs;simp only[Qw,Kc] at au;obtain⟨⟨aw,ax⟩,al⟩:=au;have good:∀ (k:Nat) (o:CO),os[k]?=some o→∀ x∈Zo o.op,Zbs U (evO s.1 x):=by
  intro k o ho x hx;cases x with
  | t n=>exact ag.good n
  | v y=>exact YT (an k o ho _ hx)
  | f n=>exact⟨fun id a5=>by simp[evO,Zj,Zm] at a5,fun f a6 h c hc=>by cases h;simp at hc⟩
 simp only[Zp,ak,Zc,am] at h1;simp only[Zp,ae,Zc,ar] at h2;obtain⟨vj,aj,rfl,ao,ay⟩:=ZaW h1;obtain⟨a7,hl⟩:=hl;unfold Zt at h2;obtain⟨b,hw,h2⟩:=Za h2;have az : ZC s.1 oi.guard=some b:=by rw[← hw];exact(ZZ aw).symm
 cases b with
 | false=>
  simp only[Ka,Kh] at h2;cases h2;refine⟨(Zh s.1 oi.dst (.tup []),s.2),by simp only[Zp,ae,Zc,Zt,az,Ka,Kh],?_⟩;have e2:=ay (Zh s.1 oi.dst (.tup []),s.2) (ZZ al) (Qk C M s.2 (nx+64*j) (XT (o:=oj) al));exact⟨(Zh (Zh s.1 oi.dst (.tup [])) oj.dst vj,Zd s.2 aj),by simp only[Zp,ak,Zc,am];exact e2,fun t=>(Yn ax vj (.tup []) t).symm,fun id=>rfl⟩
 | true=>
  simp only[Ki] at h2;obtain⟨ce,h3,h4,rfl⟩:=Qu h2;have a0 : vop C M s.1 s.2 (nx+64*i) oi.op=some ce:=by
   have h5:=Ux h3;rw[← h5,Qk C M (Zd s.2 aj) (nx+64*i) (XT (o:=oi) aw)];exact Vi (ag.agree (XU av ao s.2)) C M _ (good i oi ae)
  have aa:=YK h4;obtain⟨k1,k2,k3⟩:=ZnA a7 a0;obtain⟨e,gn⟩:=ce;simp only at k1 k2 k3;subst k1;have ap:∀ k∈e.frz,U k:=fun k hk=>by
   obtain⟨x,hx,hk⟩:=k3 k hk;exact(good i oi ae x hx).1 k hk
  have ah:∀ k,k∈e.dels∨(∃ o,(k,o)∈e.sets)→U k:=fun k hk=>by
   obtain⟨⟨x,hx,hk⟩,_⟩:=k2 k hk;exact(good i oi ae x hx).1 k hk
  have ai:∀ s:Sl×Hp,Zb.on { eff:=e,gone:=[] } oi.dst s.1 s.2=(Zh s.1 oi.dst e.val,Zd (Zd (ZI (ZO e.frz s.2) e.dels) e.sets) e.adds):=by
   intro s;rfl
  refine⟨Zb.on { eff:=e,gone:=[] } oi.dst s.1 s.2,?_,?_⟩
  ·simp only[Zp,ae,Zc,Zt,az,Ki,Q3,ar,XO];rw[a0,Zc,Kw h4]
  ·have ab:∀ k,U k→¬(k∈e.dels∨∃ o,(k,o)∈e.sets)→FzEq (lkp s.2 k) (lkp (Zd (Zd (ZI (ZO e.frz s.2) e.dels) e.sets) e.adds) k):=by
    intro k hk aq;rw[not_or] at aq;rw[← XU a4 aa _ k hk,Zn _ _ k (fun o ho=>aq.2 ⟨o,ho⟩),Yp _ _ k aq.1,ZL];exact⟨_,rfl⟩
   have e2:Zt C M nx j false oj (Zb.on { eff:=e,gone:=[] } oi.dst s.1 s.2)=some (Zh (Zb.on { eff:=e,gone:=[] } oi.dst s.1 s.2).1 oj.dst vj,Zd (Zb.on { eff:=e,gone:=[] } oi.dst s.1 s.2).2 aj):=by
    rw[ai];refine ay (Zh s.1 oi.dst e.val,Zd (Zd (ZI (ZO e.frz s.2) e.dels) e.sets) e.adds) (ZZ al) ?_;rw[Qk C M _ (nx+64*j) (XT (o:=oj) al)];rcases hl with hl | ⟨a8,a9⟩
    ·exact Zby hl
    ·refine vop_fz a8 fun z hz k hk=>?_;refine ab k ((good j oj ak z hz).1 k hk) fun hp=>?_;exact Zec (Jq ((k2 k hp).2 _ a9) z hz) hk
   refine⟨_,by simp only[Zp,ak,Zc,am];exact e2,fun t=>?_,fun k=>?_⟩
   ·rw[ai,ai (Zh s.1 oj.dst vj,Zd s.2 aj)];exact(Yn ax vj e.val t).symm
   ·rw[ai,ai (Zh s.1 oj.dst vj,Zd s.2 aj)];show lkp (Zd (Zd (Zd (ZI (ZO e.frz s.2) e.dels) e.sets) e.adds) aj) k=lkp (Zd (Zd (ZI (ZO e.frz (Zd s.2 aj)) e.dels) e.sets) e.adds) k;have a1:∀ (B:Hp) (hp hp' : Hp),(∀ k,lkp hp k=lkp hp' k)→∀ k,lkp (Zd hp B) k=lkp (Zd hp' B) k:=fun B hp hp' h=>V5 B h;have ad:∀ k,U k→∀ o',(k,o')∉aj:=fun k hk o' af=>by
     have:=ao k o' af;exact av k this.1 this.2 hk
    rw[Zf6 (A:=e.adds) (B:=aj) (fun k x y hx hy=>by
     have:=aa k x hx;have:=ao k y hy;rcases Lv a3 with h | h<;>omega)]
    refine a1 e.adds _ _ (fun k=>?_) k;rw[Zf6 (A:=e.sets) (B:=aj) (fun k x y hx hy=>ad k (ah k (.inr ⟨x,hx⟩)) y hy) (ZI (ZO e.frz s.2) e.dels) k];refine a1 e.sets _ _ (fun k=>?_) k;by_cases hd:k∈e.dels
    ·rw[Zn aj _ k (ad k (ah k (.inl hd))),Zee hd,Zee hd]
    ·rw[Yp _ _ k hd];rw[ZL];by_cases hk:∃ o',(k,o')∈aj
     ·obtain⟨o',af⟩:=hk;rw[Wk (hp':=s.2) ⟨o',af⟩];have a':k∉e.frz:=fun hf=>ad k (ap k hf) o' af;cases lkp (Zd s.2 aj) k<;>simp[a']
     ·have a2 : ∀ o',(k,o')∉aj:=fun o' af=>hk ⟨o',af⟩;rw[Zn aj _ k a2,Zn aj _ k a2,Yp _ _ k hd,ZL]
theorem Zlh {C:Orc} {M:Zf} {os:List CO} {nx i j:Nat} {oi oj:CO} (ab:os[i]?=some oi) (ad:os[j]?=some oj) (ae:ZjM oi.op=true) (af:Zz os j=false) (ag:i≠j) (ah:Qw oj oi=true)
  (aa:∀ (k:Nat) (o:CO),os[k]?=some o→∀ x∈Zo o.op,Xd x=true) {s s1 s2:Sl×Hp} {U:Nat→Prop} (hs:ZaD nt s U) (ai:Qi U (nx+64*i)) (aj:Qi U (nx+64*j))
  (h1:Zp C M os nx j s=some s1) (h2:Zp C M os nx i s1=some s2):∃ t1,Zp C M os nx i s=some t1∧∃ t2,Zp C M os nx j t1=some t2∧QD t2 s2:=by
 have e:∀ s:Sl×Hp,Zp C M os nx i s=Zt C M nx i false oi s:=fun s=>by
  simp only[Zp,ab,Zc];cases Zz os i
  ·rfl
  ·exact Zle ae s
 rw[e] at h2;simp only[e];exact Zd9 ab ad af ag ah aa hs ai aj h1 h2
theorem Zg4 {hp:Hp} {base s:Nat} {vs:List AV} {ce:Zb} (h:buildSl hp base s vs=some ce):ce.gone=[]:=by
 cases vs with
 | nil=>simp only[buildSl,Z7] at h;first | (cases h;rfl) | (split at h<;>first | (cases h;rfl) | cases h)
 | cons v r=>
  simp only[buildSl] at h;obtain⟨q,_,h⟩:=Za h;unfold ZlH at h;split at h
  ·cases h;rfl
  ·cases h
theorem Zif {C:Orc} {M:Zf} {sl:Sl} {hp:Hp} {base:Nat} {c:COp} {ce:Zb} (hc:UX c=true) (h:vop C M sl hp base c=some ce):ce.gone=[]:=by
 cases c<;>first | (cases hc;done) | skip
 ·simp only[vop] at h;exact Zg4 h
 ·simp only[vop] at h;exact(Zie h).1
theorem Zli {C:Orc} {M:Zf} {nx j:Nat} {oj:CO} {s s1:Sl×Hp} (hm:Xe oj.op=true) (h:Zt C M nx j false oj s=some s1) :
  ∃ v,s1=(Zh s.1 oj.dst v,s.2)∧∀ aa : Sl×Hp,ZC aa.1 oj.guard=ZC s.1 oj.guard→(∀ x∈Zo oj.op,evO aa.1 x=evO s.1 x)→Zt C M nx j false oj aa=some (Zh aa.1 oj.dst v,aa.2):=by
 obtain⟨x,hx⟩:∃ x,oj.op=.move x:=by
  cases ho:oj.op<;>rw[ho] at hm<;>first | (cases hm;done) | exact⟨_,rfl⟩
 unfold Zt at h ⊢;obtain⟨b,hw,h⟩:=Za h;cases b with
 | true=>
  simp only[Ki,hx,XO,Ka,Kh,vop] at h;refine⟨evO s.1 x,?_,fun aa g1 g2=>?_⟩
  ·cases h;rfl
  ·rw[g1,hw,Zc];have e:=g2 x (by rw[hx];simp[Zo]);simp only[Ki,hx,XO,Ka,Kh,vop,e];rfl
 | false=>
  simp only[Ka,Kh] at h;cases h;refine⟨.tup [],rfl,fun aa g1 g2=>?_⟩;rw[g1,hw,Zc];rfl
theorem Zlj {C:Orc} {M:Zf} {os:List CO} {nx i j:Nat} {oi oj:CO} (ad:os[i]?=some oi) (ae:os[j]?=some oj) (af:Zz os j=false) (ah:Qw oj oi=true)
  {s s1 s2:Sl×Hp} (hm:Xe oj.op=true) (hg:UX oi.op=true)
  (h1:Zp C M os nx j s=some s1) (h2:Zp C M os nx i s1=some s2):∃ t1,Zp C M os nx i s=some t1∧∃ t2,Zp C M os nx j t1=some t2∧QD t2 s2:=by
 simp only[Qw,Kc] at ah;obtain⟨⟨ai,aj⟩,ab⟩:=ah;simp only[Zp,ae,Zc,af] at h1;simp only[Zp,ad,Zc] at h2;obtain⟨vj,rfl,ak⟩:=Zli hm h1;unfold Zt at h2;obtain⟨b,hw,h2⟩:=Za h2;have al : ZC s.1 oi.guard=some b:=by rw[← hw];exact(ZZ ai).symm
 cases b with
 | false=>
  simp only[Ka,Kh] at h2;cases h2;refine⟨(Zh s.1 oi.dst (.tup []),s.2),by simp only[Zp,ad,Zc,Zt,al,Ka,Kh],?_⟩;exact⟨(Zh (Zh s.1 oi.dst (.tup [])) oj.dst vj,s.2),by simp only[Zp,ae,Zc,af];exact ak (Zh s.1 oi.dst (.tup []),s.2) (ZZ ab) (XT (o:=oj) ab),fun t=>(Yn aj vj (.tup []) t).symm,fun id=>rfl⟩
 | true=>
  simp only[Ki] at h2;obtain⟨ce,h3,h4,rfl⟩:=Qu h2;have aa:=Zif hg (Ux h3);have am : XO C M nx i (Zz os i) oi.op s.1 s.2=some ce:=by
   rw[← h3];unfold XO;rw[Qk C M s.2 (nx+64*i) (XT (o:=oi) ai)]
  have ag:∀ (sl:Sl) (hp:Hp),ce.on oi.dst sl hp=(Zh sl oi.dst ce.eff.val,ce.eff.on hp):=by
   intro sl hp;unfold Zb.on;rw[aa];rfl
  refine⟨ce.on oi.dst s.1 s.2,?_,?_⟩
  ·simp only[Zp,ad,Zc,Zt,al,Ki,Q3];rw[am,Zc,Kw h4]
  ·rw[ag];refine⟨(Zh (Zh s.1 oi.dst ce.eff.val) oj.dst vj,ce.eff.on s.2),by simp only[Zp,ae,Zc,af];exact ak (Zh s.1 oi.dst ce.eff.val,ce.eff.on s.2) (ZZ ab) (XT (o:=oj) ab),fun t=>?_,fun k=>?_⟩
   ·rw[ag];exact(Yn aj vj ce.eff.val t).symm
   ·rw[ag]
theorem awayV_ptr {sl:Sl} {xs:List Opd} {v:AV} (h:Wy sl xs v=true) {k off:Nat} (e:v=.ptr k off):∀ z∈xs,k∉Zj (evO sl z):=by
 subst e;exact fun z hz=>Zec (Jq h z hz)
structure Zef (r:Sl) (oX oY:CO):Prop where
 opd:∀ x∈Zo oX.op,okV (evO r x)=true
 dst:∀ t,oX.dst=some t→okV (gs r t)=true
 arg:∀ y∈Zcv oY.op,okV (evO r y)=true
 away:∀ y∈Zcv oY.op,∀ k off,evO r y=.ptr k off→∀ z∈Zo oX.op,k∉Zj (evO r z)
theorem Zg5 {sl:Sl}:∀ {xs:List Opd},okL sl xs=true→∀ x∈xs,okV (evO sl x)=true
 | [],_,x,hx=>by simp at hx
 | y :: ys,h,x,hx=>by
  simp only[okL,Kc] at h;rcases Ke.1 hx with rfl | hx
  ·exact h.1
  ·exact Zg5 h.2 x hx
theorem Zf7 {sl:Sl} {xs:List Opd}:∀ {ys:List Opd},JF sl xs ys=true→∀ y∈ys,Wy sl xs (evO sl y)=true
 | [],_,x,hx=>by simp at hx
 | y :: ys,h,x,hx=>by
  simp only[JF,Kc] at h;rcases Ke.1 hx with rfl | hx
  ·exact h.1
  ·exact Zf7 h.2 x hx
theorem Zig {r:Sl} {oX oY:CO} (hm:Xe oX.op=false) (hc:Vx oY.op=true) (h:YB r oX.dst oX.op oY.op=true):Zef r oX oY:=by
 obtain⟨f,as,ho⟩:∃ f as,oY.op=.call (.f f) as:=by
  cases ho:oY.op<;>rw[ho] at hc<;>first | (cases hc;done) | skip
  rename_i f as;cases f<;>first | (cases hc;done) | exact⟨_,_,rfl⟩
 rw[ho] at h;have h' : (okL r (Zo oX.op)&&(okD r oX.dst&&(okL r as&&JF r (Zo oX.op) as)))=true:=by
  cases hx:oX.op<;>rw[hx] at h hm<;>first | (cases hm;done) | exact h
 simp only[Kc] at h';obtain⟨h1,h2,h3,h4⟩:=h';refine⟨Zg5 h1,fun t ht=>?_,?_,?_⟩
 ·rw[ht] at h2;exact h2
 ·rw[ho];exact Zg5 h3
 ·rw[ho];intro y hy k off e;exact awayV_ptr (Zf7 h4 y hy) e
theorem Zef.move {r r' : Sl} {oX oY:CO} (h:Zef r oX oY) (h1:∀ n∈(Zo oX.op).flatMap VU,okV (gs r n)=true→gs r' n=gs r n) (h2:∀ n,oX.dst=some n→okV (gs r n)=true→gs r' n=gs r n)
  (h3:∀ n∈(Zcv oY.op).flatMap VU,okV (gs r n)=true→gs r' n=gs r n):Zef r' oX oY:=by
 have e1:∀ x∈Zo oX.op,evO r' x=evO r x:=fun x hx=>by
  have ho:=h.opd x hx;cases x with
  | t n=>exact h1 n (Kk.2 ⟨_,hx,by simp[VU]⟩) ho
  | _=>rfl
 have e3:∀ x∈Zcv oY.op,evO r' x=evO r x:=fun x hx=>by
  have ho:=h.arg x hx;cases x with
  | t n=>exact h3 n (Kk.2 ⟨_,hx,by simp[VU]⟩) ho
  | _=>rfl
 refine⟨fun x hx=>by rw[e1 x hx];exact h.opd x hx,fun t ht=>by rw[h2 t ht (h.dst t ht)];exact h.dst t ht,fun x hx=>by rw[e3 x hx];exact h.arg x hx,fun y hy k off e z hz=>?_⟩;rw[e3 y hy] at e;rw[e1 z hz];exact h.away y hy k off e z hz
theorem Zeg {C:Orc} {M:Zf} (hM:∀ f,M f 99=false) {os:List CO} {nx x y:Nat} {oX oY:CO} (ay:os[x]?=some oX) (a1:os[y]?=some oY) (a2:x≠y) (ak:Z6 oY.dst (Xb oX)=true) (aw:Z6 oX.dst (Xb oY)=true)
  (ad:Z6 oX.dst (Xb oX)=true) (al:Z6 oY.dst (Xb oY)=true)
  (ar:∀ (k:Nat) (o:CO),os[k]?=some o→∀ x∈Zo o.op,Xd x=true) {s:Sl×Hp} {r:Sl} {U:Nat→Prop} (hs:ZaD nt s U) (a3:Qi U (nx+64*x)) (a4:Qi U (nx+64*y))
  (ae:Vx oY.op=true) {ce:Zb} (a5:vop C M s.1 s.2 (nx+64*y) oY.op=some ce) (a6:Qf (nx+64*y) (nx+64*y+64) ce.eff.adds=true)
  (am:∀ n,oX.dst≠some n→oY.dst≠some n→gs r n=kill ce.gone (gs s.1 n)) (aa:Zef r oX oY) :
  ce.eff.dels=[]∧(∀ z∈Zo oX.op,evO (ce.on oY.dst s.1 s.2).1 z=evO s.1 z)∧(∀ z∈Zo oX.op,∀ id∈Zj (evO s.1 z),id∉ce.gone)∧(∀ z∈Zo oX.op,Zbx ce.gone s.2 (ce.on oY.dst s.1 s.2).2 (evO s.1 z)) ∧
  (∀ k,nx+64*x≤k→k<nx+64*x+64→(∀ o',(k,o')∉ce.eff.sets)∧(∀ o',(k,o')∉ce.eff.adds)∧k∉ce.eff.frz∧k∉ce.gone):=by
 obtain⟨F,A,I,Γ,a,w,au⟩:=hs;have good:∀ (k:Nat) (o:CO),os[k]?=some o→∀ x∈Zo o.op,Zbs U (evO s.1 x):=by
  intro k o ho x hx;cases x with
  | t n=>exact au.good n
  | v y=>exact YT (ar k o ho _ hx)
  | f n=>exact⟨fun id av=>by simp[evO,Zj,Zm] at av,fun f a7 h c hc=>by cases h;simp at hc⟩
 obtain⟨f,as,ho⟩:∃ f as,oY.op=.call (.f f) as:=by
  cases ho:oY.op<;>rw[ho] at ae<;>first | (cases ae;done) | skip
  rename_i f as;cases f<;>first | (cases ae;done) | exact⟨_,_,rfl⟩
 have an:=a5;rw[ho] at an;simp only[vop,evO,W8,LI] at an;obtain⟨k1,k2,k3,k4⟩:=Zlt an (hM _);have ab:∀ n,(Opd.t n)∈Zo oX.op→n∈Xb oX:=fun n hn=>Kd.2 (.inl (Kk.2 ⟨_,hn,by simp[VU]⟩));have ai:∀ n,(Opd.t n)∈as→n∈Xb oY:=fun n hn=>Kd.2 (.inl (Kk.2 ⟨.t n,by rw[ho];simp[Zo,hn],by simp[VU]⟩));have ne:∀ {d:Option Nat} {l:List Nat} {n:Nat},Z6 d l=true→n∈l→d≠some n:=fun {d l n} h hn e=>by
  rw[e] at h;simp only[Z6,KJ,KG,KP] at h;exact h hn
 have ax:∀ z∈Zo oX.op,evO r z=evO s.1 z∧∀ id∈Zj (evO s.1 z),id∉ce.gone:=by
  intro z hz;have af:=aa.opd z hz;cases z with
  | t n=>
   have e:=am n (ne ad (ab n hz)) (ne ak (ab n hz));simp only[evO] at af ⊢;rw[e] at af ⊢;have:=Wh af;exact⟨this,Zmw this⟩
  | v c=>
   have:=ar x oX ay _ hz;simp only[Xd,Kc,List.isEmpty_iff] at this;exact⟨rfl,fun id av=>by simp only[evO] at av;rw[this.1] at av;simp at av⟩
  | f n=>simp only[evO,okV,okC] at af;cases af
 have az:∀ z∈as,evO r z=evO s.1 z:=by
  intro z hz;have af:=aa.arg z (by rw[ho];exact hz);cases z with
  | t n=>
   have e:=am n (ne aw (ai n hz)) (ne al (ai n hz));simp only[evO] at af ⊢;rw[e] at af ⊢;exact Wh af
  | _=>rfl
 have a0:∀ id,(∃ o,lkp s.2 id=some o)→U id:=fun id ⟨o,h⟩=>au.id_in h;have uX:∀ k,nx+64*x≤k→k<nx+64*x+64→¬U k:=fun k h1 h2=>a3 k h1 h2;have aj:=YK a6;have ag:∀ z∈Zo oX.op,∀ k∈Zj (evO s.1 z),∀ o',(k,o')∉ce.eff.sets:=by
  intro z hz k hk o' ao;rcases (k4 k o' ao).2 with h | ⟨v,hv,ap⟩
  ·exact(ax z hz).2 k hk h
  ·obtain⟨y',aq,rfl⟩:=J7 hv;have ah:=aa.arg y' (by rw[ho];exact aq);rw[az y' aq] at ah;cases hp:evO s.1 y' with
   | ptr a b=>
    rw[hp] at ap;simp only[Ve,KV] at ap;subst ap;have:=aa.away y' (by rw[ho];exact aq) k b (by rw[az y' aq,hp]) z hz;rw[(ax z hz).1] at this;exact this hk
   | clo g cs=>rw[hp] at ah;simp only[okV,okC] at ah;cases ah
   | _=>rw[hp] at ap;simp[Ve] at ap
 refine⟨k1,fun z hz=>?_,fun z hz=>(ax z hz).2,fun z hz k hk=>?_,fun k g1 g2=>⟨fun o' ao=>?_,fun o' ao=>?_,fun hf=>?_,fun hg=>?_⟩⟩
 ·cases z with
  | t n=>
   show gs (Zh (Qj ce.gone s.1) oY.dst ce.eff.val) n=gs s.1 n;rw[ZX,Kn (ne ak (ab n hz)),Z8];have e:=am n (ne ad (ab n hz)) (ne ak (ab n hz));have:=aa.opd _ hz;simp only[evO] at this;rw[e] at this;exact Wh this
  | _=>rfl
 ·have a8:U k:=(good x oX ay z hz).1 k hk;show Wi ce.gone (lkp s.2 k) (lkp (ce.eff.on (XL ce.gone s.2)) k);unfold Eff.on;rw[k1];simp only[ZI];rw[Zn,Zn,ZL,XR]
  ·exact Zik _
  ·exact ag z hz k hk
  ·intro o' ao;obtain⟨h1,h2⟩:=aj k o' ao;exact a4 k h1 h2 a8
 ·exact uX k g1 g2 (a0 k (k4 k o' ao).1)
 ·have:=aj k o' ao;rcases Lv a2 with h | h<;>omega
 ·obtain⟨v,hv,ap⟩:=k2 k hf;obtain⟨y',aq,rfl⟩:=J7 hv;exact uX k g1 g2 ((good y oY a1 y' (by rw[ho];simp[Zo,aq])).1 k ap)
 ·exact uX k g1 g2 (a0 k (k3 k hg))
theorem Zjm {C:Orc} {M:Zf} (hM:∀ f,M f 99=false) {os:List CO} {nx i j:Nat} {oi oj:CO} (ah:os[i]?=some oi) (av:os[j]?=some oj) (az:Zz os j=false) (a0:i≠j) (aw:Qw oj oi=true)
  (ad:Z6 oj.dst (Xb oj)=true) (ae:Z6 oi.dst (Xb oi)=true)
  (ai:∀ (k:Nat) (o:CO),os[k]?=some o→∀ x∈Zo o.op,Xd x=true) {s s1 s2:Sl×Hp} {U:Nat→Prop} (hs:ZaD nt s U) (a1:Qi U (nx+64*i)) (ap:Qi U (nx+64*j))
  (aj:Vx oi.op=true) (a2:ZeU oj.op=true) (aa:Zef s2.1 oj oi) {t:Nat} (ht:oj.dst=some t)
  (h1:Zp C M os nx j s=some s1) (h2:Zp C M os nx i s1=some s2):∃ t1,Zp C M os nx i s=some t1∧∃ t2,Zp C M os nx j t1=some t2∧QD t2 s2:=by
 have a3:=hs;obtain⟨F,A,I,Γ,a,w,af⟩:=a3;simp only[Qw,Kc] at aw;obtain⟨⟨am,an⟩,ao⟩:=aw;have good:∀ (k:Nat) (o:CO),os[k]?=some o→∀ x∈Zo o.op,Zbs U (evO s.1 x):=by
  intro k o ho x hx;cases x with
  | t n=>exact af.good n
  | v y=>exact YT (ai k o ho _ hx)
  | f n=>exact⟨fun id a4=>by simp[evO,Zj,Zm] at a4,fun f a5 h c hc=>by cases h;simp at hc⟩
 have ab:∀ s:Sl×Hp,Zp C M os nx j s=Zt C M nx j false oj s:=fun s=>by simp only[Zp,av,Zc,az]
 rw[ab] at h1;simp only[Zp,ah,Zc] at h2;obtain⟨v,ax,a6,aq,hX⟩:∃ v ax,s1=(Zh s.1 oj.dst v,Zd s.2 ax)∧(∀ k x,(k,x)∈ax→nx+64*j≤k∧k<nx+64*j+64) ∧
   ((ZC s.1 oj.guard=some false∧v=.tup []∧ax=[])∨(ZC s.1 oj.guard=some true∧∃ ce,Zcj ce∧vop C M s.1 s.2 (nx+64*j) oj.op=some ce∧Qf (nx+64*j) (nx+64*j+64) ce.eff.adds=true∧v=ce.eff.val∧ax=ce.eff.adds)):=by
  rcases Zjv h1 with ⟨g1,g2⟩ | ⟨g1,ce,g2,g3,g4,g5⟩
  ·exact⟨.tup [],[],g2,fun k x h=>by simp at h,.inl ⟨g1,rfl,rfl⟩⟩
  ·exact⟨ce.eff.val,ce.eff.adds,g5,YK g4,.inr ⟨g1,ce,g2,g3,g4,rfl,rfl⟩⟩
 subst a6;unfold Zt at h2;obtain⟨b,hw,h2⟩:=Za h2;have ay : ZC s.1 oi.guard=some b:=by rw[← hw];exact(ZZ am).symm
 cases b with
 | false=>
  simp only[Ka,Kh] at h2;cases h2;refine⟨(Zh s.1 oi.dst (.tup []),s.2),by simp only[Zp,ah,Zc];exact Q2 ay,?_⟩;refine⟨(Zh (Zh s.1 oi.dst (.tup [])) oj.dst v,Zd s.2 ax),?_,fun t=>(Yn an v (.tup []) t).symm,fun id=>rfl⟩;rw[ab];have ak:ZC (Zh s.1 oi.dst (.tup [])) oj.guard=ZC s.1 oj.guard:=ZZ ao;rcases hX with ⟨g1,rfl,rfl⟩ | ⟨g1,ce,g2,g3,g4,rfl,rfl⟩
  ·exact Q2 (s:=(Zh s.1 oi.dst (.tup []),s.2)) (ak.trans g1)
  ·refine J9 (s:=(Zh s.1 oi.dst (.tup []),s.2)) (ak.trans g1) g2 ?_ g4;rw[← g3];exact Qk C M s.2 (nx+64*j) (XT (o:=oj) ao)
 | true=>
  simp only[Ki] at h2;obtain⟨ce,h3,h4,rfl⟩:=Qu h2;have a7:vop C M s.1 s.2 (nx+64*i) oi.op=some ce:=by
   have h5:=Ux h3;rw[← h5,Qk C M (Zd s.2 ax) (nx+64*i) (XT (o:=oi) am)];exact Vi (af.agree (XU ap aq s.2)) C M _ (good i oi ah)
  have a8 : XO C M nx i (Zz os i) oi.op s.1 s.2=some ce:=by
   rw[← h3];unfold XO;rw[Qk C M (Zd s.2 ax) (nx+64*i) (XT (o:=oi) am),Vi (af.agree (XU ap aq s.2)) C M _ (good i oi ah)]
  have ar:∀ n,oj.dst≠some n→oi.dst≠some n→gs (ce.on oi.dst (Zh s.1 oj.dst v) (Zd s.2 ax)).1 n=kill ce.gone (gs s.1 n):=fun n e1 e2=>by
   show gs (Zh (Qj ce.gone (Zh s.1 oj.dst v)) oi.dst ce.eff.val) n=_;rw[ZX,Kn e2,Z8,ZX,Kn e1]
  obtain⟨c1,c2,c3,c4,c5⟩:=Zeg (nt:=nt) hM av ah (Ne.symm a0) ao am ad ae ai hs ap a1 aj a7 h4 ar aa;have e0:gs (ce.on oi.dst (Zh s.1 oj.dst v) (Zd s.2 ax)).1 t=kill ce.gone v:=by
   show gs (Zh (Qj ce.gone (Zh s.1 oj.dst v)) oi.dst ce.eff.val) t=_;rw[ZX,Kn,Z8,ZX,Kw ht];intro e;rw[ht,e] at an;simp[Vo] at an
  have ag:kill ce.gone v=v:=by
   have h5:=aa.dst t ht;rw[e0] at h5;exact Wh h5
  have au:okV v=true:=by
   have h5:=aa.dst t ht;rw[e0,ag] at h5;exact h5
  refine⟨ce.on oi.dst s.1 s.2,?_,?_⟩
  ·simp only[Zp,ah,Zc,Zt,ay,Ki,Q3];rw[a8,Zc,Kw h4]
  ·have ak:ZC (ce.on oi.dst s.1 s.2).1 oj.guard=ZC s.1 oj.guard:=by
    show ZC (Zh (Qj ce.gone s.1) oi.dst ce.eff.val) oj.guard=_;rw[ZZ ao];exact Zaa fun q _=>Z8 _ _ _
   have al:(∀ k o,(k,o)∈ax→Qo ce.gone o=o)∧Zt C M nx j false oj (ce.on oi.dst s.1 s.2)=some (Zh (ce.on oi.dst s.1 s.2).1 oj.dst v,Zd (ce.on oi.dst s.1 s.2).2 ax):=by
    rcases hX with ⟨g1,rfl,rfl⟩ | ⟨g1,cx,g2,g3,g4,rfl,rfl⟩
    ·exact⟨fun k o h=>by simp at h,Q2 (ak.trans g1)⟩
    ·obtain⟨e1,e2⟩:=Zlr a2 c2 c4 (fun k h6 h7=>(c5 k h6 h7).2.2.2) g3 g4 g2.frz au ag;exact⟨e2,J9 (ak.trans g1) g2 e1 g4⟩
   obtain⟨e3,e4⟩:=al;refine⟨_,by rw[ab];exact e4,?_⟩;exact Zku (ce:=ce) (dX:=oj.dst) (dY:=oi.dst) (v:=v) (ax:=ax) (s:=s) an c1 (fun k o ho=>by
    obtain⟨h6,h7⟩:=aq k o ho;obtain⟨m1,m2,m3,_⟩:=c5 k h6 h7;exact⟨m1,m2,m3⟩) e3 ag
theorem Zih {C:Orc} {M:Zf} (hM:∀ f,M f 99=false) {os:List CO} {nx i j:Nat} {oi oj:CO} (ar:os[i]?=some oi) (ag:os[j]?=some oj) (ay:Zz os i=false) (az:i≠j) (au:Qw oj oi=true)
  (ad:Z6 oi.dst (Xb oi)=true) (ae:Z6 oj.dst (Xb oj)=true)
  (ah:∀ (k:Nat) (o:CO),os[k]?=some o→∀ x∈Zo o.op,Xd x=true) {s s1 s2:Sl×Hp} {U:Nat→Prop} (hs:ZaD nt s U) (av:Qi U (nx+64*i)) (a0:Qi U (nx+64*j))
  (ai:Vx oj.op=true) (a1:ZbP oi.op=true) (ab:Zef s2.1 oi oj) {t:Nat} (ht:oi.dst=some t)
  (h1:Zp C M os nx j s=some s1) (h2:Zp C M os nx i s1=some s2):∃ t1,Zp C M os nx i s=some t1∧∃ t2,Zp C M os nx j t1=some t2∧QD t2 s2:=by
 have a2:=hs;obtain⟨F,A,I,Γ,a,w,aj⟩:=a2;simp only[Qw,Kc] at au;obtain⟨⟨an,ao⟩,ak⟩:=au;have af : Vo oi.dst oj.dst=true:=by
  cases hd:oi.dst<;>cases he:oj.dst<;>rw[hd,he] at ao<;>first | rfl | (simp only[Vo,bne_iff_ne,ne_eq] at ao ⊢;exact fun e=>ao e.symm)
 have good:∀ (k:Nat) (o:CO),os[k]?=some o→∀ x∈Zo o.op,Zbs U (evO s.1 x):=by
  intro k o ho x hx;cases x with
  | t n=>exact aj.good n
  | v y=>exact YT (ah k o ho _ hx)
  | f n=>exact⟨fun id a3=>by simp[evO,Zj,Zm] at a3,fun f a4 h c hc=>by cases h;simp at hc⟩
 have aa:∀ s:Sl×Hp,Zp C M os nx i s=Zt C M nx i false oi s:=fun s=>by simp only[Zp,ar,Zc,ay]
 rw[aa] at h2;simp only[Zp,ag,Zc] at h1;unfold Zt at h1;obtain⟨b,hw,h1⟩:=Za h1;cases b with
 | false=>
  simp only[Ka,Kh] at h1;cases h1;have al:ZC (Zh s.1 oj.dst (.tup [])) oi.guard=ZC s.1 oi.guard:=ZZ an;rcases Zjv h2 with ⟨g1,g2⟩ | ⟨g1,ce,g2,g3,g4,g5⟩
  ·subst g2;refine⟨(Zh s.1 oi.dst (.tup []),s.2),by rw[aa];exact Q2 (al.symm.trans g1),(Zh (Zh s.1 oi.dst (.tup [])) oj.dst (.tup []),s.2),?_,fun t=>Yn af _ _ t,fun id=>rfl⟩;simp only[Zp,ag,Zc];exact Q2 (s:=(Zh s.1 oi.dst (.tup []),s.2)) ((ZZ ak).trans hw)
  ·subst g5;refine⟨(Zh s.1 oi.dst ce.eff.val,Zd s.2 ce.eff.adds),?_,(Zh (Zh s.1 oi.dst ce.eff.val) oj.dst (.tup []),Zd s.2 ce.eff.adds),?_,fun t=>Yn af _ _ t,fun id=>rfl⟩
   ·rw[aa];refine J9 (al.symm.trans g1) g2 ?_ g4;rw[← g3];exact(Qk C M s.2 (nx+64*i) (XT (o:=oi) an)).symm
   ·simp only[Zp,ag,Zc];exact Q2 (s:=(Zh s.1 oi.dst ce.eff.val,Zd s.2 ce.eff.adds)) ((ZZ ak).trans hw)
 | true=>
  simp only[Ki] at h1;obtain⟨ce,h3,h4,rfl⟩:=Qu h1;have a5:vop C M s.1 s.2 (nx+64*j) oj.op=some ce:=Ux h3;have al:ZC (ce.on oj.dst s.1 s.2).1 oi.guard=ZC s.1 oi.guard:=by
   show ZC (Zh (Qj ce.gone s.1) oj.dst ce.eff.val) oi.guard=_;rw[ZZ an];exact Zaa fun q _=>Z8 _ _ _
  obtain⟨v,ax,a6,aw,hX⟩:∃ v ax,s2=(Zh (ce.on oj.dst s.1 s.2).1 oi.dst v,Zd (ce.on oj.dst s.1 s.2).2 ax)∧(∀ k x,(k,x)∈ax→nx+64*i≤k∧k<nx+64*i+64) ∧
    ((ZC s.1 oi.guard=some false∧v=.tup []∧ax=[])∨(ZC s.1 oi.guard=some true∧∃ cx,Zcj cx∧vop C M (ce.on oj.dst s.1 s.2).1 (ce.on oj.dst s.1 s.2).2 (nx+64*i) oi.op=some cx∧Qf (nx+64*i) (nx+64*i+64) cx.eff.adds=true∧v=cx.eff.val∧ax=cx.eff.adds)):=by
   rcases Zjv h2 with ⟨g1,g2⟩ | ⟨g1,cx,g2,g3,g4,g5⟩
   ·exact⟨.tup [],[],g2,fun k x h=>by simp at h,.inl ⟨al.symm.trans g1,rfl,rfl⟩⟩
   ·exact⟨cx.eff.val,cx.eff.adds,g5,YK g4,.inr ⟨al.symm.trans g1,cx,g2,g3,g4,rfl,rfl⟩⟩
  subst a6;have ap:∀ n,oi.dst≠some n→oj.dst≠some n→gs (Zh (ce.on oj.dst s.1 s.2).1 oi.dst v) n=kill ce.gone (gs s.1 n):=fun n e1 e2=>by
   rw[ZX,Kn e1];show gs (Zh (Qj ce.gone s.1) oj.dst ce.eff.val) n=_;rw[ZX,Kn e2,Z8]
  obtain⟨c1,c2,c3,c4,c5⟩:=Zeg (nt:=nt) hM ar ag az an ak ad ae ah hs av a0 ai a5 h4 ap ab;have aq:okV v=true:=by
   have h5:=ab.dst t ht;simp only[ZX,Kw ht] at h5;exact h5
  have am:kill ce.gone v=v∧(∀ k o,(k,o)∈ax→Qo ce.gone o=o)∧Zt C M nx i false oi s=some (Zh s.1 oi.dst v,Zd s.2 ax):=by
   rcases hX with ⟨g1,rfl,rfl⟩ | ⟨g1,cx,g2,g3,g4,rfl,rfl⟩
   ·exact⟨rfl,fun k o h=>by simp at h,Q2 g1⟩
   ·obtain⟨e1,e2,e3⟩:=Zju a1 c2 c4 c3 (fun k h6 h7=>(c5 k h6 h7).2.2.2) g3 g4 g2.frz aq;exact⟨e2,e3,J9 g1 g2 e1 g4⟩
  obtain⟨hk,e3,e4⟩:=am;refine⟨(Zh s.1 oi.dst v,Zd s.2 ax),by rw[aa];exact e4,ce.on oj.dst (Zh s.1 oi.dst v) (Zd s.2 ax),?_,?_⟩
  ·simp only[Zp,ag,Zc,Zt];have a7:ZC (Zh s.1 oi.dst v) oj.guard=some true:=(ZZ ak).trans hw;simp only[a7,Zc,Ki,Q3];have:XO C M nx j (Zz os j) oj.op (Zh s.1 oi.dst v) (Zd s.2 ax)=some ce:=by
    rw[← h3];unfold XO;rw[Qk C M (Zd s.2 ax) (nx+64*j) (XT (o:=oj) ak),← Vi (aj.agree (XU av aw s.2)) C M _ (good j oj ag)]
   rw[this,Zc,Kw h4]
  ·exact(Zku (ce:=ce) (dX:=oi.dst) (dY:=oj.dst) (v:=v) (ax:=ax) (s:=s) af c1 (fun k o ho=>by
    obtain⟨h6,h7⟩:=aw k o ho;obtain⟨m1,m2,m3,_⟩:=c5 k h6 h7;exact⟨m1,m2,m3⟩) e3 hk).symm
theorem UH {C:Orc} {M:Zf} {nx j:Nat} {oj:CO} {x:Opd} (hx:oj.op=.move x) {s:Sl×Hp} {b:Bool} (hw:ZC s.1 oj.guard=some b) :
  Zt C M nx j false oj s=some (Zh s.1 oj.dst (if b then evO s.1 x else .tup []),s.2):=by
 unfold Zt;rw[hw,Zc];cases b
 ·rfl
 ·simp only[Ki,hx,XO,Ka,Kh,vop];rfl
theorem Zjn {C:Orc} {M:Zf} {os:List CO} {nx i j:Nat} {oi oj:CO} (af:os[i]?=some oi) (am:os[j]?=some oj) (an:Zz os j=false) (ai:Qw oj oi=true)
  (ao:∀ (k:Nat) (o:CO),os[k]?=some o→∀ x∈Zo o.op,Xd x=true)
  {s s1 s2:Sl×Hp} (hm:Xe oj.op=true) {t:Nat} (ht:oj.dst=some t) (aj:okV (gs s2.1 t)=true)
  (h1:Zp C M os nx j s=some s1) (h2:Zp C M os nx i s1=some s2):∃ t1,Zp C M os nx i s=some t1∧∃ t2,Zp C M os nx j t1=some t2∧QD t2 s2:=by
 obtain⟨x,hx⟩:∃ x,oj.op=.move x:=by
  cases ho:oj.op<;>rw[ho] at hm<;>first | (cases hm;done) | exact⟨_,rfl⟩
 simp only[Qw,Kc] at ai;obtain⟨⟨ak,ad⟩,ab⟩:=ai;have aa:∀ s:Sl×Hp,Zp C M os nx j s=Zt C M nx j false oj s:=fun s=>by simp only[Zp,am,Zc,an]
 rw[aa] at h1;obtain⟨bj,ag⟩:∃ bj,ZC s.1 oj.guard=some bj:=by
  unfold Zt at h1;obtain⟨b,hw,_⟩:=Za h1;exact⟨b,hw⟩
 rw[UH hx ag] at h1;have h1:=(Option.some.inj h1).symm;subst h1;simp only[Zp,af,Zc] at h2;unfold Zt at h2;obtain⟨b,hw,h2⟩:=Za h2;have al : ZC s.1 oi.guard=some b:=by rw[← hw];exact(ZZ ak).symm
 have ap:oi.dst≠some t:=fun e=>by rw[ht,e] at ad;simp[Vo] at ad
 have ae:∀ n,x=.t n→oi.dst≠some n:=fun n e h=>by
  rw[h] at ab;simp only[Z6,KJ,KG,KP] at ab;exact ab (Kd.2 (.inl (by rw[hx,e];simp[Zo,VU])))
 cases b with
 | false=>
  simp only[Ka,Kh] at h2;cases h2;refine⟨(Zh s.1 oi.dst (.tup []),s.2),by simp only[Zp,af,Zc];exact Q2 al,?_⟩;refine⟨_,by rw[aa];exact UH (s:=(Zh s.1 oi.dst (.tup []),s.2)) hx ((ZZ ab).trans ag),?_⟩;have:evO (Zh s.1 oi.dst (.tup [])) x=evO s.1 x:=XT (o:=oj) ab x (by rw[hx];simp[Zo]);simp only[this];exact⟨fun t=>(Yn ad _ _ t).symm,fun id=>rfl⟩
 | true=>
  simp only[Ki] at h2;obtain⟨ce,h3,h4,rfl⟩:=Qu h2;have aq : XO C M nx i (Zz os i) oi.op s.1 s.2=some ce:=by
   rw[← h3];unfold XO;rw[Qk C M s.2 (nx+64*i) (XT (o:=oi) ak)]
  refine⟨ce.on oi.dst s.1 s.2,by simp only[Zp,af,Zc,Zt,al,Ki,Q3];rw[aq,Zc,Kw h4],?_⟩;have ah:ZC (ce.on oi.dst s.1 s.2).1 oj.guard=some bj:=by
   show ZC (Zh (Qj ce.gone s.1) oi.dst ce.eff.val) oj.guard=_;rw[ZZ ab,← ag];exact Zaa fun q _=>Z8 _ _ _
  refine⟨_,by rw[aa];exact UH hx ah,?_⟩;have e0:gs (ce.on oi.dst (Zh s.1 oj.dst (if bj then evO s.1 x else .tup [])) s.2).1 t=kill ce.gone (if bj then evO s.1 x else .tup []):=by
   show gs (Zh (Qj ce.gone (Zh s.1 oj.dst _)) oi.dst ce.eff.val) t=_;rw[ZX,Kn ap,Z8,ZX,Kw ht]
  rw[e0] at aj;have hk:=Wh aj;have ev:(if bj then evO (ce.on oi.dst s.1 s.2).1 x else .tup [])=(if bj then evO s.1 x else .tup []):=by
   cases bj with
   | false=>rfl
   | true=>
    simp only[Ki] at hk ⊢;cases x with
    | t n=>
     show gs (Zh (Qj ce.gone s.1) oi.dst ce.eff.val) n=gs s.1 n;rw[ZX,Kn (ae n rfl),Z8];exact hk
    | _=>rfl
  rw[ev];refine⟨fun q=>?_,fun id=>rfl⟩;show gs (Zh (Zh (Qj ce.gone s.1) oi.dst ce.eff.val) oj.dst _) q=gs (Zh (Qj ce.gone (Zh s.1 oj.dst _)) oi.dst ce.eff.val) q;simp only[ZX,Z8];by_cases hq:oj.dst=some q
  ·have:¬oi.dst=some q:=fun e=>by rw[hq,e] at ad;simp[Vo] at ad
   simp only[hq,Ki,this,Kh];exact hk.symm
  ·simp[hq]
theorem Zjo {C:Orc} {M:Zf} {os:List CO} {nx i j:Nat} {oi oj:CO} (am:os[i]?=some oi) (ag:os[j]?=some oj) (ar:Zz os i=false) (an:Qw oj oi=true)
  (ah:∀ (k:Nat) (o:CO),os[k]?=some o→∀ x∈Zo o.op,Xd x=true)
  {s s1 s2:Sl×Hp} (hm:Xe oi.op=true) {t:Nat} (ht:oi.dst=some t) (ai:okV (gs s2.1 t)=true)
  (h1:Zp C M os nx j s=some s1) (h2:Zp C M os nx i s1=some s2):∃ t1,Zp C M os nx i s=some t1∧∃ t2,Zp C M os nx j t1=some t2∧QD t2 s2:=by
 obtain⟨x,hx⟩:∃ x,oi.op=.move x:=by
  cases ho:oi.op<;>rw[ho] at hm<;>first | (cases hm;done) | exact⟨_,rfl⟩
 simp only[Qw,Kc] at an;obtain⟨⟨ad,aj⟩,ak⟩:=an;have aa:∀ s:Sl×Hp,Zp C M os nx i s=Zt C M nx i false oi s:=fun s=>by simp only[Zp,am,Zc,ar]
 rw[aa] at h2;simp only[Zp,ag,Zc] at h1;unfold Zt at h1;obtain⟨b,hw,h1⟩:=Za h1;have af:∀ n,x=.t n→oj.dst≠some n:=fun n e h=>by
  rw[h] at ad;simp only[Z6,KJ,KG,KP] at ad;exact ad (Kd.2 (.inl (by rw[hx,e];simp[Zo,VU])))
 have ao:∀ (bi:Bool) (e:evO s1.1 x=evO s.1 x∨bi=false) (g1:ZC s.1 oi.guard=some bi) (g2:ZC s1.1 oi.guard=some bi),s2=(Zh s1.1 oi.dst (if bi then evO s.1 x else .tup []),s1.2):=by
  intro bi e g1 g2;rw[UH hx g2] at h2;rw[← Option.some.inj h2];rcases e with e | e
  ·rw[e]
  ·rw[e];rfl
 cases b with
 | false=>
  simp only[Ka,Kh] at h1;cases h1;have ae:ZC (Zh s.1 oj.dst (.tup [])) oi.guard=ZC s.1 oi.guard:=ZZ ad;obtain⟨bi,ab⟩:∃ bi,ZC s.1 oi.guard=some bi:=by
   unfold Zt at h2;obtain⟨b,hw,_⟩:=Za h2;exact⟨b,ae.symm.trans hw⟩
  have e:evO (Zh s.1 oj.dst (.tup [])) x=evO s.1 x:=XT (o:=oi) ad x (by rw[hx];simp[Zo]);have h5:=ao bi (.inl e) ab (ae.trans ab);subst h5;refine⟨_,by rw[aa];exact UH hx ab,(Zh (Zh s.1 oi.dst (if bi then evO s.1 x else .tup [])) oj.dst (.tup []),s.2),?_,fun t=>?_,fun id=>rfl⟩
  ·simp only[Zp,ag,Zc];exact Q2 (s:=(Zh s.1 oi.dst (if bi then evO s.1 x else .tup []),s.2)) ((ZZ ak).trans hw)
  ·exact(Yn aj _ _ t).symm
 | true=>
  simp only[Ki] at h1;obtain⟨ce,h3,h4,rfl⟩:=Qu h1;have ae:ZC (ce.on oj.dst s.1 s.2).1 oi.guard=ZC s.1 oi.guard:=by
   show ZC (Zh (Qj ce.gone s.1) oj.dst ce.eff.val) oi.guard=_;rw[ZZ ad];exact Zaa fun q _=>Z8 _ _ _
  obtain⟨bi,ab⟩:∃ bi,ZC s.1 oi.guard=some bi:=by
   unfold Zt at h2;obtain⟨b,hw,_⟩:=Za h2;exact⟨b,ae.symm.trans hw⟩
  have ap:=h2;rw[UH hx (ae.trans ab)] at ap;have h6:=Option.some.inj ap;have hv:okV (if bi then evO (ce.on oj.dst s.1 s.2).1 x else .tup [])=true:=by
   rw[← h6] at ai;simp only[ZX,Kw ht] at ai;exact ai
  have aq:kill ce.gone (if bi then evO s.1 x else .tup [])=(if bi then evO s.1 x else .tup [])∧(evO (ce.on oj.dst s.1 s.2).1 x=evO s.1 x∨bi=false):=by
   cases bi with
   | false=>exact⟨rfl,.inr rfl⟩
   | true=>
    simp only[Ki] at hv ⊢;cases x with
    | t n=>
     have e:evO (ce.on oj.dst s.1 s.2).1 (.t n)=kill ce.gone (gs s.1 n):=by
      show gs (Zh (Qj ce.gone s.1) oj.dst ce.eff.val) n=_;rw[ZX,Kn (af n rfl),Z8]
     rw[e] at hv ⊢;have:=Wh hv;exact⟨this,.inl this⟩
    | v c=>
     have hc:=ah i oi am (.v c) (by rw[hx];simp[Zo]);simp only[Xd,Kc,List.isEmpty_iff] at hc;exact⟨Zks hv fun id al=>by simp only[evO] at al;rw[hc.1] at al;simp at al,.inl rfl⟩
    | f n=>simp only[evO,okV,okC] at hv;cases hv
  have h5:=ao bi aq.2 ab (ae.trans ab);subst h5;refine⟨_,by rw[aa];exact UH hx ab,ce.on oj.dst (Zh s.1 oi.dst (if bi then evO s.1 x else .tup [])) s.2,?_,fun q=>?_,fun id=>rfl⟩
  ·simp only[Zp,ag,Zc,Zt];have au:ZC (Zh s.1 oi.dst (if bi then evO s.1 x else .tup [])) oj.guard=some true:=(ZZ ak).trans hw;simp only[au,Zc,Ki,Q3];have:XO C M nx j (Zz os j) oj.op (Zh s.1 oi.dst (if bi then evO s.1 x else .tup [])) s.2=some ce:=by
    rw[← h3];unfold XO;rw[Qk C M s.2 (nx+64*j) (XT (o:=oj) ak)]
   rw[this,Zc,Kw h4]
  ·show gs (Zh (Qj ce.gone (Zh s.1 oi.dst _)) oj.dst ce.eff.val) q=gs (Zh (Zh (Qj ce.gone s.1) oj.dst ce.eff.val) oi.dst _) q;simp only[ZX,Z8];by_cases hq:oi.dst=some q
   ·have:¬oj.dst=some q:=fun e=>by rw[hq,e] at aj;simp[Vo] at aj
    simp only[hq,Ki,this,Kh];exact aq.1
   ·simp[hq]
theorem Zkq {C:Orc} {M:Zf} (hM:∀ f,M f 99=false) (hC:Z4 P C) {ops:Array Oper} {os:List CO} (a9:ZY (Zdi P nt ops.toList) ops.toList=some os) {nx i:Nat} {ks:List Nat} {oi:CO} (ab:os[i]?=some oi)
  (ad:∀ (k:Nat) (o:CO),os[k]?=some o→∀ x∈Zo o.op,Xd x=true) :
  ∀ (js:List Nat) {s r:Sl×Hp} {U:Nat→Prop},ZaD nt s U→Qi U (nx+64*i)→(∀ j∈js,Qi U (nx+64*j))→(js++i :: ks).Pairwise (· < ·) →
   (∀ j∈js,∃ oj,os[j]?=some oj∧Qw oj oi=true∧((Zz os j=false∧(Zz os i=true→ZjM oi.op=true∨(ZeS oi.op=true∧(X2 oj.op=true∨(Y3 oj.op=true∧VV os j=true∧VV os i=true∧Zbu r.1 oj.op oi.op=true)))∨(Xe oj.op=true∧UX oi.op=true)∨(Xe oj.op=true∧Zdw os j=true∧okD r.1 oj.dst=true) ∨
    (Xe oj.op=false∧Vx oi.op=true∧ZeU oj.op=true∧VV os j=true∧VV os i=true∧Zdw os j=true∧YB r.1 oj.dst oj.op oi.op=true))) ∨
    (Zz os j=true∧Zz os i=false∧Xe oi.op=true∧Zdw os i=true∧okD r.1 oi.dst=true) ∨
    (Zz os j=true∧Zz os i=false∧Xe oi.op=false∧Vx oj.op=true∧ZbP oi.op=true∧VV os j=true∧VV os i=true∧Zdw os i=true∧YB r.1 oi.dst oi.op oj.op=true))) →
   (∀ j∈js++i :: ks,j<os.length)→UG C M os nx (js++i :: ks) s=some r →
   ∃ s',Zp C M os nx i s=some s'∧∃ r',UG C M os nx (js++ks) s'=some r'∧QD r' r
 | [],s,r,U,_,_,_,_,_,_,h=>by
  simp only[KW,UG] at h ⊢;obtain⟨s',h1,h⟩:=Za h;exact⟨s',h1,r,h,QD.refl r⟩
 | j :: js,s,r,U,hs,hfi,hfj,hsort,hj,hlt,h=>by
  have a1:=h;simp only[KX,UG] at h;obtain⟨s1,h1,h⟩:=Za h;have a8:=hsort;simp only[KX,LG] at hsort;have bk:j<i:=hsort.1 i (by simp);have a0:i≠j:=by omega
  have a':=Zji hC a9 hs (hfj j (by simp)) h1;have ba:∀ k∈js,k≠j:=fun k hk e=>by
   have:=hsort.1 k (by simp[hk]);omega
  obtain⟨s2,h2,r2,h3,h4⟩:=Zkq hM hC a9 ab ad js a' (Zf5 a0 hfi) (fun k hk=>Zf5 (ba k hk) (hfj k (by simp[hk]))) hsort.2 (fun k hk=>hj k (by simp[hk])) (fun k hk=>hlt k (by simp only[KX,Ke];exact .inr hk)) h;obtain⟨oj,ae,au,a2⟩:=hj j (by simp);have aa:∀ {k q n:Nat} {o:CO},VV os k=true→os[k]?=some o→k≤q→q<os.length→n∈Xb o→Z6 (YH os q) [n]=true:=by
   intro k q n o am ho bl hq hn;have:=KF.1 am q (K7.2 hq);simp only[Zht,ho,Ll,KB] at this;rcases this with h | h
   ·omega
   ·cases hd:YH os q with
    | none=>rfl
    | some d=>
     rw[hd] at h;simp only[Z6,KJ,KG,KP] at h ⊢;intro e;simp at e;exact h (e ▸ hn)
  have af:∀ {k:Nat} {o:CO},VV os k=true→os[k]?=some o→Z6 o.dst (Xb o)=true:=by
   intro k o am ho;have hk:k<os.length:=(Kb.1 ho).1;have:=KF.1 am k (K7.2 hk);simp only[Zht,YH,ho,Ll,KB] at this;rcases this with h | h
   ·omega
   ·exact h
  have ag:∀ {k q t:Nat} {o:CO},Zdw os k=true→os[k]?=some o→o.dst=some t→q≠k→q<os.length→Z6 (YH os q) [t]=true:=by
   intro k q t o hl ho ht bb hq;simp only[Zdw,Kc] at hl;have:=KF.1 hl.2 q (K7.2 hq);simp only[Ll,beq_iff_eq,YH,ho,ht] at this;rcases this with h | h
   ·exact absurd h bb
   ·simp only[YH];cases a3:os[q]? with
    | none=>rfl
    | some oq=>
     rw[a3] at h;simp only at h ⊢;cases hd:oq.dst with
     | none=>rfl
     | some d=>
      rw[hd] at h;simp only[Vo,bne_iff_ne,ne_eq] at h;simp only[Z6,KJ,KG,KP,KV];exact h
  have ah:∀ {k:Nat} {o:CO},Zdw os k=true→os[k]?=some o→∃ t,o.dst=some t:=by
   intro k o hl ho;simp only[Zdw,YH,ho,Kc] at hl;cases hd:o.dst with
   | none=>rw[hd] at hl;cases hl.1
   | some t=>exact⟨t,rfl⟩
  have av:∀ n,(∀ q∈js++ks,Z6 (YH os q) [n]=true)→okV (gs r.1 n)=true→gs s2.1 n=gs r.1 n:=by
   intro n hn ho;rw[← h4.1 n] at ho ⊢;exact Zmt h3 hn ho
  have ak:∀ q∈js++ks,q≠i∧j<q∧q<os.length:=by
   intro q hq;refine⟨?_,?_,hlt q ?_⟩
   ·rcases Kd.1 hq with hq | hq
    ·have:=(Lr.1 hsort.2).2.2 q hq i (by simp);omega
    ·have:=(LG.1 (Lr.1 hsort.2).2.1).1 q hq;omega
   ·rcases Kd.1 hq with hq | hq
    ·exact hsort.1 q (by simp[hq])
    ·exact hsort.1 q (by simp[hq])
   ·rcases Kd.1 hq with hq | hq<;>simp[hq]
  have an:VV os j=true→∀ n∈Xb oj,∀ q∈js++ks,Z6 (YH os q) [n]=true:=fun am n hn q hq=>by
   obtain⟨_,h6,h7⟩:=ak q hq;exact aa am ae (by omega) h7 hn
  have ao:VV os i=true→∀ n∈Xb oi,∀ q∈js++ks,Z6 (YH os q) [n]=true:=fun am n hn q hq=>by
   obtain⟨_,h6,h7⟩:=ak q hq;rcases Kd.1 hq with hq | hq
   ·obtain⟨oq,a3,ap,_⟩:=hj q (by simp[hq]);simp only[Qw,Kc] at ap;have h5:=ap.1.1;simp only[YH,a3];cases hd:oq.dst with
    | none=>rfl
    | some d=>
     rw[hd] at h5;simp only[Z6,KJ,KG,KP] at h5 ⊢;intro e;simp at e;exact h5 (e ▸ hn)
   ·have:=(LG.1 (Lr.1 hsort.2).2.1).1 q hq;exact aa am ab (by omega) h7 hn
  have ai:∀ {o:CO} {n:Nat},n∈(Zo o.op).flatMap VU→n∈Xb o:=fun h=>Kd.2 (.inl h);have aj:∀ {o:CO} {n:Nat},n∈(Zcv o.op).flatMap VU→n∈Xb o:=fun {o n} h=>by
   refine Kd.2 (.inl ?_);cases ho:o.op<;>rw[ho] at h<;>simp only[Zcv,List.flatMap_nil,LN] at h
   simp only[Zo,Kz,Kd];exact .inr h
  have a4:∃ t1,Zp C M os nx i s=some t1∧∃ t2,Zp C M os nx j t1=some t2∧QD t2 s2:=by
   rcases a2 with ⟨aw,ay⟩ | ⟨aw,az,k1,k5,k6⟩ | ⟨aw,az,k0,k1,k2,k3,k4,k5,k6⟩
   case inr.inl=>
    obtain⟨t,ht⟩:=ah k5 ab;refine Zjo ab ae az au ad k1 ht ?_ h1 h2;rw[ht] at k6;simp only[okD] at k6;rw[av t (fun q hq=>?_) k6]
    ·exact k6
    ·obtain⟨h5,_,h7⟩:=ak q hq;exact ag k5 ab ht h5 h7
   case inr.inr=>
    obtain⟨t,ht⟩:=ah k5 ab;refine Zih hM ab ae az a0 au (af k4 ab) (af k3 ae) ad hs hfi (hfj j (by simp)) k1 k2 ?_ ht h1 h2;refine(Zig k0 k1 k6).move (fun n hn=>av n (ao k4 n (ai hn))) (fun n hn=>av n fun q hq=>?_) (fun n hn=>av n (an k3 n (aj hn)));obtain⟨h5,_,h7⟩:=ak q hq;exact ag k5 ab hn h5 h7
   cases az:Zz os i with
   | false=>exact Zld ab ae az aw a0 au ad hs hfi (hfj j (by simp)) h1 h2
   | true=>
    rcases ay az with hc | ⟨am,hl⟩ | ⟨bc,bd⟩ | ⟨k1,k5,k6⟩ | ⟨k0,k1,k2,k3,k4,k5,k6⟩
    case inr.inr.inr.inl=>
     obtain⟨t,ht⟩:=ah k5 ae;refine Zjn ab ae aw au ad k1 ht ?_ h1 h2;rw[ht] at k6;simp only[okD] at k6;rw[av t (fun q hq=>?_) k6]
     ·exact k6
     ·obtain⟨_,h6,h7⟩:=ak q hq;exact ag k5 ae ht (by omega) h7
    case inr.inr.inr.inr=>
     obtain⟨t,ht⟩:=ah k5 ae;refine Zjm hM ab ae aw a0 au (af k3 ae) (af k4 ab) ad hs hfi (hfj j (by simp)) k1 k2 ?_ ht h1 h2;refine(Zig k0 k1 k6).move (fun n hn=>av n (an k3 n (ai hn))) (fun n hn=>av n fun q hq=>?_) (fun n hn=>av n (ao k4 n (aj hn)));obtain⟨_,h6,h7⟩:=ak q hq;exact ag k5 ae hn (by omega) h7
    ·exact Zlh ab ae hc aw a0 au ad hs hfi (hfj j (by simp)) h1 h2
    ·refine Zjl ab ae az aw a0 au ad hs hfi (hfj j (by simp)) ⟨am,?_⟩ h1 h2;rcases hl with hl | ⟨be,bf,bg,al⟩
     ·exact .inl hl
     ·refine .inr ⟨be,?_⟩;have a5:∀ x∈Zo oi.op,okW (evO r.1 x)=true→evO s.1 x=evO r.1 x:=by
       intro x hx ax;cases x with
       | v a=>rfl
       | f n=>rfl
       | t n=>
        simp only[evO] at ax ⊢;have hn:n∈Xb oi:=by
         rw[Xb];exact Kd.2 (.inl (Kk.2 ⟨.t n,hx,KV.2 rfl⟩))
        refine Zg2 a1 (fun q hq=>?_) ax;rcases Kd.1 hq with hq | hq
        ·obtain⟨oq,a3,ap,_⟩:=hj q hq;simp only[Qw,Kc] at ap;have h5:=ap.1.1;simp only[YH,a3];cases hd:oq.dst with
         | none=>rfl
         | some d=>
          rw[hd] at h5;simp only[Z6,KJ,KG,KP] at h5 ⊢;intro e;simp at e;exact h5 (e ▸ hn)
        ·refine aa bg ab ?_ (hlt q (Kd.2 (.inr hq))) hn;rcases Ke.1 hq with rfl | hq
         ·omega
         ·have:=Lr.1 hsort.2;have:=(LG.1 this.2.1).1 q hq;omega
      have a7:∀ id,Qb r.1 id (Zo oj.op)=true→Qb s.1 id (Zo oj.op)=true:=by
       intro id bh;have bi:∀ xs:List Opd,(∀ z∈xs,z∈Zo oj.op)→Qb r.1 id xs=true→Qb s.1 id xs=true:=by
        intro xs
        induction xs with
        | nil=>intro _ _;rfl
        | cons z zs ihz=>
         intro a6 hz;simp only[Qb,Kc] at hz ⊢;refine⟨?_,ihz (fun z' bj=>a6 z' (by simp[bj])) hz.2⟩;cases z with
         | v a=>exact hz.1
         | f n=>exact hz.1
         | t n=>
          simp only[evO] at hz ⊢;have hn:n∈Xb oj:=by
           rw[Xb];exact Kd.2 (.inl (Kk.2 ⟨.t n,a6 (.t n) (K0 ..),KV.2 rfl⟩))
          rw[Zmt a1 (fun q hq=>?_) (Zny hz.1)]
          ·exact hz.1
          ·refine aa bf ae ?_ (hlt q hq) hn;rcases Kd.1 hq with hq | hq
           ·rcases Ke.1 hq with rfl | hq
            ·omega
            ·have:=hsort.1 q (by simp[hq]);omega
           ·have:=hsort.1 q (by simp only[Kd];exact .inr hq);omega
       exact bi _ (fun _ h=>h) bh
      cases ho:oi.op<;>rw[ho] at am al<;>first | (cases am;done) | skip
      case store slc sz x y=>
       simp only[Zbu,Kc] at al ⊢;obtain⟨al,ar⟩:=al;have ax:okV (evO r.1 x)=true:=by
        cases ht:Xv (evO r.1 x) with
        | none=>rw[ht] at al;simp[UZ] at al
        | some id=>cases hv:evO r.1 x<;>rw[hv] at ht<;>simp only[Xv] at ht<;>first | (cases ht;done) | rfl
       rw[a5 x (by rw[ho];simp[Zo]) (ZdH ax)];constructor
       ·cases ht:Xv (evO r.1 x) with
        | none=>rw[ht] at al;simp[UZ] at al
        | some id=>rw[ht] at al;exact a7 id al
       ·by_cases hp:∃ b1 b2 b3 b4,evO r.1 x=.prow b1 b2 b3 b4
        ·obtain⟨b1,b2,b3,b4,hp⟩:=hp;rw[hp] at ar ⊢;rcases Zc2 ar with ⟨d,hv⟩ | hv
         ·rw[a5 y (by rw[ho];simp[Zo]) (by rw[hv];rfl),hv];rfl
         ·rw[a5 y (by rw[ho];simp[Zo]) (ZdH hv.1)];exact Zlg ⟨hv.1,Zeb a7 hv.2⟩
        ·exact Zg3 fun b1 b2 b3 b4 e=>hp ⟨b1,b2,b3,b4,e⟩
      case append sz by_ str flat x y=>
       simp only[Zbu,Kc,Ll] at al ⊢;obtain⟨ar,aq⟩:=al;constructor
       ·have ax:okW (evO r.1 x)=true:=by
         cases hv:evO r.1 x<;>rw[hv] at ar<;>first | rfl | (cases ar;done) | skip
         case tup vs=>cases vs<;>first | rfl | cases ar
        rw[a5 x (by rw[ho];simp[Zo]) ax];cases hv:evO r.1 x<;>rw[hv] at ar<;>first | (cases ar;done) | exact a7 _ ar | skip
        ·rfl
        case tup vs=>cases vs<;>first | rfl | cases ar
       ·rcases aq with aq | aq
        ·exact .inl aq
        ·right
         have ax:okW (evO r.1 y)=true:=by
          unfold seenSrc at aq;split at aq
          ·rename_i k hk;rw[hk];rfl
          ·exact ZdH aq
         rw[a5 y (by rw[ho];simp[Zo]) ax];unfold seenSrc at aq ⊢;split at aq
         ·exact a7 _ aq
         ·exact aq
    ·exact Zlj ab ae aw au bc bd h1 h2
  obtain⟨t1,g1,t2,g2,g3⟩:=a4;obtain⟨r3,g4,g5⟩:=Zd8 g3.symm h3;refine⟨t1,g1,r3,?_,g5.symm.trans h4⟩;simp only[KX,UG,g2,Zc];exact g4
def rem (n:Nat) (listed:Array Bool):List Nat:=(List.range n).filter fun i=>!listed.getD i true
theorem J8 {n:Nat} {aa:Array Bool} {i:Nat}:i∈rem n aa↔i<n∧aa.getD i true=false:=by
 simp[rem]
theorem Zeh (n:Nat) (aa:Array Bool):(rem n aa).Pairwise (· < ·):=List.Pairwise.filter _ List.pairwise_lt_range
theorem ZnB {n:Nat} {aa:Array Bool} (ad:aa.size=n) (i:Nat):rem n (aa.setIfInBounds i true)=(rem n aa).filter fun j=>j != i:=by
 simp only[rem,List.filter_filter];refine List.filter_congr fun j hj=>?_;have ae:j<n:=K7.1 hj;by_cases ab:i=j
 ·subst ab;simp[ad,ae]
 ·simp[Array.getElem?_setIfInBounds_ne ab,Ne.symm ab]
def Zf8 (nx:Nat) (listed:Array Bool) (id:Nat):Prop:=id<nx∨∃ k,listed.getD k false=true∧nx+64*k≤id∧id<nx+64*k+64
theorem Yw {l:Array Bool} {k:Nat} (h:l.getD k false=true):k<l.size∧l.getD k true=true:=by
 rcases KN k l.size with h1 | h1
 ·refine⟨h1,?_⟩;simp[h1] at h ⊢;exact h
 ·simp[Array.getElem?_eq_none h1] at h
theorem Zei {nx i:Nat} {aa:Array Bool} (h:aa.getD i true=false):Qi (Zf8 nx aa) (nx+64*i):=by
 intro id h1 h2 hu;rcases hu with hu | ⟨k,hk,h3,h4⟩
 ·omega
 ·have ab:k≠i:=fun e=>by subst e;rw[(Yw hk).2] at h;cases h
  rcases Lv ab with h5 | h5<;>omega
theorem Zej {nx i:Nat} {aa:Array Bool} (hi:i<aa.size):∀ id,Y2 (Zf8 nx aa) (nx+64*i) id→Zf8 nx (aa.setIfInBounds i true) id:=by
 rintro id ((h | ⟨k,hk,h1⟩) | h)
 ·exact .inl h
 ·exact .inr ⟨k,getD_set_true hk,h1⟩
 ·exact .inr ⟨i,by simp[hi],h.1,h.2⟩
end
end Go.Abs

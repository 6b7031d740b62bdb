/- Own text. -/
import Derived.Test.YtdhgppkldoopaaaGreatAbsDrawD
set_option linter.unusedVariables false
set_option linter.unusedSimpArgs false
namespace Go.Abs
open Go
section
variable {P:Program} {nt:Nat}
theorem Zo7 {α β:Type} {f:α→Option β}:∀ {l:List α} {r:List β},Qr f l=some r→∀ (i:Nat) (x:α),l[i]?=some x→∃ y,r[i]?=some y∧f x=some y
 | [],r,h,i,x,hx=>by simp at hx
 | a :: l,r,h,i,x,hx=>by
  simp only[Qr] at h;obtain⟨y,h1,h⟩:=Za h;obtain⟨ys,h2,h⟩:=Za h;cases h;cases i with
  | zero=>simp at hx;subst hx;exact⟨y,by simp,h1⟩
  | succ i=>simp at hx;obtain⟨z,h3,h4⟩:=Zo7 h2 i x hx;exact⟨z,by simpa using h3,h4⟩
theorem Zcr {α β:Type} {f:α→Option β}:∀ {l:List α} {r:List β},Qr f l=some r→r.length=l.length
 | [],r,h=>by simp only[Qr] at h;cases h;rfl
 | a :: l,r,h=>by
  simp only[Qr] at h;obtain⟨y,h1,h⟩:=Za h;obtain⟨ys,h2,h⟩:=Za h;cases h;simp[Zcr h2]
theorem Zve {C:Orc} {M:Zm} (hC:Qf P C) {ops:Array Oper} {os:List CO} (ad:Qr (Zm8 P nt ops.toList) ops.toList=some os) {nx i:Nat} {s s' : Sl×Hp} {U:Nat→Prop} (hs:ZiH nt s U) (hf:QZ U (nx+64*i))
  (h:ZF C M os nx i s=some s'):ZiH nt s' (JC U (nx+64*i)):=by
 obtain⟨F,A,I,Γ,a,w,aa⟩:=hs;unfold ZF at h;obtain⟨co,ae,h⟩:=Za h;have ag:i<ops.toList.length:=by rw[← Zcr ad];exact(Ka.1 ae).1
 obtain⟨am,h1,h2⟩:=Zo7 ad i ops.toList[i] (Kt ag);rw[ae] at h1;cases h1;obtain⟨hg,ah,ab,af⟩:=ZjC h2;unfold ZO at h;obtain⟨b,hw,h⟩:=Za h;cases b with
 | true=>
  simp only[Kn] at h;obtain⟨ce,ai,aj,rfl⟩:=Xe h;have ak:=Zu9 hC aa ah hf ab aj (ZdR ai) (fun a' w'=>∃ F A I Γ a w,Sim nt F A I Γ (JC U (nx+64*i)) (ce.on co.dst s.1 s.2).1 (ce.on co.dst s.1 s.2).2 a w) (fun _ _ _=>False) fun u w' hp=>by
   obtain⟨I1,Γ1,b1,b2,b3,b4,b5⟩:=hp;rw[← af] at b5;exact⟨F,A,I1,Γ1,_,_,b5⟩
  obtain⟨_,_,al⟩:=Oper.wp_ex ak;exact al
 | false=>
  simp only[Kc,Ko] at h;cases h;obtain⟨I1,Γ1,b1,b2,b3,b4,b5⟩:=aa.pure (U':=JC U (nx+64*i)) (v:=.tup []) (u:=undef) (dst:=co.dst) (fun id hu=>.inl hu) Zl9 (by rw[af];exact ab);exact⟨F,A,I1,Γ1,_,_,b5⟩
theorem Zrh {U:Nat→Prop} {nx i j:Nat} (aa:i≠j) (h:QZ U (nx+64*i)):QZ (JC U (nx+64*j)) (nx+64*i):=by
 intro id h1 h2 hu;rcases hu with hu | hu
 ·exact h id h1 h2 hu
 ·rcases LI aa with h3 | h3<;>omega
theorem Zz0 {id:Nat} {v:AV} (h:Zb5 id v=true):okV v=true:=by
 cases v with
 | tup vs=>cases vs with
  | nil=>rfl
  | cons x r=>cases h
 | _=>first | rfl | cases h
def okW (v:AV):Bool:=okV v
theorem ZnS {v:AV} (h:okV v=true):okW v=true:=h
theorem ZyI {g:List Nat} {v:AV} (h:okW (kill g v)=true):kill g v=v:=ZbM h
theorem Zz1 {C:Orc} {M:Zm} {os:List CO} {nx q n:Nat} {s r:Sl×Hp} (h:ZF C M os nx q s=some r) (hd:QE (Uy os q) [n]=true) (hk:okW (gs r.1 n)=true):gs s.1 n=gs r.1 n:=by
 unfold ZF at h;obtain⟨o,ho,h⟩:=Za h;have aa:o.dst≠some n:=by
  intro e;simp[Uy,ho,e,QE] at hd
 unfold ZO at h;obtain⟨b,_,h⟩:=Za h;cases b with
 | true=>
  simp only[Kn] at h;obtain⟨ce,_,_,rfl⟩:=Xe h;have e1:gs (ce.on o.dst s.1 s.2).1 n=kill ce.gone (gs s.1 n):=by
   show gs (Zp (QW ce.gone s.1) o.dst ce.eff.val) n=_;rw[Qp,Kj aa,QH]
  rw[e1] at hk ⊢;exact(ZyI hk).symm
 | false=>
  simp only[Kc,Ko] at h;cases h;show gs s.1 n=gs (Zp s.1 o.dst (.tup [])) n;rw[Qp,Kj aa]
theorem Zsx {C:Orc} {M:Zm} {os:List CO} {nx n:Nat}:∀ {l:List Nat} {s r:Sl×Hp},runL C M os nx l s=some r→(∀ q∈l,QE (Uy os q) [n]=true)→okW (gs r.1 n)=true→gs s.1 n=gs r.1 n
 | [],s,r,h,_,_=>by simp only[runL] at h;cases h;rfl
 | i :: l,s,r,h,hd,hk=>by
  simp only[runL] at h;obtain⟨s1,h1,h⟩:=Za h;have h2:=Zsx h (fun q hq=>hd q (by simp[hq])) hk;rw[← h2] at hk ⊢;exact Zz1 h1 (hd i (by simp)) hk
theorem ZyJ {C:Orc} {M:Zm} {os:List CO} {nx n:Nat} {l:List Nat} {s r:Sl×Hp} (h:runL C M os nx l s=some r) (hd:∀ q∈l,QE (Uy os q) [n]=true) (hk:okV (gs r.1 n)=true):gs s.1 n=gs r.1 n:=Zsx h hd (ZnS hk)
theorem Zvf {C:Orc} {M:Zm} {sl:Sl} {hp:Hp} {base:Nat} {c:COp} {ce:Ze} (hc:ZvH c=true) (h:vop C M sl hp base c=some ce):Zb7 (vop C M sl hp base c)=some ce:=by
 rw[h];have aa:ce.gone=[]∧ce.eff.sets=[]∧ce.eff.dels=[]∧ce.eff.frz=[]:=by
  have o1:∀ {v:AV},QJ v=some ce→ce.gone=[]∧ce.eff.sets=[]∧ce.eff.dels=[]∧ce.eff.frz=[]:=fun h=>by cases h;exact⟨rfl,rfl,rfl,rfl⟩
  have o2:∀ {v:Option AV},Vy v=some ce→ce.gone=[]∧ce.eff.sets=[]∧ce.eff.dels=[]∧ce.eff.frz=[]:=fun h=>by obtain⟨v,_,h⟩:=Za h;exact o1 h
  cases c<;>simp only[ZvH,Kc] at hc<;>simp only[vop] at h
  case stuck=>cases h
  case move x=>exact o1 h
  case assign s x=>
   unfold ZeL at h;split at h
   ·obtain⟨s,_,h⟩:=Za h;cases h;exact⟨rfl,rfl,rfl,rfl⟩
   ·exact o1 h
  case pick c a b=>
   unfold ZgR at h;split at h
   ·split at h<;>exact o1 h
   ·cases h
  case alloc slc cs=>
   unfold ZgS Zpt at h;split at h
   ·split at h<;>first | (cases h;done) | (cases h;exact⟨rfl,rfl,rfl,rfl⟩)
   ·split at h<;>(cases h;exact⟨rfl,rfl,rfl,rfl⟩)
  case box x=>
   unfold Zxq at h;split at h
   ·cases h;exact⟨rfl,rfl,rfl,rfl⟩
   ·cases h
  case build zs ps=>obtain⟨cs,_,h⟩:=Za h;exact o1 h
  case load g s a=>exact o2 h
  case nilCheck x=>unfold JY at h;split at h<;>first | exact o1 h | cases h
  case bin op eq x y=>
   unfold Zpv at h;split at h
   ·split at h
    ·exact o2 h
    ·cases h
   ·exact o2 h
  case un op x=>exact o2 h
  case eqA neg n x y=>
   unfold ZsN at h;split at h
   ·obtain⟨r,_,h⟩:=Za h;exact o1 h
   ·cases h
  case convI k x=>unfold Go.Abs.convI at h;split at h<;>first | exact o1 h | cases h
  case convS x=>unfold Go.Abs.convS at h;split at h<;>first | exact o1 h | cases h
  case fn f cs=>exact o2 h
  case make s b z l c=>
   obtain⟨l,_,h⟩:=Za h;obtain⟨c,_,h⟩:=Za h;unfold Zrz at h;split at h
   ·cases h;exact⟨rfl,rfl,rfl,rfl⟩
   ·cases h
  case slice s x lo hi=>exact o2 h
  case sliceS x lo hi=>exact o2 h
  case slice0 x hi mx=>exact o2 h
  case slice3 s x lo hi mx=>exact o2 h
  case shift off x=>unfold Wf at h;split at h<;>first | exact o1 h | cases h
  case part g s off x=>exact o2 h
  case iaS s x i=>
   obtain⟨n,_,h⟩:=Za h;unfold ZiP at h;split at h
   ·exact o2 h
   ·cases h
  case iaA len s x i=>
   obtain⟨n,_,h⟩:=Za h;unfold Zpx at h;split at h
   ·unfold Wf at h;split at h<;>first | exact o1 h | cases h
   ·cases h
  case ixS x i=>
   obtain⟨n,_,h⟩:=Za h;unfold Zvt at h;split at h
   ·unfold Zum at h;split at h
    ·obtain⟨b,_,h⟩:=Za h;exact o1 h
    ·cases h
   ·cases h
  case ixA g s len x i=>
   obtain⟨n,_,h⟩:=Za h;unfold Zxs at h;split at h
   ·exact o2 h
   ·cases h
  case nth i x=>unfold Zun at h;split at h<;>first | exact o2 h | cases h
  case len x=>obtain⟨n,_,h⟩:=Za h;exact o1 h
  case lenS x=>obtain⟨n,_,h⟩:=Za h;exact o1 h
  case min x y=>unfold Zm5 at h;split at h<;>first | (split at h<;>first | exact o1 h | cases h) | cases h
  case max x y=>unfold Zm6 at h;split at h<;>first | (split at h<;>first | exact o1 h | cases h) | cases h
 simp only[Zb7,Zg,aa.1,aa.2.1,aa.2.2.1,aa.2.2.2,ZeW]
theorem Zw1 {C:Orc} {M:Zm} {nx i:Nat} {o:CO} (hc:ZvH o.op=true) (s:Sl×Hp):ZO C M nx i true o s=ZO C M nx i false o s:=by
 unfold ZO;have:VN C M nx i true o.op s.1 s.2=VN C M nx i false o.op s.1 s.2:=by
  unfold VN;simp only[Kn,Kc,Ko];cases h:vop C M s.1 s.2 (nx+64*i) o.op with
  | none=>rfl
  | some ce=>rw[← h,Zvf hc h,h]
 rw[this]
theorem vop_read {C:Orc} {M:Zm} {sl:Sl} {hp hp' : Hp} {base:Nat} {c:COp} (hc:Jw c=true) (h:∀ x∈ZE c,∀ k∈Zx (evO sl x),lkp hp k=lkp hp' k):vop C M sl hp base c=vop C M sl hp' base c:=by
 have len:∀ v:AV,(∀ k∈Zx v,lkp hp k=lkp hp' k)→Zc5 hp v=Zc5 hp' v:=fun v hv=>by
  cases v<;>simp only[Zc5]
  case d x=>cases x<;>rfl
  case own id=>rw[hv id (by simp[Zx,Zz,Zl])]
 cases c<;>simp only[Jw,Kc] at hc<;>simp only[ZE] at h<;>simp only[vop]
 case load g s a=>
  have:=h a (by simp);cases hv:evO sl a<;>rw[hv] at this<;>simp only[W2]
  case ptr id off=>rw[this id (by simp[Zx,Zz,Zl])]
  case prow id sz i off=>rw[this id (by simp[Zx,Zz,Zl])]
 case slice s x lo hi=>
  have:=h x (by simp);cases hv:evO sl x<;>rw[hv] at this<;>simp only[Vx]
  case d x=>cases x<;>rfl
  case own id=>rw[this id (by simp[Zx,Zz,Zl])]
  case ownv id off n=>rw[this id (by simp[Zx,Zz,Zl])]
 case slice0 x hi mx=>
  unfold slice0;rw[len _ (h x (by simp))]
 case iaS s x i=>
  congr 1
  funext n
  simp only[ZiP];have:=h x (by simp);cases hv:evO sl x<;>rw[hv] at this<;>simp only[Qt]
  case d x=>cases x<;>rfl
  case own id=>rw[this id (by simp[Zx,Zz,Zl])]
  case ownv id off n=>rw[this id (by simp[Zx,Zz,Zl])]
 case len x=>rw[len _ (h x (by simp))]
theorem Zri {A B:Hp} (hd:∀ k x y,(k,x)∈A→(k,y)∈B→False) (hp:Hp) (id:Nat):lkp (Zh (Zh hp A) B) id=lkp (Zh (Zh hp B) A) id:=by
 have aa:∀ (l:Hp) (hp hp' : Hp),lkp hp id=lkp hp' id→lkp (Zh hp l) id=lkp (Zh hp' l) id:=by
  intro l
  induction l with
  | nil=>intro hp hp' h;exact h
  | cons q r ih=>
   intro hp hp' h;obtain⟨k,x⟩:=q;simp only[Zh];exact ih _ _ (by rw[Qn,Qn,h])
 by_cases h1:∃ o,(id,o)∈A
 ·have h2:∀ o,(id,o)∉B:=fun o ho=>by
   obtain⟨o',ab⟩:=h1;exact hd id o' o ab ho
  rw[ZC B _ id h2];exact aa A _ _ (ZC B hp id h2).symm
 ·have h2:∀ o,(id,o)∉A:=fun o ho=>h1 ⟨o,ho⟩;rw[ZC A _ id h2];exact aa B _ _ (ZC A hp id h2)
theorem ZtY {hp:Hp} {v:AV} {q:D×Bool×List Nat} (h:ZaO hp v=some q):∀ i∈q.2.2,i∈Zl v:=by
 intro i hi;cases v<;>simp only[ZaO] at h<;>first | (cases h;simp at hi;done) | (cases h;done) | skip
 obtain⟨p,_,h⟩:=Za h;cases h;simpa [Zl] using hi
theorem ZmP {hp:Hp}:∀ {vs:List AV} {q:List D×Bool×List Nat},VE hp vs=some q→∀ i∈q.2.2,i∈vs.flatMap Zl
 | [],q,h,i,hi=>by simp only[VE] at h;cases h;simp at hi
 | v :: vs,q,h,i,hi=>by
  simp only[VE] at h;obtain⟨q1,h1,h⟩:=Za h;obtain⟨q2,h2,h⟩:=Za h;split at h
  ·cases h;rcases Ke.1 hi with hi | hi
   ·exact Kq.2 ⟨v,by simp,ZtY h1 i hi⟩
   ·obtain⟨c,hc,aa⟩:=Kq.1 (ZmP h2 i hi);exact Kq.2 ⟨c,by simp[hc],aa⟩
  ·cases h
theorem ZtZ {hp:Hp} {n:Nat} {v:AV} {q:D×List Nat} (h:ZgM hp n v=some q):∀ i∈q.2,i∈Zl v:=by
 unfold ZgM at h;split at h
 ·split at h
  ·cases h;simp
  ·cases h
 ·cases h;simp
 ·unfold Zhr at h;split at h
  ·split at h
   ·cases h;simp[Zl]
   ·cases h
  ·split at h
   ·cases h;simp[Zl]
   ·cases h
  ·cases h
 ·cases h
theorem ZmQ {hp:Hp} {n:Nat}:∀ {vs:List AV} {q:List D×List Nat},Wd hp n vs=some q→∀ i∈q.2,i∈vs.flatMap Zl
 | [],q,h,i,hi=>by simp only[Wd] at h;cases h;simp at hi
 | v :: vs,q,h,i,hi=>by
  simp only[Wd] at h;obtain⟨q1,h1,h⟩:=Za h;obtain⟨q2,h2,h⟩:=Za h;split at h
  ·cases h;rcases Ke.1 hi with hi | hi
   ·exact Kq.2 ⟨v,by simp,ZtZ h1 i hi⟩
   ·obtain⟨c,hc,aa⟩:=Kq.1 (ZmQ h2 i hi);exact Kq.2 ⟨c,by simp[hc],aa⟩
  ·cases h
theorem Zw2 {hp:Hp} {slc:List (Option Nat)} {s base:Nat} {vs:List AV} {x:AV} {e:Eff} (h:ZaH hp slc s base vs x=some e):∃ id o,Ve x=some id∧e.val=.junk∧e.sets=[(id,o)]∧(∀ k∈e.dels,k∈vs.flatMap Zl∧∃ a b c d,x=.prow a b c d)∧∀ i∈e.frz,i∈vs.flatMap Zl:=by
 cases x<;>simp only[ZaH] at h<;>first | cases h | skip
 case ptr id off=>
  unfold ZgL at h;split at h
  ·split at h
   ·split at h<;>(cases h;exact⟨id,_,rfl,rfl,rfl,fun i hi=>by simp at hi,fun i hi=>by simp at hi⟩)
   ·cases h
  ·cases h
 case prow id sz i off=>
  unfold ZbS at h;split at h
  ·split at h
   ·obtain⟨x,_,h⟩:=Za h;obtain⟨q,hq,h⟩:=Za h;unfold Zhq at h;split at h
    ·cases h;exact⟨id,_,rfl,rfl,rfl,fun i hi=>by simp at hi,ZmP hq⟩
    ·cases h
   ·cases h
  ·split at h
   ·obtain⟨x,_,h⟩:=Za h;obtain⟨q,hq,h⟩:=Za h;unfold Zhs at h;split at h
    ·cases h;exact⟨id,_,rfl,rfl,rfl,fun k hk=>⟨ZmQ hq k hk,_,_,_,_,rfl⟩,fun i hi=>by simp at hi⟩
    ·cases h
   ·cases h
  ·cases h
def FzEq (o o' : Option Zn):Prop:=∃ b:Bool,o'=o.map fun x=>if b then Y4 x else x
theorem FzEq.seen {o o' : Option Zn} (h:FzEq o o'):ZbN [] o o':=by
 obtain⟨b,rfl⟩:=h;have hk:∀ x:Zn,Q8 [] x=x:=fun x=>by
  cases x with
  | box cs=>simp only[Q8];congr 1;rw[KH (g:=id) (fun a _=>ZdA a),LA]
  | row _ _ _ _=>rfl
  | gone=>rfl
  | tree _ _ _ l=>rcases l with _ | ⟨_ | _,_⟩<;>simp[Q8,V7]
 have:=Zt7 (g:=[]) (b:=b) o;have e:(o.map (Q8 []))=o:=by cases o<;>simp[hk]
 rw[e] at this;exact this
theorem vop_fz {C:Orc} {M:Zm} {sl:Sl} {hp hp' : Hp} {base:Nat} {c:COp} (hc:Jw c=true) (h:∀ x∈ZE c,∀ k∈Zx (evO sl x),FzEq (lkp hp k) (lkp hp' k)):vop C M sl hp' base c=vop C M sl hp base c:=by
 have hs:∀ x∈ZE c,ZkJ [] hp hp' (evO sl x):=fun x hx k hk=>(h x hx k hk).seen;cases c<;>simp only[Jw,Kc] at hc<;>simp only[ZE] at h hs<;>simp only[vop]
 case load g s a=>
  have h1:=h a (by simp);have h2:=hs a (by simp);cases hv:evO sl a<;>rw[hv] at h1 h2<;>simp only[W2]
  case ptr id off=>
   obtain⟨b,e⟩:=h1 id (by simp[Zx,Zz,Zl]);rw[e];cases lkp hp id with
   | none=>rfl
   | some o=>cases o<;>cases b<;>rfl
  case prow id sz i off=>
   obtain⟨b,e⟩:=h1 id (by simp[Zx,Zz,Zl]);rw[e];cases lkp hp id with
   | none=>rfl
   | some o=>cases o<;>cases b<;>rfl
 case slice s x lo hi=>rw[ZgE (hs x (by simp))]
 case slice0 x hi mx=>unfold slice0;rw[ZdD (hs x (by simp))]
 case iaS s x i=>
  congr 1
  funext n
  simp only[ZiP];rw[ZaG (hs x (by simp))]
 case len x=>rw[ZdD (hs x (by simp))]
def ZkF (sl:Sl) (a:COp):COp→Bool
 | .store _ _ x y=>ZeV sl a (Ve (evO sl x))&&Vz sl a (evO sl x) (evO sl y)
 | .append _ _ _ flat x y=>Jx sl a (evO sl x)&&(flat || seenSrc sl a (evO sl y))
 | _=>false
def LooseS (s:Sl) (a b:COp):Prop:=ZpK b=true∧(Wg a=true∨(Jw a=true∧ZkF s a b=true))
theorem ZgC {sl:Sl} {id:Nat}:∀ {xs:List Opd},QL sl id xs=true→∀ x∈xs,Zb5 id (evO sl x)=true
 | [],_,x,hx=>by simp at hx
 | y :: ys,h,x,hx=>by
  simp only[QL,Kd] at h;rcases Kf.1 hx with rfl | hx
  ·exact h.1
  ·exact ZgC h.2 x hx
theorem ZmR {sl:Sl} {xs:List Opd}:∀ {ks:List Nat},XN sl xs ks=true→∀ k∈ks,QL sl k xs=true
 | [],_,k,hk=>by simp at hk
 | j :: r,h,k,hk=>by
  simp only[XN,Kd] at h;rcases Kf.1 hk with rfl | hk
  ·exact h.1
  ·exact ZmR h.2 k hk
theorem ZmS {sl:Sl} {a:COp} {b1 b2 b3 b4:Nat} {v:AV} (h:Vz sl a (.prow b1 b2 b3 b4) v=true):(∃ d,v=.d d)∨(okV v=true∧XN sl (ZE a) (Zx v)=true):=by
 cases v<;>first | exact .inl ⟨_,rfl⟩ | (simp only[Vz,Kd] at h;exact .inr h)
theorem Zw3 {sl:Sl} {a:COp} {b1 b2 b3 b4:Nat} {v:AV} (h:okV v=true∧XN sl (ZE a) (Zx v)=true):Vz sl a (.prow b1 b2 b3 b4) v=true:=by
 cases v<;>first | rfl | (simp only[Vz,Kd];exact h)
theorem Zsy {sl:Sl} {a:COp} {x v:AV} (hx:∀ a b c d,x≠.prow a b c d):Vz sl a x v=true:=by
 cases x<;>first | rfl | exact absurd rfl (hx _ _ _ _)
theorem Zo8 {sl sl' : Sl} {xs:List Opd} (h:∀ k,QL sl k xs=true→QL sl' k xs=true):∀ {ks:List Nat},XN sl xs ks=true→XN sl' xs ks=true
 | [],_=>rfl
 | j :: r,hh=>by
  simp only[XN,Kd] at hh ⊢;exact⟨h j hh.1,Zo8 h hh.2⟩
theorem Zo9 {id:Nat} {v:AV} (h:Zb5 id v=true):id∉Zx v:=by
 cases v with
 | tup vs=>cases vs with
  | nil=>simp[Zx]
  | cons x r=>cases h
 | _=>simp[Zb5,Zx,Zz,Zl] at h ⊢ <;> exact fun e=>h e.symm
theorem Zvg {hp:Hp} {sz by_ base:Nat} {str flat:Bool} {x y:AV} {e:Eff} (h:Jq hp sz by_ str flat base x y=some e):e.sets=[]∧e.frz=[]∧((x=.nil∧e.dels=[])∨∃ id,e.dels=[id]∧(x=.own id∨∃ o n,x=.ownv id o n)):=by
 unfold Jq at h;obtain⟨q,_,h⟩:=Za h;split at h
 ·cases x<;>simp only[ZiO] at h<;>first | (cases h;done) | skip
  ·split at h
   ·cases h;exact⟨rfl,rfl,.inl ⟨rfl,rfl⟩⟩
   ·cases h
  ·split at h
   ·cases h
   ·unfold Zps at h;split at h
    ·split at h
     ·cases h;exact⟨rfl,rfl,.inr ⟨_,rfl,.inl rfl⟩⟩
     ·cases h
    ·cases h
  ·split at h
   ·cases h
   ·split at h
    ·unfold ZkP at h;split at h
     ·split at h
      ·cases h;exact⟨rfl,rfl,.inr ⟨_,rfl,.inr ⟨_,_,rfl⟩⟩⟩
      ·cases h
     ·cases h
    ·unfold ZkO at h;split at h
     ·split at h
      ·cases h;exact⟨rfl,rfl,.inr ⟨_,rfl,.inr ⟨_,_,rfl⟩⟩⟩
      ·cases h
     ·cases h
 ·cases h
theorem Zpa {hp:Hp} {x:AV} {k:Nat} (h:k∈XG hp x):x=.own k:=by
 unfold XG at h;split at h
 ·split at h
  ·simp at h;subst h;rfl
  ·simp at h
 ·simp at h
theorem Zt0 {hp:Hp} {sz by_ base:Nat} {str flat:Bool} {x y:AV} {e:Eff}:∀ {ms:List Nat},(∀ k∈ms,x=.own k∨y=.own k)→Y6 hp sz by_ str flat base x y ms=some e→e.frz=[] ∧
  e.sets=[]∧∀ k∈e.dels,(x=.own k∨∃ o n,x=.ownv k o n)∨(flat=false∧y=.own k):=by
 have plain:∀ {hp' : Hp} {e:Eff},Jq hp' sz by_ str flat base x y=some e→e.sets=[]∧e.frz=[]∧∀ k∈e.dels,x=.own k∨∃ o n,x=.ownv k o n:=by
  intro hp' e h;obtain⟨g1,g2,g3⟩:=Zvg h;refine⟨g1,g2,fun k hk=>?_⟩;rcases g3 with ⟨_,g3⟩ | ⟨id,g3,g4⟩
  ·rw[g3] at hk;simp at hk
  ·rw[g3] at hk;simp at hk;subst hk;exact g4
 intro ms hm h;cases ms with
 | nil=>
  simp only[Y6] at h;obtain⟨g1,g2,g3⟩:=plain h;exact⟨g2,g1,fun k hk=>.inl (g3 k hk)⟩
 | cons i r=>
  simp only[Y6] at h;split at h
  ·cases h
  ·rename_i aa;obtain⟨e0,h1,h⟩:=Za h;cases h;obtain⟨g1,g2,g3⟩:=plain h1;refine⟨g2,g1,fun k hk=>?_⟩;rcases Ke.1 hk with hk | hk
   ·exact .inl (g3 k hk)
   ·rcases hm k hk with hk | hk
    ·exact .inl (.inl hk)
    ·exact .inr ⟨by simpa using aa,hk⟩
theorem ZyK {hp:Hp} {sz by_ base:Nat} {x y:AV} {ce:Ze} (h:appT hp sz by_ base x y=some ce):ce.gone=[]∧ce.eff.frz=[]∧ce.eff.sets=[]∧∀ k∈ce.eff.dels,x=.own k∨y=.own k:=by
 unfold appT at h;obtain⟨e,h1,h⟩:=Za h;cases h;obtain⟨q,h2,h1⟩:=Za h1;have hy:y=.own q.1:=by
  unfold Zcv at h2;split at h2
  ·obtain⟨q2,_,h2⟩:=Za h2;cases h2;rfl
  ·cases h2
 split at h1
 ·cases x<;>simp only[Za3] at h1<;>first | (cases h1;done) | skip
  ·split at h1
   ·cases h1;exact⟨rfl,rfl,rfl,fun k hk=>by simp at hk;subst hk;exact .inr hy⟩
   ·cases h1
  ·obtain⟨q3,_,h1⟩:=Za h1;split at h1
   ·cases h1;refine⟨rfl,rfl,rfl,fun k hk=>?_⟩;simp at hk;rcases hk with rfl | rfl
    ·exact .inl rfl
    ·exact .inr hy
   ·cases h1
 ·cases h1
theorem Zt1 {hp:Hp} {sz by_ base:Nat} {str flat:Bool} {x y:AV} {ce:Ze} (h:Zuo hp sz by_ str flat base x y=some ce):ce.gone=[]∧ce.eff.frz=[] ∧
  ce.eff.sets=[]∧∀ k∈ce.eff.dels,(x=.own k∨∃ o n,x=.ownv k o n)∨(flat=false∧y=.own k):=by
 have kx:∀ k∈XG hp x,x=.own k∨y=.own k:=fun k hk=>.inl (Zpa hk);have ky:∀ k∈XG hp y,x=.own k∨y=.own k:=fun k hk=>.inr (Zpa hk);have melt:∀ {ms:List Nat},(∀ k∈ms,x=.own k∨y=.own k)→ZfD (Y6 hp sz by_ str flat base x y ms)=some ce→ce.gone=[]∧ce.eff.frz=[] ∧
   ce.eff.sets=[]∧∀ k∈ce.eff.dels,(x=.own k∨∃ o n,x=.ownv k o n)∨(flat=false∧y=.own k):=by
  intro ms hm h;obtain⟨e,h1,h⟩:=Za h;cases h;exact⟨rfl,Zt0 hm h1⟩
 unfold Zuo at h;generalize XG hp x=mx at h kx;generalize XG hp y=my at h ky;cases mx with
 | nil=>exact melt ky h
 | cons i r=>
  cases my with
  | nil=>exact melt kx h
  | cons j t=>
   simp only[Zda] at h;split at h
   ·cases h
   ·rename_i hc;obtain⟨g1,g2,g3,g4⟩:=ZyK h;have hf:flat=false:=by cases flat<;>simp_all
    exact⟨g1,g2,g3,fun k hk=>(g4 k hk).elim (fun e=>.inl (.inl e)) fun e=>.inr ⟨hf,e⟩⟩
theorem Zpb {ds:List Nat} {l:Hp} {k:Nat} (h:k∈ds):lkp (Qc l ds) k=none:=by
 cases hl:lkp (Qc l ds) k with
 | none=>rfl
 | some o=>exact absurd h (Uh ds l k o hl).2
theorem Zz2 {C:Orc} {M:Zm} {sl:Sl} {hp:Hp} {base:Nat} {c:COp} {ce:Ze} (hc:ZpK c=true) (h:vop C M sl hp base c=some ce) :
  ce.gone=[]∧(∀ k,k∈ce.eff.dels∨(∃ o,(k,o)∈ce.eff.sets)→(∃ x∈ZE c,k∈Zx (evO sl x))∧∀ a,ZkF sl a c=true→QL sl k (ZE a)=true)∧∀ k∈ce.eff.frz,∃ x∈ZE c,k∈Zx (evO sl x):=by
 cases c<;>first | (cases hc;done) | skip
 case store slc sz x y=>
  simp only[vop,ZfD] at h;obtain⟨e,h7,h⟩:=Za h;cases h;obtain⟨id,o,ht,g1,g2,g3,g4⟩:=Zw2 h7;refine⟨rfl,fun k hk=>?_,fun k hk=>⟨y,by simp[ZE],ZoY (U:=fun k=>k∈Zx (evO sl y)) (fun _ h=>h) k (g4 k hk)⟩⟩;rcases hk with hk | ⟨o',hk⟩
  ·obtain⟨k1,b1,b2,b3,b4,k2⟩:=g3 k hk;have k3:=ZoY (U:=fun k=>k∈Zx (evO sl y)) (fun _ h=>h) k k1;refine⟨⟨y,by simp[ZE],k3⟩,fun a ha=>?_⟩;simp only[ZkF,Kd,k2] at ha;rcases ZmS ha.2 with ⟨d,hv⟩ | hv
   ·rw[hv] at k3;simp[Zx,Zz,Zl] at k3
   ·exact ZmR hv.2 k k3
  ·simp only[g2,KL,Prod.mk.injEq] at hk;have aa:=hk.1;subst aa;refine⟨⟨x,by simp[ZE],?_⟩,fun a ha=>?_⟩
   ·cases hv:evO sl x<;>rw[hv] at ht<;>simp only[Ve] at ht<;>cases ht<;>simp[Zx,Zz,Zl]
   ·simp only[ZkF,Kd,ht,ZeV] at ha;exact ha.1
 case append sz by_ str flat x y=>
  simp only[vop] at h;obtain⟨g0,g2,g1,g3⟩:=Zt1 h;refine⟨g0,fun k hk=>?_,fun k hk=>by simp only[g2,LV] at hk⟩;have ab:k∈ce.eff.dels:=by
   rcases hk with hk | ⟨o',hk⟩
   ·exact hk
   ·simp only[g1,LV] at hk
  rcases g3 k ab with g4 | ⟨g4,g5⟩
  ·refine⟨⟨x,by simp[ZE],?_⟩,fun a ha=>?_⟩
   ·rcases g4 with g4 | ⟨o,n,g4⟩<;>rw[g4]<;>simp[Zx,Zz,Zl]
   ·simp only[ZkF,Kd] at ha;rcases g4 with g4 | ⟨o,n,g4⟩<;>rw[g4] at ha<;>exact ha.1
  ·refine⟨⟨y,by simp[ZE],by rw[g5];simp[Zx,Zz,Zl]⟩,fun a ha=>?_⟩;simp only[ZkF,Kd,g4,Bool.false_or] at ha;rw[g5] at ha;exact ha.2
theorem Zvh {C:Orc} {M:Zm} {os:List CO} {nx i j:Nat} {oi oj:CO} (ae:os[i]?=some oi) (ak:os[j]?=some oj) (ar:ZU os i=true) (am:ZU os j=false) (a3:i≠j) (au:Xo oj oi=true)
  (an:∀ (k:Nat) (o:CO),os[k]?=some o→∀ x∈ZE o.op,YD x=true) {s s1 s2:Sl×Hp} {U:Nat→Prop} (hs:ZiH nt s U) (a4:QZ U (nx+64*i)) (av:QZ U (nx+64*j)) (hl:LooseS s.1 oj.op oi.op)
  (h1:ZF C M os nx j s=some s1) (h2:ZF C M os nx i s1=some s2):∃ t1,ZF C M os nx i s=some t1∧∃ t2,ZF C M os nx j t1=some t2∧XB t2 s2:=by
 obtain⟨F,A,I,Γ,a,w,ag⟩:=hs;simp only[Xo,Kd] at au;obtain⟨⟨aw,ax⟩,al⟩:=au;have good:∀ (k:Nat) (o:CO),os[k]?=some o→∀ x∈ZE o.op,ZkD U (evO s.1 x):=by
  intro k o ho x hx;cases x with
  | t n=>exact ag.good n
  | v y=>exact Jl (an k o ho _ hx)
  | f n=>exact⟨fun id a5=>by simp[evO,Zx,Zz] at a5,fun f a6 h c hc=>by cases h;simp at hc⟩
 simp only[ZF,ak,Zg,am] at h1;simp only[ZF,ae,Zg,ar] at h2;obtain⟨vj,aj,rfl,ao,ay⟩:=Zjn h1;obtain⟨a7,hl⟩:=hl;unfold ZO at h2;obtain⟨b,hw,h2⟩:=Za h2;have az : ZY s.1 oi.guard=some b:=by rw[← hw];exact(Qs aw).symm
 cases b with
 | false=>
  simp only[Kc,Ko] at h2;cases h2;refine⟨(Zp s.1 oi.dst (.tup []),s.2),by simp only[ZF,ae,Zg,ZO,az,Kc,Ko],?_⟩;have e2:=ay (Zp s.1 oi.dst (.tup []),s.2) (Qs al) (QX C M s.2 (nx+64*j) (Wa (o:=oj) al));exact⟨(Zp (Zp s.1 oi.dst (.tup [])) oj.dst vj,Zh s.2 aj),by simp only[ZF,ak,Zg,am];exact e2,fun t=>(W0 ax vj (.tup []) t).symm,fun id=>rfl⟩
 | true=>
  simp only[Kn] at h2;obtain⟨ce,h3,h4,rfl⟩:=Xe h2;have a0 : vop C M s.1 s.2 (nx+64*i) oi.op=some ce:=by
   have h5:=ZdR h3;rw[← h5,QX C M (Zh s.2 aj) (nx+64*i) (Wa (o:=oi) aw)];exact JU (ag.agree (Wb av ao s.2)) C M _ (good i oi ae)
  have aa:=UB h4;obtain⟨k1,k2,k3⟩:=Zz2 a7 a0;obtain⟨e,gn⟩:=ce;simp only at k1 k2 k3;subst k1;have ap:∀ k∈e.frz,U k:=fun k hk=>by
   obtain⟨x,hx,hk⟩:=k3 k hk;exact(good i oi ae x hx).1 k hk
  have ah:∀ k,k∈e.dels∨(∃ o,(k,o)∈e.sets)→U k:=fun k hk=>by
   obtain⟨⟨x,hx,hk⟩,_⟩:=k2 k hk;exact(good i oi ae x hx).1 k hk
  have ai:∀ s:Sl×Hp,Ze.on { eff:=e,gone:=[] } oi.dst s.1 s.2=(Zp s.1 oi.dst e.val,Zh (Zh (Qc (Qi e.frz s.2) e.dels) e.sets) e.adds):=by
   intro s;rfl
  refine⟨Ze.on { eff:=e,gone:=[] } oi.dst s.1 s.2,?_,?_⟩
  ·simp only[ZF,ae,Zg,ZO,az,Kn,Yk,ar,VN];rw[a0,Zg,Kl h4]
  ·have ab:∀ k,U k→¬(k∈e.dels∨∃ o,(k,o)∈e.sets)→FzEq (lkp s.2 k) (lkp (Zh (Zh (Qc (Qi e.frz s.2) e.dels) e.sets) e.adds) k):=by
    intro k hk aq;rw[not_or] at aq;rw[← Wb a4 aa _ k hk,ZC _ _ k (fun o ho=>aq.2 ⟨o,ho⟩),W4 _ _ k aq.1,Qb];exact⟨_,rfl⟩
   have e2:ZO C M nx j false oj (Ze.on { eff:=e,gone:=[] } oi.dst s.1 s.2)=some (Zp (Ze.on { eff:=e,gone:=[] } oi.dst s.1 s.2).1 oj.dst vj,Zh (Ze.on { eff:=e,gone:=[] } oi.dst s.1 s.2).2 aj):=by
    rw[ai];refine ay (Zp s.1 oi.dst e.val,Zh (Zh (Qc (Qi e.frz s.2) e.dels) e.sets) e.adds) (Qs al) ?_;rw[QX C M _ (nx+64*j) (Wa (o:=oj) al)];rcases hl with hl | ⟨a8,a9⟩
    ·exact ZkK hl
    ·refine vop_fz a8 fun z hz k hk=>?_;refine ab k ((good j oj ak z hz).1 k hk) fun hp=>?_;exact Zo9 (ZgC ((k2 k hp).2 _ a9) z hz) hk
   refine⟨_,by simp only[ZF,ak,Zg,am];exact e2,fun t=>?_,fun k=>?_⟩
   ·rw[ai,ai (Zp s.1 oj.dst vj,Zh s.2 aj)];exact(W0 ax vj e.val t).symm
   ·rw[ai,ai (Zp s.1 oj.dst vj,Zh s.2 aj)];show lkp (Zh (Zh (Zh (Qc (Qi e.frz s.2) e.dels) e.sets) e.adds) aj) k=lkp (Zh (Zh (Qc (Qi e.frz (Zh s.2 aj)) e.dels) e.sets) e.adds) k;have a1:∀ (B:Hp) (hp hp' : Hp),(∀ k,lkp hp k=lkp hp' k)→∀ k,lkp (Zh hp B) k=lkp (Zh hp' B) k:=fun B hp hp' h=>ZaY B h;have ad:∀ k,U k→∀ o',(k,o')∉aj:=fun k hk o' af=>by
     have:=ao k o' af;exact av k this.1 this.2 hk
    rw[Zri (A:=e.adds) (B:=aj) (fun k x y hx hy=>by
     have:=aa k x hx;have:=ao k y hy;rcases LI a3 with h | h<;>omega)]
    refine a1 e.adds _ _ (fun k=>?_) k;rw[Zri (A:=e.sets) (B:=aj) (fun k x y hx hy=>ad k (ah k (.inr ⟨x,hx⟩)) y hy) (Qc (Qi e.frz s.2) e.dels) k];refine a1 e.sets _ _ (fun k=>?_) k;by_cases hd:k∈e.dels
    ·rw[ZC aj _ k (ad k (ah k (.inl hd))),Zpb hd,Zpb hd]
    ·rw[W4 _ _ k hd];rw[Qb];by_cases hk:∃ o',(k,o')∈aj
     ·obtain⟨o',af⟩:=hk;rw[ZbP (hp':=s.2) ⟨o',af⟩];have a':k∉e.frz:=fun hf=>ad k (ap k hf) o' af;cases lkp (Zh s.2 aj) k<;>simp[a']
     ·have a2 : ∀ o',(k,o')∉aj:=fun o' af=>hk ⟨o',af⟩;rw[ZC aj _ k a2,ZC aj _ k a2,W4 _ _ k hd,Qb]
theorem Zw4 {C:Orc} {M:Zm} {os:List CO} {nx i j:Nat} {oi oj:CO} (ab:os[i]?=some oi) (ad:os[j]?=some oj) (ae:ZvH oi.op=true) (af:ZU os j=false) (ag:i≠j) (ah:Xo oj oi=true)
  (aa:∀ (k:Nat) (o:CO),os[k]?=some o→∀ x∈ZE o.op,YD x=true) {s s1 s2:Sl×Hp} {U:Nat→Prop} (hs:ZiH nt s U) (ai:QZ U (nx+64*i)) (aj:QZ U (nx+64*j))
  (h1:ZF C M os nx j s=some s1) (h2:ZF C M os nx i s1=some s2):∃ t1,ZF C M os nx i s=some t1∧∃ t2,ZF C M os nx j t1=some t2∧XB t2 s2:=by
 have e:∀ s:Sl×Hp,ZF C M os nx i s=ZO C M nx i false oi s:=fun s=>by
  simp only[ZF,ab,Zg];cases ZU os i
  ·rfl
  ·exact Zw1 ae s
 rw[e] at h2;simp only[e];exact Zo6 ab ad af ag ah aa hs ai aj h1 h2
theorem Zsz {hp:Hp} {base s:Nat} {vs:List AV} {ce:Ze} (h:buildSl hp base s vs=some ce):ce.gone=[]:=by
 cases vs with
 | nil=>simp only[buildSl,QJ] at h;first | (cases h;rfl) | (split at h<;>first | (cases h;rfl) | cases h)
 | cons v r=>
  simp only[buildSl] at h;obtain⟨q,_,h⟩:=Za h;unfold Zxr at h;split at h
  ·cases h;rfl
  ·cases h
theorem Zt2 {C:Orc} {M:Zm} {sl:Sl} {hp:Hp} {base:Nat} {c:COp} {ce:Ze} (hc:ZeT c=true) (h:vop C M sl hp base c=some ce):ce.gone=[]:=by
 cases c<;>first | (cases hc;done) | skip
 ·simp only[vop] at h;exact Zsz h
 ·simp only[vop] at h;exact(Zt1 h).1
theorem Zw5 {C:Orc} {M:Zm} {nx j:Nat} {oj:CO} {s s1:Sl×Hp} (hm:YO oj.op=true) (h:ZO C M nx j false oj s=some s1) :
  ∃ v,s1=(Zp s.1 oj.dst v,s.2)∧∀ aa : Sl×Hp,ZY aa.1 oj.guard=ZY s.1 oj.guard→(∀ x∈ZE oj.op,evO aa.1 x=evO s.1 x)→ZO C M nx j false oj aa=some (Zp aa.1 oj.dst v,aa.2):=by
 obtain⟨x,hx⟩:∃ x,oj.op=.move x:=by
  cases ho:oj.op<;>rw[ho] at hm<;>first | (cases hm;done) | exact⟨_,rfl⟩
 unfold ZO at h ⊢;obtain⟨b,hw,h⟩:=Za h;cases b with
 | true=>
  simp only[Kn,hx,VN,Kc,Ko,vop] at h;refine⟨evO s.1 x,?_,fun aa g1 g2=>?_⟩
  ·cases h;rfl
  ·rw[g1,hw,Zg];have e:=g2 x (by rw[hx];simp[ZE]);simp only[Kn,hx,VN,Kc,Ko,vop,e];rfl
 | false=>
  simp only[Kc,Ko] at h;cases h;refine⟨.tup [],rfl,fun aa g1 g2=>?_⟩;rw[g1,hw,Zg];rfl
theorem Zw6 {C:Orc} {M:Zm} {os:List CO} {nx i j:Nat} {oi oj:CO} (ad:os[i]?=some oi) (ae:os[j]?=some oj) (af:ZU os j=false) (ah:Xo oj oi=true)
  {s s1 s2:Sl×Hp} (hm:YO oj.op=true) (hg:ZeT oi.op=true)
  (h1:ZF C M os nx j s=some s1) (h2:ZF C M os nx i s1=some s2):∃ t1,ZF C M os nx i s=some t1∧∃ t2,ZF C M os nx j t1=some t2∧XB t2 s2:=by
 simp only[Xo,Kd] at ah;obtain⟨⟨ai,aj⟩,ab⟩:=ah;simp only[ZF,ae,Zg,af] at h1;simp only[ZF,ad,Zg] at h2;obtain⟨vj,rfl,ak⟩:=Zw5 hm h1;unfold ZO at h2;obtain⟨b,hw,h2⟩:=Za h2;have al : ZY s.1 oi.guard=some b:=by rw[← hw];exact(Qs ai).symm
 cases b with
 | false=>
  simp only[Kc,Ko] at h2;cases h2;refine⟨(Zp s.1 oi.dst (.tup []),s.2),by simp only[ZF,ad,Zg,ZO,al,Kc,Ko],?_⟩;exact⟨(Zp (Zp s.1 oi.dst (.tup [])) oj.dst vj,s.2),by simp only[ZF,ae,Zg,af];exact ak (Zp s.1 oi.dst (.tup []),s.2) (Qs ab) (Wa (o:=oj) ab),fun t=>(W0 aj vj (.tup []) t).symm,fun id=>rfl⟩
 | true=>
  simp only[Kn] at h2;obtain⟨ce,h3,h4,rfl⟩:=Xe h2;have aa:=Zt2 hg (ZdR h3);have am : VN C M nx i (ZU os i) oi.op s.1 s.2=some ce:=by
   rw[← h3];unfold VN;rw[QX C M s.2 (nx+64*i) (Wa (o:=oi) ai)]
  have ag:∀ (sl:Sl) (hp:Hp),ce.on oi.dst sl hp=(Zp sl oi.dst ce.eff.val,ce.eff.on hp):=by
   intro sl hp;unfold Ze.on;rw[aa];rfl
  refine⟨ce.on oi.dst s.1 s.2,?_,?_⟩
  ·simp only[ZF,ad,Zg,ZO,al,Kn,Yk];rw[am,Zg,Kl h4]
  ·rw[ag];refine⟨(Zp (Zp s.1 oi.dst ce.eff.val) oj.dst vj,ce.eff.on s.2),by simp only[ZF,ae,Zg,af];exact ak (Zp s.1 oi.dst ce.eff.val,ce.eff.on s.2) (Qs ab) (Wa (o:=oj) ab),fun t=>?_,fun k=>?_⟩
   ·rw[ag];exact(W0 aj vj ce.eff.val t).symm
   ·rw[ag]
theorem awayV_ptr {sl:Sl} {xs:List Opd} {v:AV} (h:Zb6 sl xs v=true) {k off:Nat} (e:v=.ptr k off):∀ z∈xs,k∉Zx (evO sl z):=by
 subst e;exact fun z hz=>Zo9 (ZgC h z hz)
structure Zpc (r:Sl) (oX oY:CO):Prop where
 opd:∀ x∈ZE oX.op,okV (evO r x)=true
 dst:∀ t,oX.dst=some t→okV (gs r t)=true
 arg:∀ y∈Zl1 oY.op,okV (evO r y)=true
 away:∀ y∈Zl1 oY.op,∀ k off,evO r y=.ptr k off→∀ z∈ZE oX.op,k∉Zx (evO r z)
theorem ZsA {sl:Sl}:∀ {xs:List Opd},okL sl xs=true→∀ x∈xs,okV (evO sl x)=true
 | [],_,x,hx=>by simp at hx
 | y :: ys,h,x,hx=>by
  simp only[okL,Kd] at h;rcases Kf.1 hx with rfl | hx
  ·exact h.1
  ·exact ZsA h.2 x hx
theorem Zrj {sl:Sl} {xs:List Opd}:∀ {ys:List Opd},ZgV sl xs ys=true→∀ y∈ys,Zb6 sl xs (evO sl y)=true
 | [],_,x,hx=>by simp at hx
 | y :: ys,h,x,hx=>by
  simp only[ZgV,Kd] at h;rcases Kf.1 hx with rfl | hx
  ·exact h.1
  ·exact Zrj h.2 x hx
theorem Zt3 {r:Sl} {oX oY:CO} (hm:YO oX.op=false) (hc:Zag oY.op=true) (h:Ug r oX.dst oX.op oY.op=true):Zpc r oX oY:=by
 obtain⟨f,as,ho⟩:∃ f as,oY.op=.call (.f f) as:=by
  cases ho:oY.op<;>rw[ho] at hc<;>first | (cases hc;done) | skip
  rename_i f as;cases f<;>first | (cases hc;done) | exact⟨_,_,rfl⟩
 rw[ho] at h;have h' : (okL r (ZE oX.op)&&(okD r oX.dst&&(okL r as&&ZgV r (ZE oX.op) as)))=true:=by
  cases hx:oX.op<;>rw[hx] at h hm<;>first | (cases hm;done) | exact h
 simp only[Kd] at h';obtain⟨h1,h2,h3,h4⟩:=h';refine⟨ZsA h1,fun t ht=>?_,?_,?_⟩
 ·rw[ht] at h2;exact h2
 ·rw[ho];exact ZsA h3
 ·rw[ho];intro y hy k off e;exact awayV_ptr (Zrj h4 y hy) e
theorem Zpc.move {r r' : Sl} {oX oY:CO} (h:Zpc r oX oY) (h1:∀ n∈(ZE oX.op).flatMap ZaI,okV (gs r n)=true→gs r' n=gs r n) (h2:∀ n,oX.dst=some n→okV (gs r n)=true→gs r' n=gs r n)
  (h3:∀ n∈(Zl1 oY.op).flatMap ZaI,okV (gs r n)=true→gs r' n=gs r n):Zpc r' oX oY:=by
 have e1:∀ x∈ZE oX.op,evO r' x=evO r x:=fun x hx=>by
  have ho:=h.opd x hx;cases x with
  | t n=>exact h1 n (Kq.2 ⟨_,hx,by simp[ZaI]⟩) ho
  | _=>rfl
 have e3:∀ x∈Zl1 oY.op,evO r' x=evO r x:=fun x hx=>by
  have ho:=h.arg x hx;cases x with
  | t n=>exact h3 n (Kq.2 ⟨_,hx,by simp[ZaI]⟩) ho
  | _=>rfl
 refine⟨fun x hx=>by rw[e1 x hx];exact h.opd x hx,fun t ht=>by rw[h2 t ht (h.dst t ht)];exact h.dst t ht,fun x hx=>by rw[e3 x hx];exact h.arg x hx,fun y hy k off e z hz=>?_⟩;rw[e3 y hy] at e;rw[e1 z hz];exact h.away y hy k off e z hz
theorem Zpd {C:Orc} {M:Zm} (hM:∀ f,M f 99=false) {os:List CO} {nx x y:Nat} {oX oY:CO} (ay:os[x]?=some oX) (a1:os[y]?=some oY) (a2:x≠y) (ak:QE oY.dst (YA oX)=true) (aw:QE oX.dst (YA oY)=true)
  (ad:QE oX.dst (YA oX)=true) (al:QE oY.dst (YA oY)=true)
  (ar:∀ (k:Nat) (o:CO),os[k]?=some o→∀ x∈ZE o.op,YD x=true) {s:Sl×Hp} {r:Sl} {U:Nat→Prop} (hs:ZiH nt s U) (a3:QZ U (nx+64*x)) (a4:QZ U (nx+64*y))
  (ae:Zag oY.op=true) {ce:Ze} (a5:vop C M s.1 s.2 (nx+64*y) oY.op=some ce) (a6:QP (nx+64*y) (nx+64*y+64) ce.eff.adds=true)
  (am:∀ n,oX.dst≠some n→oY.dst≠some n→gs r n=kill ce.gone (gs s.1 n)) (aa:Zpc r oX oY) :
  ce.eff.dels=[]∧(∀ z∈ZE oX.op,evO (ce.on oY.dst s.1 s.2).1 z=evO s.1 z)∧(∀ z∈ZE oX.op,∀ id∈Zx (evO s.1 z),id∉ce.gone)∧(∀ z∈ZE oX.op,ZkJ ce.gone s.2 (ce.on oY.dst s.1 s.2).2 (evO s.1 z)) ∧
  (∀ k,nx+64*x≤k→k<nx+64*x+64→(∀ o',(k,o')∉ce.eff.sets)∧(∀ o',(k,o')∉ce.eff.adds)∧k∉ce.eff.frz∧k∉ce.gone):=by
 obtain⟨F,A,I,Γ,a,w,au⟩:=hs;have good:∀ (k:Nat) (o:CO),os[k]?=some o→∀ x∈ZE o.op,ZkD U (evO s.1 x):=by
  intro k o ho x hx;cases x with
  | t n=>exact au.good n
  | v y=>exact Jl (ar k o ho _ hx)
  | f n=>exact⟨fun id av=>by simp[evO,Zx,Zz] at av,fun f a7 h c hc=>by cases h;simp at hc⟩
 obtain⟨f,as,ho⟩:∃ f as,oY.op=.call (.f f) as:=by
  cases ho:oY.op<;>rw[ho] at ae<;>first | (cases ae;done) | skip
  rename_i f as;cases f<;>first | (cases ae;done) | exact⟨_,_,rfl⟩
 have an:=a5;rw[ho] at an;simp only[vop,evO,Zdb,Ln] at an;obtain⟨k1,k2,k3,k4⟩:=Zxg an (hM _);have ab:∀ n,(Opd.t n)∈ZE oX.op→n∈YA oX:=fun n hn=>Ke.2 (.inl (Kq.2 ⟨_,hn,by simp[ZaI]⟩));have ai:∀ n,(Opd.t n)∈as→n∈YA oY:=fun n hn=>Ke.2 (.inl (Kq.2 ⟨.t n,by rw[ho];simp[ZE,hn],by simp[ZaI]⟩));have ne:∀ {d:Option Nat} {l:List Nat} {n:Nat},QE d l=true→n∈l→d≠some n:=fun {d l n} h hn e=>by
  rw[e] at h;simp only[QE,KO,KI,KT] at h;exact h hn
 have ax:∀ z∈ZE oX.op,evO r z=evO s.1 z∧∀ id∈Zx (evO s.1 z),id∉ce.gone:=by
  intro z hz;have af:=aa.opd z hz;cases z with
  | t n=>
   have e:=am n (ne ad (ab n hz)) (ne ak (ab n hz));simp only[evO] at af ⊢;rw[e] at af ⊢;have:=ZbM af;exact⟨this,ZyM this⟩
  | v c=>
   have:=ar x oX ay _ hz;simp only[YD,Kd,List.isEmpty_iff] at this;exact⟨rfl,fun id av=>by simp only[evO] at av;rw[this.1] at av;simp at av⟩
  | f n=>simp only[evO,okV,okC] at af;cases af
 have az:∀ z∈as,evO r z=evO s.1 z:=by
  intro z hz;have af:=aa.arg z (by rw[ho];exact hz);cases z with
  | t n=>
   have e:=am n (ne aw (ai n hz)) (ne al (ai n hz));simp only[evO] at af ⊢;rw[e] at af ⊢;exact ZbM af
  | _=>rfl
 have a0:∀ id,(∃ o,lkp s.2 id=some o)→U id:=fun id ⟨o,h⟩=>au.id_in h;have uX:∀ k,nx+64*x≤k→k<nx+64*x+64→¬U k:=fun k h1 h2=>a3 k h1 h2;have aj:=UB a6;have ag:∀ z∈ZE oX.op,∀ k∈Zx (evO s.1 z),∀ o',(k,o')∉ce.eff.sets:=by
  intro z hz k hk o' ao;rcases (k4 k o' ao).2 with h | ⟨v,hv,ap⟩
  ·exact(ax z hz).2 k hk h
  ·obtain⟨y',aq,rfl⟩:=Zhk hv;have ah:=aa.arg y' (by rw[ho];exact aq);rw[az y' aq] at ah;cases hp:evO s.1 y' with
   | ptr a b=>
    rw[hp] at ap;simp only[JG,KL] at ap;subst ap;have:=aa.away y' (by rw[ho];exact aq) k b (by rw[az y' aq,hp]) z hz;rw[(ax z hz).1] at this;exact this hk
   | clo g cs=>rw[hp] at ah;simp only[okV,okC] at ah;cases ah
   | _=>rw[hp] at ap;simp[JG] at ap
 refine⟨k1,fun z hz=>?_,fun z hz=>(ax z hz).2,fun z hz k hk=>?_,fun k g1 g2=>⟨fun o' ao=>?_,fun o' ao=>?_,fun hf=>?_,fun hg=>?_⟩⟩
 ·cases z with
  | t n=>
   show gs (Zp (QW ce.gone s.1) oY.dst ce.eff.val) n=gs s.1 n;rw[Qp,Kj (ne ak (ab n hz)),QH];have e:=am n (ne ad (ab n hz)) (ne ak (ab n hz));have:=aa.opd _ hz;simp only[evO] at this;rw[e] at this;exact ZbM this
  | _=>rfl
 ·have a8:U k:=(good x oX ay z hz).1 k hk;show ZbN ce.gone (lkp s.2 k) (lkp (ce.eff.on (VL ce.gone s.2)) k);unfold Eff.on;rw[k1];simp only[Qc];rw[ZC,ZC,Qb,V8]
  ·exact Zt7 _
  ·exact ag z hz k hk
  ·intro o' ao;obtain⟨h1,h2⟩:=aj k o' ao;exact a4 k h1 h2 a8
 ·exact uX k g1 g2 (a0 k (k4 k o' ao).1)
 ·have:=aj k o' ao;rcases LI a2 with h | h<;>omega
 ·obtain⟨v,hv,ap⟩:=k2 k hf;obtain⟨y',aq,rfl⟩:=Zhk hv;exact uX k g1 g2 ((good y oY a1 y' (by rw[ho];simp[ZE,aq])).1 k ap)
 ·exact uX k g1 g2 (a0 k (k3 k hg))
theorem Zvi {C:Orc} {M:Zm} (hM:∀ f,M f 99=false) {os:List CO} {nx i j:Nat} {oi oj:CO} (ah:os[i]?=some oi) (av:os[j]?=some oj) (az:ZU os j=false) (a0:i≠j) (aw:Xo oj oi=true)
  (ad:QE oj.dst (YA oj)=true) (ae:QE oi.dst (YA oi)=true)
  (ai:∀ (k:Nat) (o:CO),os[k]?=some o→∀ x∈ZE o.op,YD x=true) {s s1 s2:Sl×Hp} {U:Nat→Prop} (hs:ZiH nt s U) (a1:QZ U (nx+64*i)) (ap:QZ U (nx+64*j))
  (aj:Zag oi.op=true) (a2:ZpM oj.op=true) (aa:Zpc s2.1 oj oi) {t:Nat} (ht:oj.dst=some t)
  (h1:ZF C M os nx j s=some s1) (h2:ZF C M os nx i s1=some s2):∃ t1,ZF C M os nx i s=some t1∧∃ t2,ZF C M os nx j t1=some t2∧XB t2 s2:=by
 have a3:=hs;obtain⟨F,A,I,Γ,a,w,af⟩:=a3;simp only[Xo,Kd] at aw;obtain⟨⟨am,an⟩,ao⟩:=aw;have good:∀ (k:Nat) (o:CO),os[k]?=some o→∀ x∈ZE o.op,ZkD U (evO s.1 x):=by
  intro k o ho x hx;cases x with
  | t n=>exact af.good n
  | v y=>exact Jl (ai k o ho _ hx)
  | f n=>exact⟨fun id a4=>by simp[evO,Zx,Zz] at a4,fun f a5 h c hc=>by cases h;simp at hc⟩
 have ab:∀ s:Sl×Hp,ZF C M os nx j s=ZO C M nx j false oj s:=fun s=>by simp only[ZF,av,Zg,az]
 rw[ab] at h1;simp only[ZF,ah,Zg] at h2;obtain⟨v,ax,a6,aq,hX⟩:∃ v ax,s1=(Zp s.1 oj.dst v,Zh s.2 ax)∧(∀ k x,(k,x)∈ax→nx+64*j≤k∧k<nx+64*j+64) ∧
   ((ZY s.1 oj.guard=some false∧v=.tup []∧ax=[])∨(ZY s.1 oj.guard=some true∧∃ ce,ZlO ce∧vop C M s.1 s.2 (nx+64*j) oj.op=some ce∧QP (nx+64*j) (nx+64*j+64) ce.eff.adds=true∧v=ce.eff.val∧ax=ce.eff.adds)):=by
  rcases Zvr h1 with ⟨g1,g2⟩ | ⟨g1,ce,g2,g3,g4,g5⟩
  ·exact⟨.tup [],[],g2,fun k x h=>by simp at h,.inl ⟨g1,rfl,rfl⟩⟩
  ·exact⟨ce.eff.val,ce.eff.adds,g5,UB g4,.inr ⟨g1,ce,g2,g3,g4,rfl,rfl⟩⟩
 subst a6;unfold ZO at h2;obtain⟨b,hw,h2⟩:=Za h2;have ay : ZY s.1 oi.guard=some b:=by rw[← hw];exact(Qs am).symm
 cases b with
 | false=>
  simp only[Kc,Ko] at h2;cases h2;refine⟨(Zp s.1 oi.dst (.tup []),s.2),by simp only[ZF,ah,Zg];exact Yh ay,?_⟩;refine⟨(Zp (Zp s.1 oi.dst (.tup [])) oj.dst v,Zh s.2 ax),?_,fun t=>(W0 an v (.tup []) t).symm,fun id=>rfl⟩;rw[ab];have ak:ZY (Zp s.1 oi.dst (.tup [])) oj.guard=ZY s.1 oj.guard:=Qs ao;rcases hX with ⟨g1,rfl,rfl⟩ | ⟨g1,ce,g2,g3,g4,rfl,rfl⟩
  ·exact Yh (s:=(Zp s.1 oi.dst (.tup []),s.2)) (ak.trans g1)
  ·refine Zhm (s:=(Zp s.1 oi.dst (.tup []),s.2)) (ak.trans g1) g2 ?_ g4;rw[← g3];exact QX C M s.2 (nx+64*j) (Wa (o:=oj) ao)
 | true=>
  simp only[Kn] at h2;obtain⟨ce,h3,h4,rfl⟩:=Xe h2;have a7:vop C M s.1 s.2 (nx+64*i) oi.op=some ce:=by
   have h5:=ZdR h3;rw[← h5,QX C M (Zh s.2 ax) (nx+64*i) (Wa (o:=oi) am)];exact JU (af.agree (Wb ap aq s.2)) C M _ (good i oi ah)
  have a8 : VN C M nx i (ZU os i) oi.op s.1 s.2=some ce:=by
   rw[← h3];unfold VN;rw[QX C M (Zh s.2 ax) (nx+64*i) (Wa (o:=oi) am),JU (af.agree (Wb ap aq s.2)) C M _ (good i oi ah)]
  have ar:∀ n,oj.dst≠some n→oi.dst≠some n→gs (ce.on oi.dst (Zp s.1 oj.dst v) (Zh s.2 ax)).1 n=kill ce.gone (gs s.1 n):=fun n e1 e2=>by
   show gs (Zp (QW ce.gone (Zp s.1 oj.dst v)) oi.dst ce.eff.val) n=_;rw[Qp,Kj e2,QH,Qp,Kj e1]
  obtain⟨c1,c2,c3,c4,c5⟩:=Zpd (nt:=nt) hM av ah (Ne.symm a0) ao am ad ae ai hs ap a1 aj a7 h4 ar aa;have e0:gs (ce.on oi.dst (Zp s.1 oj.dst v) (Zh s.2 ax)).1 t=kill ce.gone v:=by
   show gs (Zp (QW ce.gone (Zp s.1 oj.dst v)) oi.dst ce.eff.val) t=_;rw[Qp,Kj,QH,Qp,Kl ht];intro e;rw[ht,e] at an;simp[J1] at an
  have ag:kill ce.gone v=v:=by
   have h5:=aa.dst t ht;rw[e0] at h5;exact ZbM h5
  have au:okV v=true:=by
   have h5:=aa.dst t ht;rw[e0,ag] at h5;exact h5
  refine⟨ce.on oi.dst s.1 s.2,?_,?_⟩
  ·simp only[ZF,ah,Zg,ZO,ay,Kn,Yk];rw[a8,Zg,Kl h4]
  ·have ak:ZY (ce.on oi.dst s.1 s.2).1 oj.guard=ZY s.1 oj.guard:=by
    show ZY (Zp (QW ce.gone s.1) oi.dst ce.eff.val) oj.guard=_;rw[Qs ao];exact Zhn fun q _=>QH _ _ _
   have al:(∀ k o,(k,o)∈ax→Q8 ce.gone o=o)∧ZO C M nx j false oj (ce.on oi.dst s.1 s.2)=some (Zp (ce.on oi.dst s.1 s.2).1 oj.dst v,Zh (ce.on oi.dst s.1 s.2).2 ax):=by
    rcases hX with ⟨g1,rfl,rfl⟩ | ⟨g1,cx,g2,g3,g4,rfl,rfl⟩
    ·exact⟨fun k o h=>by simp at h,Yh (ak.trans g1)⟩
    ·obtain⟨e1,e2⟩:=Zxe a2 c2 c4 (fun k h6 h7=>(c5 k h6 h7).2.2.2) g3 g4 g2.frz au ag;exact⟨e2,Zhm (ak.trans g1) g2 e1 g4⟩
   obtain⟨e3,e4⟩:=al;refine⟨_,by rw[ab];exact e4,?_⟩;exact Zwl (ce:=ce) (dX:=oj.dst) (dY:=oi.dst) (v:=v) (ax:=ax) (s:=s) an c1 (fun k o ho=>by
    obtain⟨h6,h7⟩:=aq k o ho;obtain⟨m1,m2,m3,_⟩:=c5 k h6 h7;exact⟨m1,m2,m3⟩) e3 ag
theorem Zt4 {C:Orc} {M:Zm} (hM:∀ f,M f 99=false) {os:List CO} {nx i j:Nat} {oi oj:CO} (ar:os[i]?=some oi) (ag:os[j]?=some oj) (ay:ZU os i=false) (az:i≠j) (au:Xo oj oi=true)
  (ad:QE oi.dst (YA oi)=true) (ae:QE oj.dst (YA oj)=true)
  (ah:∀ (k:Nat) (o:CO),os[k]?=some o→∀ x∈ZE o.op,YD x=true) {s s1 s2:Sl×Hp} {U:Nat→Prop} (hs:ZiH nt s U) (av:QZ U (nx+64*i)) (a0:QZ U (nx+64*j))
  (ai:Zag oj.op=true) (a1:ZkZ oi.op=true) (ab:Zpc s2.1 oi oj) {t:Nat} (ht:oi.dst=some t)
  (h1:ZF C M os nx j s=some s1) (h2:ZF C M os nx i s1=some s2):∃ t1,ZF C M os nx i s=some t1∧∃ t2,ZF C M os nx j t1=some t2∧XB t2 s2:=by
 have a2:=hs;obtain⟨F,A,I,Γ,a,w,aj⟩:=a2;simp only[Xo,Kd] at au;obtain⟨⟨an,ao⟩,ak⟩:=au;have af : J1 oi.dst oj.dst=true:=by
  cases hd:oi.dst<;>cases he:oj.dst<;>rw[hd,he] at ao<;>first | rfl | (simp only[J1,bne_iff_ne,ne_eq] at ao ⊢;exact fun e=>ao e.symm)
 have good:∀ (k:Nat) (o:CO),os[k]?=some o→∀ x∈ZE o.op,ZkD U (evO s.1 x):=by
  intro k o ho x hx;cases x with
  | t n=>exact aj.good n
  | v y=>exact Jl (ah k o ho _ hx)
  | f n=>exact⟨fun id a3=>by simp[evO,Zx,Zz] at a3,fun f a4 h c hc=>by cases h;simp at hc⟩
 have aa:∀ s:Sl×Hp,ZF C M os nx i s=ZO C M nx i false oi s:=fun s=>by simp only[ZF,ar,Zg,ay]
 rw[aa] at h2;simp only[ZF,ag,Zg] at h1;unfold ZO at h1;obtain⟨b,hw,h1⟩:=Za h1;cases b with
 | false=>
  simp only[Kc,Ko] at h1;cases h1;have al:ZY (Zp s.1 oj.dst (.tup [])) oi.guard=ZY s.1 oi.guard:=Qs an;rcases Zvr h2 with ⟨g1,g2⟩ | ⟨g1,ce,g2,g3,g4,g5⟩
  ·subst g2;refine⟨(Zp s.1 oi.dst (.tup []),s.2),by rw[aa];exact Yh (al.symm.trans g1),(Zp (Zp s.1 oi.dst (.tup [])) oj.dst (.tup []),s.2),?_,fun t=>W0 af _ _ t,fun id=>rfl⟩;simp only[ZF,ag,Zg];exact Yh (s:=(Zp s.1 oi.dst (.tup []),s.2)) ((Qs ak).trans hw)
  ·subst g5;refine⟨(Zp s.1 oi.dst ce.eff.val,Zh s.2 ce.eff.adds),?_,(Zp (Zp s.1 oi.dst ce.eff.val) oj.dst (.tup []),Zh s.2 ce.eff.adds),?_,fun t=>W0 af _ _ t,fun id=>rfl⟩
   ·rw[aa];refine Zhm (al.symm.trans g1) g2 ?_ g4;rw[← g3];exact(QX C M s.2 (nx+64*i) (Wa (o:=oi) an)).symm
   ·simp only[ZF,ag,Zg];exact Yh (s:=(Zp s.1 oi.dst ce.eff.val,Zh s.2 ce.eff.adds)) ((Qs ak).trans hw)
 | true=>
  simp only[Kn] at h1;obtain⟨ce,h3,h4,rfl⟩:=Xe h1;have a5:vop C M s.1 s.2 (nx+64*j) oj.op=some ce:=ZdR h3;have al:ZY (ce.on oj.dst s.1 s.2).1 oi.guard=ZY s.1 oi.guard:=by
   show ZY (Zp (QW ce.gone s.1) oj.dst ce.eff.val) oi.guard=_;rw[Qs an];exact Zhn fun q _=>QH _ _ _
  obtain⟨v,ax,a6,aw,hX⟩:∃ v ax,s2=(Zp (ce.on oj.dst s.1 s.2).1 oi.dst v,Zh (ce.on oj.dst s.1 s.2).2 ax)∧(∀ k x,(k,x)∈ax→nx+64*i≤k∧k<nx+64*i+64) ∧
    ((ZY s.1 oi.guard=some false∧v=.tup []∧ax=[])∨(ZY s.1 oi.guard=some true∧∃ cx,ZlO cx∧vop C M (ce.on oj.dst s.1 s.2).1 (ce.on oj.dst s.1 s.2).2 (nx+64*i) oi.op=some cx∧QP (nx+64*i) (nx+64*i+64) cx.eff.adds=true∧v=cx.eff.val∧ax=cx.eff.adds)):=by
   rcases Zvr h2 with ⟨g1,g2⟩ | ⟨g1,cx,g2,g3,g4,g5⟩
   ·exact⟨.tup [],[],g2,fun k x h=>by simp at h,.inl ⟨al.symm.trans g1,rfl,rfl⟩⟩
   ·exact⟨cx.eff.val,cx.eff.adds,g5,UB g4,.inr ⟨al.symm.trans g1,cx,g2,g3,g4,rfl,rfl⟩⟩
  subst a6;have ap:∀ n,oi.dst≠some n→oj.dst≠some n→gs (Zp (ce.on oj.dst s.1 s.2).1 oi.dst v) n=kill ce.gone (gs s.1 n):=fun n e1 e2=>by
   rw[Qp,Kj e1];show gs (Zp (QW ce.gone s.1) oj.dst ce.eff.val) n=_;rw[Qp,Kj e2,QH]
  obtain⟨c1,c2,c3,c4,c5⟩:=Zpd (nt:=nt) hM ar ag az an ak ad ae ah hs av a0 ai a5 h4 ap ab;have aq:okV v=true:=by
   have h5:=ab.dst t ht;simp only[Qp,Kl ht] at h5;exact h5
  have am:kill ce.gone v=v∧(∀ k o,(k,o)∈ax→Q8 ce.gone o=o)∧ZO C M nx i false oi s=some (Zp s.1 oi.dst v,Zh s.2 ax):=by
   rcases hX with ⟨g1,rfl,rfl⟩ | ⟨g1,cx,g2,g3,g4,rfl,rfl⟩
   ·exact⟨rfl,fun k o h=>by simp at h,Yh g1⟩
   ·obtain⟨e1,e2,e3⟩:=Zvq a1 c2 c4 c3 (fun k h6 h7=>(c5 k h6 h7).2.2.2) g3 g4 g2.frz aq;exact⟨e2,e3,Zhm g1 g2 e1 g4⟩
  obtain⟨hk,e3,e4⟩:=am;refine⟨(Zp s.1 oi.dst v,Zh s.2 ax),by rw[aa];exact e4,ce.on oj.dst (Zp s.1 oi.dst v) (Zh s.2 ax),?_,?_⟩
  ·simp only[ZF,ag,Zg,ZO];have a7:ZY (Zp s.1 oi.dst v) oj.guard=some true:=(Qs ak).trans hw;simp only[a7,Zg,Kn,Yk];have:VN C M nx j (ZU os j) oj.op (Zp s.1 oi.dst v) (Zh s.2 ax)=some ce:=by
    rw[← h3];unfold VN;rw[QX C M (Zh s.2 ax) (nx+64*j) (Wa (o:=oj) ak),← JU (aj.agree (Wb av aw s.2)) C M _ (good j oj ag)]
   rw[this,Zg,Kl h4]
  ·exact(Zwl (ce:=ce) (dX:=oi.dst) (dY:=oj.dst) (v:=v) (ax:=ax) (s:=s) af c1 (fun k o ho=>by
    obtain⟨h6,h7⟩:=aw k o ho;obtain⟨m1,m2,m3,_⟩:=c5 k h6 h7;exact⟨m1,m2,m3⟩) e3 hk).symm
theorem ZeD {C:Orc} {M:Zm} {nx j:Nat} {oj:CO} {x:Opd} (hx:oj.op=.move x) {s:Sl×Hp} {b:Bool} (hw:ZY s.1 oj.guard=some b) :
  ZO C M nx j false oj s=some (Zp s.1 oj.dst (if b then evO s.1 x else .tup []),s.2):=by
 unfold ZO;rw[hw,Zg];cases b
 ·rfl
 ·simp only[Kn,hx,VN,Kc,Ko,vop];rfl
theorem Zvj {C:Orc} {M:Zm} {os:List CO} {nx i j:Nat} {oi oj:CO} (af:os[i]?=some oi) (am:os[j]?=some oj) (an:ZU os j=false) (ai:Xo oj oi=true)
  (ao:∀ (k:Nat) (o:CO),os[k]?=some o→∀ x∈ZE o.op,YD x=true)
  {s s1 s2:Sl×Hp} (hm:YO oj.op=true) {t:Nat} (ht:oj.dst=some t) (aj:okV (gs s2.1 t)=true)
  (h1:ZF C M os nx j s=some s1) (h2:ZF C M os nx i s1=some s2):∃ t1,ZF C M os nx i s=some t1∧∃ t2,ZF C M os nx j t1=some t2∧XB t2 s2:=by
 obtain⟨x,hx⟩:∃ x,oj.op=.move x:=by
  cases ho:oj.op<;>rw[ho] at hm<;>first | (cases hm;done) | exact⟨_,rfl⟩
 simp only[Xo,Kd] at ai;obtain⟨⟨ak,ad⟩,ab⟩:=ai;have aa:∀ s:Sl×Hp,ZF C M os nx j s=ZO C M nx j false oj s:=fun s=>by simp only[ZF,am,Zg,an]
 rw[aa] at h1;obtain⟨bj,ag⟩:∃ bj,ZY s.1 oj.guard=some bj:=by
  unfold ZO at h1;obtain⟨b,hw,_⟩:=Za h1;exact⟨b,hw⟩
 rw[ZeD hx ag] at h1;have h1:=(Option.some.inj h1).symm;subst h1;simp only[ZF,af,Zg] at h2;unfold ZO at h2;obtain⟨b,hw,h2⟩:=Za h2;have al : ZY s.1 oi.guard=some b:=by rw[← hw];exact(Qs ak).symm
 have ap:oi.dst≠some t:=fun e=>by rw[ht,e] at ad;simp[J1] at ad
 have ae:∀ n,x=.t n→oi.dst≠some n:=fun n e h=>by
  rw[h] at ab;simp only[QE,KO,KI,KT] at ab;exact ab (Ke.2 (.inl (by rw[hx,e];simp[ZE,ZaI])))
 cases b with
 | false=>
  simp only[Kc,Ko] at h2;cases h2;refine⟨(Zp s.1 oi.dst (.tup []),s.2),by simp only[ZF,af,Zg];exact Yh al,?_⟩;refine⟨_,by rw[aa];exact ZeD (s:=(Zp s.1 oi.dst (.tup []),s.2)) hx ((Qs ab).trans ag),?_⟩;have:evO (Zp s.1 oi.dst (.tup [])) x=evO s.1 x:=Wa (o:=oj) ab x (by rw[hx];simp[ZE]);simp only[this];exact⟨fun t=>(W0 ad _ _ t).symm,fun id=>rfl⟩
 | true=>
  simp only[Kn] at h2;obtain⟨ce,h3,h4,rfl⟩:=Xe h2;have aq : VN C M nx i (ZU os i) oi.op s.1 s.2=some ce:=by
   rw[← h3];unfold VN;rw[QX C M s.2 (nx+64*i) (Wa (o:=oi) ak)]
  refine⟨ce.on oi.dst s.1 s.2,by simp only[ZF,af,Zg,ZO,al,Kn,Yk];rw[aq,Zg,Kl h4],?_⟩;have ah:ZY (ce.on oi.dst s.1 s.2).1 oj.guard=some bj:=by
   show ZY (Zp (QW ce.gone s.1) oi.dst ce.eff.val) oj.guard=_;rw[Qs ab,← ag];exact Zhn fun q _=>QH _ _ _
  refine⟨_,by rw[aa];exact ZeD hx ah,?_⟩;have e0:gs (ce.on oi.dst (Zp s.1 oj.dst (if bj then evO s.1 x else .tup [])) s.2).1 t=kill ce.gone (if bj then evO s.1 x else .tup []):=by
   show gs (Zp (QW ce.gone (Zp s.1 oj.dst _)) oi.dst ce.eff.val) t=_;rw[Qp,Kj ap,QH,Qp,Kl ht]
  rw[e0] at aj;have hk:=ZbM aj;have ev:(if bj then evO (ce.on oi.dst s.1 s.2).1 x else .tup [])=(if bj then evO s.1 x else .tup []):=by
   cases bj with
   | false=>rfl
   | true=>
    simp only[Kn] at hk ⊢;cases x with
    | t n=>
     show gs (Zp (QW ce.gone s.1) oi.dst ce.eff.val) n=gs s.1 n;rw[Qp,Kj (ae n rfl),QH];exact hk
    | _=>rfl
  rw[ev];refine⟨fun q=>?_,fun id=>rfl⟩;show gs (Zp (Zp (QW ce.gone s.1) oi.dst ce.eff.val) oj.dst _) q=gs (Zp (QW ce.gone (Zp s.1 oj.dst _)) oi.dst ce.eff.val) q;simp only[Qp,QH];by_cases hq:oj.dst=some q
  ·have:¬oi.dst=some q:=fun e=>by rw[hq,e] at ad;simp[J1] at ad
   simp only[hq,Kn,this,Ko];exact hk.symm
  ·simp[hq]
theorem Zvk {C:Orc} {M:Zm} {os:List CO} {nx i j:Nat} {oi oj:CO} (am:os[i]?=some oi) (ag:os[j]?=some oj) (ar:ZU os i=false) (an:Xo oj oi=true)
  (ah:∀ (k:Nat) (o:CO),os[k]?=some o→∀ x∈ZE o.op,YD x=true)
  {s s1 s2:Sl×Hp} (hm:YO oi.op=true) {t:Nat} (ht:oi.dst=some t) (ai:okV (gs s2.1 t)=true)
  (h1:ZF C M os nx j s=some s1) (h2:ZF C M os nx i s1=some s2):∃ t1,ZF C M os nx i s=some t1∧∃ t2,ZF C M os nx j t1=some t2∧XB t2 s2:=by
 obtain⟨x,hx⟩:∃ x,oi.op=.move x:=by
  cases ho:oi.op<;>rw[ho] at hm<;>first | (cases hm;done) | exact⟨_,rfl⟩
 simp only[Xo,Kd] at an;obtain⟨⟨ad,aj⟩,ak⟩:=an;have aa:∀ s:Sl×Hp,ZF C M os nx i s=ZO C M nx i false oi s:=fun s=>by simp only[ZF,am,Zg,ar]
 rw[aa] at h2;simp only[ZF,ag,Zg] at h1;unfold ZO at h1;obtain⟨b,hw,h1⟩:=Za h1;have af:∀ n,x=.t n→oj.dst≠some n:=fun n e h=>by
  rw[h] at ad;simp only[QE,KO,KI,KT] at ad;exact ad (Ke.2 (.inl (by rw[hx,e];simp[ZE,ZaI])))
 have ao:∀ (bi:Bool) (e:evO s1.1 x=evO s.1 x∨bi=false) (g1:ZY s.1 oi.guard=some bi) (g2:ZY s1.1 oi.guard=some bi),s2=(Zp s1.1 oi.dst (if bi then evO s.1 x else .tup []),s1.2):=by
  intro bi e g1 g2;rw[ZeD hx g2] at h2;rw[← Option.some.inj h2];rcases e with e | e
  ·rw[e]
  ·rw[e];rfl
 cases b with
 | false=>
  simp only[Kc,Ko] at h1;cases h1;have ae:ZY (Zp s.1 oj.dst (.tup [])) oi.guard=ZY s.1 oi.guard:=Qs ad;obtain⟨bi,ab⟩:∃ bi,ZY s.1 oi.guard=some bi:=by
   unfold ZO at h2;obtain⟨b,hw,_⟩:=Za h2;exact⟨b,ae.symm.trans hw⟩
  have e:evO (Zp s.1 oj.dst (.tup [])) x=evO s.1 x:=Wa (o:=oi) ad x (by rw[hx];simp[ZE]);have h5:=ao bi (.inl e) ab (ae.trans ab);subst h5;refine⟨_,by rw[aa];exact ZeD hx ab,(Zp (Zp s.1 oi.dst (if bi then evO s.1 x else .tup [])) oj.dst (.tup []),s.2),?_,fun t=>?_,fun id=>rfl⟩
  ·simp only[ZF,ag,Zg];exact Yh (s:=(Zp s.1 oi.dst (if bi then evO s.1 x else .tup []),s.2)) ((Qs ak).trans hw)
  ·exact(W0 aj _ _ t).symm
 | true=>
  simp only[Kn] at h1;obtain⟨ce,h3,h4,rfl⟩:=Xe h1;have ae:ZY (ce.on oj.dst s.1 s.2).1 oi.guard=ZY s.1 oi.guard:=by
   show ZY (Zp (QW ce.gone s.1) oj.dst ce.eff.val) oi.guard=_;rw[Qs ad];exact Zhn fun q _=>QH _ _ _
  obtain⟨bi,ab⟩:∃ bi,ZY s.1 oi.guard=some bi:=by
   unfold ZO at h2;obtain⟨b,hw,_⟩:=Za h2;exact⟨b,ae.symm.trans hw⟩
  have ap:=h2;rw[ZeD hx (ae.trans ab)] at ap;have h6:=Option.some.inj ap;have hv:okV (if bi then evO (ce.on oj.dst s.1 s.2).1 x else .tup [])=true:=by
   rw[← h6] at ai;simp only[Qp,Kl ht] at ai;exact ai
  have aq:kill ce.gone (if bi then evO s.1 x else .tup [])=(if bi then evO s.1 x else .tup [])∧(evO (ce.on oj.dst s.1 s.2).1 x=evO s.1 x∨bi=false):=by
   cases bi with
   | false=>exact⟨rfl,.inr rfl⟩
   | true=>
    simp only[Kn] at hv ⊢;cases x with
    | t n=>
     have e:evO (ce.on oj.dst s.1 s.2).1 (.t n)=kill ce.gone (gs s.1 n):=by
      show gs (Zp (QW ce.gone s.1) oj.dst ce.eff.val) n=_;rw[Qp,Kj (af n rfl),QH]
     rw[e] at hv ⊢;have:=ZbM hv;exact⟨this,.inl this⟩
    | v c=>
     have hc:=ah i oi am (.v c) (by rw[hx];simp[ZE]);simp only[YD,Kd,List.isEmpty_iff] at hc;exact⟨Zwj hv fun id al=>by simp only[evO] at al;rw[hc.1] at al;simp at al,.inl rfl⟩
    | f n=>simp only[evO,okV,okC] at hv;cases hv
  have h5:=ao bi aq.2 ab (ae.trans ab);subst h5;refine⟨_,by rw[aa];exact ZeD hx ab,ce.on oj.dst (Zp s.1 oi.dst (if bi then evO s.1 x else .tup [])) s.2,?_,fun q=>?_,fun id=>rfl⟩
  ·simp only[ZF,ag,Zg,ZO];have au:ZY (Zp s.1 oi.dst (if bi then evO s.1 x else .tup [])) oj.guard=some true:=(Qs ak).trans hw;simp only[au,Zg,Kn,Yk];have:VN C M nx j (ZU os j) oj.op (Zp s.1 oi.dst (if bi then evO s.1 x else .tup [])) s.2=some ce:=by
    rw[← h3];unfold VN;rw[QX C M s.2 (nx+64*j) (Wa (o:=oj) ak)]
   rw[this,Zg,Kl h4]
  ·show gs (Zp (QW ce.gone (Zp s.1 oi.dst _)) oj.dst ce.eff.val) q=gs (Zp (Zp (QW ce.gone s.1) oj.dst ce.eff.val) oi.dst _) q;simp only[Qp,QH];by_cases hq:oi.dst=some q
   ·have:¬oj.dst=some q:=fun e=>by rw[hq,e] at aj;simp[J1] at aj
    simp only[hq,Kn,this,Ko];exact aq.1
   ·simp[hq]
theorem Zwh {C:Orc} {M:Zm} (hM:∀ f,M f 99=false) (hC:Qf P C) {ops:Array Oper} {os:List CO} (a9:Qr (Zm8 P nt ops.toList) ops.toList=some os) {nx i:Nat} {ks:List Nat} {oi:CO} (ab:os[i]?=some oi)
  (ad:∀ (k:Nat) (o:CO),os[k]?=some o→∀ x∈ZE o.op,YD x=true) :
  ∀ (js:List Nat) {s r:Sl×Hp} {U:Nat→Prop},ZiH nt s U→QZ U (nx+64*i)→(∀ j∈js,QZ U (nx+64*j))→(js++i :: ks).Pairwise (· < ·) →
   (∀ j∈js,∃ oj,os[j]?=some oj∧Xo oj oi=true∧((ZU os j=false∧(ZU os i=true→ZvH oi.op=true∨(ZpK oi.op=true∧(Wg oj.op=true∨(Jw oj.op=true∧ZaJ os j=true∧ZaJ os i=true∧ZkF r.1 oj.op oi.op=true)))∨(YO oj.op=true∧ZeT oi.op=true)∨(YO oj.op=true∧ZnL os j=true∧okD r.1 oj.dst=true) ∨
    (YO oj.op=false∧Zag oi.op=true∧ZpM oj.op=true∧ZaJ os j=true∧ZaJ os i=true∧ZnL os j=true∧Ug r.1 oj.dst oj.op oi.op=true))) ∨
    (ZU os j=true∧ZU os i=false∧YO oi.op=true∧ZnL os i=true∧okD r.1 oi.dst=true) ∨
    (ZU os j=true∧ZU os i=false∧YO oi.op=false∧Zag oj.op=true∧ZkZ oi.op=true∧ZaJ os j=true∧ZaJ os i=true∧ZnL os i=true∧Ug r.1 oi.dst oi.op oj.op=true))) →
   (∀ j∈js++i :: ks,j<os.length)→runL C M os nx (js++i :: ks) s=some r →
   ∃ s',ZF C M os nx i s=some s'∧∃ r',runL C M os nx (js++ks) s'=some r'∧XB r' r
 | [],s,r,U,_,_,_,_,_,_,h=>by
  simp only[L3,runL] at h ⊢;obtain⟨s',h1,h⟩:=Za h;exact⟨s',h1,r,h,XB.refl r⟩
 | j :: js,s,r,U,hs,hfi,hfj,hsort,hj,hlt,h=>by
  have a1:=h;simp only[KD,runL] at h;obtain⟨s1,h1,h⟩:=Za h;have a8:=hsort;simp only[KD,L1] at hsort;have bk:j<i:=hsort.1 i (by simp);have a0:i≠j:=by omega
  have a':=Zve hC a9 hs (hfj j (by simp)) h1;have ba:∀ k∈js,k≠j:=fun k hk e=>by
   have:=hsort.1 k (by simp[hk]);omega
  obtain⟨s2,h2,r2,h3,h4⟩:=Zwh hM hC a9 ab ad js a' (Zrh a0 hfi) (fun k hk=>Zrh (ba k hk) (hfj k (by simp[hk]))) hsort.2 (fun k hk=>hj k (by simp[hk])) (fun k hk=>hlt k (by simp only[KD,Kf];exact .inr hk)) h;obtain⟨oj,ae,au,a2⟩:=hj j (by simp);have aa:∀ {k q n:Nat} {o:CO},ZaJ os k=true→os[k]?=some o→k≤q→q<os.length→n∈YA o→QE (Uy os q) [n]=true:=by
   intro k q n o am ho bl hq hn;have:=KB.1 am q (Ls.2 hq);simp only[ZsW,ho,Lt,Ku] at this;rcases this with h | h
   ·omega
   ·cases hd:Uy os q with
    | none=>rfl
    | some d=>
     rw[hd] at h;simp only[QE,KO,KI,KT] at h ⊢;intro e;simp at e;exact h (e ▸ hn)
  have af:∀ {k:Nat} {o:CO},ZaJ os k=true→os[k]?=some o→QE o.dst (YA o)=true:=by
   intro k o am ho;have hk:k<os.length:=(Ka.1 ho).1;have:=KB.1 am k (Ls.2 hk);simp only[ZsW,Uy,ho,Lt,Ku] at this;rcases this with h | h
   ·omega
   ·exact h
  have ag:∀ {k q t:Nat} {o:CO},ZnL os k=true→os[k]?=some o→o.dst=some t→q≠k→q<os.length→QE (Uy os q) [t]=true:=by
   intro k q t o hl ho ht bb hq;simp only[ZnL,Kd] at hl;have:=KB.1 hl.2 q (Ls.2 hq);simp only[Lt,beq_iff_eq,Uy,ho,ht] at this;rcases this with h | h
   ·exact absurd h bb
   ·simp only[Uy];cases a3:os[q]? with
    | none=>rfl
    | some oq=>
     rw[a3] at h;simp only at h ⊢;cases hd:oq.dst with
     | none=>rfl
     | some d=>
      rw[hd] at h;simp only[J1,bne_iff_ne,ne_eq] at h;simp only[QE,KO,KI,KT,KL];exact h
  have ah:∀ {k:Nat} {o:CO},ZnL os k=true→os[k]?=some o→∃ t,o.dst=some t:=by
   intro k o hl ho;simp only[ZnL,Uy,ho,Kd] at hl;cases hd:o.dst with
   | none=>rw[hd] at hl;cases hl.1
   | some t=>exact⟨t,rfl⟩
  have av:∀ n,(∀ q∈js++ks,QE (Uy os q) [n]=true)→okV (gs r.1 n)=true→gs s2.1 n=gs r.1 n:=by
   intro n hn ho;rw[← h4.1 n] at ho ⊢;exact ZyJ h3 hn ho
  have ak:∀ q∈js++ks,q≠i∧j<q∧q<os.length:=by
   intro q hq;refine⟨?_,?_,hlt q ?_⟩
   ·rcases Ke.1 hq with hq | hq
    ·have:=(LM.1 hsort.2).2.2 q hq i (by simp);omega
    ·have:=(L1.1 (LM.1 hsort.2).2.1).1 q hq;omega
   ·rcases Ke.1 hq with hq | hq
    ·exact hsort.1 q (by simp[hq])
    ·exact hsort.1 q (by simp[hq])
   ·rcases Ke.1 hq with hq | hq<;>simp[hq]
  have an:ZaJ os j=true→∀ n∈YA oj,∀ q∈js++ks,QE (Uy os q) [n]=true:=fun am n hn q hq=>by
   obtain⟨_,h6,h7⟩:=ak q hq;exact aa am ae (by omega) h7 hn
  have ao:ZaJ os i=true→∀ n∈YA oi,∀ q∈js++ks,QE (Uy os q) [n]=true:=fun am n hn q hq=>by
   obtain⟨_,h6,h7⟩:=ak q hq;rcases Ke.1 hq with hq | hq
   ·obtain⟨oq,a3,ap,_⟩:=hj q (by simp[hq]);simp only[Xo,Kd] at ap;have h5:=ap.1.1;simp only[Uy,a3];cases hd:oq.dst with
    | none=>rfl
    | some d=>
     rw[hd] at h5;simp only[QE,KO,KI,KT] at h5 ⊢;intro e;simp at e;exact h5 (e ▸ hn)
   ·have:=(L1.1 (LM.1 hsort.2).2.1).1 q hq;exact aa am ab (by omega) h7 hn
  have ai:∀ {o:CO} {n:Nat},n∈(ZE o.op).flatMap ZaI→n∈YA o:=fun h=>Ke.2 (.inl h);have aj:∀ {o:CO} {n:Nat},n∈(Zl1 o.op).flatMap ZaI→n∈YA o:=fun {o n} h=>by
   refine Ke.2 (.inl ?_);cases ho:o.op<;>rw[ho] at h<;>simp only[Zl1,List.flatMap_nil,LV] at h
   simp only[ZE,KA,Ke];exact .inr h
  have a4:∃ t1,ZF C M os nx i s=some t1∧∃ t2,ZF C M os nx j t1=some t2∧XB t2 s2:=by
   rcases a2 with ⟨aw,ay⟩ | ⟨aw,az,k1,k5,k6⟩ | ⟨aw,az,k0,k1,k2,k3,k4,k5,k6⟩
   case inr.inl=>
    obtain⟨t,ht⟩:=ah k5 ab;refine Zvk ab ae az au ad k1 ht ?_ h1 h2;rw[ht] at k6;simp only[okD] at k6;rw[av t (fun q hq=>?_) k6]
    ·exact k6
    ·obtain⟨h5,_,h7⟩:=ak q hq;exact ag k5 ab ht h5 h7
   case inr.inr=>
    obtain⟨t,ht⟩:=ah k5 ab;refine Zt4 hM ab ae az a0 au (af k4 ab) (af k3 ae) ad hs hfi (hfj j (by simp)) k1 k2 ?_ ht h1 h2;refine(Zt3 k0 k1 k6).move (fun n hn=>av n (ao k4 n (ai hn))) (fun n hn=>av n fun q hq=>?_) (fun n hn=>av n (an k3 n (aj hn)));obtain⟨h5,_,h7⟩:=ak q hq;exact ag k5 ab hn h5 h7
   cases az:ZU os i with
   | false=>exact Zw0 ab ae az aw a0 au ad hs hfi (hfj j (by simp)) h1 h2
   | true=>
    rcases ay az with hc | ⟨am,hl⟩ | ⟨bc,bd⟩ | ⟨k1,k5,k6⟩ | ⟨k0,k1,k2,k3,k4,k5,k6⟩
    case inr.inr.inr.inl=>
     obtain⟨t,ht⟩:=ah k5 ae;refine Zvj ab ae aw au ad k1 ht ?_ h1 h2;rw[ht] at k6;simp only[okD] at k6;rw[av t (fun q hq=>?_) k6]
     ·exact k6
     ·obtain⟨_,h6,h7⟩:=ak q hq;exact ag k5 ae ht (by omega) h7
    case inr.inr.inr.inr=>
     obtain⟨t,ht⟩:=ah k5 ae;refine Zvi hM ab ae aw a0 au (af k3 ae) (af k4 ab) ad hs hfi (hfj j (by simp)) k1 k2 ?_ ht h1 h2;refine(Zt3 k0 k1 k6).move (fun n hn=>av n (an k3 n (ai hn))) (fun n hn=>av n fun q hq=>?_) (fun n hn=>av n (ao k4 n (aj hn)));obtain⟨_,h6,h7⟩:=ak q hq;exact ag k5 ae hn (by omega) h7
    ·exact Zw4 ab ae hc aw a0 au ad hs hfi (hfj j (by simp)) h1 h2
    ·refine Zvh ab ae az aw a0 au ad hs hfi (hfj j (by simp)) ⟨am,?_⟩ h1 h2;rcases hl with hl | ⟨be,bf,bg,al⟩
     ·exact .inl hl
     ·refine .inr ⟨be,?_⟩;have a5:∀ x∈ZE oi.op,okW (evO r.1 x)=true→evO s.1 x=evO r.1 x:=by
       intro x hx ax;cases x with
       | v a=>rfl
       | f n=>rfl
       | t n=>
        simp only[evO] at ax ⊢;have hn:n∈YA oi:=by
         rw[YA];exact Ke.2 (.inl (Kq.2 ⟨.t n,hx,KL.2 rfl⟩))
        refine Zsx a1 (fun q hq=>?_) ax;rcases Ke.1 hq with hq | hq
        ·obtain⟨oq,a3,ap,_⟩:=hj q hq;simp only[Xo,Kd] at ap;have h5:=ap.1.1;simp only[Uy,a3];cases hd:oq.dst with
         | none=>rfl
         | some d=>
          rw[hd] at h5;simp only[QE,KO,KI,KT] at h5 ⊢;intro e;simp at e;exact h5 (e ▸ hn)
        ·refine aa bg ab ?_ (hlt q (Ke.2 (.inr hq))) hn;rcases Kf.1 hq with rfl | hq
         ·omega
         ·have:=LM.1 hsort.2;have:=(L1.1 this.2.1).1 q hq;omega
      have a7:∀ id,QL r.1 id (ZE oj.op)=true→QL s.1 id (ZE oj.op)=true:=by
       intro id bh;have bi:∀ xs:List Opd,(∀ z∈xs,z∈ZE oj.op)→QL r.1 id xs=true→QL s.1 id xs=true:=by
        intro xs
        induction xs with
        | nil=>intro _ _;rfl
        | cons z zs ihz=>
         intro a6 hz;simp only[QL,Kd] at hz ⊢;refine⟨?_,ihz (fun z' bj=>a6 z' (by simp[bj])) hz.2⟩;cases z with
         | v a=>exact hz.1
         | f n=>exact hz.1
         | t n=>
          simp only[evO] at hz ⊢;have hn:n∈YA oj:=by
           rw[YA];exact Ke.2 (.inl (Kq.2 ⟨.t n,a6 (.t n) (Lg ..),KL.2 rfl⟩))
          rw[ZyJ a1 (fun q hq=>?_) (Zz0 hz.1)]
          ·exact hz.1
          ·refine aa bf ae ?_ (hlt q hq) hn;rcases Ke.1 hq with hq | hq
           ·rcases Kf.1 hq with rfl | hq
            ·omega
            ·have:=hsort.1 q (by simp[hq]);omega
           ·have:=hsort.1 q (by simp only[Ke];exact .inr hq);omega
       exact bi _ (fun _ h=>h) bh
      cases ho:oi.op<;>rw[ho] at am al<;>first | (cases am;done) | skip
      case store slc sz x y=>
       simp only[ZkF,Kd] at al ⊢;obtain⟨al,ar⟩:=al;have ax:okV (evO r.1 x)=true:=by
        cases ht:Ve (evO r.1 x) with
        | none=>rw[ht] at al;simp[ZeV] at al
        | some id=>cases hv:evO r.1 x<;>rw[hv] at ht<;>simp only[Ve] at ht<;>first | (cases ht;done) | rfl
       rw[a5 x (by rw[ho];simp[ZE]) (ZnS ax)];constructor
       ·cases ht:Ve (evO r.1 x) with
        | none=>rw[ht] at al;simp[ZeV] at al
        | some id=>rw[ht] at al;exact a7 id al
       ·by_cases hp:∃ b1 b2 b3 b4,evO r.1 x=.prow b1 b2 b3 b4
        ·obtain⟨b1,b2,b3,b4,hp⟩:=hp;rw[hp] at ar ⊢;rcases ZmS ar with ⟨d,hv⟩ | hv
         ·rw[a5 y (by rw[ho];simp[ZE]) (by rw[hv];rfl),hv];rfl
         ·rw[a5 y (by rw[ho];simp[ZE]) (ZnS hv.1)];exact Zw3 ⟨hv.1,Zo8 a7 hv.2⟩
        ·exact Zsy fun b1 b2 b3 b4 e=>hp ⟨b1,b2,b3,b4,e⟩
      case append sz by_ str flat x y=>
       simp only[ZkF,Kd,Lt] at al ⊢;obtain⟨ar,aq⟩:=al;constructor
       ·have ax:okW (evO r.1 x)=true:=by
         cases hv:evO r.1 x<;>rw[hv] at ar<;>first | rfl | (cases ar;done) | skip
         case tup vs=>cases vs<;>first | rfl | cases ar
        rw[a5 x (by rw[ho];simp[ZE]) ax];cases hv:evO r.1 x<;>rw[hv] at ar<;>first | (cases ar;done) | exact a7 _ ar | skip
        ·rfl
        case tup vs=>cases vs<;>first | rfl | cases ar
       ·rcases aq with aq | aq
        ·exact .inl aq
        ·right
         have ax:okW (evO r.1 y)=true:=by
          unfold seenSrc at aq;split at aq
          ·rename_i k hk;rw[hk];rfl
          ·exact ZnS aq
         rw[a5 y (by rw[ho];simp[ZE]) ax];unfold seenSrc at aq ⊢;split at aq
         ·exact a7 _ aq
         ·exact aq
    ·exact Zw6 ab ae aw au bc bd h1 h2
  obtain⟨t1,g1,t2,g2,g3⟩:=a4;obtain⟨r3,g4,g5⟩:=Zo5 g3.symm h3;refine⟨t1,g1,r3,?_,g5.symm.trans h4⟩;simp only[KD,runL,g2,Zg];exact g4
def rem (n:Nat) (listed:Array Bool):List Nat:=(List.range n).filter fun i=>!listed.getD i true
theorem Zhl {n:Nat} {aa:Array Bool} {i:Nat}:i∈rem n aa↔i<n∧aa.getD i true=false:=by
 simp[rem]
theorem Zpe (n:Nat) (aa:Array Bool):(rem n aa).Pairwise (· < ·):=List.Pairwise.filter _ List.pairwise_lt_range
theorem Zz3 {n:Nat} {aa:Array Bool} (ad:aa.size=n) (i:Nat):rem n (aa.setIfInBounds i true)=(rem n aa).filter fun j=>j != i:=by
 simp only[rem,List.filter_filter];refine List.filter_congr fun j hj=>?_;have ae:j<n:=Ls.1 hj;by_cases ab:i=j
 ·subst ab;simp[ad,ae]
 ·simp[Array.getElem?_setIfInBounds_ne ab,Ne.symm ab]
def Zrk (nx:Nat) (listed:Array Bool) (id:Nat):Prop:=id<nx∨∃ k,listed.getD k false=true∧nx+64*k≤id∧id<nx+64*k+64
theorem W8 {l:Array Bool} {k:Nat} (h:l.getD k false=true):k<l.size∧l.getD k true=true:=by
 rcases KN k l.size with h1 | h1
 ·refine⟨h1,?_⟩;simp[h1] at h ⊢;exact h
 ·simp[Array.getElem?_eq_none h1] at h
theorem Zpf {nx i:Nat} {aa:Array Bool} (h:aa.getD i true=false):QZ (Zrk nx aa) (nx+64*i):=by
 intro id h1 h2 hu;rcases hu with hu | ⟨k,hk,h3,h4⟩
 ·omega
 ·have ab:k≠i:=fun e=>by subst e;rw[(W8 hk).2] at h;cases h
  rcases LI ab with h5 | h5<;>omega
theorem Zpg {nx i:Nat} {aa:Array Bool} (hi:i<aa.size):∀ id,JC (Zrk nx aa) (nx+64*i) id→Zrk nx (aa.setIfInBounds i true) id:=by
 rintro id ((h | ⟨k,hk,h1⟩) | h)
 ·exact .inl h
 ·exact .inr ⟨k,getD_set_true hk,h1⟩
 ·exact .inr ⟨i,by simp[hi],h.1,h.2⟩
end
end Go.Abs

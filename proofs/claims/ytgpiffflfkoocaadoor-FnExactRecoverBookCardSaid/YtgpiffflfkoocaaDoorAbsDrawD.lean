/- Own text. -/
import Derived.Test.YtgpiffflfkoocaaDoorAbsDrawC
set_option linter.unusedVariables false
set_option linter.unusedSimpArgs false
namespace Go.Abs
open Go
theorem Zql {hp:Hp} {m:Bool} {x y:AV} (h:Jt hp m x=some y):∀ k∈Wx y,k∈Wx x:=by
 intro k hk;have aa:∀ {r:Option D},asD r=some y→False:=fun {r} h=>by
  obtain⟨d,_,h⟩:=Za h;cases h;simp[Wx] at hk
 cases x<;>simp only[Jt] at h<;>first | (exact(aa h).elim) | skip
 case d d=>cases h;simp[Wx] at hk
 case nil=>cases m<;>simp only[ZbW] at h<;>(cases h;simp[Wx] at hk)
 case nilp=>cases h;exact hk
 case nili=>cases h;exact hk
 case ptr a b=>cases h;exact hk
 case pim c=>cases h;exact hk
 case clo f c=>cases h;exact hk
 case own id=>
  cases m<;>simp only[ZaT] at h
  ·exact(aa h).elim
  ·cases h;simp[Wx] at hk
 case agg cs=>
  cases m<;>simp only[ZaU] at h
  ·exact(aa h).elim
  ·split at h
   ·cases h
   ·cases h;simp[Wx] at hk
theorem Zke {hp:Hp} {m:Nat→Bool}:∀ {xs ys:List AV} (i:Nat),args hp m i xs=some ys→∀ y∈ys,∀ k∈Wx y,∃ x∈xs,k∈Wx x
 | [],ys,i,h,y,hy,k,hk=>by simp only[args] at h;cases h;simp at hy
 | x :: xs,ys,i,h,y,hy,k,hk=>by
  simp only[args] at h;obtain⟨a,h1,h⟩:=Za h;obtain⟨as,h2,h⟩:=Za h;cases h;rcases Ke.1 hy with rfl | hy
  ·exact⟨x,by simp,Zql h1 k hk⟩
  ·obtain⟨x',h3,h4⟩:=Zke (i+1) h2 y hy k hk;exact⟨x',by simp[h3],h4⟩
theorem Zii {x:AV}:∀ id∈Jx x,id∈Zg x:=by
 intro id h;cases x<;>simp[Jx] at h<;>simp[Zg,h]
theorem ZmT {x:AV}:∀ id∈ZaJ x,id∈Zl x:=by
 intro id h;cases x<;>simp only[ZaJ] at h<;>first | exact Zii id h | (simp[Jx] at h;done) | skip
 case agg cs=>
  obtain⟨c,h1,h2⟩:=Kq.1 h;exact Kq.2 ⟨c,h1,Zii id h2⟩
theorem Zgl:∀ {xs ys:List AV},∀ i∈XV xs ys,∃ x∈xs,i∈Zl x
 | [],ys,i,h=>by cases ys<;>simp[XV] at h
 | x :: xs,[],i,h=>by simp[XV] at h
 | x :: xs,y :: ys,i,h=>by
  have aa:i∈XV xs ys→∃ x'∈x :: xs,i∈Zl x':=fun h=>by
   obtain⟨x',h1,h2⟩:=Zgl i h;exact⟨x',by simp[h1],h2⟩
  rw[Zf3] at h;rcases Kd.1 h with h | h
  ·cases y<;>simp only[Zo4] at h<;>first | (simp at h;done) | exact⟨x,by simp,ZmT i h⟩
  ·exact aa h
theorem Zqm {C:Orc} {m:Nat→Bool} {hp:Hp} {base f:Nat} {ad:List AV} {ce:Zb} (h:JD C m hp base f ad=some ce) (hm:m 99=false) :
  ce.eff.dels=[]∧(∀ i∈ce.eff.frz,∃ a∈ad,i∈Zl a)∧(∀ i∈ce.gone,∃ o,lkp hp i=some o)∧(∀ k o,(k,o)∈ce.eff.sets→(∃ o,lkp hp k=some o)∧(k∈ce.gone∨∃ a∈ad,k∈Wx a)):=by
 unfold JD at h;obtain⟨as,h1,h⟩:=Za h;unfold ZaV at h;split at h
 ·rename_i hc;obtain⟨⟨r,out⟩,h2,h⟩:=Za h;unfold W3 at h;split at h
  ·cases h
  split at h
  ·cases h
  ·cases h;obtain⟨_,_,ab⟩:=Wg hp (Xd hp) (as.flatMap Zl) [] Ln;have aa : ∀ id∈QF hp (Xd hp) (as.flatMap Zl) [],∃ o,lkp hp id=some o:=fun id af=>(ab id af).resolve_left (by simp);refine⟨rfl,fun i hi=>?_,fun i hi=>?_,fun k o hk=>?_⟩
   ·simp only at hi;split at hi
    ·simp at hi
    ·exact Zgl i hi
   ·rw[hm] at hi;exact aa i (List.mem_filter.1 hi).1
   ·obtain⟨q,o0,h3,_,_⟩:=Zdv _ _ _ _ _ hk;have ae:=Kp h3;refine⟨aa k ae,?_⟩;have:=Kx.1 hc.2.2 k ae;simp only[Lv,KK,Kk] at this;rcases this with h4 | h4
    ·exact .inl (by rw[hm];exact List.mem_filter.2 ⟨ae,h4⟩)
    ·obtain⟨y,h5,h6⟩:=Kq.1 h4;exact .inr (Zke 0 h1 y h5 k h6)
 ·cases h
theorem ZbP:∀ {l:Hp} {hp:Hp} {k:Nat} {o:Zf},(∃ o',(k,o')∈l)→lkp (Zd hp l) k=some o→(k,o)∈l
 | [],hp,k,o,h,_=>by obtain⟨o',h⟩:=h;simp at h
 | (a,x) :: r,hp,k,o,h,hl=>by
  simp only[Zd] at hl;by_cases h1:∃ o',(k,o')∈r
  ·exact Kr _ (ZbP h1 hl)
  ·rw[Zq r _ k fun o' aa=>h1 ⟨o',aa⟩,Qa] at hl;obtain⟨o',h2⟩:=h;rcases Ke.1 h2 with h2 | h2
   ·cases h2;rw[Ko rfl] at hl;cases hl;exact KX ..
   ·exact absurd ⟨o',h2⟩ h1
theorem U6:∀ {l:Hp} {hp hp' : Hp} {k:Nat},(∃ o',(k,o')∈l)→lkp (Zd hp l) k=lkp (Zd hp' l) k
 | [],hp,hp',k,h=>by obtain⟨o',h⟩:=h;simp at h
 | (a,x) :: r,hp,hp',k,h=>by
  simp only[Zd];by_cases h1:∃ o',(k,o')∈r
  ·exact U6 h1
  ·rw[Zq r _ k fun o' aa=>h1 ⟨o',aa⟩,Zq r _ k fun o' aa=>h1 ⟨o',aa⟩,Qa,Qa];obtain⟨o',h2⟩:=h;rcases Ke.1 h2 with h2 | h2
   ·cases h2;simp
   ·exact absurd ⟨o',h2⟩ h1
theorem WF:∀ (l:Hp) {hp hp' : Hp} {k:Nat},lkp hp k=lkp hp' k→lkp (Zd hp l) k=lkp (Zd hp' l) k
 | [],hp,hp',k,h=>h
 | (a,x) :: r,hp,hp',k,h=>by
  simp only[Zd];exact WF r (by rw[Qa,Qa,h])
theorem Zpe {ce:Zb} {dX dY:Option Nat} {v:AV} {ax:Hp} {s:Sl×Hp} (hd:WK dX dY=true) (aa:ce.eff.dels=[])
  (h1:∀ k o,(k,o)∈ax→(∀ o',(k,o')∉ce.eff.sets)∧(∀ o',(k,o')∉ce.eff.adds)∧k∉ce.eff.frz) (h2:∀ k o,(k,o)∈ax→QU ce.gone o=o) (hv:kill ce.gone v=v) :
  Xa (Zi (ce.on dY s.1 s.2).1 dX v,Zd (ce.on dY s.1 s.2).2 ax) (ce.on dY (Zi s.1 dX v) (Zd s.2 ax)):=by
 refine⟨fun t=>?_,fun k=>?_⟩
 ·show gs (Zi (Zi (QN ce.gone s.1) dY ce.eff.val) dX v) t=gs (Zi (QN ce.gone (Zi s.1 dX v)) dY ce.eff.val) t;simp only[Qb,Qt];by_cases hx:dX=some t
  ·have hy:¬dY=some t:=fun e=>by rw[hx,e] at hd;simp[WK] at hd
   simp[hx,hy,hv]
  ·simp[hx]
 ·show lkp (Zd (ce.eff.on (YK ce.gone s.2)) ax) k=lkp (ce.eff.on (YK ce.gone (Zd s.2 ax))) k;unfold Eff.on;rw[aa];simp only[ZW];by_cases hk:∃ o,(k,o)∈ax
  ·obtain⟨o,ho⟩:=hk;obtain⟨g1,g2,g3⟩:=h1 k o ho;rw[Zq _ (Zd (Z0 ce.eff.frz (YK ce.gone (Zd s.2 ax))) ce.eff.sets) k g2,Zq _ (Z0 ce.eff.frz (YK ce.gone (Zd s.2 ax))) k g1];rw[ZV,YW];rw[U6 (hp':=s.2) ⟨o,ho⟩];cases hl:lkp (Zd s.2 ax) k with
   | none=>rfl
   | some o' =>
    have:=h2 k o' (ZbP ⟨o,ho⟩ hl);simp[this,g3]
  ·have ab : ∀ o,(k,o)∉ax:=fun o ho=>hk ⟨o,ho⟩;rw[Zq ax _ k ab];refine WF _ (WF _ ?_);rw[ZV,ZV,YW,YW,Zq ax _ k ab]
structure Zfs (ce:Zb):Prop where
 gone:ce.gone=[]
 sets:ce.eff.sets=[]
 dels:ce.eff.dels=[]
 frz:ce.eff.frz=[]
theorem ZmU {ce:Zb} (h:Zfs ce) (d:Option Nat) (s:Sl×Hp):ce.on d s.1 s.2=(Zi s.1 d ce.eff.val,Zd s.2 ce.eff.adds):=by
 unfold Zb.on Eff.on;rw[h.gone,h.sets,h.dels,h.frz];rfl
theorem Zoc {C:Orc} {M:Zh} {nx i:Nat} {o:CO} {s s' : Sl×Hp} (h:Zy C M nx i false o s=some s') :
  (ZK s.1 o.guard=some false∧s'=(Zi s.1 o.dst (.tup []),s.2)) ∨
  (ZK s.1 o.guard=some true∧∃ ce,Zfs ce∧vop C M s.1 s.2 (nx+64*i) o.op=some ce∧QD (nx+64*i) (nx+64*i+64) ce.eff.adds=true∧s'=(Zi s.1 o.dst ce.eff.val,Zd s.2 ce.eff.adds)):=by
 unfold Zy at h;obtain⟨b,hw,h⟩:=Za h;cases b with
 | true=>
  simp only[Kl] at h;obtain⟨ce,h1,h2,rfl⟩:=Q0 h;unfold YM at h1;simp only[Ka,Kn] at h1;unfold Jn at h1;obtain⟨c,h3,h1⟩:=Za h1;unfold Za8 at h1;split at h1
  ·rename_i e1 e2 e3 e4;cases h1;have hq:Zfs ce:=⟨e1,e2,e3,e4⟩
   exact .inr ⟨hw,ce,hq,h3,h2,ZmU hq _ s⟩
  ·cases h1
 | false=>
  simp only[Ka,Kn] at h;cases h;exact .inl ⟨hw,rfl⟩
theorem Zcu {C:Orc} {M:Zh} {nx i:Nat} {o:CO} {s:Sl×Hp} {ce:Zb} (hw:ZK s.1 o.guard=some true) (hq:Zfs ce) (hv:vop C M s.1 s.2 (nx+64*i) o.op=some ce) (hk:QD (nx+64*i) (nx+64*i+64) ce.eff.adds=true) :
  Zy C M nx i false o s=some (Zi s.1 o.dst ce.eff.val,Zd s.2 ce.eff.adds):=by
 unfold Zy;rw[hw,Zc];simp only[Kl];unfold XS YM;simp only[Ka,Kn];rw[hv];simp only[Jn,Zc,hq.gone,hq.sets,hq.dels,hq.frz,Za8];rw[Ko hk,ZmU hq _ s]
theorem XR {C:Orc} {M:Zh} {nx i:Nat} {t:Bool} {o:CO} {s:Sl×Hp} (hw:ZK s.1 o.guard=some false):Zy C M nx i t o s=some (Zi s.1 o.dst (.tup []),s.2):=by
 unfold Zy;rw[hw,Zc];rfl
theorem Zcv {sl sl' : Sl} {g:List Nat} {gd:Option (Nat×Bool)} (h:∀ q,gd=some q→gs sl' q.1=kill g (gs sl q.1)):ZK sl' gd=ZK sl gd:=by
 cases gd with
 | none=>rfl
 | some q=>
  simp only[ZK,h q rfl];cases gs sl q.1 with
  | d x=>rfl
  | tup vs=>cases vs<;>rfl
  | ptr a b=>simp only[kill,ZF,ZU];split<;>rfl
  | prow a b c d=>simp only[kill,ZF,ZU];split<;>rfl
  | own a=>simp only[kill,ZF,ZU];split<;>rfl
  | ownv a b c=>simp only[kill,ZF,ZU];split<;>rfl
  | bnil a b=>simp only[kill,ZF,ZU];split<;>rfl
  | _=>rfl
end Go.Abs

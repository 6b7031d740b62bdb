/- Own text. -/
import Derived.Test.YtdhgppkldoopaaaGreatAbsDrawC
set_option linter.unusedVariables false
set_option linter.unusedSimpArgs false
namespace Go.Abs
open Go
theorem Zxf {hp:Hp} {m:Bool} {x y:AV} (h:Zcc hp m x=some y):∀ k∈JG y,k∈JG x:=by
 intro k hk;have aa:∀ {r:Option D},asD r=some y→False:=fun {r} h=>by
  obtain⟨d,_,h⟩:=Za h;cases h;simp[JG] at hk
 cases x<;>simp only[Zcc] at h<;>first | (exact(aa h).elim) | skip
 case d d=>cases h;simp[JG] at hk
 case nil=>cases m<;>simp only[ZgO] at h<;>(cases h;simp[JG] at hk)
 case nilp=>cases h;exact hk
 case nili=>cases h;exact hk
 case ptr a b=>cases h;exact hk
 case pim c=>cases h;exact hk
 case clo f c=>cases h;exact hk
 case own id=>
  cases m<;>simp only[ZeI] at h
  ·exact(aa h).elim
  ·cases h;simp[JG] at hk
 case agg cs=>
  cases m<;>simp only[ZeJ] at h
  ·exact(aa h).elim
  ·split at h
   ·cases h
   ·cases h;simp[JG] at hk
theorem Zro {hp:Hp} {m:Nat→Bool}:∀ {xs ys:List AV} (i:Nat),args hp m i xs=some ys→∀ y∈ys,∀ k∈JG y,∃ x∈xs,k∈JG x
 | [],ys,i,h,y,hy,k,hk=>by simp only[args] at h;cases h;simp at hy
 | x :: xs,ys,i,h,y,hy,k,hk=>by
  simp only[args] at h;obtain⟨a,h1,h⟩:=Za h;obtain⟨as,h2,h⟩:=Za h;cases h;rcases Kf.1 hy with rfl | hy
  ·exact⟨x,by simp,Zxf h1 k hk⟩
  ·obtain⟨x',h3,h4⟩:=Zro (i+1) h2 y hy k hk;exact⟨x',by simp[h3],h4⟩
theorem Zpj {x:AV}:∀ id∈Zcn x,id∈Zl x:=by
 intro id h;cases x<;>simp[Zcn] at h<;>simp[Zl,h]
theorem Zua {x:AV}:∀ id∈Zey x,id∈Zx x:=by
 intro id h;cases x<;>simp only[Zey] at h<;>first | exact Zpj id h | (simp[Zcn] at h;done) | skip
 case agg cs=>
  obtain⟨c,h1,h2⟩:=Kq.1 h;exact Kq.2 ⟨c,h1,Zpj id h2⟩
theorem Zm1:∀ {xs ys:List AV},∀ i∈Yw xs ys,∃ x∈xs,i∈Zx x
 | [],ys,i,h=>by cases ys<;>simp[Yw] at h
 | x :: xs,[],i,h=>by simp[Yw] at h
 | x :: xs,y :: ys,i,h=>by
  have aa:i∈Yw xs ys→∃ x'∈x :: xs,i∈Zx x':=fun h=>by
   obtain⟨x',h1,h2⟩:=Zm1 i h;exact⟨x',by simp[h1],h2⟩
  rw[ZmJ] at h;rcases Ke.1 h with h | h
  ·cases y<;>simp only[Zwd] at h<;>first | (simp at h;done) | exact⟨x,by simp,Zua i h⟩
  ·exact aa h
theorem Zxg {C:Orc} {m:Nat→Bool} {hp:Hp} {base f:Nat} {ad:List AV} {ce:Ze} (h:Zcu C m hp base f ad=some ce) (hm:m 99=false) :
  ce.eff.dels=[]∧(∀ i∈ce.eff.frz,∃ a∈ad,i∈Zx a)∧(∀ i∈ce.gone,∃ o,lkp hp i=some o)∧(∀ k o,(k,o)∈ce.eff.sets→(∃ o,lkp hp k=some o)∧(k∈ce.gone∨∃ a∈ad,k∈JG a)):=by
 unfold Zcu at h;obtain⟨as,h1,h⟩:=Za h;unfold ZeK at h;split at h
 ·rename_i hc;obtain⟨⟨r,out⟩,h2,h⟩:=Za h;unfold Zaz at h;split at h
  ·cases h
  split at h
  ·cases h
  ·cases h;obtain⟨_,_,ab⟩:=Jj hp (XF hp) (as.flatMap Zx) [] Lr;have aa : ∀ id∈QQ hp (XF hp) (as.flatMap Zx) [],∃ o,lkp hp id=some o:=fun id af=>(ab id af).resolve_left (by simp);refine⟨rfl,fun i hi=>?_,fun i hi=>?_,fun k o hk=>?_⟩
   ·simp only at hi;split at hi
    ·simp at hi
    ·exact Zm1 i hi
   ·rw[hm] at hi;exact aa i (List.mem_filter.1 hi).1
   ·obtain⟨q,o0,h3,_,_⟩:=Zji _ _ _ _ _ hk;have ae:=Kb h3;refine⟨aa k ae,?_⟩;have:=KB.1 hc.2.2 k ae;simp only[Lt,KI,Ku] at this;rcases this with h4 | h4
    ·exact .inl (by rw[hm];exact List.mem_filter.2 ⟨ae,h4⟩)
    ·obtain⟨y,h5,h6⟩:=Kq.1 h4;exact .inr (Zro 0 h1 y h5 k h6)
 ·cases h
theorem ZgF:∀ {l:Hp} {hp:Hp} {k:Nat} {o:Zn},(∃ o',(k,o')∈l)→lkp (Zh hp l) k=some o→(k,o)∈l
 | [],hp,k,o,h,_=>by obtain⟨o',h⟩:=h;simp at h
 | (a,x) :: r,hp,k,o,h,hl=>by
  simp only[Zh] at hl;by_cases h1:∃ o',(k,o')∈r
  ·exact Kr _ (ZgF h1 hl)
  ·rw[ZC r _ k fun o' aa=>h1 ⟨o',aa⟩,Qn] at hl;obtain⟨o',h2⟩:=h;rcases Kf.1 h2 with h2 | h2
   ·cases h2;rw[Kl rfl] at hl;cases hl;exact Lg ..
   ·exact absurd ⟨o',h2⟩ h1
theorem ZbP:∀ {l:Hp} {hp hp' : Hp} {k:Nat},(∃ o',(k,o')∈l)→lkp (Zh hp l) k=lkp (Zh hp' l) k
 | [],hp,hp',k,h=>by obtain⟨o',h⟩:=h;simp at h
 | (a,x) :: r,hp,hp',k,h=>by
  simp only[Zh];by_cases h1:∃ o',(k,o')∈r
  ·exact ZbP h1
  ·rw[ZC r _ k fun o' aa=>h1 ⟨o',aa⟩,ZC r _ k fun o' aa=>h1 ⟨o',aa⟩,Qn,Qn];obtain⟨o',h2⟩:=h;rcases Kf.1 h2 with h2 | h2
   ·cases h2;simp
   ·exact absurd ⟨o',h2⟩ h1
theorem JV:∀ (l:Hp) {hp hp' : Hp} {k:Nat},lkp hp k=lkp hp' k→lkp (Zh hp l) k=lkp (Zh hp' l) k
 | [],hp,hp',k,h=>h
 | (a,x) :: r,hp,hp',k,h=>by
  simp only[Zh];exact JV r (by rw[Qn,Qn,h])
theorem Zwl {ce:Ze} {dX dY:Option Nat} {v:AV} {ax:Hp} {s:Sl×Hp} (hd:J1 dX dY=true) (aa:ce.eff.dels=[])
  (h1:∀ k o,(k,o)∈ax→(∀ o',(k,o')∉ce.eff.sets)∧(∀ o',(k,o')∉ce.eff.adds)∧k∉ce.eff.frz) (h2:∀ k o,(k,o)∈ax→Q8 ce.gone o=o) (hv:kill ce.gone v=v) :
  XB (Zp (ce.on dY s.1 s.2).1 dX v,Zh (ce.on dY s.1 s.2).2 ax) (ce.on dY (Zp s.1 dX v) (Zh s.2 ax)):=by
 refine⟨fun t=>?_,fun k=>?_⟩
 ·show gs (Zp (Zp (QW ce.gone s.1) dY ce.eff.val) dX v) t=gs (Zp (QW ce.gone (Zp s.1 dX v)) dY ce.eff.val) t;simp only[Qp,QH];by_cases hx:dX=some t
  ·have hy:¬dY=some t:=fun e=>by rw[hx,e] at hd;simp[J1] at hd
   simp[hx,hy,hv]
  ·simp[hx]
 ·show lkp (Zh (ce.eff.on (VL ce.gone s.2)) ax) k=lkp (ce.eff.on (VL ce.gone (Zh s.2 ax))) k;unfold Eff.on;rw[aa];simp only[Qc];by_cases hk:∃ o,(k,o)∈ax
  ·obtain⟨o,ho⟩:=hk;obtain⟨g1,g2,g3⟩:=h1 k o ho;rw[ZC _ (Zh (Qi ce.eff.frz (VL ce.gone (Zh s.2 ax))) ce.eff.sets) k g2,ZC _ (Qi ce.eff.frz (VL ce.gone (Zh s.2 ax))) k g1];rw[Qb,V8];rw[ZbP (hp':=s.2) ⟨o,ho⟩];cases hl:lkp (Zh s.2 ax) k with
   | none=>rfl
   | some o' =>
    have:=h2 k o' (ZgF ⟨o,ho⟩ hl);simp[this,g3]
  ·have ab : ∀ o,(k,o)∉ax:=fun o ho=>hk ⟨o,ho⟩;rw[ZC ax _ k ab];refine JV _ (JV _ ?_);rw[Qb,Qb,V8,V8,ZC ax _ k ab]
structure ZlO (ce:Ze):Prop where
 gone:ce.gone=[]
 sets:ce.eff.sets=[]
 dels:ce.eff.dels=[]
 frz:ce.eff.frz=[]
theorem Zub {ce:Ze} (h:ZlO ce) (d:Option Nat) (s:Sl×Hp):ce.on d s.1 s.2=(Zp s.1 d ce.eff.val,Zh s.2 ce.eff.adds):=by
 unfold Ze.on Eff.on;rw[h.gone,h.sets,h.dels,h.frz];rfl
theorem Zvr {C:Orc} {M:Zm} {nx i:Nat} {o:CO} {s s' : Sl×Hp} (h:ZO C M nx i false o s=some s') :
  (ZY s.1 o.guard=some false∧s'=(Zp s.1 o.dst (.tup []),s.2)) ∨
  (ZY s.1 o.guard=some true∧∃ ce,ZlO ce∧vop C M s.1 s.2 (nx+64*i) o.op=some ce∧QP (nx+64*i) (nx+64*i+64) ce.eff.adds=true∧s'=(Zp s.1 o.dst ce.eff.val,Zh s.2 ce.eff.adds)):=by
 unfold ZO at h;obtain⟨b,hw,h⟩:=Za h;cases b with
 | true=>
  simp only[Kn] at h;obtain⟨ce,h1,h2,rfl⟩:=Xe h;unfold VN at h1;simp only[Kc,Ko] at h1;unfold Zb7 at h1;obtain⟨c,h3,h1⟩:=Za h1;unfold ZeW at h1;split at h1
  ·rename_i e1 e2 e3 e4;cases h1;have hq:ZlO ce:=⟨e1,e2,e3,e4⟩
   exact .inr ⟨hw,ce,hq,h3,h2,Zub hq _ s⟩
  ·cases h1
 | false=>
  simp only[Kc,Ko] at h;cases h;exact .inl ⟨hw,rfl⟩
theorem Zhm {C:Orc} {M:Zm} {nx i:Nat} {o:CO} {s:Sl×Hp} {ce:Ze} (hw:ZY s.1 o.guard=some true) (hq:ZlO ce) (hv:vop C M s.1 s.2 (nx+64*i) o.op=some ce) (hk:QP (nx+64*i) (nx+64*i+64) ce.eff.adds=true) :
  ZO C M nx i false o s=some (Zp s.1 o.dst ce.eff.val,Zh s.2 ce.eff.adds):=by
 unfold ZO;rw[hw,Zg];simp only[Kn];unfold Yk VN;simp only[Kc,Ko];rw[hv];simp only[Zb7,Zg,hq.gone,hq.sets,hq.dels,hq.frz,ZeW];rw[Kl hk,Zub hq _ s]
theorem Yh {C:Orc} {M:Zm} {nx i:Nat} {t:Bool} {o:CO} {s:Sl×Hp} (hw:ZY s.1 o.guard=some false):ZO C M nx i t o s=some (Zp s.1 o.dst (.tup []),s.2):=by
 unfold ZO;rw[hw,Zg];rfl
theorem Zhn {sl sl' : Sl} {g:List Nat} {gd:Option (Nat×Bool)} (h:∀ q,gd=some q→gs sl' q.1=kill g (gs sl q.1)):ZY sl' gd=ZY sl gd:=by
 cases gd with
 | none=>rfl
 | some q=>
  simp only[ZY,h q rfl];cases gs sl q.1 with
  | d x=>rfl
  | tup vs=>cases vs<;>rfl
  | ptr a b=>simp only[kill,ZR,Qa];split<;>rfl
  | prow a b c d=>simp only[kill,ZR,Qa];split<;>rfl
  | own a=>simp only[kill,ZR,Qa];split<;>rfl
  | ownv a b c=>simp only[kill,ZR,Qa];split<;>rfl
  | bnil a b=>simp only[kill,ZR,Qa];split<;>rfl
  | _=>rfl
end Go.Abs

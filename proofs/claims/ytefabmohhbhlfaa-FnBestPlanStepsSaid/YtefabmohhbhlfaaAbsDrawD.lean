/- Own text. -/
import Derived.Test.YtefabmohhbhlfaaAbsDrawC
set_option linter.unusedVariables false
set_option linter.unusedSimpArgs false
namespace Go.Abs
open Go
theorem Zrk {hp:Hp} {m:Bool} {x y:AV} (h:J8 hp m x=some y):∀ k∈Ud y,k∈Ud x:=by
 intro k hk;have aa:∀ {r:Option D},asD r=some y→False:=fun {r} h=>by
  obtain⟨d,_,h⟩:=Za h;cases h;simp[Ud] at hk
 cases x<;>simp only[J8] at h<;>first | (exact(aa h).elim) | skip
 case d d=>cases h;simp[Ud] at hk
 case nil=>cases m<;>simp only[ZcA] at h<;>(cases h;simp[Ud] at hk)
 case nilp=>cases h;exact hk
 case nili=>cases h;exact hk
 case ptr a b=>cases h;exact hk
 case pim c=>cases h;exact hk
 case clo f c=>cases h;exact hk
 case own id=>
  cases m<;>simp only[ZbF] at h
  ·exact(aa h).elim
  ·cases h;simp[Ud] at hk
 case agg cs=>
  cases m<;>simp only[ZbG] at h
  ·exact(aa h).elim
  ·split at h
   ·cases h
   ·cases h;simp[Ud] at hk
theorem Zle {hp:Hp} {m:Nat→Bool}:∀ {xs ys:List AV} (i:Nat),args hp m i xs=some ys→∀ y∈ys,∀ k∈Ud y,∃ x∈xs,k∈Ud x
 | [],ys,i,h,y,hy,k,hk=>by simp only[args] at h;cases h;simp at hy
 | x :: xs,ys,i,h,y,hy,k,hk=>by
  simp only[args] at h;obtain⟨a,h1,h⟩:=Za h;obtain⟨as,h2,h⟩:=Za h;cases h;rcases Ke.1 hy with rfl | hy
  ·exact⟨x,by simp,Zrk h1 k hk⟩
  ·obtain⟨x',h3,h4⟩:=Zle (i+1) h2 y hy k hk;exact⟨x',by simp[h3],h4⟩
theorem Zjc {x:AV}:∀ id∈Zac x,id∈Ze x:=by
 intro id h;cases x<;>simp[Zac] at h<;>simp[Ze,h]
theorem ZnI {x:AV}:∀ id∈Zbv x,id∈Zo x:=by
 intro id h;cases x<;>simp only[Zbv] at h<;>first | exact Zjc id h | (simp[Zac] at h;done) | skip
 case agg cs=>
  obtain⟨c,h1,h2⟩:=Kr.1 h;exact Kr.2 ⟨c,h1,Zjc id h2⟩
theorem ZgV:∀ {xs ys:List AV},∀ i∈XW xs ys,∃ x∈xs,i∈Zo x
 | [],ys,i,h=>by cases ys<;>simp[XW] at h
 | x :: xs,[],i,h=>by simp[XW] at h
 | x :: xs,y :: ys,i,h=>by
  have aa:i∈XW xs ys→∃ x'∈x :: xs,i∈Zo x':=fun h=>by
   obtain⟨x',h1,h2⟩:=ZgV i h;exact⟨x',by simp[h1],h2⟩
  rw[ZgD] at h;rcases Kc.1 h with h | h
  ·cases y<;>simp only[Zp1] at h<;>first | (simp at h;done) | exact⟨x,by simp,ZnI i h⟩
  ·exact aa h
theorem Zrl {C:Orc} {m:Nat→Bool} {hp:Hp} {base f:Nat} {ad:List AV} {ce:Zb} (h:Zaj C m hp base f ad=some ce) (hm:m 99=false) :
  ce.eff.dels=[]∧(∀ i∈ce.eff.frz,∃ a∈ad,i∈Zo a)∧(∀ i∈ce.gone,∃ o,lkp hp i=some o)∧(∀ k o,(k,o)∈ce.eff.sets→(∃ o,lkp hp k=some o)∧(k∈ce.gone∨∃ a∈ad,k∈Ud a)):=by
 unfold Zaj at h;obtain⟨as,h1,h⟩:=Za h;unfold ZbH at h;split at h
 ·rename_i hc;obtain⟨⟨r,out⟩,h2,h⟩:=Za h;unfold US at h;split at h
  ·cases h
  split at h
  ·cases h
  ·cases h;obtain⟨_,_,ab⟩:=WR hp (Xh hp) (as.flatMap Zo) [] Lh;have aa : ∀ id∈QF hp (Xh hp) (as.flatMap Zo) [],∃ o,lkp hp id=some o:=fun id af=>(ab id af).resolve_left (by simp);refine⟨rfl,fun i hi=>?_,fun i hi=>?_,fun k o hk=>?_⟩
   ·simp only at hi;split at hi
    ·simp at hi
    ·exact ZgV i hi
   ·rw[hm] at hi;exact aa i (Lk.1 hi).1
   ·obtain⟨q,o0,h3,_,_⟩:=Zd8 _ _ _ _ _ hk;have ae:=Kp h3;refine⟨aa k ae,?_⟩;have:=KO.1 hc.2.2 k ae;simp only[K5,KP,Kj] at this;rcases this with h4 | h4
    ·exact .inl (by rw[hm];exact Lk.2 ⟨ae,h4⟩)
    ·obtain⟨y,h5,h6⟩:=Kr.1 h4;exact .inr (Zle 0 h1 y h5 k h6)
 ·cases h
theorem Zct:∀ {l:Hp} {hp:Hp} {k:Nat} {o:Zg},(∃ o',(k,o')∈l)→lkp (Zd hp l) k=some o→(k,o)∈l
 | [],hp,k,o,h,_=>by obtain⟨o',h⟩:=h;simp at h
 | (a,x) :: r,hp,k,o,h,hl=>by
  simp only[Zd] at hl;by_cases h1:∃ o',(k,o')∈r
  ·exact Ks _ (Zct h1 hl)
  ·rw[Zs r _ k fun o' aa=>h1 ⟨o',aa⟩,Z4] at hl;obtain⟨o',h2⟩:=h;rcases Ke.1 h2 with h2 | h2
   ·cases h2;rw[Km rfl] at hl;cases hl;exact K8 ..
   ·exact absurd ⟨o',h2⟩ h1
theorem JJ:∀ {l:Hp} {hp hp' : Hp} {k:Nat},(∃ o',(k,o')∈l)→lkp (Zd hp l) k=lkp (Zd hp' l) k
 | [],hp,hp',k,h=>by obtain⟨o',h⟩:=h;simp at h
 | (a,x) :: r,hp,hp',k,h=>by
  simp only[Zd];by_cases h1:∃ o',(k,o')∈r
  ·exact JJ h1
  ·rw[Zs r _ k fun o' aa=>h1 ⟨o',aa⟩,Zs r _ k fun o' aa=>h1 ⟨o',aa⟩,Z4,Z4];obtain⟨o',h2⟩:=h;rcases Ke.1 h2 with h2 | h2
   ·cases h2;simp
   ·exact absurd ⟨o',h2⟩ h1
theorem Un:∀ (l:Hp) {hp hp' : Hp} {k:Nat},lkp hp k=lkp hp' k→lkp (Zd hp l) k=lkp (Zd hp' l) k
 | [],hp,hp',k,h=>h
 | (a,x) :: r,hp,hp',k,h=>by
  simp only[Zd];exact Un r (by rw[Z4,Z4,h])
theorem Zqa {ce:Zb} {dX dY:Option Nat} {v:AV} {ax:Hp} {s:Sl×Hp} (hd:Ut dX dY=true) (aa:ce.eff.dels=[])
  (h1:∀ k o,(k,o)∈ax→(∀ o',(k,o')∉ce.eff.sets)∧(∀ o',(k,o')∉ce.eff.adds)∧k∉ce.eff.frz) (h2:∀ k o,(k,o)∈ax→QU ce.gone o=o) (hv:kill ce.gone v=v) :
  Xf (Zk (ce.on dY s.1 s.2).1 dX v,Zd (ce.on dY s.1 s.2).2 ax) (ce.on dY (Zk s.1 dX v) (Zd s.2 ax)):=by
 refine⟨fun t=>?_,fun k=>?_⟩
 ·show gs (Zk (Zk (QK ce.gone s.1) dY ce.eff.val) dX v) t=gs (Zk (QK ce.gone (Zk s.1 dX v)) dY ce.eff.val) t;simp only[Qh,Qs];by_cases hx:dX=some t
  ·have hy:¬dY=some t:=fun e=>by rw[hx,e] at hd;simp[Ut] at hd
   simp[hx,hy,hv]
  ·simp[hx]
 ·show lkp (Zd (ce.eff.on (Y0 ce.gone s.2)) ax) k=lkp (ce.eff.on (Y0 ce.gone (Zd s.2 ax))) k;unfold Eff.on;rw[aa];simp only[ZU];by_cases hk:∃ o,(k,o)∈ax
  ·obtain⟨o,ho⟩:=hk;obtain⟨g1,g2,g3⟩:=h1 k o ho;rw[Zs _ (Zd (Z8 ce.eff.frz (Y0 ce.gone (Zd s.2 ax))) ce.eff.sets) k g2,Zs _ (Z8 ce.eff.frz (Y0 ce.gone (Zd s.2 ax))) k g1];rw[ZX,Vf];rw[JJ (hp':=s.2) ⟨o,ho⟩];cases hl:lkp (Zd s.2 ax) k with
   | none=>rfl
   | some o' =>
    have:=h2 k o' (Zct ⟨o,ho⟩ hl);simp[this,g3]
  ·have ab : ∀ o,(k,o)∉ax:=fun o ho=>hk ⟨o,ho⟩;rw[Zs ax _ k ab];refine Un _ (Un _ ?_);rw[ZX,ZX,Vf,Vf,Zs ax _ k ab]
structure Zf7 (ce:Zb):Prop where
 gone:ce.gone=[]
 sets:ce.eff.sets=[]
 dels:ce.eff.dels=[]
 frz:ce.eff.frz=[]
theorem ZnJ {ce:Zb} (h:Zf7 ce) (d:Option Nat) (s:Sl×Hp):ce.on d s.1 s.2=(Zk s.1 d ce.eff.val,Zd s.2 ce.eff.adds):=by
 unfold Zb.on Eff.on;rw[h.gone,h.sets,h.dels,h.frz];rfl
theorem Zo4 {C:Orc} {M:Zf} {nx i:Nat} {o:CO} {s s' : Sl×Hp} (h:ZD C M nx i false o s=some s') :
  (ZR s.1 o.guard=some false∧s'=(Zk s.1 o.dst (.tup []),s.2)) ∨
  (ZR s.1 o.guard=some true∧∃ ce,Zf7 ce∧vop C M s.1 s.2 (nx+64*i) o.op=some ce∧QA (nx+64*i) (nx+64*i+64) ce.eff.adds=true∧s'=(Zk s.1 o.dst ce.eff.val,Zd s.2 ce.eff.adds)):=by
 unfold ZD at h;obtain⟨b,hw,h⟩:=Za h;cases b with
 | true=>
  simp only[Kg] at h;obtain⟨ce,h1,h2,rfl⟩:=Q1 h;unfold Y4 at h1;simp only[Ka,Kf] at h1;unfold JZ at h1;obtain⟨c,h3,h1⟩:=Za h1;unfold ZbU at h1;split at h1
  ·rename_i e1 e2 e3 e4;cases h1;have hq:Zf7 ce:=⟨e1,e2,e3,e4⟩
   exact .inr ⟨hw,ce,hq,h3,h2,ZnJ hq _ s⟩
  ·cases h1
 | false=>
  simp only[Ka,Kf] at h;cases h;exact .inl ⟨hw,rfl⟩
theorem Zdd {C:Orc} {M:Zf} {nx i:Nat} {o:CO} {s:Sl×Hp} {ce:Zb} (hw:ZR s.1 o.guard=some true) (hq:Zf7 ce) (hv:vop C M s.1 s.2 (nx+64*i) o.op=some ce) (hk:QA (nx+64*i) (nx+64*i+64) ce.eff.adds=true) :
  ZD C M nx i false o s=some (Zk s.1 o.dst ce.eff.val,Zd s.2 ce.eff.adds):=by
 unfold ZD;rw[hw,Zc];simp only[Kg];unfold XQ Y4;simp only[Ka,Kf];rw[hv];simp only[JZ,Zc,hq.gone,hq.sets,hq.dels,hq.frz,ZbU];rw[Km hk,ZnJ hq _ s]
theorem XO {C:Orc} {M:Zf} {nx i:Nat} {t:Bool} {o:CO} {s:Sl×Hp} (hw:ZR s.1 o.guard=some false):ZD C M nx i t o s=some (Zk s.1 o.dst (.tup []),s.2):=by
 unfold ZD;rw[hw,Zc];rfl
theorem Zde {sl sl' : Sl} {g:List Nat} {gd:Option (Nat×Bool)} (h:∀ q,gd=some q→gs sl' q.1=kill g (gs sl q.1)):ZR sl' gd=ZR sl gd:=by
 cases gd with
 | none=>rfl
 | some q=>
  simp only[ZR,h q rfl];cases gs sl q.1 with
  | d x=>rfl
  | tup vs=>cases vs<;>rfl
  | ptr a b=>simp only[kill,ZH,ZW];split<;>rfl
  | prow a b c d=>simp only[kill,ZH,ZW];split<;>rfl
  | own a=>simp only[kill,ZH,ZW];split<;>rfl
  | ownv a b c=>simp only[kill,ZH,ZW];split<;>rfl
  | bnil a b=>simp only[kill,ZH,ZW];split<;>rfl
  | _=>rfl
end Go.Abs

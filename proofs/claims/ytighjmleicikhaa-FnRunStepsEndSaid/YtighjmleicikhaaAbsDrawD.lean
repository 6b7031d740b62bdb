/- Own text. -/
import Derived.Test.YtighjmleicikhaaAbsDrawC
set_option linter.unusedVariables false
set_option linter.unusedSimpArgs false
namespace Go.Abs
open Go
theorem Zn1 {hp:Hp} {m:Bool} {x y:AV} (h:Jl hp m x=some y):∀ k∈WI y,k∈WI x:=by
 intro k hk;have aa:∀ {r:Option D},asD r=some y→False:=fun {r} h=>by
  obtain⟨d,_,h⟩:=Za h;cases h;simp[WI] at hk
 cases x<;>simp only[Jl] at h<;>first | (exact(aa h).elim) | skip
 case d d=>cases h;simp[WI] at hk
 case nil=>cases m<;>simp only[Zbj] at h<;>(cases h;simp[WI] at hk)
 case nilp=>cases h;exact hk
 case nili=>cases h;exact hk
 case ptr a b=>cases h;exact hk
 case pim c=>cases h;exact hk
 case clo f c=>cases h;exact hk
 case own id=>
  cases m<;>simp only[Zar] at h
  ·exact(aa h).elim
  ·cases h;simp[WI] at hk
 case agg cs=>
  cases m<;>simp only[Zas] at h
  ·exact(aa h).elim
  ·split at h
   ·cases h
   ·cases h;simp[WI] at hk
theorem ZiE {hp:Hp} {m:Nat→Bool}:∀ {xs ys:List AV} (i:Nat),args hp m i xs=some ys→∀ y∈ys,∀ k∈WI y,∃ x∈xs,k∈WI x
 | [],ys,i,h,y,hy,k,hk=>by simp only[args] at h;cases h;simp at hy
 | x :: xs,ys,i,h,y,hy,k,hk=>by
  simp only[args] at h;obtain⟨a,h1,h⟩:=Za h;obtain⟨as,h2,h⟩:=Za h;cases h;rcases Ke.1 hy with rfl | hy
  ·exact⟨x,by simp,Zn1 h1 k hk⟩
  ·obtain⟨x',h3,h4⟩:=ZiE (i+1) h2 y hy k hk;exact⟨x',by simp[h3],h4⟩
theorem Zgp {x:AV}:∀ id∈Jm x,id∈Zf x:=by
 intro id h;cases x<;>simp[Jm] at h<;>simp[Zf,h]
theorem ZkQ {x:AV}:∀ id∈Zah x,id∈Zo x:=by
 intro id h;cases x<;>simp only[Zah] at h<;>first | exact Zgp id h | (simp[Jm] at h;done) | skip
 case agg cs=>
  obtain⟨c,h1,h2⟩:=Kn.1 h;exact Kn.2 ⟨c,h1,Zgp id h2⟩
theorem Ze5:∀ {xs ys:List AV},∀ i∈XI xs ys,∃ x∈xs,i∈Zo x
 | [],ys,i,h=>by cases ys<;>simp[XI] at h
 | x :: xs,[],i,h=>by simp[XI] at h
 | x :: xs,y :: ys,i,h=>by
  have aa:i∈XI xs ys→∃ x'∈x :: xs,i∈Zo x':=fun h=>by
   obtain⟨x',h1,h2⟩:=Ze5 i h;exact⟨x',by simp[h1],h2⟩
  rw[ZeN] at h;rcases Kd.1 h with h | h
  ·cases y<;>simp only[ZmW] at h<;>first | (simp at h;done) | exact⟨x,by simp,ZkQ i h⟩
  ·exact aa h
theorem Zn2 {C:Orc} {m:Nat→Bool} {hp:Hp} {base f:Nat} {ad:List AV} {ce:Zb} (h:Js C m hp base f ad=some ce) (hm:m 99=false) :
  ce.eff.dels=[]∧(∀ i∈ce.eff.frz,∃ a∈ad,i∈Zo a)∧(∀ i∈ce.gone,∃ o,lkp hp i=some o)∧(∀ k o,(k,o)∈ce.eff.sets→(∃ o,lkp hp k=some o)∧(k∈ce.gone∨∃ a∈ad,k∈WI a)):=by
 unfold Js at h;obtain⟨as,h1,h⟩:=Za h;unfold Zat at h;split at h
 ·rename_i hc;obtain⟨⟨r,out⟩,h2,h⟩:=Za h;unfold W7 at h;split at h
  ·cases h
  split at h
  ·cases h
  ·cases h;obtain⟨_,_,ab⟩:=Wa hp (Q7 hp) (as.flatMap Zo) [] K2;have aa : ∀ id∈Qz hp (Q7 hp) (as.flatMap Zo) [],∃ o,lkp hp id=some o:=fun id af=>(ab id af).resolve_left (by simp);refine⟨rfl,fun i hi=>?_,fun i hi=>?_,fun k o hk=>?_⟩
   ·simp only at hi;split at hi
    ·simp at hi
    ·exact Ze5 i hi
   ·rw[hm] at hi;exact aa i (List.mem_filter.1 hi).1
   ·obtain⟨q,o0,h3,_,_⟩:=ZcH _ _ _ _ _ hk;have ae:=Kr h3;refine⟨aa k ae,?_⟩;have:=KJ.1 hc.2.2 k ae;simp only[K3,KK,Kk] at this;rcases this with h4 | h4
    ·exact .inl (by rw[hm];exact List.mem_filter.2 ⟨ae,h4⟩)
    ·obtain⟨y,h5,h6⟩:=Kn.1 h4;exact .inr (ZiE 0 h1 y h5 k h6)
 ·cases h
theorem Zbc:∀ {l:Hp} {hp:Hp} {k:Nat} {o:Zh},(∃ o',(k,o')∈l)→lkp (Zd hp l) k=some o→(k,o)∈l
 | [],hp,k,o,h,_=>by obtain⟨o',h⟩:=h;simp at h
 | (a,x) :: r,hp,k,o,h,hl=>by
  simp only[Zd] at hl;by_cases h1:∃ o',(k,o')∈r
  ·exact Ko _ (Zbc h1 hl)
  ·rw[Zs r _ k fun o' aa=>h1 ⟨o',aa⟩,Z7] at hl;obtain⟨o',h2⟩:=h;rcases Ke.1 h2 with h2 | h2
   ·cases h2;rw[Kv rfl] at hl;cases hl;exact KY ..
   ·exact absurd ⟨o',h2⟩ h1
theorem UO:∀ {l:Hp} {hp hp' : Hp} {k:Nat},(∃ o',(k,o')∈l)→lkp (Zd hp l) k=lkp (Zd hp' l) k
 | [],hp,hp',k,h=>by obtain⟨o',h⟩:=h;simp at h
 | (a,x) :: r,hp,hp',k,h=>by
  simp only[Zd];by_cases h1:∃ o',(k,o')∈r
  ·exact UO h1
  ·rw[Zs r _ k fun o' aa=>h1 ⟨o',aa⟩,Zs r _ k fun o' aa=>h1 ⟨o',aa⟩,Z7,Z7];obtain⟨o',h2⟩:=h;rcases Ke.1 h2 with h2 | h2
   ·cases h2;simp
   ·exact absurd ⟨o',h2⟩ h1
theorem WN:∀ (l:Hp) {hp hp' : Hp} {k:Nat},lkp hp k=lkp hp' k→lkp (Zd hp l) k=lkp (Zd hp' l) k
 | [],hp,hp',k,h=>h
 | (a,x) :: r,hp,hp',k,h=>by
  simp only[Zd];exact WN r (by rw[Z7,Z7,h])
theorem Zm5 {ce:Zb} {dX dY:Option Nat} {v:AV} {ax:Hp} {s:Sl×Hp} (hd:WS dX dY=true) (aa:ce.eff.dels=[])
  (h1:∀ k o,(k,o)∈ax→(∀ o',(k,o')∉ce.eff.sets)∧(∀ o',(k,o')∉ce.eff.adds)∧k∉ce.eff.frz) (h2:∀ k o,(k,o)∈ax→QJ ce.gone o=o) (hv:kill ce.gone v=v) :
  Q2 (Zk (ce.on dY s.1 s.2).1 dX v,Zd (ce.on dY s.1 s.2).2 ax) (ce.on dY (Zk s.1 dX v) (Zd s.2 ax)):=by
 refine⟨fun t=>?_,fun k=>?_⟩
 ·show gs (Zk (Zk (QC ce.gone s.1) dY ce.eff.val) dX v) t=gs (Zk (QC ce.gone (Zk s.1 dX v)) dY ce.eff.val) t;simp only[Qa,Ql];by_cases hx:dX=some t
  ·have hy:¬dY=some t:=fun e=>by rw[hx,e] at hd;simp[WS] at hd
   simp[hx,hy,hv]
  ·simp[hx]
 ·show lkp (Zd (ce.eff.on (YA ce.gone s.2)) ax) k=lkp (ce.eff.on (YA ce.gone (Zd s.2 ax))) k;unfold Eff.on;rw[aa];simp only[ZN];by_cases hk:∃ o,(k,o)∈ax
  ·obtain⟨o,ho⟩:=hk;obtain⟨g1,g2,g3⟩:=h1 k o ho;rw[Zs _ (Zd (ZZ ce.eff.frz (YA ce.gone (Zd s.2 ax))) ce.eff.sets) k g2,Zs _ (ZZ ce.eff.frz (YA ce.gone (Zd s.2 ax))) k g1];rw[ZR,YF];rw[UO (hp':=s.2) ⟨o,ho⟩];cases hl:lkp (Zd s.2 ax) k with
   | none=>rfl
   | some o' =>
    have:=h2 k o' (Zbc ⟨o,ho⟩ hl);simp[this,g3]
  ·have ab : ∀ o,(k,o)∉ax:=fun o ho=>hk ⟨o,ho⟩;rw[Zs ax _ k ab];refine WN _ (WN _ ?_);rw[ZR,ZR,YF,YF,Zs ax _ k ab]
structure Zeh (ce:Zb):Prop where
 gone:ce.gone=[]
 sets:ce.eff.sets=[]
 dels:ce.eff.dels=[]
 frz:ce.eff.frz=[]
theorem ZkR {ce:Zb} (h:Zeh ce) (d:Option Nat) (s:Sl×Hp):ce.on d s.1 s.2=(Zk s.1 d ce.eff.val,Zd s.2 ce.eff.adds):=by
 unfold Zb.on Eff.on;rw[h.gone,h.sets,h.dels,h.frz];rfl
theorem Zl7 {C:Orc} {M:Zg} {nx i:Nat} {o:CO} {s s' : Sl×Hp} (h:Zz C M nx i false o s=some s') :
  (ZJ s.1 o.guard=some false∧s'=(Zk s.1 o.dst (.tup []),s.2)) ∨
  (ZJ s.1 o.guard=some true∧∃ ce,Zeh ce∧vop C M s.1 s.2 (nx+64*i) o.op=some ce∧Qv (nx+64*i) (nx+64*i+64) ce.eff.adds=true∧s'=(Zk s.1 o.dst ce.eff.val,Zd s.2 ce.eff.adds)):=by
 unfold Zz at h;obtain⟨b,hw,h⟩:=Za h;cases b with
 | true=>
  simp only[Kh] at h;obtain⟨ce,h1,h2,rfl⟩:=QO h;unfold YD at h1;simp only[Ka,Kf] at h1;unfold U5 at h1;obtain⟨c,h3,h1⟩:=Za h1;unfold ZaF at h1;split at h1
  ·rename_i e1 e2 e3 e4;cases h1;have hq:Zeh ce:=⟨e1,e2,e3,e4⟩
   exact .inr ⟨hw,ce,hq,h3,h2,ZkR hq _ s⟩
  ·cases h1
 | false=>
  simp only[Ka,Kf] at h;cases h;exact .inl ⟨hw,rfl⟩
theorem ZbT {C:Orc} {M:Zg} {nx i:Nat} {o:CO} {s:Sl×Hp} {ce:Zb} (hw:ZJ s.1 o.guard=some true) (hq:Zeh ce) (hv:vop C M s.1 s.2 (nx+64*i) o.op=some ce) (hk:Qv (nx+64*i) (nx+64*i+64) ce.eff.adds=true) :
  Zz C M nx i false o s=some (Zk s.1 o.dst ce.eff.val,Zd s.2 ce.eff.adds):=by
 unfold Zz;rw[hw,Zc];simp only[Kh];unfold XC YD;simp only[Ka,Kf];rw[hv];simp only[U5,Zc,hq.gone,hq.sets,hq.dels,hq.frz,ZaF];rw[Kv hk,ZkR hq _ s]
theorem XB {C:Orc} {M:Zg} {nx i:Nat} {t:Bool} {o:CO} {s:Sl×Hp} (hw:ZJ s.1 o.guard=some false):Zz C M nx i t o s=some (Zk s.1 o.dst (.tup []),s.2):=by
 unfold Zz;rw[hw,Zc];rfl
theorem ZbU {sl sl' : Sl} {g:List Nat} {gd:Option (Nat×Bool)} (h:∀ q,gd=some q→gs sl' q.1=kill g (gs sl q.1)):ZJ sl' gd=ZJ sl gd:=by
 cases gd with
 | none=>rfl
 | some q=>
  simp only[ZJ,h q rfl];cases gs sl q.1 with
  | d x=>rfl
  | tup vs=>cases vs<;>rfl
  | ptr a b=>simp only[kill,ZB,ZQ];split<;>rfl
  | prow a b c d=>simp only[kill,ZB,ZQ];split<;>rfl
  | own a=>simp only[kill,ZB,ZQ];split<;>rfl
  | ownv a b c=>simp only[kill,ZB,ZQ];split<;>rfl
  | bnil a b=>simp only[kill,ZB,ZQ];split<;>rfl
  | _=>rfl
end Go.Abs

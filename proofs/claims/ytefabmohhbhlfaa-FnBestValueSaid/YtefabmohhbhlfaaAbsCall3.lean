/- Own text. -/
import Derived.Test.YtefabmohhbhlfaaAbsCall2
set_option linter.unusedVariables false
set_option linter.unusedSimpArgs false
namespace Go.Abs
open Go
theorem Zel : ∀ (l:Hp) (hp:Hp) (id:Nat) (o:Zh),lkp (Zd hp l) id=some o→(id,o)∈l∨((∀ o',(id,o')∉l)∧lkp hp id=some o)
 | [],hp,id,o,h=>.inr ⟨by simp,h⟩
 | (k,x) :: r,hp,id,o,h=>by
  rcases Zel r (ins hp k x) id o h with h1 | ⟨h1,h2⟩
  ·exact .inl (Ks _ h1)
  ·rw[ZS] at h2;split at h2
   ·rename_i hk;subst hk;cases h2;exact .inl (K1 ..)
   ·rename_i hk;refine .inr ⟨fun o' hm=>?_,h2⟩;rcases Ke.1 hm with hm | hm
    ·cases hm;exact hk rfl
    ·exact h1 o' hm
theorem Zb1 (g:Nat→Nat):∀ (ids:List Nat) (out:List Zh) (id:Nat) (o:Zh),(id,o)∈Uf g ids out→∃ (k:Nat) (o0:Zh),ids[k]?=some id∧out[k]?=some o0∧o=Zcu g o0
 | [],out,id,o,h=>by simp[Uf] at h
 | i :: ids,[],id,o,h=>by simp[Uf] at h
 | i :: ids,o1 :: out,id,o,h=>by
  simp only[Uf] at h;rcases Ke.1 h with h | h
  ·cases h;exact⟨0,o1,by simp,by simp,rfl⟩
  ·obtain⟨k,o0,h1,h2,h3⟩:=Zb1 g ids out id o h;exact⟨k+1,o0,by simpa using h1,by simpa using h2,h3⟩
theorem Zfz (g:Nat→Nat):∀ (ids:List Nat) (out:List Zh) (id:Nat),ids.length≤out.length→id∈ids→∃ o,(id,o)∈Uf g ids out
 | [],out,id,_,h=>by simp at h
 | i :: ids,[],id,hl,h=>by simp at hl
 | i :: ids,o1 :: out,id,hl,h=>by
  simp only[Uf];rcases Ke.1 h with h | h
  ·subst h;exact⟨_,K1 ..⟩
  ·obtain⟨o,ho⟩:=Zfz g ids out id (by simpa using hl) h;exact⟨o,Ks _ ho⟩
theorem ZfA (g:Nat→Nat):∀ (out:List Zh) (k id:Nat) (o:Zh),(id,o)∈Ug g k out→∃ (j:Nat) (o0:Zh),out[j]?=some o0∧id=k+j∧o=Zcu g o0
 | [],k,id,o,h=>by simp[Ug] at h
 | o1 :: out,k,id,o,h=>by
  simp only[Ug] at h;rcases Ke.1 h with h | h
  ·cases h;exact⟨0,o1,by simp,rfl,rfl⟩
  ·obtain⟨j,o0,h1,h2,h3⟩:=ZfA g out (k+1) id o h;exact⟨j+1,o0,by simpa using h1,by omega,h3⟩
theorem ZfB (g:Nat→Nat):∀ (out:List Zh) (k j:Nat),j<out.length→∃ o,(k+j,o)∈Ug g k out
 | [],k,j,h=>by simp at h
 | o1 :: out,k,0,h=>⟨_,by simp only[Ug];exact K1 ..⟩
 | o1 :: out,k,j+1,h=>by
  obtain⟨o,ho⟩:=ZfB g out (k+1) j (by simpa using h);refine⟨o,?_⟩;simp only[Ug];have:k+(j+1)=k+1+j:=by omega
  rw[this];exact Ks _ ho
theorem Zp5 (x:AV):JE (fun k=>k) x=x:=by cases x<;>rfl
theorem Zff (x:AV):UU (fun k=>k) x=x:=by
 cases x<;>first | rfl | (simp only[UU];congr 1;rw[Kw (g:=id) (fun a _=>Zp5 a),Lm])
theorem Zkn (xs:List AV):xs.map (UU fun k=>k)=xs:=by
 rw[Kw (g:=id) (fun a _=>Zff a),Lm]
theorem ren_id (x:AV):ren (fun k=>k) x=x:=by
 cases x with
 | tup vs=>simp only[ren];congr 1;rw[Kw (g:=id) (fun a _=>Zff a),Lm]
 | d x=>rfl
 | nil=>rfl
 | nilp=>rfl
 | nili=>rfl
 | ptr a b=>rfl
 | prow a b c d=>rfl
 | pim c=>rfl
 | own a=>rfl
 | ownv a b c=>rfl
 | bnil a b=>rfl
 | bbuf a b=>rfl
 | agg cs=>exact Zff (.agg cs)
 | clo f cs=>exact Zff (.clo f cs)
 | junk=>rfl
theorem W2 (x:AV):ZP [] x=x:=by cases x<;>simp[ZP]
theorem Ji (x:AV):ZD [] x=x:=by
 cases x<;>first | (simp only[ZD];congr 1;rw[Kw (g:=id) (fun a _=>W2 a),Lm]) | simp[ZD,ZP]
theorem ZoC (x:AV):kill [] x=x:=by
 cases x with
 | tup vs=>simp only[kill];congr 1;rw[Kw (g:=id) (fun a _=>Ji a),Lm]
 | d x=>rfl
 | nil=>rfl
 | nilp=>rfl
 | nili=>rfl
 | ptr a b=>exact W2 (.ptr a b)
 | prow a b c d=>exact W2 (.prow a b c d)
 | pim c=>rfl
 | own a=>exact W2 (.own a)
 | ownv a b c=>exact W2 (.ownv a b c)
 | bnil a b=>exact W2 (.bnil a b)
 | bbuf a b=>rfl
 | agg cs=>exact Ji (.agg cs)
 | clo f cs=>exact Ji (.clo f cs)
 | junk=>rfl
theorem Znr (o:Zh):QD [] o=o:=by
 cases o with
 | box cs=>simp only[QD];congr 1;rw[Kw (g:=id) (fun a _=>Ji a),Lm]
 | row s x e f=>rfl
 | gone=>rfl
 | tree s n x l=>rcases l with _ | ⟨_ | _,_⟩<;>simp[QD,Yl]
theorem Qe (gone:List Nat) (sl:Sl) (t:Nat):gs (Qx gone sl) t=kill gone (gs sl t):=by
 unfold Qx;split
 ·rw[ZoC]
 ·simp only[gs,ZaT];cases lkp sl t<;>rfl
theorem Ym (gone:List Nat) (hp:Hp) (id:Nat):lkp (Yg gone hp) id=(lkp hp id).map (QD gone):=by
 unfold Yg;split
 ·cases h:lkp hp id with
  | none=>rfl
  | some o=>simp[Znr]
 ·exact ZaT _ _ _
section
variable {P:Program} {nt:Nat} {U:Nat→Prop} {F A I:Nat→Prop} {Γ:Gh} {sl:Sl} {hp:Hp} {a:Act} {w:World}
theorem Zb2 {I2:Nat→Prop} {x:AV} {v:Value} (hc:Ue x=true) (h:Xj Γ w I x v):Xj Γ w I2 x v:=by
 cases x with
 | d x=>exact⟨h.1,ZgO hc h.2⟩
 | pim cs=>cases hc
 | agg cs=>exact h
 | tup cs=>exact h
 | clo f cs=>exact h
 | _=>exact h
theorem UG {I2:Nat→Prop}:∀ {xs:List AV} {vs:List Value},xs.all Ue=true→Zp (Xj Γ w I) xs vs→Zp (Xj Γ w I2) xs vs
 | [],[],_,_=>trivial
 | [],_ :: _,_,h=>h.elim
 | _ :: _,[],_,h=>h.elim
 | x :: xs,v :: vs,hc,h=>by
  simp only[Lj,Kb] at hc;exact⟨Zb2 hc.1 h.1,UG hc.2 h.2⟩
theorem ZfC {I2:Nat→Prop} {x:AV} {v:Value} (hc:UY x=true) (h:VH Γ w I x v):VH Γ w I2 x v:=by
 by_cases hs:x.small=true
 ·rw[(YH hs v).2.1] at h ⊢;refine Zb2 ?_ h;cases x<;>first | exact hc | cases hs
 ·cases x with
  | agg cs=>obtain⟨us,h1,h2⟩:=h;exact⟨us,h1,UG hc h2⟩
  | clo f cs=>obtain⟨us,h1,h2⟩:=h;exact⟨us,h1,UG hc h2⟩
  | tup cs=>exact h.elim
  | d x=>exact ZjU.2 (ZiZ hc (ZjU.1 h))
  | _=>exact absurd rfl hs
theorem ZlA {I2:Nat→Prop} {x:AV} {v:Value} (hc:UY x=true) (h:QP Γ w I x v):QP Γ w I2 x v:=by
 by_cases hs:x.small=true
 ·rw[(YH hs v).2.2] at h ⊢;refine Zb2 ?_ h;cases x<;>first | exact hc | cases hs
 ·cases x with
  | agg cs=>exact h.elim
  | clo f cs=>obtain⟨us,h1,h2⟩:=h;exact⟨us,h1,UG hc h2⟩
  | tup cs=>exact h.elim
  | d x=>exact⟨h.1,ZgO hc h.2⟩
  | _=>exact absurd rfl hs
theorem Zem {I2:Nat→Prop}:∀ {xs:List AV} {vs:List Value},xs.all UY=true→Zp (QP Γ w I) xs vs→Zp (QP Γ w I2) xs vs
 | [],[],_,_=>trivial
 | [],_ :: _,_,h=>h.elim
 | _ :: _,[],_,h=>h.elim
 | x :: xs,v :: vs,hc,h=>by
  simp only[Lj,Kb] at hc;exact⟨ZlA hc.1 h.1,Zem hc.2 h.2⟩
theorem Zen {I2:Nat→Prop}:∀ {xs:List AV} {vs:List Value},xs.all UY=true→Zp (VH Γ w I) xs vs→Zp (VH Γ w I2) xs vs
 | [],[],_,_=>trivial
 | [],_ :: _,_,h=>h.elim
 | _ :: _,[],_,h=>h.elim
 | x :: xs,v :: vs,hc,h=>by
  simp only[Lj,Kb] at hc;exact⟨ZfC hc.1 h.1,Zen hc.2 h.2⟩
theorem Zns {I2:Nat→Prop} {x:AV} {v:Value} (hc:ZiH x=true) (h:Rep Γ w I x v):Rep Γ w I2 x v:=by
 by_cases ht:∃ vs,x=.tup vs
 ·obtain⟨vs,rfl⟩:=ht;obtain⟨us,h1,h2⟩:=h;exact⟨us,h1,Zen hc h2⟩
 ·have e:∀ I,Rep Γ w I x v=VH Γ w I x v:=fun I=>by cases x<;>first | rfl | exact absurd ⟨_,rfl⟩ ht
  rw[e] at h ⊢;refine ZfC ?_ h;cases x<;>first | exact hc | exact absurd ⟨_,rfl⟩ ht
theorem Sim.blk_F (h:Sim nt F A I Γ U sl hp a w) {id:Nat} {o:Zh} (hl:lkp hp id=some o) {b:Nat} (hb:Blk Γ w id o b):F b:=Zdd (h.objs id o hl) hb
def Znt (Γ:Gh) (w:World) (hp:Hp) (ids:List Nat) (n:Nat) (b:Nat):Prop:=n≤b∨∃ id∈ids,∃ o,lkp hp id=some o∧Blk Γ w id o b
def calA (Γ:Gh) (w:World) (hp:Hp) (ids:List Nat) (n:Nat) (I A:Nat→Prop) (b:Nat):Prop:=Znt Γ w hp ids n b∨(I b∧A b)
def Zaq (Γ Γ' : Gh) (ids:List Nat) (base:Nat):Gh:=fun id=>if id∈ids then Γ' (Yd ids id) else if base≤id∧id<base+64 then Γ' (ids.length+(id-base)) else Γ id
theorem Znu (h:Sim nt F A I Γ U sl hp a w) {base:Nat} (hb:Qw U base) {ids ab:List Nat} (bv:ids.Nodup) (au:∀ id∈ids,∃ o,lkp hp id=some o) (a4:¬ab.any ids.contains=true)
  {r:AV} {out:List Zh} {I' : Nat→Prop} {Γ' : Gh} {v:Value} {w' : World}
  (aa:Back (Znt Γ w hp ids w.heap.size) (calA Γ w hp ids w.heap.size I A) (ZaU Γ w hp I ab) (Zao ids Γ) w out r I' Γ' v w')
  {ce:Zb} {keep:Bool} (a3:WA keep hp base ids ab r out=some ce) (bt:Qn base (base+64) ce.eff.adds=true) {dst:Option Nat} (hd:Qh nt dst=true) :
  XQ nt F A I Γ w (VI U base) (ce.on dst sl hp).1 (ce.on dst sl hp).2 (a.put dst v) w':=by
 unfold WA at a3;split at a3
 ·cases a3
 rename_i a5;have a5:ids.length≤out.length:=by omega
 split at a3
 ·cases a3
 rename_i aq;cases a3;generalize ar:(ZiH r&&out.all ZaG)=cl at *;generalize ZdL hp ids out keep=gn at *;dsimp only at bt;have a6:∀ id∈ids,¬(base≤id∧id<base+64):=fun id av hh=>by
  obtain⟨o,ho⟩:=au id av;exact hb id hh.1 hh.2 (h.id_in ho)
 have bh:(out.drop ids.length).length≤64:=by
  rcases KO 64 (out.drop ids.length).length with bw | bh
  ·obtain⟨o,ho⟩:=ZfB (Yr ids base) (out.drop ids.length) base 64 bw;have:=(Vm bt _ _ ho).2;omega
  ·exact bh
 have bx : out.length≤ids.length+64:=by simp at bh;omega
 have az:∀ b,Znt Γ w hp ids w.heap.size b→F b:=by
  rintro b (hb | ⟨id,av,o,ho,ag⟩)
  ·exact h.fresh b hb
  ·exact h.blk_F ho ag
 have bz:∀ b,calA Γ w hp ids w.heap.size I A b→A b:=by
  rintro b (hb | hb)
  ·exact h.own b (az b hb)
  ·exact hb.2
 have a7:∀ b,ZaU Γ w hp I ab b→¬I b→¬Znt Γ w hp ids w.heap.size b:=by
  rintro b aw ai (hb | ⟨id,av,o,ho,ag⟩)
  ·rcases aw with aw | ⟨ax,al,o',a0,bc,ap⟩
   ·exact ai aw
   ·have:=h.blk_lt a0 ap;omega
  ·rcases aw with aw | ⟨ax,al,o',a0,bc,ap⟩
   ·exact ai aw
   ·have:=h.inj id ax o _ b ho a0 ag ap;subst this;exact a4 (Ly.2 ⟨id,al,by simpa using av⟩)
 let I2:Nat→Prop:=fun b=>I' b∧(cl=true→ZaU Γ w hp I ab b→I b)
 let Γ2:Gh:=Zaq Γ Γ' ids base
 have bi:∀ b,I b→I2 b:=fun b hb=>⟨aa.keeps.sub b (.inl hb),fun _ _=>hb⟩
 have ah:ZB I I2 w w':=⟨bi,fun b hb=>aa.keeps.blk b (.inl hb)⟩
 have b0:∀ b,I' b→calA Γ w hp ids w.heap.size I A b→I2 b∧A b:=by
  intro b h1 h2;refine⟨⟨h1,fun _ aw=>?_⟩,bz b h2⟩;rcases h2 with h2 | h2
  ·exact Classical.byContradiction fun ai=>a7 b aw ai h2
  ·exact h2.1
 have af:∀ k,k<out.length→Γ2 (Yr ids base k)=Γ' k:=by
  intro k a8;by_cases hk:k<ids.length
  ·have hg:ids[k]?=some ids[k]:=Kx hk;have hb:Yr ids base k=ids[k]:=by simp[Yr,hg,Zca]
   show Zaq Γ Γ' ids base _=_;rw[hb];simp only[Zaq];rw[Kt (List.getElem_mem hk),Zbb bv hg]
  ·have hg:ids[k]?=none:=KH (by omega);have hb:Yr ids base k=base+(k-ids.length):=by simp[Yr,hg,Zca]
   show Zaq Γ Γ' ids base _=_;rw[hb];simp only[Zaq];rw[Kp (fun hm=>a6 _ hm (by omega)),Kt (by omega)];congr 1
   omega
 have a9:∀ l,Wn Γ' Γ2 (Yr ids base) l:=fun l id _ r hr=>by
  rw[af id ?_]
  ·exact hr
  ·rcases KO id out.length with h1 | h1
   ·exact h1
   ·rw[aa.names id h1] at hr;cases hr
 have am:ZU Γ Γ2:=by
  intro id r hr;show Zaq Γ Γ' ids base id=_;simp only[Zaq];split
  ·rename_i hm;refine aa.heads _ r ?_;rw[XE (Zcy hm).2];exact hr
  ·split
   ·rename_i bj;rw[h.names id (hb id bj.1 bj.2)] at hr;cases hr
   ·exact hr
 have an:∀ id o,id∉ids→lkp hp id=some o→Γ2 id=Γ id:=by
  intro id o hm hl;show Zaq Γ Γ' ids base id=_;simp only[Zaq];rw[Kp hm,Kp (fun hh=>hb id hh.1 hh.2 (h.id_in hl))]
 have bl:∀ (k:Nat) (o:Zh),out[k]?=some o→Xo Γ2 w' I2 F A (Yr ids base k) (Zcu (Yr ids base) o):=by
  intro k o ho;have a8:k<out.length:=(Kd.1 ho).1;have h1:=aa.objs k o (by rw[Vx];simpa using ho);cases o with
  | gone=>
   obtain⟨r,hr⟩:=h1;exact⟨r,by rw[af k a8];exact hr⟩
  | tree sz ns xs lk=>
   obtain⟨ad,n,c,h2,h3,h4⟩:=h1;refine⟨ad,n,c,by rw[af k a8];exact h2,?_,h4.lose⟩;rw[Vn];exact h3.mono fun b _=>⟨rfl,fun hi=>hi.1,az b⟩
  | box cs=>
   obtain⟨b,cur,e,h2,h3,h4,h5,h6,bm⟩:=h1;refine⟨b,cur,e,by rw[af k a8];exact h2,h3,fun hi=>h4 hi.1,az b h5,?_,(bm.mono fun x te l u v g hc hv hg=>⟨rfl,fun hi=>hi.1,fun hF=>az g hF⟩).map (W4 _)⟩;have h7:Zp (QP Γ' w' I2) cs cur.toList:=by
    cases hq:cl with
    | false=>exact h6.mono fun _ _ h=>h.mono (ZU.refl _) ⟨fun b hb=>⟨hb,fun ak=>by rw[hq] at ak;cases ak⟩,fun _ _=>rfl⟩
    | true=>
     rw[hq] at ar;simp only[Kb] at ar;exact Zem (KE.1 ar.2 _ (Kg ho)) h6
   exact Jh (a9 _) (ZB.refl I2 w') h7
  | row sz xs ex fz=>
   obtain⟨ad,n,c,h2,h3,h4⟩:=h1;refine⟨ad,n,c,by rw[af k a8];exact h2,h3,?_⟩;rcases h4 with h4 | ⟨g,q0,cur,e,rfl,hc,hw,h5,h6,h7,h8,h9,bn,a1⟩
   ·exact .inl h4
   ·have a':cl=true→ex=true∧fz=false:=by
     intro hq;rw[hq] at ar;simp only[Kb] at ar;have:=KE.1 ar.2 _ (Kg ho);simpa [ZaG] using this
    refine .inr ⟨g,q0,cur,e,rfl,hc,hw,h5,h6,h7,h8,?_,az g bn,?_⟩
    ·cases fz
     ·simp at h9 ⊢;exact fun hi=>h9 hi.1
     ·simp at h9 ⊢;exact⟨h9,fun hq=>by have:=(a' hq).2;cases this⟩
    ·cases ex
     ·have:cl=false:=by cases hq:cl with
       | false=>rfl
       | true=>have:=(a' hq).1;cases this
      exact a1.mono' ⟨fun b hb=>⟨hb,fun ak=>by rw[this] at ak;cases ak⟩,fun _ _=>rfl⟩ rfl
     ·simp only[Kl] at a1 ⊢;exact a1.mono' ⟨fun b hb=>b0 b hb.1 hb.2,fun _ _=>rfl⟩ rfl
 have bp:∀ id o,lkp (Zd (Zd (ZN (ZW (if cl then [] else ab) (Yg gn hp)) []) (Uf (Yr ids base) ids out)) (Ug (Yr ids base) base (out.drop ids.length))) id=some o →
   (∃ (k:Nat) (o0:Zh),out[k]?=some o0∧id=Yr ids base k∧o=Zcu (Yr ids base) o0) ∨
   (id∉ids∧∃ o0,lkp hp id=some o0∧o=(if (if cl then [] else ab).contains id then XD (QD gn o0) else QD gn o0)):=by
  intro id o hl;rcases Wh _ _ _ _ hl with hm | hm
  ·obtain⟨j,o0,h1,h2,h3⟩:=ZfA _ _ _ _ _ hm;rw[KX] at h1;refine .inl ⟨ids.length+j,o0,h1,?_,h3⟩;have hg:ids[ids.length+j]?=none:=KH (by omega);simp only[Yr,hg,Zca];omega
  ·rcases Zel _ _ _ _ hm with hm | ⟨b1,hm⟩
   ·obtain⟨k,o0,h1,h2,h3⟩:=Zb1 _ _ _ _ _ hm;exact .inl ⟨k,o0,h2,by simp[Yr,h1,Zca],h3⟩
   ·simp only[ZN] at hm;rw[ZQ,Ym] at hm;have ai:id∉ids:=fun hi=>by obtain⟨o',bq⟩:=Zfz (Yr ids base) ids out id a5 hi;exact b1 o' bq
    cases aj:lkp hp id with
    | none=>rw[aj] at hm;cases hm
    | some o0=>
     rw[aj] at hm;simp only[KK,Option.some.injEq] at hm;exact .inr ⟨ai,o0,rfl,hm.symm⟩
 have ae:∀ id o b,id∉ids→lkp hp id=some o→Blk Γ w id o b→¬Znt Γ w hp ids w.heap.size b:=by
  rintro id o b ai hl ag (bj | ⟨ax,al,o',bq,ap⟩)
  ·have:=h.blk_lt hl ag;omega
  ·have:=h.inj id ax o o' b hl bq ag ap;exact ai (this ▸ al)
 refine⟨I2,Γ2,am,ah,?_,?_,?_⟩
 ·intro b hb;rcases aa.sub b hb.1 with h1 | h1
  ·exact h.frozeL_F h1
  ·exact .inr (az b h1)
 ·exact⟨aa.fr.os,aa.fr.tape,aa.fr.output,aa.fr.size,fun k hk b2=>aa.fr.block k hk fun hc=>b2 (az k hc)⟩
 ·refine { nt:=by rw[Zlh];exact h.nt,dfr:=by rw[ZgN];exact h.dfr,slots:=?_,objs:=?_,inj:=?_,bound:=fun b hb=>aa.bound b hb.1,fresh:=fun b hb=>h.fresh b (by have:=aa.fr.size;omega),own:=h.own,names:=?_,glob:=h.glob.mono ah }
  ·intro t;show Rep Γ2 w' I2 (gs (Zi (Qx gn sl) dst (ren (Yr ids base) r)) t) _;rw[Z5,Znb h.nt hd];split
   ·have h1:Rep Γ' w' I2 r v:=by
     cases hq:cl with
     | false=>exact aa.res.mono (ZU.refl _) ⟨fun b hb=>⟨hb,fun ak=>by rw[hq] at ak;cases ak⟩,fun _ _=>rfl⟩
     | true=>
      rw[hq] at ar;simp only[Kb] at ar;exact Zns ar.1 aa.res
    exact Zfe (a9 _) (ZB.refl I2 w') h1
   ·rw[Qe];have h1:=Zkj (bad:=gn) (h.slots t);have h2:=Zfe (g:=fun k=>k) (fun id _ r hr=>am id r hr) ah h1
    rwa [ren_id] at h2
  ·intro id o hl;rcases bp id o hl with ⟨k,o0,h1,rfl,rfl⟩ | ⟨ai,o0,aj,rfl⟩
   ·exact bl k o0 h1
   ·have ao:∀ b,Blk Γ w id o0 b→w'.heap[b]?=w.heap[b]?:=fun b hb=>aa.fr.block b (h.blk_lt aj hb) (ae id o0 b ai aj hb);have ba:(if cl=true then [] else ab).contains id=true→cl=false∧id∈ab:=by
     intro hq;cases br:cl<;>rw[br] at hq<;>simp at hq
     exact⟨rfl,hq⟩
    have bd:∀ b,Blk Γ w id o0 b→((if cl=true then [] else ab).contains id=false∨o0.soft=false)→I2 b→I b:=by
     intro b ag ay hi;rcases aa.sub b hi.1 with h1 | h1
     ·rcases h1 with h1 | ⟨ax,al,o',a0,bc,ap⟩
      ·exact h1
      ·have he:=h.inj id ax _ _ b aj a0 ag ap;subst he;rw[aj] at a0;cases a0;cases hq:cl with
       | true=>exact hi.2 hq (.inr ⟨id,al,_,aj,bc,ag⟩)
       | false=>
        rcases ay with ay | ay
        ·rw[hq] at ay;simp at ay;exact absurd al ay
        ·rw[bc] at ay;cases ay
     ·exact absurd h1 (ae id o0 b ai aj ag)
    have ho:=h.objs id o0 aj;have hG:=an id o0 ai aj;cases o0 with
    | gone=>
     have hz:(if (if cl=true then [] else ab).contains id=true then XD (QD gn .gone) else QD gn .gone)=.gone:=by cases (if cl=true then [] else ab).contains id<;>rfl
     rw[hz];obtain⟨r,hr⟩:=ho;exact⟨r,by rw[hG];exact hr⟩
    | tree sz ns xs lk=>
     cases hq:(if cl=true then [] else ab).contains id with
     | true=>
      obtain⟨br,bs⟩:=ba hq;exfalso
      rw[br] at aq;simp only[Bool.not_false,Bool.true_and,Lz] at aq;have:ab.any (fun i=>Uh (lkp hp i))=true:=Ly.2 ⟨id,bs,by rw[aj];rfl⟩;rw[this] at aq;cases aq
     | false=>
      simp only[Ka,Kj];obtain⟨ad,n,c,h2,h3,h4⟩:=ho;have ag:∀ b,(Zo (some (.row ad n c sz))=some b∨∃ g B,Zo (some (.row ad n c sz))=some g∧ZJ (Vi w g (XI sz lk)) ns B g sz xs 0∧b∈B)→w'.heap[b]?=w.heap[b]?∧(I2 b→I b):=fun b hb=>by
       rw[← h2] at hb;have ap : Blk Γ w id (.tree sz ns xs lk) b:=hb.elim .inl fun h=>.inr (.inl h);exact⟨ao b ap,bd b ap (.inl hq)⟩
      refine⟨ad,n,c,by rw[hG,h2],?_,?_⟩
      ·rw[Vo];exact h3.mono fun b hb=>⟨(ag b hb).1,(ag b hb).2,fun h=>h⟩
      ·cases lk with
       | none=>exact trivial
       | some q=>exact Xa.kill h4 (fun k _ r hr=>am k r hr) fun g hg=>(ag g (.inl (Xa.blk h3 (by simp) hg))).1
    | box cs=>
     have hz:(if (if cl=true then [] else ab).contains id=true then XD (QD gn (.box cs)) else QD gn (.box cs))=.box (cs.map (ZD gn)):=by
      cases (if cl=true then [] else ab).contains id<;>rfl
     rw[hz];obtain⟨b,cur,e,h2,h3,h4,h5,h6,bm⟩:=ho;have ag:Blk Γ w id (.box cs) b:=.inl (by rw[h2];rfl);refine⟨b,cur,e,by rw[hG,h2],by rw[ao b ag,h3],fun hi=>h4 (bd b ag (.inr rfl) hi),h5,?_,(bm.mono fun x te l u v g hc hv hg=>have hB:=Or.inr (Or.inr (Zmq h2 h3 hc hv hg));⟨ao g hB,bd g hB (.inr rfl),fun h=>h⟩).map (Ve _)⟩;have h7:=h6.map_left (S:=QP Γ w I) (f:=ZD gn) fun _ _ h=>ZdB h;have h8:=Jh (g:=fun k=>k) (Γ':=Γ2) (fun ax _ r hr=>am ax r hr) ah h7
     rwa [Zkn] at h8
    | row sz xs ex fz=>
     obtain⟨ad,n,c,h2,h3,h4⟩:=ho;have hz:∃ bb,(if (if cl=true then [] else ab).contains id=true then XD (QD gn (.row sz xs ex fz)) else QD gn (.row sz xs ex fz))=.row sz xs ex bb ∧
       (bb=false→fz=false∧(if cl=true then [] else ab).contains id=false)∧(bb=true→fz=true∨(fz=false∧cl=false∧id∈ab)):=by
      cases hq:(if cl=true then [] else ab).contains id with
      | true=>
       refine⟨true,rfl,(fun h=>by cases h),fun _=>?_⟩;cases fz
       ·exact .inr ⟨rfl,ba hq⟩
       ·exact .inl rfl
      | false=>exact⟨fz,rfl,fun hf=>⟨hf,rfl⟩,fun hf=>.inl hf⟩
     obtain⟨bb,hz,b3,b4⟩:=hz;rw[hz];refine⟨ad,n,c,by rw[hG,h2],h3,?_⟩;rcases h4 with h4 | ⟨g,q0,cur,e,rfl,hc,hw,h5,h6,h7,h8,h9,bn,a1⟩
     ·exact .inl h4
     ·have ag:Blk Γ w id (.row sz xs ex fz) g:=.inl (by rw[h2];simp[Zo,Ku hc]);refine .inr ⟨g,q0,cur,e,rfl,hc,by rw[ao g ag,hw],h5,h6,h7,h8,?_,bn,?_⟩
      ·cases bb with
       | false=>
        obtain⟨hf,hq⟩:=b3 rfl;rw[hf] at h9;simp at h9 ⊢;exact fun hi=>h9 (bd g ag (.inl hq) hi)
       | true=>
        simp;rcases b4 rfl with hf | ⟨hf,hq,bs⟩
        ·rw[hf] at h9;simp at h9;exact bi g h9
        ·subst hf;exact⟨aa.keeps.sub g (.inr ⟨id,bs,_,aj,rfl,ag⟩),fun bu=>by rw[hq] at bu;cases bu⟩
      ·cases ex
       ·exact a1.mono' ah (ao g ag)
       ·simp only[Kl] at a1 ⊢;exact a1.mono' ⟨fun b hb=>⟨bi b hb.1,hb.2⟩,fun b hb=>ah.blk b hb.1⟩ (ao g ag)
  ·have bk:∀ (k:Nat) (o0:Zh) (b:Nat),out[k]?=some o0→Blk Γ2 w' (Yr ids base k) (Zcu (Yr ids base) o0) b→Blk Γ' w' k o0 b:=by
    intro k o0 b h1 hb;have e:=af k (Kd.1 h1).1;rcases hb with hb | hb | hb
    ·rw[ZdS,e] at hb;exact .inl hb
    ·cases o0 with
     | box cs=>exact False.elim hb
     | row sz xs ex fz=>exact False.elim hb
     | gone=>exact False.elim hb
     | tree sz ns xs lk=>
      obtain⟨g,p,h2,h3⟩:=hb;rw[Vn] at h3;exact .inr (.inl ⟨g,p,e ▸ h2,h3⟩)
    ·cases o0 with
     | box cs=>exact .inr (.inr ((Buf.unmap (W4 _) hb).ren e.symm))
     | row sz xs ex fz=>exact False.elim hb
     | gone=>exact False.elim hb
     | tree sz ns xs lk=>exact False.elim hb
   have bo:∀ (id:Nat) (o0:Zh) (b:Nat),id∉ids→lkp hp id=some o0→Blk Γ2 w' id (if (if cl then [] else ab).contains id then XD (QD gn o0) else QD gn o0) b→Blk Γ w id o0 b:=by
    intro id o0 b ai hl hb;have hb:=ZaV hb;have h1:Blk Γ2 w' id o0 b:=by
     rcases hb with hb | hb | hb
     ·rw[Zcg] at hb;exact .inl hb
     ·cases o0 with
      | box cs=>exact False.elim hb
      | row sz xs ex fz=>exact False.elim hb
      | gone=>exact False.elim hb
      | tree sz ns xs lk=>
       obtain⟨g,p,h2,h3⟩:=hb;rw[Vo] at h3;exact .inr (.inl ⟨g,p,h2,h3⟩)
     ·cases o0 with
      | box cs=>exact .inr (.inr (Buf.unmap (Ve _) hb))
      | row sz xs ex fz=>exact False.elim hb
      | gone=>exact False.elim hb
      | tree sz ns xs lk=>exact False.elim hb
    exact h1.back (h.objs id o0 hl) (an id o0 ai hl) fun g hg=>aa.fr.block g (h.blk_lt hl hg) (ae id o0 g ai hl hg)
   intro i j o o' b hi hj be bf;rcases bp i o hi with ⟨k,o0,h1,rfl,rfl⟩ | ⟨ai,o0,aj,rfl⟩<;>rcases bp j o' hj with ⟨k',o1,h2,rfl,rfl⟩ | ⟨a2,o1,bg,rfl⟩
   ·have:=aa.inj k k' o0 o1 b (by rw[Vx];simpa using h1) (by rw[Vx];simpa using h2) (bk k o0 b h1 be) (bk k' o1 b h2 bf);rw[this]
   ·exact absurd (Zdd (aa.objs k o0 (by rw[Vx];simpa using h1)) (bk k o0 b h1 be)) (ae j o1 b a2 bg (bo j o1 b a2 bg bf))
   ·exact absurd (Zdd (aa.objs k' o1 (by rw[Vx];simpa using h2)) (bk k' o1 b h2 bf)) (ae i o0 b ai aj (bo i o0 b ai aj be))
   ·exact h.inj i j o0 o1 b aj bg (bo i o0 b ai aj be) (bo j o1 b a2 bg bf)
  ·intro id av;show Zaq Γ Γ' ids base id=none;simp only[Zaq];rw[Kp,Kp]
   ·exact h.names id (fun hu=>av (.inl hu))
   ·exact fun hh=>av (.inr hh)
   ·intro hm;obtain⟨o,ho⟩:=au id hm;exact av (.inl (h.id_in ho))
end
end Go.Abs

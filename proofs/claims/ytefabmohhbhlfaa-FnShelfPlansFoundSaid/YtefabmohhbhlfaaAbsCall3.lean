/- Own text. -/
import Derived.Test.YtefabmohhbhlfaaAbsCall2
set_option linter.unusedVariables false
set_option linter.unusedSimpArgs false
namespace Go.Abs
open Go
theorem Ze2 : ∀ (l:Hp) (hp:Hp) (id:Nat) (o:Zh),lkp (Zd hp l) id=some o→(id,o)∈l∨((∀ o',(id,o')∉l)∧lkp hp id=some o)
 | [],hp,id,o,h=>.inr ⟨by simp,h⟩
 | (k,x) :: r,hp,id,o,h=>by
  rcases Ze2 r (ins hp k x) id o h with h1 | ⟨h1,h2⟩
  ·exact .inl (Kt _ h1)
  ·rw[ZW] at h2;split at h2
   ·rename_i hk;subst hk;cases h2;exact .inl (K9 ..)
   ·rename_i hk;refine .inr ⟨fun o' hm=>?_,h2⟩;rcases Kf.1 hm with hm | hm
    ·cases hm;exact hk rfl
    ·exact h1 o' hm
theorem ZcC (g:Nat→Nat):∀ (ids:List Nat) (out:List Zh) (id:Nat) (o:Zh),(id,o)∈UO g ids out→∃ (k:Nat) (o0:Zh),ids[k]?=some id∧out[k]?=some o0∧o=Zc1 g o0
 | [],out,id,o,h=>by simp[UO] at h
 | i :: ids,[],id,o,h=>by simp[UO] at h
 | i :: ids,o1 :: out,id,o,h=>by
  simp only[UO] at h;rcases Kf.1 h with h | h
  ·cases h;exact⟨0,o1,by simp,by simp,rfl⟩
  ·obtain⟨k,o0,h1,h2,h3⟩:=ZcC g ids out id o h;exact⟨k+1,o0,by simpa using h1,by simpa using h2,h3⟩
theorem Zgo (g:Nat→Nat):∀ (ids:List Nat) (out:List Zh) (id:Nat),ids.length≤out.length→id∈ids→∃ o,(id,o)∈UO g ids out
 | [],out,id,_,h=>by simp at h
 | i :: ids,[],id,hl,h=>by simp at hl
 | i :: ids,o1 :: out,id,hl,h=>by
  simp only[UO];rcases Kf.1 h with h | h
  ·subst h;exact⟨_,K9 ..⟩
  ·obtain⟨o,ho⟩:=Zgo g ids out id (by simpa using hl) h;exact⟨o,Kt _ ho⟩
theorem Zgp (g:Nat→Nat):∀ (out:List Zh) (k id:Nat) (o:Zh),(id,o)∈UP g k out→∃ (j:Nat) (o0:Zh),out[j]?=some o0∧id=k+j∧o=Zc1 g o0
 | [],k,id,o,h=>by simp[UP] at h
 | o1 :: out,k,id,o,h=>by
  simp only[UP] at h;rcases Kf.1 h with h | h
  ·cases h;exact⟨0,o1,by simp,rfl,rfl⟩
  ·obtain⟨j,o0,h1,h2,h3⟩:=Zgp g out (k+1) id o h;exact⟨j+1,o0,by simpa using h1,by omega,h3⟩
theorem Zgq (g:Nat→Nat):∀ (out:List Zh) (k j:Nat),j<out.length→∃ o,(k+j,o)∈UP g k out
 | [],k,j,h=>by simp at h
 | o1 :: out,k,0,h=>⟨_,by simp only[UP];exact K9 ..⟩
 | o1 :: out,k,j+1,h=>by
  obtain⟨o,ho⟩:=Zgq g out (k+1) j (by simpa using h);refine⟨o,?_⟩;simp only[UP];have:k+(j+1)=k+1+j:=by omega
  rw[this];exact Kt _ ho
theorem ZrD (x:AV):Zaf (fun k=>k) x=x:=by cases x<;>rfl
theorem Zf5 (x:AV):JR (fun k=>k) x=x:=by
 cases x<;>first | rfl | (simp only[JR];congr 1;rw[KJ (g:=id) (fun a _=>ZrD a),Lw])
theorem Zlv (xs:List AV):xs.map (JR fun k=>k)=xs:=by
 rw[KJ (g:=id) (fun a _=>Zf5 a),Lw]
theorem ren_id (x:AV):ren (fun k=>k) x=x:=by
 cases x with
 | tup vs=>simp only[ren];congr 1;rw[KJ (g:=id) (fun a _=>Zf5 a),Lw]
 | d x=>rfl
 | nil=>rfl
 | nilp=>rfl
 | nili=>rfl
 | ptr a b=>rfl
 | prow a b c d=>rfl
 | pim c=>rfl
 | own a=>rfl
 | ownv a b c=>rfl
 | bnil a b=>rfl
 | bbuf a b=>rfl
 | agg cs=>exact Zf5 (.agg cs)
 | clo f cs=>exact Zf5 (.clo f cs)
 | junk=>rfl
theorem Uy (x:AV):ZT [] x=x:=by cases x<;>simp[ZT]
theorem JT (x:AV):ZF [] x=x:=by
 cases x<;>first | (simp only[ZF];congr 1;rw[KJ (g:=id) (fun a _=>Uy a),Lw]) | simp[ZF,ZT]
theorem Zqh (x:AV):kill [] x=x:=by
 cases x with
 | tup vs=>simp only[kill];congr 1;rw[KJ (g:=id) (fun a _=>JT a),Lw]
 | d x=>rfl
 | nil=>rfl
 | nilp=>rfl
 | nili=>rfl
 | ptr a b=>exact Uy (.ptr a b)
 | prow a b c d=>exact Uy (.prow a b c d)
 | pim c=>rfl
 | own a=>exact Uy (.own a)
 | ownv a b c=>exact Uy (.ownv a b c)
 | bnil a b=>exact Uy (.bnil a b)
 | bbuf a b=>rfl
 | agg cs=>exact JT (.agg cs)
 | clo f cs=>exact JT (.clo f cs)
 | junk=>rfl
theorem Zo4 (o:Zh):QF [] o=o:=by
 cases o with
 | box cs=>simp only[QF];congr 1;rw[KJ (g:=id) (fun a _=>JT a),Lw]
 | row s x e f=>rfl
 | gone=>rfl
 | tree s n x l=>rcases l with _ | ⟨_ | _,_⟩<;>simp[QF,YC]
theorem Qj (gone:List Nat) (sl:Sl) (t:Nat):gs (Qy gone sl) t=kill gone (gs sl t):=by
 unfold Qy;split
 ·rw[Zqh]
 ·simp only[gs,Zbw];cases lkp sl t<;>rfl
theorem YD (gone:List Nat) (hp:Hp) (id:Nat):lkp (Yx gone hp) id=(lkp hp id).map (QF gone):=by
 unfold Yx;split
 ·cases h:lkp hp id with
  | none=>rfl
  | some o=>simp[Zo4]
 ·exact Zbw _ _ _
section
variable {P:Program} {nt:Nat} {U:Nat→Prop} {F A I:Nat→Prop} {Γ:Gh} {sl:Sl} {hp:Hp} {a:Act} {w:World}
theorem ZcD {I2:Nat→Prop} {x:AV} {v:Value} (hc:UN x=true) (h:XA Γ w I x v):XA Γ w I2 x v:=by
 cases x with
 | d x=>exact⟨h.1,ZhE hc h.2⟩
 | pim cs=>cases hc
 | agg cs=>exact h
 | tup cs=>exact h
 | clo f cs=>exact h
 | _=>exact h
theorem Ji {I2:Nat→Prop}:∀ {xs:List AV} {vs:List Value},xs.all UN=true→Zq (XA Γ w I) xs vs→Zq (XA Γ w I2) xs vs
 | [],[],_,_=>trivial
 | [],_ :: _,_,h=>h.elim
 | _ :: _,[],_,h=>h.elim
 | x :: xs,v :: vs,hc,h=>by
  simp only[Lt,Kb] at hc;exact⟨ZcD hc.1 h.1,Ji hc.2 h.2⟩
theorem Zgr {I2:Nat→Prop} {x:AV} {v:Value} (hc:JC x=true) (h:Wa Γ w I x v):Wa Γ w I2 x v:=by
 by_cases hs:x.small=true
 ·rw[(Y3 hs v).2.1] at h ⊢;refine ZcD ?_ h;cases x<;>first | exact hc | cases hs
 ·cases x with
  | agg cs=>obtain⟨us,h1,h2⟩:=h;exact⟨us,h1,Ji hc h2⟩
  | clo f cs=>obtain⟨us,h1,h2⟩:=h;exact⟨us,h1,Ji hc h2⟩
  | tup cs=>exact h.elim
  | d x=>exact ZkR.2 (ZjW hc (ZkR.1 h))
  | _=>exact absurd rfl hs
theorem ZmX {I2:Nat→Prop} {x:AV} {v:Value} (hc:JC x=true) (h:QT Γ w I x v):QT Γ w I2 x v:=by
 by_cases hs:x.small=true
 ·rw[(Y3 hs v).2.2] at h ⊢;refine ZcD ?_ h;cases x<;>first | exact hc | cases hs
 ·cases x with
  | agg cs=>exact h.elim
  | clo f cs=>obtain⟨us,h1,h2⟩:=h;exact⟨us,h1,Ji hc h2⟩
  | tup cs=>exact h.elim
  | d x=>exact⟨h.1,ZhE hc h.2⟩
  | _=>exact absurd rfl hs
theorem Ze3 {I2:Nat→Prop}:∀ {xs:List AV} {vs:List Value},xs.all JC=true→Zq (QT Γ w I) xs vs→Zq (QT Γ w I2) xs vs
 | [],[],_,_=>trivial
 | [],_ :: _,_,h=>h.elim
 | _ :: _,[],_,h=>h.elim
 | x :: xs,v :: vs,hc,h=>by
  simp only[Lt,Kb] at hc;exact⟨ZmX hc.1 h.1,Ze3 hc.2 h.2⟩
theorem Ze4 {I2:Nat→Prop}:∀ {xs:List AV} {vs:List Value},xs.all JC=true→Zq (Wa Γ w I) xs vs→Zq (Wa Γ w I2) xs vs
 | [],[],_,_=>trivial
 | [],_ :: _,_,h=>h.elim
 | _ :: _,[],_,h=>h.elim
 | x :: xs,v :: vs,hc,h=>by
  simp only[Lt,Kb] at hc;exact⟨Zgr hc.1 h.1,Ze4 hc.2 h.2⟩
theorem Zo5 {I2:Nat→Prop} {x:AV} {v:Value} (hc:ZjF x=true) (h:Rep Γ w I x v):Rep Γ w I2 x v:=by
 by_cases ht:∃ vs,x=.tup vs
 ·obtain⟨vs,rfl⟩:=ht;obtain⟨us,h1,h2⟩:=h;exact⟨us,h1,Ze4 hc h2⟩
 ·have e:∀ I,Rep Γ w I x v=Wa Γ w I x v:=fun I=>by cases x<;>first | rfl | exact absurd ⟨_,rfl⟩ ht
  rw[e] at h ⊢;refine Zgr ?_ h;cases x<;>first | exact hc | exact absurd ⟨_,rfl⟩ ht
theorem Sim.blk_F (h:Sim nt F A I Γ U sl hp a w) {id:Nat} {o:Zh} (hl:lkp hp id=some o) {b:Nat} (hb:Blk Γ w id o b):F b:=ZdK (h.objs id o hl) hb
def Zo6 (Γ:Gh) (w:World) (hp:Hp) (ids:List Nat) (n:Nat) (b:Nat):Prop:=n≤b∨∃ id∈ids,∃ o,lkp hp id=some o∧Blk Γ w id o b
def calA (Γ:Gh) (w:World) (hp:Hp) (ids:List Nat) (n:Nat) (I A:Nat→Prop) (b:Nat):Prop:=Zo6 Γ w hp ids n b∨(I b∧A b)
def Za6 (Γ Γ' : Gh) (ids:List Nat) (base:Nat):Gh:=fun id=>if id∈ids then Γ' (Yu ids id) else if base≤id∧id<base+64 then Γ' (ids.length+(id-base)) else Γ id
theorem Zo7 (h:Sim nt F A I Γ U sl hp a w) {base:Nat} (hb:Qx U base) {ids ab:List Nat} (bv:ids.Nodup) (au:∀ id∈ids,∃ o,lkp hp id=some o) (a4:¬ab.any ids.contains=true)
  {r:AV} {out:List Zh} {I' : Nat→Prop} {Γ' : Gh} {v:Value} {w' : World}
  (aa:Back (Zo6 Γ w hp ids w.heap.size) (calA Γ w hp ids w.heap.size I A) (Zbx Γ w hp I ab) (Za4 ids Γ) w out r I' Γ' v w')
  {ce:Zb} {keep:Bool} (a3:W1 keep hp base ids ab r out=some ce) (bt:Qr base (base+64) ce.eff.adds=true) {dst:Option Nat} (hd:Qm nt dst=true) :
  X9 nt F A I Γ w (Wb U base) (ce.on dst sl hp).1 (ce.on dst sl hp).2 (a.put dst v) w':=by
 unfold W1 at a3;split at a3
 ·cases a3
 rename_i a5;have a5:ids.length≤out.length:=by omega
 split at a3
 ·cases a3
 rename_i aq;cases a3;generalize ar:(ZjF r&&out.all Zbk)=cl at *;generalize Zes hp ids out keep=gn at *;dsimp only at bt;have a6:∀ id∈ids,¬(base≤id∧id<base+64):=fun id av hh=>by
  obtain⟨o,ho⟩:=au id av;exact hb id hh.1 hh.2 (h.id_in ho)
 have bh:(out.drop ids.length).length≤64:=by
  rcases KZ 64 (out.drop ids.length).length with bw | bh
  ·obtain⟨o,ho⟩:=Zgq (YI ids base) (out.drop ids.length) base 64 bw;have:=(VL bt _ _ ho).2;omega
  ·exact bh
 have bx : out.length≤ids.length+64:=by simp at bh;omega
 have az:∀ b,Zo6 Γ w hp ids w.heap.size b→F b:=by
  rintro b (hb | ⟨id,av,o,ho,ag⟩)
  ·exact h.fresh b hb
  ·exact h.blk_F ho ag
 have bz:∀ b,calA Γ w hp ids w.heap.size I A b→A b:=by
  rintro b (hb | hb)
  ·exact h.own b (az b hb)
  ·exact hb.2
 have a7:∀ b,Zbx Γ w hp I ab b→¬I b→¬Zo6 Γ w hp ids w.heap.size b:=by
  rintro b aw ai (hb | ⟨id,av,o,ho,ag⟩)
  ·rcases aw with aw | ⟨ax,al,o',a0,bc,ap⟩
   ·exact ai aw
   ·have:=h.blk_lt a0 ap;omega
  ·rcases aw with aw | ⟨ax,al,o',a0,bc,ap⟩
   ·exact ai aw
   ·have:=h.inj id ax o _ b ho a0 ag ap;subst this;exact a4 (Lr.2 ⟨id,al,by simpa using av⟩)
 let I2:Nat→Prop:=fun b=>I' b∧(cl=true→Zbx Γ w hp I ab b→I b)
 let Γ2:Gh:=Za6 Γ Γ' ids base
 have bi:∀ b,I b→I2 b:=fun b hb=>⟨aa.keeps.sub b (.inl hb),fun _ _=>hb⟩
 have ah:ZB I I2 w w':=⟨bi,fun b hb=>aa.keeps.blk b (.inl hb)⟩
 have b0:∀ b,I' b→calA Γ w hp ids w.heap.size I A b→I2 b∧A b:=by
  intro b h1 h2;refine⟨⟨h1,fun _ aw=>?_⟩,bz b h2⟩;rcases h2 with h2 | h2
  ·exact Classical.byContradiction fun ai=>a7 b aw ai h2
  ·exact h2.1
 have af:∀ k,k<out.length→Γ2 (YI ids base k)=Γ' k:=by
  intro k a8;by_cases hk:k<ids.length
  ·have hg:ids[k]?=some ids[k]:=Kz hk;have hb:YI ids base k=ids[k]:=by simp[YI,hg,ZcL]
   show Za6 Γ Γ' ids base _=_;rw[hb];simp only[Za6];rw[Ko (List.getElem_mem hk),ZbP bv hg]
  ·have hg:ids[k]?=none:=KR (by omega);have hb:YI ids base k=base+(k-ids.length):=by simp[YI,hg,ZcL]
   show Za6 Γ Γ' ids base _=_;rw[hb];simp only[Za6];rw[Kn (fun hm=>a6 _ hm (by omega)),Ko (by omega)];congr 1
   omega
 have a9:∀ l,WP Γ' Γ2 (YI ids base) l:=fun l id _ r hr=>by
  rw[af id ?_]
  ·exact hr
  ·rcases KZ id out.length with h1 | h1
   ·exact h1
   ·rw[aa.names id h1] at hr;cases hr
 have am:ZY Γ Γ2:=by
  intro id r hr;show Za6 Γ Γ' ids base id=_;simp only[Za6];split
  ·rename_i hm;refine aa.heads _ r ?_;rw[XX (Zc5 hm).2];exact hr
  ·split
   ·rename_i bj;rw[h.names id (hb id bj.1 bj.2)] at hr;cases hr
   ·exact hr
 have an:∀ id o,id∉ids→lkp hp id=some o→Γ2 id=Γ id:=by
  intro id o hm hl;show Za6 Γ Γ' ids base id=_;simp only[Za6];rw[Kn hm,Kn (fun hh=>hb id hh.1 hh.2 (h.id_in hl))]
 have bl:∀ (k:Nat) (o:Zh),out[k]?=some o→XF Γ2 w' I2 F A (YI ids base k) (Zc1 (YI ids base) o):=by
  intro k o ho;have a8:k<out.length:=(Kc.1 ho).1;have h1:=aa.objs k o (by rw[VZ];simpa using ho);cases o with
  | gone=>
   obtain⟨r,hr⟩:=h1;exact⟨r,by rw[af k a8];exact hr⟩
  | tree sz ns xs lk=>
   obtain⟨ad,n,c,h2,h3,h4⟩:=h1;refine⟨ad,n,c,by rw[af k a8];exact h2,?_,h4.lose⟩;rw[VM];exact h3.mono fun b _=>⟨rfl,fun hi=>hi.1,az b⟩
  | box cs=>
   obtain⟨b,cur,e,h2,h3,h4,h5,h6,bm⟩:=h1;refine⟨b,cur,e,by rw[af k a8];exact h2,h3,fun hi=>h4 hi.1,az b h5,?_,(bm.mono fun x te l u v g hc hv hg=>⟨rfl,fun hi=>hi.1,fun hF=>az g hF⟩).map (UB _)⟩;have h7:Zq (QT Γ' w' I2) cs cur.toList:=by
    cases hq:cl with
    | false=>exact h6.mono fun _ _ h=>h.mono (ZY.refl _) ⟨fun b hb=>⟨hb,fun ak=>by rw[hq] at ak;cases ak⟩,fun _ _=>rfl⟩
    | true=>
     rw[hq] at ar;simp only[Kb] at ar;exact Ze3 (KK.1 ar.2 _ (Ke ho)) h6
   exact JS (a9 _) (ZB.refl I2 w') h7
  | row sz xs ex fz=>
   obtain⟨ad,n,c,h2,h3,h4⟩:=h1;refine⟨ad,n,c,by rw[af k a8];exact h2,h3,?_⟩;rcases h4 with h4 | ⟨g,q0,cur,e,rfl,hc,hw,h5,h6,h7,h8,h9,bn,a1⟩
   ·exact .inl h4
   ·have a':cl=true→ex=true∧fz=false:=by
     intro hq;rw[hq] at ar;simp only[Kb] at ar;have:=KK.1 ar.2 _ (Ke ho);simpa [Zbk] using this
    refine .inr ⟨g,q0,cur,e,rfl,hc,hw,h5,h6,h7,h8,?_,az g bn,?_⟩
    ·cases fz
     ·simp at h9 ⊢;exact fun hi=>h9 hi.1
     ·simp at h9 ⊢;exact⟨h9,fun hq=>by have:=(a' hq).2;cases this⟩
    ·cases ex
     ·have:cl=false:=by cases hq:cl with
       | false=>rfl
       | true=>have:=(a' hq).1;cases this
      exact a1.mono' ⟨fun b hb=>⟨hb,fun ak=>by rw[this] at ak;cases ak⟩,fun _ _=>rfl⟩ rfl
     ·simp only[Kk] at a1 ⊢;exact a1.mono' ⟨fun b hb=>b0 b hb.1 hb.2,fun _ _=>rfl⟩ rfl
 have bp:∀ id o,lkp (Zd (Zd (ZP (Z2 (if cl then [] else ab) (Yx gn hp)) []) (UO (YI ids base) ids out)) (UP (YI ids base) base (out.drop ids.length))) id=some o →
   (∃ (k:Nat) (o0:Zh),out[k]?=some o0∧id=YI ids base k∧o=Zc1 (YI ids base) o0) ∨
   (id∉ids∧∃ o0,lkp hp id=some o0∧o=(if (if cl then [] else ab).contains id then XW (QF gn o0) else QF gn o0)):=by
  intro id o hl;rcases WG _ _ _ _ hl with hm | hm
  ·obtain⟨j,o0,h1,h2,h3⟩:=Zgp _ _ _ _ _ hm;rw[KY] at h1;refine .inl ⟨ids.length+j,o0,h1,?_,h3⟩;have hg:ids[ids.length+j]?=none:=KR (by omega);simp only[YI,hg,ZcL];omega
  ·rcases Ze2 _ _ _ _ hm with hm | ⟨b1,hm⟩
   ·obtain⟨k,o0,h1,h2,h3⟩:=ZcC _ _ _ _ _ hm;exact .inl ⟨k,o0,h2,by simp[YI,h1,ZcL],h3⟩
   ·simp only[ZP] at hm;rw[ZU,YD] at hm;have ai:id∉ids:=fun hi=>by obtain⟨o',bq⟩:=Zgo (YI ids base) ids out id a5 hi;exact b1 o' bq
    cases aj:lkp hp id with
    | none=>rw[aj] at hm;cases hm
    | some o0=>
     rw[aj] at hm;simp only[KW,Option.some.injEq] at hm;exact .inr ⟨ai,o0,rfl,hm.symm⟩
 have ae:∀ id o b,id∉ids→lkp hp id=some o→Blk Γ w id o b→¬Zo6 Γ w hp ids w.heap.size b:=by
  rintro id o b ai hl ag (bj | ⟨ax,al,o',bq,ap⟩)
  ·have:=h.blk_lt hl ag;omega
  ·have:=h.inj id ax o o' b hl bq ag ap;exact ai (this ▸ al)
 refine⟨I2,Γ2,am,ah,?_,?_,?_⟩
 ·intro b hb;rcases aa.sub b hb.1 with h1 | h1
  ·exact h.frozeL_F h1
  ·exact .inr (az b h1)
 ·exact⟨aa.fr.os,aa.fr.tape,aa.fr.output,aa.fr.size,fun k hk b2=>aa.fr.block k hk fun hc=>b2 (az k hc)⟩
 ·refine { nt:=by rw[Zmq];exact h.nt,dfr:=by rw[ZhD];exact h.dfr,slots:=?_,objs:=?_,inj:=?_,bound:=fun b hb=>aa.bound b hb.1,fresh:=fun b hb=>h.fresh b (by have:=aa.fr.size;omega),own:=h.own,names:=?_,glob:=h.glob.mono ah }
  ·intro t;show Rep Γ2 w' I2 (gs (Zi (Qy gn sl) dst (ren (YI ids base) r)) t) _;rw[Z9,ZoK h.nt hd];split
   ·have h1:Rep Γ' w' I2 r v:=by
     cases hq:cl with
     | false=>exact aa.res.mono (ZY.refl _) ⟨fun b hb=>⟨hb,fun ak=>by rw[hq] at ak;cases ak⟩,fun _ _=>rfl⟩
     | true=>
      rw[hq] at ar;simp only[Kb] at ar;exact Zo5 ar.1 aa.res
    exact Zf4 (a9 _) (ZB.refl I2 w') h1
   ·rw[Qj];have h1:=Zlr (bad:=gn) (h.slots t);have h2:=Zf4 (g:=fun k=>k) (fun id _ r hr=>am id r hr) ah h1
    rwa [ren_id] at h2
  ·intro id o hl;rcases bp id o hl with ⟨k,o0,h1,rfl,rfl⟩ | ⟨ai,o0,aj,rfl⟩
   ·exact bl k o0 h1
   ·have ao:∀ b,Blk Γ w id o0 b→w'.heap[b]?=w.heap[b]?:=fun b hb=>aa.fr.block b (h.blk_lt aj hb) (ae id o0 b ai aj hb);have ba:(if cl=true then [] else ab).contains id=true→cl=false∧id∈ab:=by
     intro hq;cases br:cl<;>rw[br] at hq<;>simp at hq
     exact⟨rfl,hq⟩
    have bd:∀ b,Blk Γ w id o0 b→((if cl=true then [] else ab).contains id=false∨o0.soft=false)→I2 b→I b:=by
     intro b ag ay hi;rcases aa.sub b hi.1 with h1 | h1
     ·rcases h1 with h1 | ⟨ax,al,o',a0,bc,ap⟩
      ·exact h1
      ·have he:=h.inj id ax _ _ b aj a0 ag ap;subst he;rw[aj] at a0;cases a0;cases hq:cl with
       | true=>exact hi.2 hq (.inr ⟨id,al,_,aj,bc,ag⟩)
       | false=>
        rcases ay with ay | ay
        ·rw[hq] at ay;simp at ay;exact absurd al ay
        ·rw[bc] at ay;cases ay
     ·exact absurd h1 (ae id o0 b ai aj ag)
    have ho:=h.objs id o0 aj;have hG:=an id o0 ai aj;cases o0 with
    | gone=>
     have hz:(if (if cl=true then [] else ab).contains id=true then XW (QF gn .gone) else QF gn .gone)=.gone:=by cases (if cl=true then [] else ab).contains id<;>rfl
     rw[hz];obtain⟨r,hr⟩:=ho;exact⟨r,by rw[hG];exact hr⟩
    | tree sz ns xs lk=>
     cases hq:(if cl=true then [] else ab).contains id with
     | true=>
      obtain⟨br,bs⟩:=ba hq;exfalso
      rw[br] at aq;simp only[Bool.not_false,Bool.true_and,L4] at aq;have:ab.any (fun i=>UQ (lkp hp i))=true:=Lr.2 ⟨id,bs,by rw[aj];rfl⟩;rw[this] at aq;cases aq
     | false=>
      simp only[Ka,Ki];obtain⟨ad,n,c,h2,h3,h4⟩:=ho;have ag:∀ b,(Zp (some (.row ad n c sz))=some b∨∃ g B,Zp (some (.row ad n c sz))=some g∧ZK (VH w g (X0 sz lk)) ns B g sz xs 0∧b∈B)→w'.heap[b]?=w.heap[b]?∧(I2 b→I b):=fun b hb=>by
       rw[← h2] at hb;have ap : Blk Γ w id (.tree sz ns xs lk) b:=hb.elim .inl fun h=>.inr (.inl h);exact⟨ao b ap,bd b ap (.inl hq)⟩
      refine⟨ad,n,c,by rw[hG,h2],?_,?_⟩
      ·rw[VN];exact h3.mono fun b hb=>⟨(ag b hb).1,(ag b hb).2,fun h=>h⟩
      ·cases lk with
       | none=>exact trivial
       | some q=>exact Xl.kill h4 (fun k _ r hr=>am k r hr) fun g hg=>(ag g (.inl (Xl.blk h3 (by simp) hg))).1
    | box cs=>
     have hz:(if (if cl=true then [] else ab).contains id=true then XW (QF gn (.box cs)) else QF gn (.box cs))=.box (cs.map (ZF gn)):=by
      cases (if cl=true then [] else ab).contains id<;>rfl
     rw[hz];obtain⟨b,cur,e,h2,h3,h4,h5,h6,bm⟩:=ho;have ag:Blk Γ w id (.box cs) b:=.inl (by rw[h2];rfl);refine⟨b,cur,e,by rw[hG,h2],by rw[ao b ag,h3],fun hi=>h4 (bd b ag (.inr rfl) hi),h5,?_,(bm.mono fun x te l u v g hc hv hg=>have hB:=Or.inr (Or.inr (ZnN h2 h3 hc hv hg));⟨ao g hB,bd g hB (.inr rfl),fun h=>h⟩).map (VC _)⟩;have h7:=h6.map_left (S:=QT Γ w I) (f:=ZF gn) fun _ _ h=>Zeh h;have h8:=JS (g:=fun k=>k) (Γ':=Γ2) (fun ax _ r hr=>am ax r hr) ah h7
     rwa [Zlv] at h8
    | row sz xs ex fz=>
     obtain⟨ad,n,c,h2,h3,h4⟩:=ho;have hz:∃ bb,(if (if cl=true then [] else ab).contains id=true then XW (QF gn (.row sz xs ex fz)) else QF gn (.row sz xs ex fz))=.row sz xs ex bb ∧
       (bb=false→fz=false∧(if cl=true then [] else ab).contains id=false)∧(bb=true→fz=true∨(fz=false∧cl=false∧id∈ab)):=by
      cases hq:(if cl=true then [] else ab).contains id with
      | true=>
       refine⟨true,rfl,(fun h=>by cases h),fun _=>?_⟩;cases fz
       ·exact .inr ⟨rfl,ba hq⟩
       ·exact .inl rfl
      | false=>exact⟨fz,rfl,fun hf=>⟨hf,rfl⟩,fun hf=>.inl hf⟩
     obtain⟨bb,hz,b3,b4⟩:=hz;rw[hz];refine⟨ad,n,c,by rw[hG,h2],h3,?_⟩;rcases h4 with h4 | ⟨g,q0,cur,e,rfl,hc,hw,h5,h6,h7,h8,h9,bn,a1⟩
     ·exact .inl h4
     ·have ag:Blk Γ w id (.row sz xs ex fz) g:=.inl (by rw[h2];simp[Zp,Ku hc]);refine .inr ⟨g,q0,cur,e,rfl,hc,by rw[ao g ag,hw],h5,h6,h7,h8,?_,bn,?_⟩
      ·cases bb with
       | false=>
        obtain⟨hf,hq⟩:=b3 rfl;rw[hf] at h9;simp at h9 ⊢;exact fun hi=>h9 (bd g ag (.inl hq) hi)
       | true=>
        simp;rcases b4 rfl with hf | ⟨hf,hq,bs⟩
        ·rw[hf] at h9;simp at h9;exact bi g h9
        ·subst hf;exact⟨aa.keeps.sub g (.inr ⟨id,bs,_,aj,rfl,ag⟩),fun bu=>by rw[hq] at bu;cases bu⟩
      ·cases ex
       ·exact a1.mono' ah (ao g ag)
       ·simp only[Kk] at a1 ⊢;exact a1.mono' ⟨fun b hb=>⟨bi b hb.1,hb.2⟩,fun b hb=>ah.blk b hb.1⟩ (ao g ag)
  ·have bk:∀ (k:Nat) (o0:Zh) (b:Nat),out[k]?=some o0→Blk Γ2 w' (YI ids base k) (Zc1 (YI ids base) o0) b→Blk Γ' w' k o0 b:=by
    intro k o0 b h1 hb;have e:=af k (Kc.1 h1).1;rcases hb with hb | hb | hb
    ·rw[ZeA,e] at hb;exact .inl hb
    ·cases o0 with
     | box cs=>exact False.elim hb
     | row sz xs ex fz=>exact False.elim hb
     | gone=>exact False.elim hb
     | tree sz ns xs lk=>
      obtain⟨g,p,h2,h3⟩:=hb;rw[VM] at h3;exact .inr (.inl ⟨g,p,e ▸ h2,h3⟩)
    ·cases o0 with
     | box cs=>exact .inr (.inr ((Buf.unmap (UB _) hb).ren e.symm))
     | row sz xs ex fz=>exact False.elim hb
     | gone=>exact False.elim hb
     | tree sz ns xs lk=>exact False.elim hb
   have bo:∀ (id:Nat) (o0:Zh) (b:Nat),id∉ids→lkp hp id=some o0→Blk Γ2 w' id (if (if cl then [] else ab).contains id then XW (QF gn o0) else QF gn o0) b→Blk Γ w id o0 b:=by
    intro id o0 b ai hl hb;have hb:=Zby hb;have h1:Blk Γ2 w' id o0 b:=by
     rcases hb with hb | hb | hb
     ·rw[ZcR] at hb;exact .inl hb
     ·cases o0 with
      | box cs=>exact False.elim hb
      | row sz xs ex fz=>exact False.elim hb
      | gone=>exact False.elim hb
      | tree sz ns xs lk=>
       obtain⟨g,p,h2,h3⟩:=hb;rw[VN] at h3;exact .inr (.inl ⟨g,p,h2,h3⟩)
     ·cases o0 with
      | box cs=>exact .inr (.inr (Buf.unmap (VC _) hb))
      | row sz xs ex fz=>exact False.elim hb
      | gone=>exact False.elim hb
      | tree sz ns xs lk=>exact False.elim hb
    exact h1.back (h.objs id o0 hl) (an id o0 ai hl) fun g hg=>aa.fr.block g (h.blk_lt hl hg) (ae id o0 g ai hl hg)
   intro i j o o' b hi hj be bf;rcases bp i o hi with ⟨k,o0,h1,rfl,rfl⟩ | ⟨ai,o0,aj,rfl⟩<;>rcases bp j o' hj with ⟨k',o1,h2,rfl,rfl⟩ | ⟨a2,o1,bg,rfl⟩
   ·have:=aa.inj k k' o0 o1 b (by rw[VZ];simpa using h1) (by rw[VZ];simpa using h2) (bk k o0 b h1 be) (bk k' o1 b h2 bf);rw[this]
   ·exact absurd (ZdK (aa.objs k o0 (by rw[VZ];simpa using h1)) (bk k o0 b h1 be)) (ae j o1 b a2 bg (bo j o1 b a2 bg bf))
   ·exact absurd (ZdK (aa.objs k' o1 (by rw[VZ];simpa using h2)) (bk k' o1 b h2 bf)) (ae i o0 b ai aj (bo i o0 b ai aj be))
   ·exact h.inj i j o0 o1 b aj bg (bo i o0 b ai aj be) (bo j o1 b a2 bg bf)
  ·intro id av;show Za6 Γ Γ' ids base id=none;simp only[Za6];rw[Kn,Kn]
   ·exact h.names id (fun hu=>av (.inl hu))
   ·exact fun hh=>av (.inr hh)
   ·intro hm;obtain⟨o,ho⟩:=au id hm;exact av (.inl (h.id_in ho))
end
end Go.Abs

/- Own text. -/
import Derived.Test.YtefabmohhbhlfaaAbsCall2
set_option linter.unusedVariables false
set_option linter.unusedSimpArgs false
namespace Go.Abs
open Go
theorem ZgF : ∀ (l:Hp) (hp:Hp) (id:Nat) (o:Zg),lkp (Zd hp l) id=some o→(id,o)∈l∨((∀ o',(id,o')∉l)∧lkp hp id=some o)
 | [],hp,id,o,h=>.inr ⟨by simp,h⟩
 | (k,x) :: r,hp,id,o,h=>by
  rcases ZgF r (ins hp k x) id o h with h1 | ⟨h1,h2⟩
  ·exact .inl (Ks _ h1)
  ·rw[Z4] at h2;split at h2
   ·rename_i hk;subst hk;cases h2;exact .inl (K8 ..)
   ·rename_i hk;refine .inr ⟨fun o' hm=>?_,h2⟩;rcases Ke.1 hm with hm | hm
    ·cases hm;exact hk rfl
    ·exact h1 o' hm
theorem Zd8 (g:Nat→Nat):∀ (ids:List Nat) (out:List Zg) (id:Nat) (o:Zg),(id,o)∈JR g ids out→∃ (k:Nat) (o0:Zg),ids[k]?=some id∧out[k]?=some o0∧o=ZeQ g o0
 | [],out,id,o,h=>by simp[JR] at h
 | i :: ids,[],id,o,h=>by simp[JR] at h
 | i :: ids,o1 :: out,id,o,h=>by
  simp only[JR] at h;rcases Ke.1 h with h | h
  ·cases h;exact⟨0,o1,by simp,by simp,rfl⟩
  ·obtain⟨k,o0,h1,h2,h3⟩:=Zd8 g ids out id o h;exact⟨k+1,o0,by simpa using h1,by simpa using h2,h3⟩
theorem ZiK (g:Nat→Nat):∀ (ids:List Nat) (out:List Zg) (id:Nat),ids.length≤out.length→id∈ids→∃ o,(id,o)∈JR g ids out
 | [],out,id,_,h=>by simp at h
 | i :: ids,[],id,hl,h=>by simp at hl
 | i :: ids,o1 :: out,id,hl,h=>by
  simp only[JR];rcases Ke.1 h with h | h
  ·subst h;exact⟨_,K8 ..⟩
  ·obtain⟨o,ho⟩:=ZiK g ids out id (by simpa using hl) h;exact⟨o,Ks _ ho⟩
theorem ZiL (g:Nat→Nat):∀ (out:List Zg) (k id:Nat) (o:Zg),(id,o)∈JS g k out→∃ (j:Nat) (o0:Zg),out[j]?=some o0∧id=k+j∧o=ZeQ g o0
 | [],k,id,o,h=>by simp[JS] at h
 | o1 :: out,k,id,o,h=>by
  simp only[JS] at h;rcases Ke.1 h with h | h
  ·cases h;exact⟨0,o1,by simp,rfl,rfl⟩
  ·obtain⟨j,o0,h1,h2,h3⟩:=ZiL g out (k+1) id o h;exact⟨j+1,o0,by simpa using h1,by omega,h3⟩
theorem ZiM (g:Nat→Nat):∀ (out:List Zg) (k j:Nat),j<out.length→∃ o,(k+j,o)∈JS g k out
 | [],k,j,h=>by simp at h
 | o1 :: out,k,0,h=>⟨_,by simp only[JS];exact K8 ..⟩
 | o1 :: out,k,j+1,h=>by
  obtain⟨o,ho⟩:=ZiM g out (k+1) j (by simpa using h);refine⟨o,?_⟩;simp only[JS];have:k+(j+1)=k+1+j:=by omega
  rw[this];exact Ks _ ho
theorem ZtZ (x:AV):Zbw (fun k=>k) x=x:=by cases x<;>rfl
theorem ZhE (x:AV):J7 (fun k=>k) x=x:=by
 cases x<;>first | rfl | (simp only[J7];congr 1;rw[Kx (g:=id) (fun a _=>ZtZ a),LA])
theorem Znm (xs:List AV):xs.map (J7 fun k=>k)=xs:=by
 rw[Kx (g:=id) (fun a _=>ZhE a),LA]
theorem ren_id (x:AV):ren (fun k=>k) x=x:=by
 cases x with
 | tup vs=>simp only[ren];congr 1;rw[Kx (g:=id) (fun a _=>ZhE a),LA]
 | d x=>rfl
 | nil=>rfl
 | nilp=>rfl
 | nili=>rfl
 | ptr a b=>rfl
 | prow a b c d=>rfl
 | pim c=>rfl
 | own a=>rfl
 | ownv a b c=>rfl
 | bnil a b=>rfl
 | bbuf a b=>rfl
 | agg cs=>exact ZhE (.agg cs)
 | clo f cs=>exact ZhE (.clo f cs)
 | junk=>rfl
theorem Jn (x:AV):ZW [] x=x:=by cases x<;>simp[ZW]
theorem Za1 (x:AV):ZH [] x=x:=by
 cases x<;>first | (simp only[ZH];congr 1;rw[Kx (g:=id) (fun a _=>Jn a),LA]) | simp[ZH,ZW]
theorem Zsr (x:AV):kill [] x=x:=by
 cases x with
 | tup vs=>simp only[kill];congr 1;rw[Kx (g:=id) (fun a _=>Za1 a),LA]
 | d x=>rfl
 | nil=>rfl
 | nilp=>rfl
 | nili=>rfl
 | ptr a b=>exact Jn (.ptr a b)
 | prow a b c d=>exact Jn (.prow a b c d)
 | pim c=>rfl
 | own a=>exact Jn (.own a)
 | ownv a b c=>exact Jn (.ownv a b c)
 | bnil a b=>exact Jn (.bnil a b)
 | bbuf a b=>rfl
 | agg cs=>exact Za1 (.agg cs)
 | clo f cs=>exact Za1 (.clo f cs)
 | junk=>rfl
theorem ZqW (o:Zg):QU [] o=o:=by
 cases o with
 | box cs=>simp only[QU];congr 1;rw[Kx (g:=id) (fun a _=>Za1 a),LA]
 | row s x e f=>rfl
 | gone=>rfl
 | tree s n x l=>rcases l with _ | ⟨_ | _,_⟩<;>simp[QU,Ve]
theorem Qs (gone:List Nat) (sl:Sl) (t:Nat):gs (QK gone sl) t=kill gone (gs sl t):=by
 unfold QK;split
 ·rw[Zsr]
 ·simp only[gs,ZcP];cases lkp sl t<;>rfl
theorem Vf (gone:List Nat) (hp:Hp) (id:Nat):lkp (Y0 gone hp) id=(lkp hp id).map (QU gone):=by
 unfold Y0;split
 ·cases h:lkp hp id with
  | none=>rfl
  | some o=>simp[ZqW]
 ·exact ZcP _ _ _
section
variable {P:Program} {nt:Nat} {U:Nat→Prop} {F A I:Nat→Prop} {Γ:Gh} {sl:Sl} {hp:Hp} {a:Act} {w:World}
theorem Zd9 {I2:Nat→Prop} {x:AV} {v:Value} (hc:JQ x=true) (h:XX Γ w I x v):XX Γ w I2 x v:=by
 cases x with
 | d x=>exact⟨h.1,ZjY hc h.2⟩
 | pim cs=>cases hc
 | agg cs=>exact h
 | tup cs=>exact h
 | clo f cs=>exact h
 | _=>exact h
theorem Zad {I2:Nat→Prop}:∀ {xs:List AV} {vs:List Value},xs.all JQ=true→Zr (XX Γ w I) xs vs→Zr (XX Γ w I2) xs vs
 | [],[],_,_=>trivial
 | [],_ :: _,_,h=>h.elim
 | _ :: _,[],_,h=>h.elim
 | x :: xs,v :: vs,hc,h=>by
  simp only[Lv,Kb] at hc;exact⟨Zd9 hc.1 h.1,Zad hc.2 h.2⟩
theorem ZiN {I2:Nat→Prop} {x:AV} {v:Value} (hc:ZaI x=true) (h:W2 Γ w I x v):W2 Γ w I2 x v:=by
 by_cases hs:x.small=true
 ·rw[(VH hs v).2.1] at h ⊢;refine Zd9 ?_ h;cases x<;>first | exact hc | cases hs
 ·cases x with
  | agg cs=>obtain⟨us,h1,h2⟩:=h;exact⟨us,h1,Zad hc h2⟩
  | clo f cs=>obtain⟨us,h1,h2⟩:=h;exact⟨us,h1,Zad hc h2⟩
  | tup cs=>exact h.elim
  | d x=>exact ZmH.2 (ZlE hc (ZmH.1 h))
  | _=>exact absurd rfl hs
theorem ZoK {I2:Nat→Prop} {x:AV} {v:Value} (hc:ZaI x=true) (h:Xd Γ w I x v):Xd Γ w I2 x v:=by
 by_cases hs:x.small=true
 ·rw[(VH hs v).2.2] at h ⊢;refine Zd9 ?_ h;cases x<;>first | exact hc | cases hs
 ·cases x with
  | agg cs=>exact h.elim
  | clo f cs=>obtain⟨us,h1,h2⟩:=h;exact⟨us,h1,Zad hc h2⟩
  | tup cs=>exact h.elim
  | d x=>exact⟨h.1,ZjY hc h.2⟩
  | _=>exact absurd rfl hs
theorem ZgG {I2:Nat→Prop}:∀ {xs:List AV} {vs:List Value},xs.all ZaI=true→Zr (Xd Γ w I) xs vs→Zr (Xd Γ w I2) xs vs
 | [],[],_,_=>trivial
 | [],_ :: _,_,h=>h.elim
 | _ :: _,[],_,h=>h.elim
 | x :: xs,v :: vs,hc,h=>by
  simp only[Lv,Kb] at hc;exact⟨ZoK hc.1 h.1,ZgG hc.2 h.2⟩
theorem ZgH {I2:Nat→Prop}:∀ {xs:List AV} {vs:List Value},xs.all ZaI=true→Zr (W2 Γ w I) xs vs→Zr (W2 Γ w I2) xs vs
 | [],[],_,_=>trivial
 | [],_ :: _,_,h=>h.elim
 | _ :: _,[],_,h=>h.elim
 | x :: xs,v :: vs,hc,h=>by
  simp only[Lv,Kb] at hc;exact⟨ZiN hc.1 h.1,ZgH hc.2 h.2⟩
theorem ZqX {I2:Nat→Prop} {x:AV} {v:Value} (hc:Zlo x=true) (h:Rep Γ w I x v):Rep Γ w I2 x v:=by
 by_cases ht:∃ vs,x=.tup vs
 ·obtain⟨vs,rfl⟩:=ht;obtain⟨us,h1,h2⟩:=h;exact⟨us,h1,ZgH hc h2⟩
 ·have e:∀ I,Rep Γ w I x v=W2 Γ w I x v:=fun I=>by cases x<;>first | rfl | exact absurd ⟨_,rfl⟩ ht
  rw[e] at h ⊢;refine ZiN ?_ h;cases x<;>first | exact hc | exact absurd ⟨_,rfl⟩ ht
theorem Sim.blk_F (h:Sim nt F A I Γ U sl hp a w) {id:Nat} {o:Zg} (hl:lkp hp id=some o) {b:Nat} (hb:Blk Γ w id o b):F b:=Zfz (h.objs id o hl) hb
def ZqY (Γ:Gh) (w:World) (hp:Hp) (ids:List Nat) (n:Nat) (b:Nat):Prop:=n≤b∨∃ id∈ids,∃ o,lkp hp id=some o∧Blk Γ w id o b
def calA (Γ:Gh) (w:World) (hp:Hp) (ids:List Nat) (n:Nat) (I A:Nat→Prop) (b:Nat):Prop:=ZqY Γ w hp ids n b∨(I b∧A b)
def Zco (Γ Γ' : Gh) (ids:List Nat) (base:Nat):Gh:=fun id=>if id∈ids then Γ' (YX ids id) else if base≤id∧id<base+64 then Γ' (ids.length+(id-base)) else Γ id
theorem ZqZ (h:Sim nt F A I Γ U sl hp a w) {base:Nat} (hb:QJ U base) {ids ab:List Nat} (bv:ids.Nodup) (au:∀ id∈ids,∃ o,lkp hp id=some o) (a4:¬ab.any ids.contains=true)
  {r:AV} {out:List Zg} {I' : Nat→Prop} {Γ' : Gh} {v:Value} {w' : World}
  (aa:Back (ZqY Γ w hp ids w.heap.size) (calA Γ w hp ids w.heap.size I A) (ZcQ Γ w hp I ab) (Zcm ids Γ) w out r I' Γ' v w')
  {ce:Zb} {keep:Bool} (a3:US keep hp base ids ab r out=some ce) (bt:QA base (base+64) ce.eff.adds=true) {dst:Option Nat} (hd:Qv nt dst=true) :
  YB nt F A I Γ w (W3 U base) (ce.on dst sl hp).1 (ce.on dst sl hp).2 (a.put dst v) w':=by
 unfold US at a3;split at a3
 ·cases a3
 rename_i a5;have a5:ids.length≤out.length:=by omega
 split at a3
 ·cases a3
 rename_i aq;cases a3;generalize ar:(Zlo r&&out.all ZcC)=cl at *;generalize Zga hp ids out keep=gn at *;dsimp only at bt;have a6:∀ id∈ids,¬(base≤id∧id<base+64):=fun id av hh=>by
  obtain⟨o,ho⟩:=au id av;exact hb id hh.1 hh.2 (h.id_in ho)
 have bh:(out.drop ids.length).length≤64:=by
  rcases KX 64 (out.drop ids.length).length with bw | bh
  ·obtain⟨o,ho⟩:=ZiM (Vk ids base) (out.drop ids.length) base 64 bw;have:=(Wv bt _ _ ho).2;omega
  ·exact bh
 have bx : out.length≤ids.length+64:=by simp at bh;omega
 have az:∀ b,ZqY Γ w hp ids w.heap.size b→F b:=by
  rintro b (hb | ⟨id,av,o,ho,ag⟩)
  ·exact h.fresh b hb
  ·exact h.blk_F ho ag
 have bz:∀ b,calA Γ w hp ids w.heap.size I A b→A b:=by
  rintro b (hb | hb)
  ·exact h.own b (az b hb)
  ·exact hb.2
 have a7:∀ b,ZcQ Γ w hp I ab b→¬I b→¬ZqY Γ w hp ids w.heap.size b:=by
  rintro b aw ai (hb | ⟨id,av,o,ho,ag⟩)
  ·rcases aw with aw | ⟨ax,al,o',a0,bc,ap⟩
   ·exact ai aw
   ·have:=h.blk_lt a0 ap;omega
  ·rcases aw with aw | ⟨ax,al,o',a0,bc,ap⟩
   ·exact ai aw
   ·have:=h.inj id ax o _ b ho a0 ag ap;subst this;exact a4 (Lt.2 ⟨id,al,by simpa using av⟩)
 let I2:Nat→Prop:=fun b=>I' b∧(cl=true→ZcQ Γ w hp I ab b→I b)
 let Γ2:Gh:=Zco Γ Γ' ids base
 have bi:∀ b,I b→I2 b:=fun b hb=>⟨aa.keeps.sub b (.inl hb),fun _ _=>hb⟩
 have ah:ZF I I2 w w':=⟨bi,fun b hb=>aa.keeps.blk b (.inl hb)⟩
 have b0:∀ b,I' b→calA Γ w hp ids w.heap.size I A b→I2 b∧A b:=by
  intro b h1 h2;refine⟨⟨h1,fun _ aw=>?_⟩,bz b h2⟩;rcases h2 with h2 | h2
  ·exact Classical.byContradiction fun ai=>a7 b aw ai h2
  ·exact h2.1
 have af:∀ k,k<out.length→Γ2 (Vk ids base k)=Γ' k:=by
  intro k a8;by_cases hk:k<ids.length
  ·have hg:ids[k]?=some ids[k]:=KE hk;have hb:Vk ids base k=ids[k]:=by simp[Vk,hg,Zeh]
   show Zco Γ Γ' ids base _=_;rw[hb];simp only[Zco];rw[Km (List.getElem_mem hk),Zc8 bv hg]
  ·have hg:ids[k]?=none:=KR (by omega);have hb:Vk ids base k=base+(k-ids.length):=by simp[Vk,hg,Zeh]
   show Zco Γ Γ' ids base _=_;rw[hb];simp only[Zco];rw[Kl (fun hm=>a6 _ hm (by omega)),Km (by omega)];congr 1
   omega
 have a9:∀ l,UD Γ' Γ2 (Vk ids base) l:=fun l id _ r hr=>by
  rw[af id ?_]
  ·exact hr
  ·rcases KX id out.length with h1 | h1
   ·exact h1
   ·rw[aa.names id h1] at hr;cases hr
 have am:Z6 Γ Γ2:=by
  intro id r hr;show Zco Γ Γ' ids base id=_;simp only[Zco];split
  ·rename_i hm;refine aa.heads _ r ?_;rw[Ym (ZeU hm).2];exact hr
  ·split
   ·rename_i bj;rw[h.names id (hb id bj.1 bj.2)] at hr;cases hr
   ·exact hr
 have an:∀ id o,id∉ids→lkp hp id=some o→Γ2 id=Γ id:=by
  intro id o hm hl;show Zco Γ Γ' ids base id=_;simp only[Zco];rw[Kl hm,Kl (fun hh=>hb id hh.1 hh.2 (h.id_in hl))]
 have bl:∀ (k:Nat) (o:Zg),out[k]?=some o→XZ Γ2 w' I2 F A (Vk ids base k) (ZeQ (Vk ids base) o):=by
  intro k o ho;have a8:k<out.length:=(Kd.1 ho).1;have h1:=aa.objs k o (by rw[WS];simpa using ho);cases o with
  | gone=>
   obtain⟨r,hr⟩:=h1;exact⟨r,by rw[af k a8];exact hr⟩
  | tree sz ns xs lk=>
   obtain⟨ad,n,c,h2,h3,h4⟩:=h1;refine⟨ad,n,c,by rw[af k a8];exact h2,?_,h4.lose⟩;rw[Ww];exact h3.mono fun b _=>⟨rfl,fun hi=>hi.1,az b⟩
  | box cs=>
   obtain⟨b,cur,e,h2,h3,h4,h5,h6,bm⟩:=h1;refine⟨b,cur,e,by rw[af k a8];exact h2,h3,fun hi=>h4 hi.1,az b h5,?_,(bm.mono fun x te l u v g hc hv hg=>⟨rfl,fun hi=>hi.1,fun hF=>az g hF⟩).map (Jq _)⟩;have h7:Zr (Xd Γ' w' I2) cs cur.toList:=by
    cases hq:cl with
    | false=>exact h6.mono fun _ _ h=>h.mono (Z6.refl _) ⟨fun b hb=>⟨hb,fun ak=>by rw[hq] at ak;cases ak⟩,fun _ _=>rfl⟩
    | true=>
     rw[hq] at ar;simp only[Kb] at ar;exact ZgG (KO.1 ar.2 _ (Kp ho)) h6
   exact Za0 (a9 _) (ZF.refl I2 w') h7
  | row sz xs ex fz=>
   obtain⟨ad,n,c,h2,h3,h4⟩:=h1;refine⟨ad,n,c,by rw[af k a8];exact h2,h3,?_⟩;rcases h4 with h4 | ⟨g,q0,cur,e,rfl,hc,hw,h5,h6,h7,h8,h9,bn,a1⟩
   ·exact .inl h4
   ·have a':cl=true→ex=true∧fz=false:=by
     intro hq;rw[hq] at ar;simp only[Kb] at ar;have:=KO.1 ar.2 _ (Kp ho);simpa [ZcC] using this
    refine .inr ⟨g,q0,cur,e,rfl,hc,hw,h5,h6,h7,h8,?_,az g bn,?_⟩
    ·cases fz
     ·simp at h9 ⊢;exact fun hi=>h9 hi.1
     ·simp at h9 ⊢;exact⟨h9,fun hq=>by have:=(a' hq).2;cases this⟩
    ·cases ex
     ·have:cl=false:=by cases hq:cl with
       | false=>rfl
       | true=>have:=(a' hq).1;cases this
      exact a1.mono' ⟨fun b hb=>⟨hb,fun ak=>by rw[this] at ak;cases ak⟩,fun _ _=>rfl⟩ rfl
     ·simp only[Kg] at a1 ⊢;exact a1.mono' ⟨fun b hb=>b0 b hb.1 hb.2,fun _ _=>rfl⟩ rfl
 have bp:∀ id o,lkp (Zd (Zd (ZU (Z8 (if cl then [] else ab) (Y0 gn hp)) []) (JR (Vk ids base) ids out)) (JS (Vk ids base) base (out.drop ids.length))) id=some o →
   (∃ (k:Nat) (o0:Zg),out[k]?=some o0∧id=Vk ids base k∧o=ZeQ (Vk ids base) o0) ∨
   (id∉ids∧∃ o0,lkp hp id=some o0∧o=(if (if cl then [] else ab).contains id then Yl (QU gn o0) else QU gn o0)):=by
  intro id o hl;rcases Uv _ _ _ _ hl with hm | hm
  ·obtain⟨j,o0,h1,h2,h3⟩:=ZiL _ _ _ _ _ hm;rw[Ld] at h1;refine .inl ⟨ids.length+j,o0,h1,?_,h3⟩;have hg:ids[ids.length+j]?=none:=KR (by omega);simp only[Vk,hg,Zeh];omega
  ·rcases ZgF _ _ _ _ hm with hm | ⟨b1,hm⟩
   ·obtain⟨k,o0,h1,h2,h3⟩:=Zd8 _ _ _ _ _ hm;exact .inl ⟨k,o0,h2,by simp[Vk,h1,Zeh],h3⟩
   ·simp only[ZU] at hm;rw[ZX,Vf] at hm;have ai:id∉ids:=fun hi=>by obtain⟨o',bq⟩:=ZiK (Vk ids base) ids out id a5 hi;exact b1 o' bq
    cases aj:lkp hp id with
    | none=>rw[aj] at hm;cases hm
    | some o0=>
     rw[aj] at hm;simp only[KU,Option.some.injEq] at hm;exact .inr ⟨ai,o0,rfl,hm.symm⟩
 have ae:∀ id o b,id∉ids→lkp hp id=some o→Blk Γ w id o b→¬ZqY Γ w hp ids w.heap.size b:=by
  rintro id o b ai hl ag (bj | ⟨ax,al,o',bq,ap⟩)
  ·have:=h.blk_lt hl ag;omega
  ·have:=h.inj id ax o o' b hl bq ag ap;exact ai (this ▸ al)
 refine⟨I2,Γ2,am,ah,?_,?_,?_⟩
 ·intro b hb;rcases aa.sub b hb.1 with h1 | h1
  ·exact h.frozeL_F h1
  ·exact .inr (az b h1)
 ·exact⟨aa.fr.os,aa.fr.tape,aa.fr.output,aa.fr.size,fun k hk b2=>aa.fr.block k hk fun hc=>b2 (az k hc)⟩
 ·refine { nt:=by rw[Zog];exact h.nt,dfr:=by rw[ZjX];exact h.dfr,slots:=?_,objs:=?_,inj:=?_,bound:=fun b hb=>aa.bound b hb.1,fresh:=fun b hb=>h.fresh b (by have:=aa.fr.size;omega),own:=h.own,names:=?_,glob:=h.glob.mono ah }
  ·intro t;show Rep Γ2 w' I2 (gs (Zk (QK gn sl) dst (ren (Vk ids base) r)) t) _;rw[Qh,Zqw h.nt hd];split
   ·have h1:Rep Γ' w' I2 r v:=by
     cases hq:cl with
     | false=>exact aa.res.mono (Z6.refl _) ⟨fun b hb=>⟨hb,fun ak=>by rw[hq] at ak;cases ak⟩,fun _ _=>rfl⟩
     | true=>
      rw[hq] at ar;simp only[Kb] at ar;exact ZqX ar.1 aa.res
    exact ZhD (a9 _) (ZF.refl I2 w') h1
   ·rw[Qs];have h1:=Zni (bad:=gn) (h.slots t);have h2:=ZhD (g:=fun k=>k) (fun id _ r hr=>am id r hr) ah h1
    rwa [ren_id] at h2
  ·intro id o hl;rcases bp id o hl with ⟨k,o0,h1,rfl,rfl⟩ | ⟨ai,o0,aj,rfl⟩
   ·exact bl k o0 h1
   ·have ao:∀ b,Blk Γ w id o0 b→w'.heap[b]?=w.heap[b]?:=fun b hb=>aa.fr.block b (h.blk_lt aj hb) (ae id o0 b ai aj hb);have ba:(if cl=true then [] else ab).contains id=true→cl=false∧id∈ab:=by
     intro hq;cases br:cl<;>rw[br] at hq<;>simp at hq
     exact⟨rfl,hq⟩
    have bd:∀ b,Blk Γ w id o0 b→((if cl=true then [] else ab).contains id=false∨o0.soft=false)→I2 b→I b:=by
     intro b ag ay hi;rcases aa.sub b hi.1 with h1 | h1
     ·rcases h1 with h1 | ⟨ax,al,o',a0,bc,ap⟩
      ·exact h1
      ·have he:=h.inj id ax _ _ b aj a0 ag ap;subst he;rw[aj] at a0;cases a0;cases hq:cl with
       | true=>exact hi.2 hq (.inr ⟨id,al,_,aj,bc,ag⟩)
       | false=>
        rcases ay with ay | ay
        ·rw[hq] at ay;simp at ay;exact absurd al ay
        ·rw[bc] at ay;cases ay
     ·exact absurd h1 (ae id o0 b ai aj ag)
    have ho:=h.objs id o0 aj;have hG:=an id o0 ai aj;cases o0 with
    | gone=>
     have hz:(if (if cl=true then [] else ab).contains id=true then Yl (QU gn .gone) else QU gn .gone)=.gone:=by cases (if cl=true then [] else ab).contains id<;>rfl
     rw[hz];obtain⟨r,hr⟩:=ho;exact⟨r,by rw[hG];exact hr⟩
    | tree sz ns xs lk=>
     cases hq:(if cl=true then [] else ab).contains id with
     | true=>
      obtain⟨br,bs⟩:=ba hq;exfalso
      rw[br] at aq;simp only[Bool.not_false,La,Kab] at aq;have:ab.any (fun i=>JT (lkp hp i))=true:=Lt.2 ⟨id,bs,by rw[aj];rfl⟩;rw[this] at aq;cases aq
     | false=>
      simp only[Ka,Kf];obtain⟨ad,n,c,h2,h3,h4⟩:=ho;have ag:∀ b,(Zq (some (.row ad n c sz))=some b∨∃ g B,Zq (some (.row ad n c sz))=some g∧ZP (Wr w g (Yp sz lk)) ns B g sz xs 0∧b∈B)→w'.heap[b]?=w.heap[b]?∧(I2 b→I b):=fun b hb=>by
       rw[← h2] at hb;have ap : Blk Γ w id (.tree sz ns xs lk) b:=hb.elim .inl fun h=>.inr (.inl h);exact⟨ao b ap,bd b ap (.inl hq)⟩
      refine⟨ad,n,c,by rw[hG,h2],?_,?_⟩
      ·rw[Wx];exact h3.mono fun b hb=>⟨(ag b hb).1,(ag b hb).2,fun h=>h⟩
      ·cases lk with
       | none=>exact trivial
       | some q=>exact XG.kill h4 (fun k _ r hr=>am k r hr) fun g hg=>(ag g (.inl (XG.blk h3 (by simp) hg))).1
    | box cs=>
     have hz:(if (if cl=true then [] else ab).contains id=true then Yl (QU gn (.box cs)) else QU gn (.box cs))=.box (cs.map (ZH gn)):=by
      cases (if cl=true then [] else ab).contains id<;>rfl
     rw[hz];obtain⟨b,cur,e,h2,h3,h4,h5,h6,bm⟩:=ho;have ag:Blk Γ w id (.box cs) b:=.inl (by rw[h2];rfl);refine⟨b,cur,e,by rw[hG,h2],by rw[ao b ag,h3],fun hi=>h4 (bd b ag (.inr rfl) hi),h5,?_,(bm.mono fun x te l u v g hc hv hg=>have hB:=Or.inr (Or.inr (ZpC h2 h3 hc hv hg));⟨ao g hB,bd g hB (.inr rfl),fun h=>h⟩).map (Wl _)⟩;have h7:=h6.map_left (S:=Xd Γ w I) (f:=ZH gn) fun _ _ h=>Zf0 h;have h8:=Za0 (g:=fun k=>k) (Γ':=Γ2) (fun ax _ r hr=>am ax r hr) ah h7
     rwa [Znm] at h8
    | row sz xs ex fz=>
     obtain⟨ad,n,c,h2,h3,h4⟩:=ho;have hz:∃ bb,(if (if cl=true then [] else ab).contains id=true then Yl (QU gn (.row sz xs ex fz)) else QU gn (.row sz xs ex fz))=.row sz xs ex bb ∧
       (bb=false→fz=false∧(if cl=true then [] else ab).contains id=false)∧(bb=true→fz=true∨(fz=false∧cl=false∧id∈ab)):=by
      cases hq:(if cl=true then [] else ab).contains id with
      | true=>
       refine⟨true,rfl,(fun h=>by cases h),fun _=>?_⟩;cases fz
       ·exact .inr ⟨rfl,ba hq⟩
       ·exact .inl rfl
      | false=>exact⟨fz,rfl,fun hf=>⟨hf,rfl⟩,fun hf=>.inl hf⟩
     obtain⟨bb,hz,b3,b4⟩:=hz;rw[hz];refine⟨ad,n,c,by rw[hG,h2],h3,?_⟩;rcases h4 with h4 | ⟨g,q0,cur,e,rfl,hc,hw,h5,h6,h7,h8,h9,bn,a1⟩
     ·exact .inl h4
     ·have ag:Blk Γ w id (.row sz xs ex fz) g:=.inl (by rw[h2];simp[Zq,Ky hc]);refine .inr ⟨g,q0,cur,e,rfl,hc,by rw[ao g ag,hw],h5,h6,h7,h8,?_,bn,?_⟩
      ·cases bb with
       | false=>
        obtain⟨hf,hq⟩:=b3 rfl;rw[hf] at h9;simp at h9 ⊢;exact fun hi=>h9 (bd g ag (.inl hq) hi)
       | true=>
        simp;rcases b4 rfl with hf | ⟨hf,hq,bs⟩
        ·rw[hf] at h9;simp at h9;exact bi g h9
        ·subst hf;exact⟨aa.keeps.sub g (.inr ⟨id,bs,_,aj,rfl,ag⟩),fun bu=>by rw[hq] at bu;cases bu⟩
      ·cases ex
       ·exact a1.mono' ah (ao g ag)
       ·simp only[Kg] at a1 ⊢;exact a1.mono' ⟨fun b hb=>⟨bi b hb.1,hb.2⟩,fun b hb=>ah.blk b hb.1⟩ (ao g ag)
  ·have bk:∀ (k:Nat) (o0:Zg) (b:Nat),out[k]?=some o0→Blk Γ2 w' (Vk ids base k) (ZeQ (Vk ids base) o0) b→Blk Γ' w' k o0 b:=by
    intro k o0 b h1 hb;have e:=af k (Kd.1 h1).1;rcases hb with hb | hb | hb
    ·rw[Zgg,e] at hb;exact .inl hb
    ·cases o0 with
     | box cs=>exact False.elim hb
     | row sz xs ex fz=>exact False.elim hb
     | gone=>exact False.elim hb
     | tree sz ns xs lk=>
      obtain⟨g,p,h2,h3⟩:=hb;rw[Ww] at h3;exact .inr (.inl ⟨g,p,e ▸ h2,h3⟩)
    ·cases o0 with
     | box cs=>exact .inr (.inr ((Buf.unmap (Jq _) hb).ren e.symm))
     | row sz xs ex fz=>exact False.elim hb
     | gone=>exact False.elim hb
     | tree sz ns xs lk=>exact False.elim hb
   have bo:∀ (id:Nat) (o0:Zg) (b:Nat),id∉ids→lkp hp id=some o0→Blk Γ2 w' id (if (if cl then [] else ab).contains id then Yl (QU gn o0) else QU gn o0) b→Blk Γ w id o0 b:=by
    intro id o0 b ai hl hb;have hb:=ZcR hb;have h1:Blk Γ2 w' id o0 b:=by
     rcases hb with hb | hb | hb
     ·rw[Zen] at hb;exact .inl hb
     ·cases o0 with
      | box cs=>exact False.elim hb
      | row sz xs ex fz=>exact False.elim hb
      | gone=>exact False.elim hb
      | tree sz ns xs lk=>
       obtain⟨g,p,h2,h3⟩:=hb;rw[Wx] at h3;exact .inr (.inl ⟨g,p,h2,h3⟩)
     ·cases o0 with
      | box cs=>exact .inr (.inr (Buf.unmap (Wl _) hb))
      | row sz xs ex fz=>exact False.elim hb
      | gone=>exact False.elim hb
      | tree sz ns xs lk=>exact False.elim hb
    exact h1.back (h.objs id o0 hl) (an id o0 ai hl) fun g hg=>aa.fr.block g (h.blk_lt hl hg) (ae id o0 g ai hl hg)
   intro i j o o' b hi hj be bf;rcases bp i o hi with ⟨k,o0,h1,rfl,rfl⟩ | ⟨ai,o0,aj,rfl⟩<;>rcases bp j o' hj with ⟨k',o1,h2,rfl,rfl⟩ | ⟨a2,o1,bg,rfl⟩
   ·have:=aa.inj k k' o0 o1 b (by rw[WS];simpa using h1) (by rw[WS];simpa using h2) (bk k o0 b h1 be) (bk k' o1 b h2 bf);rw[this]
   ·exact absurd (Zfz (aa.objs k o0 (by rw[WS];simpa using h1)) (bk k o0 b h1 be)) (ae j o1 b a2 bg (bo j o1 b a2 bg bf))
   ·exact absurd (Zfz (aa.objs k' o1 (by rw[WS];simpa using h2)) (bk k' o1 b h2 bf)) (ae i o0 b ai aj (bo i o0 b ai aj be))
   ·exact h.inj i j o0 o1 b aj bg (bo i o0 b ai aj be) (bo j o1 b a2 bg bf)
  ·intro id av;show Zco Γ Γ' ids base id=none;simp only[Zco];rw[Kl,Kl]
   ·exact h.names id (fun hu=>av (.inl hu))
   ·exact fun hh=>av (.inr hh)
   ·intro hm;obtain⟨o,ho⟩:=au id hm;exact av (.inl (h.id_in ho))
end
end Go.Abs

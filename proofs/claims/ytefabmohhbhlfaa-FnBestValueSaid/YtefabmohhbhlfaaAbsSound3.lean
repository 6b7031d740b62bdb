/- Own text. -/
import Derived.Test.YtefabmohhbhlfaaAbsSound2
set_option linter.unusedVariables false
set_option linter.unusedSimpArgs false
namespace Go.Abs
open Go
def exOf:Ex→Exit
 | .normal=>.normal
 | .exit id=>.exit id
 | .ret=>.ret
theorem Q5 {p:Nat→Prop} (h:∃ n,p n):∃ n,p n∧∀ m,p m→n≤m:=by
 obtain⟨n,hn⟩:=h
 induction n using Nat.strongRecOn with
 | _ n ih=>
  by_cases hm:∃ m,m<n∧p m
  ·obtain⟨m,h1,h2⟩:=hm;exact ih m h1 h2
  ·exact⟨n,hn,fun m aa=>by
    rcases KO m n with h | h
    ·exact absurd ⟨m,h,aa⟩ hm
    ·exact h⟩
open Classical in
noncomputable def Zfn (p:Nat→Prop):Nat:=if h:∃ n,p n then (Q5 h).choose else 0
theorem Zdc {p:Nat→Prop} (h:∃ n,p n):p (Zfn p)∧∀ m,p m→Zfn p≤m:=by
 unfold Zfn;rw[dif_pos h];exact(Q5 h).choose_spec
theorem Zod {P:Program} {c:Code} {Q:Exit→Act→World→Prop} (J:Nat→Act→World→Prop) (aa:∀ n a w,J n a w→c.wp P (Exit.then (fun a' w'=>∃ m,m<n∧J m a' w') Q) a w) {n:Nat} {a:Act} {w:World} (h0:J n a w) :
  (Code.loop c).wp P Q a w:=by
 refine wp_loop (fun a w=>∃ n,J n a w) (fun a w=>Zfn fun n=>J n a w) ⟨n,h0⟩ fun a w hI=>?_;refine wp_mono (aa _ a w (Zdc hI).1) fun e a' w' he=>?_;cases e with
 | normal=>
  obtain⟨m,hm,hJ⟩:=he;exact⟨⟨m,hJ⟩,Nat.lt_of_le_of_lt ((Zdc ⟨m,hJ⟩).2 m hJ) hm⟩
 | _=>exact he
section
variable {P:Program} {nt:Nat} {F A:Nat→Prop} {Γ0:Gh}
def YJ (P:Program) (C:Orc) (M:Zg) (nt:Nat):Prop:=
 ∀ (F A:Nat→Prop) (Γ0:Gh) (ops:Array Oper) (os:List CO) (nx m:Nat) (sl:Sl) (hp:Hp) (r:Sl×Hp) (I:Nat→Prop) (Γ:Gh) (a:Act) (w:World) (Q:Exit→Act→World→Prop) (id:Nat),
  Z7 (ZeJ P nt ops.toList) ops.toList=some os→Zgw ops os=true→Vk C (Q3 M) nx 0 false os sl hp=some r→Yh os r.1 (Wg ops os)=true→Sim nt F A I Γ (VM nx) sl hp a w→J7 Γ0 Γ hp →
  (∀ a' w',VO nt F A Γ0 I w { sl:=r.1,hp:=r.2,nx:=nx+64*ops.size,m:=m } a' w'→Ju (VL os) a a'→Q .normal a' w')→(Code.region id ops true).wp P Q a w
theorem Zmo {C:Orc} {M:Zg} {N:Nat}:∀ (c:ZC) (st aa : St) (e:Ex),Zt C M N c st=some (e,aa)→aa.m=st.m:=by
 intro c
 induction c with
 | skip=>intro st aa e h;simp only[Zt] at h;cases h;rfl
 | region n d ops=>
  intro st aa e h;cases d<;>(simp only[Zt,ZbF] at h;obtain⟨r,_,h⟩:=Za h;cases h;rfl)
 | seq x y ihx ihy=>
  intro st aa e h;simp only[Zt] at h;cases hx:Zt C M N x st with
  | none=>rw[hx] at h;cases h
  | some q=>
   obtain⟨e1,st1⟩:=q;rw[hx] at h;have h1:=ihx _ _ _ hx;cases e1<;>simp only[andThen] at h
   ·rw[ihy _ _ _ h,h1]
   ·cases h;exact h1
   ·cases h;exact h1
 | cond c x y ihx ihy=>
  intro st aa e h;simp only[Zt] at h;unfold ZbU at h;split at h
  ·split at h
   ·exact ihx _ _ _ h
   ·exact ihy _ _ _ h
  ·cases h
 | block id c ih=>
  intro st aa e h;simp only[Zt] at h;cases hx:Zt C M N c st with
  | none=>rw[hx] at h;cases h
  | some q=>
   obtain⟨e1,st1⟩:=q;rw[hx] at h;have h1:=ih _ _ _ hx;unfold ZaO at h;split at h
   ·rename_i j ab hq;cases hq;split at h<;>(cases h;exact h1)
   ·cases h;exact h1
 | loop c ih=>
  intro st aa e h;simp only[Zt] at h;have ad:∀ (K:List Nat) (n:Nat) (st:St),V6 (Zt C M N c) K n st=some (e,aa)→aa.m=st.m:=by
   intro K n
   induction n with
   | zero=>intro st h;simp only[V6] at h;cases h
   | succ n ihn=>
    intro st h;simp only[V6] at h;cases hx:Zt C M N c (Vl K st) with
    | none=>rw[hx] at h;cases h
    | some q=>
     obtain⟨e1,st1⟩:=q;rw[hx] at h;have h1:=ih _ _ _ hx;cases e1 with
     | normal=>simp only at h;rw[ihn _ h,h1];rfl
     | exit id=>simp only at h;cases h;exact h1
     | ret=>simp only at h;cases h;exact h1
  exact ad _ N st h
 | exit id=>intro st aa e h;simp only[Zt] at h;cases h;rfl
 | ret=>intro st aa e h;simp only[Zt] at h;cases h;rfl
 | stuck=>intro st aa e h;simp only[Zt] at h;cases h
 | link fl id i j c ih=>
  intro st aa e h;simp only[Zt] at h;obtain⟨st1,h1,h⟩:=Za h;cases hx:Zt C M N c st1 with
  | none=>rw[hx] at h;cases h
  | some q=>
   obtain⟨e1,ab⟩:=q;rw[hx] at h;simp only[Zgz] at h;cases h;have h2:=ih _ _ _ hx;unfold J3 at h1;obtain⟨n,_,h1⟩:=Za h1;split at h1
   ·obtain⟨o,_,h1⟩:=Za h1;cases h1;exact h2
   ·cases h1
 | melt c ih=>
  intro st aa e h;simp only[Zt] at h;rw[ih _ _ _ h];rfl
 | peek id c ih=>
  intro st aa e h;simp only[Zt] at h;obtain⟨ds,_,h⟩:=Za h;obtain⟨st1,h1,h⟩:=Za h;unfold ZdV at h1;obtain⟨o,_,h1⟩:=Za h1;cases h1;cases hx:Zt C M N c { st with hp:=[(id,o)] } with
  | none=>rw[hx] at h;cases h
  | some q=>
   rw[hx] at h;cases h;have h2:=ih _ _ _ hx;exact h2
 | keep K c ih=>
  intro st aa e h;simp only[Zt] at h;cases hx:Zt C M N c st with
  | none=>rw[hx] at h;cases h
  | some q=>
   obtain⟨e1,st1⟩:=q;rw[hx] at h;simp only[Zgx] at h;cases h;show st1.m=st.m;exact ih _ _ _ hx
theorem ZqA (K:List Nat) (sl:Sl) (t:Nat):gs (only K sl) t=if K.contains t then gs sl t else .junk:=by
 simp only[gs,Zdb];split<;>rfl
theorem Sim.only {I:Nat→Prop} {Γ:Gh} {U:Nat→Prop} {sl:Sl} {hp:Hp} {a:Act} {w:World} (h:Sim nt F A I Γ U sl hp a w) (K:List Nat):Sim nt F A I Γ U (only K sl) hp a w where
 nt:=h.nt
 dfr:=h.dfr
 slots:=fun t=>by
  rw[ZqA];split
  ·exact h.slots t
  ·exact trivial
 objs:=h.objs
 inj:=h.inj
 bound:=h.bound
 fresh:=h.fresh
 own:=h.own
 names:=h.names
 glob:=h.glob
theorem VO.only {I:Nat→Prop} {w:World} {aa : St} {a' : Act} {w' : World} (h:VO nt F A Γ0 I w aa a' w') (K:List Nat):VO nt F A Γ0 I w { aa with sl:=only K aa.sl } a' w':=by
 obtain⟨I',Γ',h1,h2,h3,h4,h5⟩:=h;exact⟨I',Γ',h1,h2,h3,h4,h5.only K⟩
section
variable (P nt)
theorem YK:∀ {c:Code} {cc:ZC},Yw P nt c=some cc→match cc with
  | .skip=>c=.skip
  | .region n d os=>∃ id ops draw,c=.region id ops draw
  | .seq u v=>∃ x y,c=.seq x y∧Yw P nt x=some u∧Yw P nt y=some v
  | .cond co u v=>∃ o x y,c=.cond o x y∧ZI o=some co∧Yw P nt x=some u∧Yw P nt y=some v
  | .block id u=>∃ x,c=.block id x∧Yw P nt x=some u
  | .loop u=>∃ x,c=.loop x∧Yw P nt x=some u
  | .exit id=>c=.exit id
  | .ret=>c=.ret
  | .keep _ _=>False
  | .link _ _ _ _ _=>False
  | .melt _=>False
  | .peek _ _=>False
  | .stuck=>True:=by
 intro c cc h;cases c<;>simp only[Yw] at h
 case skip=>cases h;rfl
 case region id ops draw=>
  obtain⟨os,_,h⟩:=Za h;split at h
  ·split at h
   ·cases h;exact⟨_,_,_,rfl⟩
   ·cases h;trivial
  ·cases h;exact⟨_,_,_,rfl⟩
 case seq x y=>
  obtain⟨u,h1,h⟩:=Za h;obtain⟨v,h2,h⟩:=Za h;cases h;exact⟨x,y,rfl,h1,h2⟩
 case cond o x y=>
  obtain⟨co,h0,h⟩:=Za h;obtain⟨u,h1,h⟩:=Za h;obtain⟨v,h2,h⟩:=Za h;cases h;exact⟨o,x,y,rfl,h0,h1,h2⟩
 case block id x=>
  obtain⟨u,h1,h⟩:=Za h;cases h;exact⟨x,rfl,h1⟩
 case loop x=>
  obtain⟨u,h1,h⟩:=Za h;cases h;exact⟨x,rfl,h1⟩
 case exit id=>cases h;rfl
 case ret=>cases h;rfl
 all_goals (cases h;trivial)
end
theorem ZgL {l:List Value} {p:Nat} (v:Value) (hp:p<l.length):Zk l p [v]=l.set p v:=by
 refine KW fun k=>?_;rw[ZY _ _ _ _ (by simp;omega)];by_cases e:p=k
 ·subst e;rw[Kt (by simp),Lw hp];simp
 ·rw[K0 e,Kp (by simp;omega)]
theorem ZeN {xs:List D} {n j:Nat} {ys:List D} (h:VG xs n j=some ys):∃ x,xs[n]?=some x∧x.cells[j]?=some (.sl ys):=by
 obtain⟨x,h1,h2⟩:=Za h;refine⟨x,h1,?_⟩;split at h2
 ·rename_i aa hy;cases h2;exact hy
 ·cases h2
theorem Zpk {I:Nat→Prop} {Γ:Gh} {w:World} {fl:Bool} {ns:Nat} {ys:List D} {o:Zh} (ho:Zm5 fl ns ys=some o) {B:List Nat} {a:Option Addr} {c nm:Nat} (hT:ZZ w ns B (.sl ys) (.slice a ys.length c)) (ae:B.Nodup) (hB:∀ b∈B,¬I b∧F b) (hg:Γ nm=some (.row a ys.length c ns)) :
  Xo Γ w I F A nm o∧∀ b,Blk Γ w nm o b→b∈B:=by
 simp only[ZZ] at hT;obtain⟨a',c',e,aa,hT⟩:=hT;cases e;unfold Zm5 at ho;split at ho
 ·split at ho
  ·rename_i hf;cases ho;rcases hT with ⟨rfl,rfl⟩ | ⟨g,cur,e,Bs,rfl,h1,h2,h3,h4,h5,rfl,h6⟩
   ·exact⟨⟨_,_,_,hg,rfl,.inl ⟨by omega,rfl⟩⟩,fun b hb=>(hb.nil (by rw[hg];cases a<;>simp[Zo])).elim⟩
   ·refine⟨⟨_,_,_,hg,rfl,.inr ⟨g,0,cur,e,rfl,h1,h2,aa,h3,⟨by omega,fun _=>rfl⟩,h5,by simpa using (hB g (by simp)).1,(hB g (by simp)).2,Zek hf (h6.rep (S:=fun _=>True) fun _ _=>trivial)⟩⟩,fun b hb=>?_⟩;have:=hb.row;rw[hg] at this;simp[Zo,Ku h1] at this;simp[this]
  ·cases ho
 ·cases ho;rcases hT with ⟨rfl,rfl⟩ | ⟨g,cur,e,Bs,rfl,h1,h2,h3,h4,h5,rfl,h6⟩
  ·exact⟨⟨_,_,_,hg,⟨rfl,.inl ⟨by omega,rfl,rfl⟩⟩,trivial⟩,fun b hb=>(hb.nil (by rw[hg];cases a<;>simp[Zo])).elim⟩
  ·refine⟨⟨_,_,_,hg,⟨rfl,.inr ⟨g,cur,e,Bs,rfl,h1,h2,aa,h3,h4,h5,h6,ae,hB⟩⟩,trivial⟩,fun b hb=>?_⟩;have ab:Zo (Γ nm)=some g:=by rw[hg];simp[Zo,Ku h1]
   rcases hb with hb | ⟨g',B',ad,af,hb⟩ | hb
   ·rw[We,ab] at hb;cases hb;simp
   ·rw[ab] at ad;cases ad;cases ZJ.uniq h6 af;simp[hb]
   ·exact hb.elim
theorem Sim.link {I:Nat→Prop} {Γ:Gh} {st ae : St} {a:Act} {w:World} (h:Sim nt F A I Γ (VM st.nx) st.sl st.hp a w) (hc:J7 Γ0 Γ st.hp) {fl:Bool} {id:Nat} {i:Opd} {j:Nat} (hl:J3 fl id i j st=some ae) :
  ∃ Γ',Sim nt F A I Γ' (VM ae.nx) ae.sl ae.hp a w∧J7 Γ0 Γ' ae.hp∧ae.m=st.m:=by
 unfold J3 at hl;obtain⟨n,_,hl⟩:=Za hl;split at hl
 ·obtain⟨q,h1,hl⟩:=Za hl;cases hl;unfold Zm6 at h1;split at h1
  ·rename_i sz ns xs ho;obtain⟨ys,h2,h1⟩:=Za h1;obtain⟨o,h3,h1⟩:=Za h1;obtain⟨a5,h4,h1⟩:=Za h1;cases h1;obtain⟨x,hx,af⟩:=ZeN h2;obtain⟨ad,m,c,hg,⟨hm,hd⟩,_⟩:=h.objs id _ ho;have hi:n.toNat<xs.length:=(Kd.1 hx).1;rcases hd with hd | ⟨g,cur,e,B,rfl,p1,p2,p3,p4,p5,p6,p7,p8,p9⟩
   ·omega
   ·obtain⟨vs,_,_,_,_,v1,_,v3,_⟩:=ZJ.at p7 hx;cases x with
    | int _ _=>cases j<;>simp[D.cells] at af
    | bool _=>cases j<;>simp[D.cells] at af
    | str _=>cases j<;>simp[D.cells] at af
    | sl _=>simp only[QF] at v3
    | agg cs=>
     simp only[D.cells] at af;have ao:cs.length=sz:=by have:=v3.cells.length;simp only[D.cells] at this;omega
     have hj:j<sz:=by rw[← ao];exact(Kd.1 af).1
     have ax:n.toNat*sz+sz≤cur.size:=by
      rw[p5,← Nat.succ_mul];exact Ky _ (by omega)
     obtain⟨ai,ap⟩:=K9.1 p8;obtain⟨B',BM,vm,t1,t2,t3,t4⟩:=Zbw (us:=[.slice none 0 0]) (ds:=[.sl []]) (Bq:=[]) (off:=j) p2 p7 hx ao (by simp;omega)
      (by simp only[ZR,ZZ];exact⟨_,[],[],[],rfl,rfl,⟨none,0,rfl,Kf _,.inl ⟨rfl,rfl⟩⟩,rfl,rfl⟩) ai (by simp) ax
     have hM:(cs.drop j).take [Value.slice none 0 0].length=[.sl ys]:=by
      refine KW fun k=>?_;cases k with
      | zero=>simp[KX,af]
      | succ k=>simp[KS]
     rw[hM] at t3;simp only[ZR] at t3;obtain⟨v,_,al,_,rfl,rfl,hv,rfl,rfl⟩:=t3;rw[LG] at t2;have ag:=t4 0 v rfl;have aq:=hv;simp only[ZZ] at aq;obtain⟨a',c',rfl,_,_⟩:=aq;have ar:Γ st.nx=none:=h.names st.nx (by simp[VM]);have hk:=XU (.row a' ys.length c' ns) ar;have ay:id≠st.nx:=fun e=>by subst e;rw[ar] at hg;cases hg
     simp only[Zc6,hx,Zc,Option.some.injEq] at h4;subst h4;have ab:∀ b,b∈B'∨b∈al→b∈B:=fun b hb=>by
      have:=t2 b;simp only[List.count_nil,Lx] at this;rw[← KL];rcases hb with hb | hb<;>have:=KL.2 hb<;>omega
     have ah:∀ b,b∈B'→b∈al→False:=fun b hb az=>by
      have h1:=t2 b;have h2:=KL.2 hb;have h3:=KL.2 az;have h4:=LM.1 ap b;simp only[List.count_nil,Lx] at h1;omega
     have au:∀ L:List Nat,(∀ b,List.count b L≤List.count b B)→L.Nodup:=fun L hL=>LM.2 fun b=>Lv (hL b) (LM.1 ap b);have aj:Zo (Γ id)=some g:=by rw[hg];simp[Zo,Ku p1]
     have am:(Zk cur.toList (n.toNat*sz+j) [Value.slice none 0 0]).toArray=cur.setIfInBounds (n.toNat*sz+j) (.slice none 0 0):=by
      rw[ZgL (l:=cur.toList) _ (by rw[KN];omega)];apply Array.ext';rw[L0]
     rw[am,← Zbp p2] at t1;obtain⟨a0,a1⟩:=Zpk (Γ:=upd Γ st.nx (.row a' ys.length c' ns)) (I:=I) (F:=F) (A:=A) (nm:=st.nx) h3 hv (au _ fun b=>by have:=t2 b;simp only[List.count_nil,Lx] at this;omega)
      (fun b hb=>p9 b (Ks _ (ab b (.inr hb)))) (Zw _ _ _)
     have an:∀ k o,lkp st.hp k=some o→upd Γ st.nx (.row a' ys.length c' ns) k=Γ k:=fun k o hl=>Qb _ _ fun e=>by
      subst e;exact absurd (h.id_in hl) (by simp[VM])
     have av:∀ k o',lkp (ins (ins st.hp id (.tree sz ns (xs.set n.toNat (X8 (.agg cs) j [.sl []])) (some (some st.nx,n.toNat,j)))) st.nx o) k=some o' →
       (k=st.nx∧o'=o)∨(k=id∧o'=.tree sz ns (xs.set n.toNat (X8 (.agg cs) j [.sl []])) (some (some st.nx,n.toNat,j)))∨(k≠id∧lkp st.hp k=some o'):=by
      intro k o' hk;rw[ZS] at hk;split at hk
      ·rename_i e;cases hk;exact .inl ⟨e.symm,rfl⟩
      ·rw[ZS] at hk;split at hk
       ·rename_i e;cases hk;exact .inr (.inl ⟨e.symm,rfl⟩)
       ·rename_i e;exact .inr (.inr ⟨fun h=>e h.symm,hk⟩)
     have a2:∀ b,Blk (upd Γ st.nx (.row a' ys.length c' ns)) w id (.tree sz ns (xs.set n.toNat (X8 (.agg cs) j [.sl []])) (some (some st.nx,n.toNat,j))) b→b=g∨b∈B':=by
      rintro b (hb | ⟨g',B2,hg',hB2,hb⟩ | hb)
      ·rw[We,an _ _ ho,aj] at hb;cases hb;exact .inl rfl
      ·rw[an _ _ ho,aj] at hg';cases hg';cases ZJ.uniq t1 hB2;exact .inr hb
      ·exact hb.elim
     have ak:∀ b,b=g∨b∈B→Blk Γ w id (.tree sz ns xs none) b:=fun b hb=>hb.elim (fun e=>.inl (e ▸ aj)) fun hb=>.inr (.inl ⟨g,B,aj,p7,hb⟩);refine⟨upd Γ st.nx (.row a' ys.length c' ns),?_,fun k r hr=>hk _ _ (hc k r hr),rfl⟩;refine { nt:=h.nt,dfr:=h.dfr,slots:=fun t=>(h.slots t).mono hk (ZB.refl I w),objs:=?_,inj:=?_,bound:=h.bound,fresh:=h.fresh,own:=h.own,names:=?_,glob:=h.glob }
     ·intro k o' aa;rcases av k o' aa with ⟨rfl,rfl⟩ | ⟨rfl,rfl⟩ | ⟨_,aa⟩
      ·exact a0
      ·refine⟨_,m,c,hk _ _ hg,⟨by simp[hm],.inr ⟨g,cur,e,B',rfl,p1,p2,p3,p4,p5,p6,t1,K9.2 ⟨fun hb=>ai (ab g (.inl hb)),au _ fun b=>by have:=t2 b;simp only[List.count_nil,Lx] at this;omega⟩,fun b hb=>?_⟩⟩,?_⟩
       ·rcases Ke.1 hb with rfl | hb
        ·exact p9 _ (by simp)
        ·exact p9 b (Ks _ (ab b (.inl hb)))
       ·refine⟨by simpa using hi,hj,?_,fun k aa=>?_⟩
        ·have:(Zk cs j [D.sl []])[j]?=some (.sl []):=by rw[ZY _ _ _ _ (by simp;omega),Kt (by simp)];simp
         simp only[VG,Lw hi,Zc,X8,D.cells,this]
        ·cases aa;exact⟨g,a',ys.length,c',rfl,Zw _ _ _,ag⟩
      ·exact(h.objs k o' aa).mono hk (ZB.refl I w) fun b _=>⟨rfl,fun h=>h⟩
     ·intro k k' o1 o2 b h1 h2 a3 a4;have aw:∀ k o',lkp (ins (ins st.hp id (.tree sz ns (xs.set n.toNat (X8 (.agg cs) j [.sl []])) (some (some st.nx,n.toNat,j)))) st.nx o) k=some o'→Blk (upd Γ st.nx (.row a' ys.length c' ns)) w k o' b →
        (k=st.nx∧b∈al)∨(k=id∧(b=g∨b∈B'))∨(k≠id∧∃ o0,lkp st.hp k=some o0∧Blk Γ w k o0 b):=by
       intro k o' aa hb;rcases av k o' aa with ⟨e1,e2⟩ | ⟨e1,e2⟩ | ⟨e1,e2⟩
       ·rw[e1,e2] at hb;exact .inl ⟨e1,a1 b hb⟩
       ·rw[e1,e2] at hb;exact .inr (.inl ⟨e1,a2 b hb⟩)
       ·exact .inr (.inr ⟨e1,o',e2,hb.back (h.objs k o' e2) (an k o' e2) fun _ _=>rfl⟩)
      rcases aw k o1 h1 a3 with ⟨e1,g1⟩ | ⟨e1,g1⟩ | ⟨e1,o3,g1,g2⟩<;>rcases aw k' o2 h2 a4 with ⟨e2,q1⟩ | ⟨e2,q1⟩ | ⟨e2,o4,q1,q2⟩
      ·rw[e1,e2]
      ·rcases q1 with rfl | q1
       ·exact(ai (ab _ (.inr g1))).elim
       ·exact(ah b q1 g1).elim
      ·exact(e2 (h.inj k' id o4 _ b q1 ho q2 (ak b (.inr (ab b (.inr g1)))))).elim
      ·rcases g1 with rfl | g1
       ·exact(ai (ab _ (.inr q1))).elim
       ·exact(ah b g1 q1).elim
      ·rw[e1,e2]
      ·exact(e2 (h.inj k' id o4 _ b q1 ho q2 (ak b (g1.imp (fun e=>e) fun hb=>ab b (.inl hb))))).elim
      ·exact(e1 (h.inj k id o3 _ b g1 ho g2 (ak b (.inr (ab b (.inr q1)))))).elim
      ·exact(e1 (h.inj k id o3 _ b g1 ho g2 (ak b (q1.imp (fun e=>e) fun hb=>ab b (.inl hb))))).elim
      ·exact h.inj k k' o3 o4 b g1 q1 g2 q2
     ·intro k aa;rw[Qb _ _ (fun e=>aa (by subst e;simp[VM]))];exact h.names k (fun hu=>aa (by simp[VM] at hu ⊢;omega))
  ·cases h1
 ·cases hl
theorem Zpl {I:Nat→Prop} {Γ:Gh} {w:World} {k nm:Nat} {o:Zh} {ys:List D} (hb:Zgy k (some o)=some ys) (ho:Xo Γ w I F A nm o):∃ a c B,Γ nm=some (.row a ys.length c k)∧ZZ w k B (.sl ys) (.slice a ys.length c)∧B.Nodup∧(∀ b∈B,¬I b∧F b)∧∀ b∈B,Blk Γ w nm o b:=by
 unfold Zgy at hb;split at hb
 ·rename_i k' ab e;cases e;split at hb
  ·rename_i hc;obtain⟨rfl,hf⟩:=hc;cases hb;obtain⟨a,n,c,hg,rfl,h⟩:=ho;rcases h with ⟨h1,rfl⟩ | ⟨g,q0,cur,e,rfl,h1,h2,h3,h4,h5,h6,h7,h8,h9⟩
   ·exact⟨a,0,[],hg,by simp only[ZZ];exact⟨a,0,rfl,by omega,.inl ⟨rfl,trivial⟩⟩,Lb,fun b hb=>by simp at hb,fun b hb=>by simp at hb⟩
   ·obtain⟨h5,h0⟩:=h5;obtain rfl:=h0 rfl;rw[KP] at h5;refine⟨_,c,[g],hg,by simp only[ZZ];exact⟨_,c,rfl,h3,.inr ⟨g,cur,e,[],rfl,h1,h2,h4,h5,h6,rfl,Zd8 hf h9⟩⟩,by simp,fun b hb=>?_,fun b hb=>?_⟩
    ·simp at hb;subst hb;exact⟨by simpa using h7,h8⟩
    ·simp at hb;subst hb;exact .inl (by rw[hg];simp[Zo,Ku h1])
  ·cases hb
 ·rename_i k' n ab e;cases e;split at hb
  ·rename_i hc;obtain⟨rfl,rfl⟩:=hc;cases hb;obtain⟨a,n,c,hg,⟨rfl,h⟩,_⟩:=ho;rcases h with ⟨h1,rfl,_⟩ | ⟨g,cur,e,B,rfl,h1,h2,h3,h4,h5,h6,h7,h8,h9⟩
   ·exact⟨a,0,[],hg,by simp only[ZZ];exact⟨a,0,rfl,by omega,.inl ⟨rfl,trivial⟩⟩,Lb,fun b hb=>by simp at hb,fun b hb=>by simp at hb⟩
   ·have aa:Zo (Γ nm)=some g:=by rw[hg];simp[Zo,Ku h1]
    refine⟨_,c,g :: B,hg,by simp only[ZZ];exact⟨_,c,rfl,h3,.inr ⟨g,cur,e,B,rfl,h1,h2,h4,h5,h6,rfl,h7⟩⟩,h8,h9,fun b hb=>?_⟩;rcases Ke.1 hb with rfl | hb
    ·exact .inl aa
    ·exact .inr (.inl ⟨g,B,aa,h7,hb⟩)
  ·cases hb
 ·cases hb
theorem Sim.shut {I:Nat→Prop} {Γ:Gh} {U:Nat→Prop} {sl:Sl} {hp:Hp} {a:Act} {w:World} (h:Sim nt F A I Γ U sl hp a w) (id nm:Nat):Sim nt F A I Γ U sl (Zn8 hp (ZeM hp id nm (lkp hp id))) a w:=by
 cases hs:ZeM hp id nm (lkp hp id) with
 | none=>exact h
 | some hp' =>
  show Sim nt F A I Γ U sl hp' a w;unfold ZeM at hs;split at hs
  ·rename_i sz k xs aa n j hl;split at hs
   ·rename_i e;subst e;obtain⟨ys,h1,hs⟩:=Za hs;obtain⟨bc,h2,hs⟩:=Za hs;cases hs;cases hn:lkp hp aa with
    | none=>rw[hn] at h1;cases h1
    | some o=>
     rw[hn] at h1;obtain⟨a',c',BM,az,hT,ar,al,af⟩:=Zpl h1 (h.objs aa o hn);obtain⟨ad,m,c,hg,⟨hm,hd⟩,hi,hj,a0,a1⟩:=h.objs id _ hl;obtain⟨g,a2,n2,c2,rfl,ag,ab⟩:=a1 aa rfl;rw[az] at ag;cases ag;rcases hd with ⟨_,_,hd⟩ | ⟨g',cur,e,B,ai,p1,p2,p3,p4,p5,p6,p7,p8,p9⟩
     ·cases hd
     ·cases ai;have am:id≠aa:=fun e=>by
       subst e;rw[hl] at hn;cases hn;simp[Zgy] at h1
      obtain⟨x,hx,an⟩:=ZeN a0;simp only[XI] at p7;obtain⟨vs,_,_,_,_,v1,_,v3,_⟩:=ZJ.at p7 hx;cases x with
      | int _ _=>cases j<;>simp[D.cells] at an
      | bool _=>cases j<;>simp[D.cells] at an
      | str _=>cases j<;>simp[D.cells] at an
      | sl _=>simp only[QF] at v3
      | agg cs=>
       have a3:cs.length=sz:=by have:=v3.cells.length;simp only[D.cells] at this;omega
       have a4:n*sz+sz≤cur.size:=by
        rw[p5,← Nat.succ_mul];exact Ky _ (by omega)
       obtain⟨ao,au⟩:=K9.1 p8;have aj:Zo (Γ id)=some g:=by rw[hg];simp[Zo,Ku p1]
       have ap:∀ b,b=g∨b∈B→Blk Γ w id (.tree sz k xs (some (some aa,n,j))) b:=fun b hb=>hb.elim (fun e=>.inl (e ▸ aj)) fun hb=>.inr (.inl ⟨g,B,aj,p7,hb⟩);have ah:∀ b,b=g∨b∈B→b∈BM→False:=fun b hb a5=>am (h.inj id aa _ o b hl hn (ap b hb) (af b a5));rw[Zbp p2] at p7;have a6:=setRow_heap w g cur (cur.setIfInBounds (n*sz+j) (.slice none 0 0)) e (0,0) p2;obtain⟨B',_,_,t1,t2,_⟩:=Zbw (us:=[.slice a' ys.length c']) (ds:=[.sl ys]) (Bq:=BM) (off:=j) a6 p7 hx a3 (by simp;omega)
        (by simp only[ZR];exact⟨_,[],BM,[],rfl,by simp,hT.mono fun b hb=>setRow_other w g b _ fun e=>ah b (.inl e) hb,rfl,rfl⟩) ao (fun hb=>ah g (.inl rfl) hb) (by simpa using a4)
       rw[setRow_setRow,L0,ZgX _ _ _ _ _ (by simp;omega),Kt (by simp),ZgL (l:=cur.toList) _ (by rw[KN];omega)] at t1;have ak:∀ b∈B',b∈B∨b∈BM:=fun b hb=>by
        have h1:=t2 b;have h2:=KL.2 hb;rcases Lh (List.count b B) with h3 | h3
        ·exact .inr (KL.1 (by omega))
        ·exact .inl (KL.1 h3)
       have av:cur.toList[n*sz+j]?=some (.slice a' ys.length c'):=by
        rw[cell_of_row _ _ _ _ _ _ p2] at ab;simpa using ab
       have aq:(cur.toList.set (n*sz+j) (.slice a' ys.length c')).toArray=cur:=by
        have:cur.toList.set (n*sz+j) (.slice a' ys.length c')=cur.toList:=by
         refine KW fun q=>?_;by_cases e:n*sz+j=q
         ·subst e;rw[Lw (Kd.1 av).1,av]
         ·rw[K0 e]
        rw[this]
       rw[aq] at t1;have t3:ZJ w k B' g sz (xs.set n (.agg (Zk cs j [.sl ys]))) 0:=t1.mono ((setRow_heap w g cur cur e (0,0) p2).symm ▸ p2) fun b hb=>(setRow_other w g b cur fun e=>by
        rcases ak b hb with hb | hb
        ·exact ao (e ▸ hb)
        ·exact ah b (.inl e) hb).symm
       simp only[Zc6,hx,Zc,Option.some.injEq,X8] at h2;subst h2;have aw:∀ q o',lkp (ins (del hp aa) id (.tree sz k (xs.set n (.agg (Zk cs j [.sl ys]))) none)) q=some o'→(q=id∧o'=.tree sz k (xs.set n (.agg (Zk cs j [.sl ys]))) none)∨(q≠id∧q≠aa∧lkp hp q=some o'):=by
        intro q o' hq;rw[ZS] at hq;split at hq
        ·rename_i e;cases hq;exact .inl ⟨e.symm,rfl⟩
        ·rename_i e;rw[Zab] at hq;split at hq
         ·cases hq
         ·rename_i e';exact .inr ⟨fun h=>e h.symm,fun h=>e' h.symm,hq⟩
       refine { nt:=h.nt,dfr:=h.dfr,slots:=h.slots,objs:=?_,inj:=?_,bound:=h.bound,fresh:=h.fresh,own:=h.own,names:=h.names,glob:=h.glob }
       ·intro q o' hq;rcases aw q o' hq with ⟨rfl,rfl⟩ | ⟨_,_,hq⟩
        ·refine⟨_,m,c,hg,⟨by simp[hm],.inr ⟨g,cur,e,B',rfl,p1,p2,p3,p4,p5,p6,t3,K9.2 ⟨fun hb=>(ak g hb).elim ao fun hb=>ah g (.inl rfl) hb,?_⟩,fun b hb=>?_⟩⟩,trivial⟩
         ·rw[LM] at au ar ⊢;intro b;have h1:=t2 b;have h2:=au b;have h3:=ar b;rcases Lh (List.count b B) with h4 | h4
          ·omega
          ·have:List.count b BM=0:=by
            rcases Lh (List.count b BM) with h5 | h5
            ·exact h5
            ·exact(ah b (.inr (KL.1 h4)) (KL.1 h5)).elim
           omega
         ·rcases Ke.1 hb with rfl | hb
          ·exact p9 _ (by simp)
          ·rcases ak b hb with hb | hb
           ·exact p9 b (by simp[hb])
           ·exact al b hb
        ·exact h.objs q o' hq
       ·intro q q' o1 o2 b h1 h2 a7 a8;have ax:∀ q o',lkp (ins (del hp aa) id (.tree sz k (xs.set n (.agg (Zk cs j [.sl ys]))) none)) q=some o'→Blk Γ w q o' b →
          (q=id∧(b=g∨b∈B∨b∈BM))∨(q≠id∧q≠aa∧∃ o0,lkp hp q=some o0∧Blk Γ w q o0 b):=by
         intro q o' hq hb;rcases aw q o' hq with ⟨e1,e2⟩ | ⟨e1,e2,e3⟩
         ·rw[e1,e2] at hb;refine .inl ⟨e1,?_⟩;rcases hb with hb | ⟨g',B2,ai,a9,hb⟩ | hb
          ·rw[We,aj] at hb;cases hb;exact .inl rfl
          ·rw[aj] at ai;cases ai;cases ZJ.uniq t3 a9;exact .inr (ak b hb)
          ·exact hb.elim
         ·exact .inr ⟨e1,e2,o',e3,hb⟩
        have ay:∀ q o0,q≠id→q≠aa→lkp hp q=some o0→Blk Γ w q o0 b→(b=g∨b∈B∨b∈BM)→False:=by
         intro q o0 n1 n2 hq hb ae;rcases ae with ae | ae | ae
         ·exact n1 (h.inj q id o0 _ b hq hl hb (ap b (.inl ae)))
         ·exact n1 (h.inj q id o0 _ b hq hl hb (ap b (.inr ae)))
         ·exact n2 (h.inj q aa o0 o b hq hn hb (af b ae))
        rcases ax q o1 h1 a7 with ⟨e1,g1⟩ | ⟨e1,ba,o3,g1,g2⟩<;>rcases ax q' o2 h2 a8 with ⟨e2,q1⟩ | ⟨e2,bb,o4,q1,q2⟩
        ·rw[e1,e2]
        ·exact(ay q' o4 e2 bb q1 q2 g1).elim
        ·exact(ay q o3 e1 ba g1 g2 q1).elim
        ·exact h.inj q q' o3 o4 b g1 q1 g2 q2
   ·cases hs
  ·cases hs
theorem Sim.melt {I:Nat→Prop} {Γ:Gh} {U:Nat→Prop} {sl:Sl} {hp:Hp} {a:Act} {w:World} (h:Sim nt F A I Γ U sl hp a w):Sim nt F A (Zng Γ w hp I (WK hp)) Γ U sl (Zdy ZcS hp) a w:=
 (h.meltIn (WK hp)).sub fun k o hk=>by
  rw[ZaT] at hk;rw[Vf];cases hl:lkp hp k with
  | none=>rw[hl] at hk;cases hk
  | some o0=>
   have:(WK hp).contains k=true:=by
    have aa:∀ (l:Hp),lkp l k=some o0→k∈WK l:=by
     intro l
     induction l with
     | nil=>intro h;cases h
     | cons q r ih=>
      intro h;obtain⟨k',o'⟩:=q;simp only[lkp] at h;simp only[WK,Ke];split at h
      ·rename_i e;exact .inl e.symm
      ·exact .inr (ih h)
    simpa using aa hp hl
   rw[hl] at hk;simp only[KK,Option.some.injEq] at hk ⊢;rw[this];exact hk
def Zle (Γ:Gh) (w:World) (hp:Hp) (I:Nat→Prop) (b:Nat):Prop:=I b∨∃ k o,lkp hp k=some o∧Blk Γ w k o b
theorem Sim.peek {I:Nat→Prop} {Γ:Gh} {U:Nat→Prop} {sl:Sl} {hp:Hp} {a:Act} {w:World} (h:Sim nt F A I Γ U sl hp a w) {id:Nat} {o:Zh} (ho:ZgA (lkp hp id)=some o):Sim nt F A (Zle Γ w hp I) Γ U sl [(id,o)] a w:=by
 have hk:ZB I (Zle Γ w hp I) w w:=⟨fun b hb=>.inl hb,fun _ _=>rfl⟩
 have one:∀ k o',lkp [(id,o)] k=some o'→k=id∧o'=o:=fun k o' hl=>by
  simp only[lkp] at hl;split at hl
  ·rename_i e;cases hl;exact⟨e.symm,rfl⟩
  ·cases hl
 refine⟨h.nt,h.dfr,fun t=>(h.slots t).mono (fun _ _ h=>h) hk,fun k o' hl=>?_,fun i j o1 o2 b hi hj _ _=>?_,?_,h.fresh,h.own,h.names,h.glob.mono hk⟩
 ·obtain⟨rfl,rfl⟩:=one k o' hl;unfold ZgA at ho;split at ho
  ·rename_i s ns xs aa;cases ho;obtain⟨ad,m,c,hg,⟨hm,hd⟩,_⟩:=h.objs _ _ aa;refine⟨ad,m,c,hg,hm,?_⟩;rcases hd with ⟨h1,h2,_⟩ | ⟨g,cur,e,B,rfl,p1,p2,p3,p4,p5,p6,p7,p8,p9⟩
   ·exact .inl ⟨h1,h2⟩
   ·have ab:Zo (Γ k)=some g:=by rw[hg];simp[Zo,Ku p1]
    refine .inr ⟨g,0,cur,e,rfl,p1,p2,p3,p4,⟨by omega,fun h=>by cases h⟩,p6,?_,(p9 g (by simp)).2,?_⟩
    ·simp only[Kl];exact .inr ⟨k,_,aa,.inl (by rw[We,ab])⟩
    ·simp only[Ka,Kj];exact ZJ.rep p7 fun b hb=>.inr ⟨k,_,aa,.inr (.inl ⟨g,B,ab,p7,hb⟩)⟩
  ·cases ho
 ·rw[(one i o1 hi).1,(one j o2 hj).1]
 ·rintro b (hb | ⟨k,o',hl,hb⟩)
  ·exact h.bound b hb
  ·exact h.blk_lt hl hb
theorem ZiU (aa:Sl):∀ (ds:List Nat) (sl:Sl) (t:Nat),gs (Uo aa ds sl) t=if ds.contains t then J4 (gs aa t) else gs sl t
 | [],sl,t=>by simp[Uo]
 | d :: r,sl,t=>by
  rw[Uo,ZiU aa r];by_cases h:r.contains t=true
  ·rw[Kt h,Kt (by simp only[List.contains_cons,h,Bool.or_true])]
  ·rw[Kp h];by_cases hd:d=t
   ·subst hd;rw[Kt (by simp)];simp[gs,ZS,W5]
   ·rw[Kp (by simp only[List.contains_cons,Ld,not_or,beq_iff_eq];exact⟨fun e=>hd e.symm,h⟩)];simp[gs,ZS,hd]
theorem Zlf {Γ Γ' : Gh} {w w' : World} {I I' : Nat→Prop} {x:AV} {v:Value} (h:Rep Γ w I x v):Rep Γ' w' I' (J4 x) v:=by
 unfold J4;split
 ·exact QB.2 (by have:=QB.1 h;simpa [QV,ZG] using this)
 ·exact QB.2 (by have:=QB.1 h;simpa [QV,ZG] using this)
 ·exact trivial
theorem Sim.unpeek {I I2:Nat→Prop} {Γ Γ2:Gh} {U U2:Nat→Prop} {sl ab:Sl} {hp ad:Hp} {a a2:Act} {w w2:World} {ds:List Nat} (h:Sim nt F A I Γ U sl hp a w) (hk:ZB (Zle Γ w hp I) I2 w w2) (hf:Fr F w w2)
  (h2:Sim nt F A I2 Γ2 U2 ab ad a2 w2) (hs:Ju ds a a2) (hU:∀ id,U id→U2 id):Sim nt F A I Γ U2 (Uo ab ds sl) hp a2 w2:=by
 have aa:ZB I I w w2:=⟨fun b hb=>hb,fun b hb=>hk.blk b (.inl hb)⟩
 have hb:∀ k o,lkp hp k=some o→∀ b,Blk Γ w k o b→w2.heap[b]?=w.heap[b]?:=fun k o hl b hb=>hk.blk b (.inr ⟨k,o,hl,hb⟩);refine⟨h2.nt,h2.dfr,fun t=>?_,fun k o hl=>(h.objs k o hl).mono (fun _ _ h=>h) aa fun b ae=>⟨hb k o hl b ae,fun h=>h⟩,fun i j o1 o2 b hi hj h1 h3=>?_,fun b hb=>L8 (h.bound b hb) hf.size,h2.fresh,h.own,fun id af=>h.names id fun hu=>af (hU id hu),h.glob.mono aa⟩
 ·rw[ZiU];split
  ·exact Zlf (h2.slots t)
  ·rename_i ht;rw[hs t (by simpa using ht)];exact(h.slots t).mono (fun _ _ h=>h) aa
 ·exact h.inj i j o1 o2 b hi hj ((h1.back (h.objs i o1 hi) rfl (hb i o1 hi))) ((h3.back (h.objs j o2 hj) rfl (hb j o2 hj)))
theorem J9 {C:Orc} {M:Zg} (hC:Qc P C) (hD:YJ P C M nt) {N:Nat}:∀ (cc:ZC) (c:Code) {st ab : St} {ex:Ex},Yw P nt c=some (Q4 cc)→Zt C M N cc st=some (ex,ab) →
  ∀ {I:Nat→Prop} {Γ:Gh} {a:Act} {w:World} {Q:Exit→Act→World→Prop},Sim nt F A I Γ (VM st.nx) st.sl st.hp a w→J7 Γ0 Γ st.hp→ZgI Γ0 st.m →
  (∀ a' w',VO nt F A Γ0 I w ab a' w'→Q (exOf ex) a' w')→c.wp P Q a w:=by
 intro cc
 induction cc with
 | skip=>
  intro c st ab ex aa hv I Γ a w Q hS hc hm hQ;obtain rfl:=YK P nt aa;simp only[Zt] at hv;cases hv;exact wp_skip (hQ _ _ (VO.refl hS hc))
 | region n d ag=>
  intro c st ab ex aa hv I Γ a w Q hS hc hm hQ;obtain⟨id,ops,draw,rfl⟩:=YK P nt aa;simp only[Q4,Yw] at aa;obtain⟨os,h1,aa⟩:=Za aa;cases draw with
  | false=>
   simp only[Ka,Kj,Option.some.injEq,ZC.region.injEq] at aa;obtain⟨rfl,rfl,rfl⟩:=aa;simp only[ZgH] at h1;simp only[Zt,ZbF] at hv;obtain⟨r,h2,hv⟩:=Za hv;cases hv;refine wp_region ?_;have:=ZgJ (F:=F) (A:=A) (Q:=Q) hC ag 0 (Nat.zero_le _) (by simpa using h1) h2 (by simpa using hS) (fun a' w' hp _=>hQ a' w' (by
    obtain⟨I',Γ',p1,p2,p3,p4,p5⟩:=hp;exact⟨I',Γ',XQ.cpre p1 hc,p2,p3,p4,by simpa using p5⟩))
   rw[List.range_eq_range'];simpa using this
  | true=>
   simp only[Kl] at aa;split at aa
   ·rename_i ad;simp only[Option.some.injEq,ZC.region.injEq] at aa;obtain⟨rfl,rfl,ah⟩:=aa;simp only[ZgH] at ah;subst ah;simp only[Zt,ZbF] at hv;obtain⟨r,h2,hv⟩:=Za hv;cases hv;unfold Zc5 at h2;obtain⟨r',h3,h2⟩:=Za h2;split at h2
    ·rename_i ae;cases h2;exact hD F A Γ0 ops _ st.nx st.m st.sl st.hp r I Γ a w Q id h1 ad h3 ae hS hc (fun a' w' hp _=>hQ a' w' (by simpa using hp))
    ·cases h2
   ·cases aa
 | seq cx cy ihx ihy=>
  intro c st ab ex aa hv I Γ a w Q hS hc hm hQ;obtain⟨x,y,rfl,h1,h2⟩:=YK P nt aa;simp only[Zt] at hv;cases hx:Zt C M N cx st with
  | none=>rw[hx] at hv;cases hv
  | some q=>
   obtain⟨e1,st1⟩:=q;rw[hx] at hv;refine wp_seq (ihx x h1 hx hS hc hm fun a1 w1 hp=>?_);have al:=Zmo _ _ _ _ hx;cases e1 with
   | normal=>
    simp only[andThen] at hv;obtain⟨I1,Γ1,b1,b2,b3,b4,b5⟩:=hp;exact ihy y h2 hv b5 b1 (by rw[al];exact hm) fun a2 w2 am=>hQ a2 w2 (am.step b2 b3 b4)
   | exit id=>simp only[andThen] at hv;cases hv;exact hQ a1 w1 hp
   | ret=>simp only[andThen] at hv;cases hv;exact hQ a1 w1 hp
 | cond co cx cy ihx ihy=>
  intro c st ab ex aa hv I Γ a w Q hS hc hm hQ;obtain⟨o,x,y,rfl,h0,h1,h2⟩:=YK P nt aa;simp only[Zt] at hv;have hr:=hS.slOK.ev h0;unfold ZbU at hv;split at hv
  ·rename_i t ht;rw[ht] at hr;have hb:=Jo hr;cases t with
   | true=>simp only[Kl] at hv;exact wp_cond_true hb (ihx x h1 hv hS hc hm hQ)
   | false=>simp only[Ka,Kj] at hv;exact wp_cond_false hb (ihy y h2 hv hS hc hm hQ)
  ·cases hv
 | block id cx ih=>
  intro c st ab ex aa hv I Γ a w Q hS hc hm hQ;obtain⟨x,rfl,h1⟩:=YK P nt aa;simp only[Zt] at hv;cases hx:Zt C M N cx st with
  | none=>rw[hx] at hv;cases hv
  | some q=>
   obtain⟨e1,st1⟩:=q;rw[hx] at hv;refine wp_block (ih x h1 hx hS hc hm fun a1 w1 hp=>?_);cases e1 with
   | normal=>simp only[ZaO] at hv;cases hv;exact hQ a1 w1 hp
   | exit j=>
    simp only[ZaO] at hv;simp only[exOf,Exit.inBlock];split at hv
    ·rename_i hj;cases hv;rw[Kt hj];exact hQ a1 w1 hp
    ·rename_i hj;cases hv;rw[Kp hj];exact hQ a1 w1 hp
   | ret=>simp only[ZaO] at hv;cases hv;exact hQ a1 w1 hp
 | loop cx ih=>
  intro c st ab ex aa hv I Γ a w Q hS hc hm hQ;obtain⟨x,rfl,h1⟩:=YK P nt aa;simp only[Zt] at hv;generalize WK st.sl=K at hv;refine Zod (fun n a1 w1=>∃ st1 I1 Γ1,V6 (Zt C M N cx) K n st1=some (ex,ab)∧st1.m=st.m∧Sim nt F A I1 Γ1 (VM st1.nx) st1.sl st1.hp a1 w1∧J7 Γ0 Γ1 st1.hp∧ZB I I1 w w1∧(∀ b,I1 b→I b∨F b)∧Fr F w w1)
   ?_ (n:=N) ⟨st,I,Γ,hv,rfl,hS,hc,ZB.refl I w,fun _ h=>.inl h,Fr.refl F w⟩
  rintro n a1 w1 ⟨st1,I1,Γ1,j1,j2,j3,j4,j5,j6,j7⟩
  cases n with
  | zero=>simp only[V6] at j1;cases j1
  | succ n=>
   simp only[V6] at j1;obtain⟨Γ2,k1,k2⟩:=Zoc j3 j4 (by rw[j2];exact hm) K;cases hx:Zt C M N cx (Vl K st1) with
   | none=>rw[hx] at j1;cases j1
   | some q=>
    obtain⟨e1,aj⟩:=q;rw[hx] at j1;have an:aj.m=st1.m:=(Zmo _ _ _ _ hx).trans rfl;refine ih x h1 hx k1 k2 (by show ZgI Γ0 st1.m;rw[j2];exact hm) fun a2 w2 hp=>?_;obtain⟨I3,Γ3,b1,b2,b3,b4,b5⟩:=hp;have af:∀ b,I3 b→I b∨F b:=fun b hb=>by
     rcases b3 b hb with h | h
     ·exact j6 b h
     ·exact .inr h
    cases e1 with
    | normal=>exact⟨n,Nat.lt_succ_self n,aj,I3,Γ3,j1,by rw[an,j2],b5,b1,j5.trans b2,af,j7.trans b4⟩
    | exit id=>
     simp only at j1;cases j1;exact hQ a2 w2 ⟨I3,Γ3,b1,j5.trans b2,af,j7.trans b4,b5⟩
    | ret=>
     simp only at j1;cases j1;exact hQ a2 w2 ⟨I3,Γ3,b1,j5.trans b2,af,j7.trans b4,b5⟩
 | exit id=>
  intro c st ab ex aa hv I Γ a w Q hS hc hm hQ;obtain rfl:=YK P nt aa;simp only[Zt] at hv;cases hv;exact wp_exit (hQ _ _ (VO.refl hS hc))
 | ret=>
  intro c st ab ex aa hv I Γ a w Q hS hc hm hQ;obtain rfl:=YK P nt aa;simp only[Zt] at hv;cases hv;exact wp_ret (hQ _ _ (VO.refl hS hc))
 | stuck=>
  intro c st ab ex aa hv I Γ a w Q hS hc hm hQ;simp only[Zt] at hv;cases hv
 | link fl id i j cx ih=>
  intro c st ab ex aa hv I Γ a w Q hS hc hm hQ;simp only[Zt] at hv;obtain⟨st1,h1,hv⟩:=Za hv;obtain⟨Γ1,k1,k2,k3⟩:=hS.link hc h1;cases hx:Zt C M N cx st1 with
  | none=>rw[hx] at hv;cases hv
  | some q=>
   obtain⟨e1,aj⟩:=q;rw[hx] at hv;simp only[Zgz] at hv;cases hv;refine ih c aa hx k1 k2 (by rw[k3];exact hm) fun a1 w1 hp=>hQ a1 w1 ?_;obtain⟨I',Γ',b1,b2,b3,b4,b5⟩:=hp;exact⟨I',Γ',b1,b2,b3,b4,b5.shut id st.nx⟩
 | melt cx ih=>
  intro c st ab ex aa hv I Γ a w Q hS hc hm hQ;simp only[Zt] at hv;refine ih c aa hv hS.melt hc hm fun a1 w1 hp=>hQ a1 w1 (hp.step ⟨fun b hb=>.inl hb,fun _ _=>rfl⟩ ?_ (Fr.refl F w))
  rintro b (hb | ⟨id,_,o,hl,_,hi⟩)
  ·exact .inl hb
  ·exact .inr (Zdd (hS.objs id o hl) (.inr (.inl hi)))
 | peek id cx ih=>
  intro c st ab ex aa hv I Γ a w Q hS hc hm hQ;simp only[Zt] at hv;obtain⟨ds,ai,hv⟩:=Za hv;obtain⟨st1,h1,hv⟩:=Za hv;unfold ZdV at h1;obtain⟨o,ho,h1⟩:=Za h1;cases h1;unfold Zk7 at ai;split at ai
  ·rename_i ag _ _;cases ai;obtain⟨ao,ops,draw,rfl⟩:=YK P nt aa;simp only[Q4,Yw] at aa;obtain⟨os,h1,aa⟩:=Za aa;have ak:∀ (r:Sl×Hp) (a' : Act) (w' : World),VO nt F A Γ0 (Zle Γ w st.hp I) w { sl:=r.1,hp:=r.2,nx:=st.nx+64*ops.size,m:=st.m } a' w'→Ju (VL ag) a a' →
     VO nt F A Γ0 I w { sl:=Uo r.1 (VL ag) st.sl,hp:=st.hp,nx:=st.nx+64*ops.toList.length,m:=st.m } a' w':=fun r a' w' hp hs=>by
    obtain⟨I',Γ',p1,p2,p3,p4,p5⟩:=hp;exact⟨I,Γ,hc,⟨fun b hb=>hb,fun b hb=>p2.blk b (.inl hb)⟩,fun b hb=>.inl hb,p4,hS.unpeek p2 p4 (by simpa using p5) hs (Zm9 (Nat.le_add_right _ _))⟩
   cases draw with
   | true=>
    simp only[Kl] at aa;split at aa
    ·rename_i ad;simp only[Option.some.injEq,ZC.region.injEq] at aa;obtain⟨rfl,rfl,ah⟩:=aa;simp only[ZgH] at ah;subst ah;simp only[Zt,ZbF] at hv;cases h2:Zc5 os (Wg ops os) (Vk C (Q3 M) st.nx 0 false os st.sl [(id,o)]) with
     | none=>rw[h2] at hv;cases hv
     | some r=>
      rw[h2] at hv;simp only[Zc,ZgC] at hv;cases hv;unfold Zc5 at h2;obtain⟨r',h3,h2⟩:=Za h2;split at h2
      ·rename_i ae;cases h2;exact hD F A Γ0 ops _ st.nx st.m st.sl [(id,o)] r (Zle Γ w st.hp I) Γ a w Q ao h1 ad h3 ae (hS.peek ho) hc (fun a' w' hp hs=>hQ a' w' (ak r a' w' hp hs))
      ·cases h2
    ·cases aa
   | false=>
    simp only[Ka,Kj,Option.some.injEq,ZC.region.injEq] at aa;obtain⟨rfl,rfl,rfl⟩:=aa;simp only[ZgH] at h1;simp only[Zt,ZbF] at hv;cases h2:J1 C M st.nx 0 ag st.sl [(id,o)] with
    | none=>rw[h2] at hv;cases hv
    | some r=>
     rw[h2] at hv;simp only[Zc,ZgC] at hv;cases hv;refine wp_region ?_;have:=ZgJ (F:=F) (A:=A) (Q:=Q) hC ag 0 (Nat.zero_le _) (by simpa using h1) h2 (by simpa using hS.peek ho) (fun a' w' hp hs=>hQ a' w' (ak r a' w' (by
      obtain⟨I',Γ',p1,p2,p3,p4,p5⟩:=hp;exact⟨I',Γ',XQ.cpre p1 hc,p2,p3,p4,p5⟩) hs))
     rw[List.range_eq_range'];simpa using this
  ·cases ai
 | keep K cx ih=>
  intro c st ab ex aa hv I Γ a w Q hS hc hm hQ;simp only[Zt] at hv;cases hx:Zt C M N cx st with
  | none=>rw[hx] at hv;cases hv
  | some q=>
   obtain⟨e1,st1⟩:=q;rw[hx] at hv;simp only[Zgx] at hv;cases hv;exact ih c aa hx hS hc hm fun a1 w1 hp=>hQ a1 w1 (hp.only K)
end
end Go.Abs

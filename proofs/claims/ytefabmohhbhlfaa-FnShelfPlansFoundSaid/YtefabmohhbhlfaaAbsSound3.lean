/- Own text. -/
import Derived.Test.YtefabmohhbhlfaaAbsSound2
set_option linter.unusedVariables false
set_option linter.unusedSimpArgs false
namespace Go.Abs
open Go
def exOf:Ex→Exit
 | .normal=>.normal
 | .exit id=>.exit id
 | .ret=>.ret
theorem Xc {p:Nat→Prop} (h:∃ n,p n):∃ n,p n∧∀ m,p m→n≤m:=by
 obtain⟨n,hn⟩:=h
 induction n using Nat.strongRecOn with
 | _ n ih=>
  by_cases hm:∃ m,m<n∧p m
  ·obtain⟨m,h1,h2⟩:=hm;exact ih m h1 h2
  ·exact⟨n,hn,fun m aa=>by
    rcases KZ m n with h | h
    ·exact absurd ⟨m,h,aa⟩ hm
    ·exact h⟩
open Classical in
noncomputable def Zgd (p:Nat→Prop):Nat:=if h:∃ n,p n then (Xc h).choose else 0
theorem ZdJ {p:Nat→Prop} (h:∃ n,p n):p (Zgd p)∧∀ m,p m→Zgd p≤m:=by
 unfold Zgd;rw[dif_pos h];exact(Xc h).choose_spec
theorem ZpR {P:Program} {c:Code} {Q:Exit→Act→World→Prop} (J:Nat→Act→World→Prop) (aa:∀ n a w,J n a w→c.wp P (Exit.then (fun a' w'=>∃ m,m<n∧J m a' w') Q) a w) {n:Nat} {a:Act} {w:World} (h0:J n a w) :
  (Code.loop c).wp P Q a w:=by
 refine wp_loop (fun a w=>∃ n,J n a w) (fun a w=>Zgd fun n=>J n a w) ⟨n,h0⟩ fun a w hI=>?_;refine wp_mono (aa _ a w (ZdJ hI).1) fun e a' w' he=>?_;cases e with
 | normal=>
  obtain⟨m,hm,hJ⟩:=he;exact⟨⟨m,hJ⟩,Nat.lt_of_le_of_lt ((ZdJ ⟨m,hJ⟩).2 m hJ) hm⟩
 | _=>exact he
section
variable {P:Program} {nt:Nat} {F A:Nat→Prop} {Γ0:Gh}
def Y5 (P:Program) (C:Orc) (M:Zg) (nt:Nat):Prop:=
 ∀ (F A:Nat→Prop) (Γ0:Gh) (ops:Array Oper) (os:List CO) (nx m:Nat) (sl:Sl) (hp:Hp) (r:Sl×Hp) (I:Nat→Prop) (Γ:Gh) (a:Act) (w:World) (Q:Exit→Act→World→Prop) (id:Nat),
  Qb (Zfq P nt ops.toList) ops.toList=some os→Zhm ops os=true→VJ C (Xa M) nx 0 false os sl hp=some r→Yy os r.1 (WF ops os)=true→Sim nt F A I Γ (Wf nx) sl hp a w→ZaH Γ0 Γ hp →
  (∀ a' w',Wg nt F A Γ0 I w { sl:=r.1,hp:=r.2,nx:=nx+64*ops.size,m:=m } a' w'→J3 (We os) a a'→Q .normal a' w')→(Code.region id ops true).wp P Q a w
theorem ZnL {C:Orc} {M:Zg} {N:Nat}:∀ (c:ZC) (st aa : St) (e:Ex),Zu C M N c st=some (e,aa)→aa.m=st.m:=by
 intro c
 induction c with
 | skip=>intro st aa e h;simp only[Zu] at h;cases h;rfl
 | region n d ops=>
  intro st aa e h;cases d<;>(simp only[Zu,Zcf] at h;obtain⟨r,_,h⟩:=Za h;cases h;rfl)
 | seq x y ihx ihy=>
  intro st aa e h;simp only[Zu] at h;cases hx:Zu C M N x st with
  | none=>rw[hx] at h;cases h
  | some q=>
   obtain⟨e1,st1⟩:=q;rw[hx] at h;have h1:=ihx _ _ _ hx;cases e1<;>simp only[andThen] at h
   ·rw[ihy _ _ _ h,h1]
   ·cases h;exact h1
   ·cases h;exact h1
 | cond c x y ihx ihy=>
  intro st aa e h;simp only[Zu] at h;unfold Zcw at h;split at h
  ·split at h
   ·exact ihx _ _ _ h
   ·exact ihy _ _ _ h
  ·cases h
 | block id c ih=>
  intro st aa e h;simp only[Zu] at h;cases hx:Zu C M N c st with
  | none=>rw[hx] at h;cases h
  | some q=>
   obtain⟨e1,st1⟩:=q;rw[hx] at h;have h1:=ih _ _ _ hx;unfold Zbr at h;split at h
   ·rename_i j ab hq;cases hq;split at h<;>(cases h;exact h1)
   ·cases h;exact h1
 | loop c ih=>
  intro st aa e h;simp only[Zu] at h;have ad:∀ (K:List Nat) (n:Nat) (st:St),Wv (Zu C M N c) K n st=some (e,aa)→aa.m=st.m:=by
   intro K n
   induction n with
   | zero=>intro st h;simp only[Wv] at h;cases h
   | succ n ihn=>
    intro st h;simp only[Wv] at h;cases hx:Zu C M N c (VK K st) with
    | none=>rw[hx] at h;cases h
    | some q=>
     obtain⟨e1,st1⟩:=q;rw[hx] at h;have h1:=ih _ _ _ hx;cases e1 with
     | normal=>simp only at h;rw[ihn _ h,h1];rfl
     | exit id=>simp only at h;cases h;exact h1
     | ret=>simp only at h;cases h;exact h1
  exact ad _ N st h
 | exit id=>intro st aa e h;simp only[Zu] at h;cases h;rfl
 | ret=>intro st aa e h;simp only[Zu] at h;cases h;rfl
 | stuck=>intro st aa e h;simp only[Zu] at h;cases h
 | link fl id i j c ih=>
  intro st aa e h;simp only[Zu] at h;obtain⟨st1,h1,h⟩:=Za h;cases hx:Zu C M N c st1 with
  | none=>rw[hx] at h;cases h
  | some q=>
   obtain⟨e1,ab⟩:=q;rw[hx] at h;simp only[Zhp] at h;cases h;have h2:=ih _ _ _ hx;unfold ZaD at h1;obtain⟨n,_,h1⟩:=Za h1;split at h1
   ·obtain⟨o,_,h1⟩:=Za h1;cases h1;exact h2
   ·cases h1
 | melt c ih=>
  intro st aa e h;simp only[Zu] at h;rw[ih _ _ _ h];rfl
 | peek id c ih=>
  intro st aa e h;simp only[Zu] at h;obtain⟨ds,_,h⟩:=Za h;obtain⟨st1,h1,h⟩:=Za h;unfold ZeD at h1;obtain⟨o,_,h1⟩:=Za h1;cases h1;cases hx:Zu C M N c { st with hp:=[(id,o)] } with
  | none=>rw[hx] at h;cases h
  | some q=>
   rw[hx] at h;cases h;have h2:=ih _ _ _ hx;exact h2
 | keep K c ih=>
  intro st aa e h;simp only[Zu] at h;cases hx:Zu C M N c st with
  | none=>rw[hx] at h;cases h
  | some q=>
   obtain⟨e1,st1⟩:=q;rw[hx] at h;simp only[Zhn] at h;cases h;show st1.m=st.m;exact ih _ _ _ hx
theorem Zr6 (K:List Nat) (sl:Sl) (t:Nat):gs (only K sl) t=if K.contains t then gs sl t else .junk:=by
 simp only[gs,ZdI];split<;>rfl
theorem Sim.only {I:Nat→Prop} {Γ:Gh} {U:Nat→Prop} {sl:Sl} {hp:Hp} {a:Act} {w:World} (h:Sim nt F A I Γ U sl hp a w) (K:List Nat):Sim nt F A I Γ U (only K sl) hp a w where
 nt:=h.nt
 dfr:=h.dfr
 slots:=fun t=>by
  rw[Zr6];split
  ·exact h.slots t
  ·exact trivial
 objs:=h.objs
 inj:=h.inj
 bound:=h.bound
 fresh:=h.fresh
 own:=h.own
 names:=h.names
 glob:=h.glob
theorem Wg.only {I:Nat→Prop} {w:World} {aa : St} {a' : Act} {w' : World} (h:Wg nt F A Γ0 I w aa a' w') (K:List Nat):Wg nt F A Γ0 I w { aa with sl:=only K aa.sl } a' w':=by
 obtain⟨I',Γ',h1,h2,h3,h4,h5⟩:=h;exact⟨I',Γ',h1,h2,h3,h4,h5.only K⟩
section
variable (P nt)
theorem Y6:∀ {c:Code} {cc:ZC},YN P nt c=some cc→match cc with
  | .skip=>c=.skip
  | .region n d os=>∃ id ops draw,c=.region id ops draw
  | .seq u v=>∃ x y,c=.seq x y∧YN P nt x=some u∧YN P nt y=some v
  | .cond co u v=>∃ o x y,c=.cond o x y∧ZJ o=some co∧YN P nt x=some u∧YN P nt y=some v
  | .block id u=>∃ x,c=.block id x∧YN P nt x=some u
  | .loop u=>∃ x,c=.loop x∧YN P nt x=some u
  | .exit id=>c=.exit id
  | .ret=>c=.ret
  | .keep _ _=>False
  | .link _ _ _ _ _=>False
  | .melt _=>False
  | .peek _ _=>False
  | .stuck=>True:=by
 intro c cc h;cases c<;>simp only[YN] at h
 case skip=>cases h;rfl
 case region id ops draw=>
  obtain⟨os,_,h⟩:=Za h;split at h
  ·split at h
   ·cases h;exact⟨_,_,_,rfl⟩
   ·cases h;trivial
  ·cases h;exact⟨_,_,_,rfl⟩
 case seq x y=>
  obtain⟨u,h1,h⟩:=Za h;obtain⟨v,h2,h⟩:=Za h;cases h;exact⟨x,y,rfl,h1,h2⟩
 case cond o x y=>
  obtain⟨co,h0,h⟩:=Za h;obtain⟨u,h1,h⟩:=Za h;obtain⟨v,h2,h⟩:=Za h;cases h;exact⟨o,x,y,rfl,h0,h1,h2⟩
 case block id x=>
  obtain⟨u,h1,h⟩:=Za h;cases h;exact⟨x,rfl,h1⟩
 case loop x=>
  obtain⟨u,h1,h⟩:=Za h;cases h;exact⟨x,rfl,h1⟩
 case exit id=>cases h;rfl
 case ret=>cases h;rfl
 all_goals (cases h;trivial)
end
theorem ZhB {l:List Value} {p:Nat} (v:Value) (hp:p<l.length):Zn l p [v]=l.set p v:=by
 refine Lj fun k=>?_;rw[Z5 _ _ _ _ (by simp;omega)];by_cases e:p=k
 ·subst e;rw[Ko (by simp),LD hp];simp
 ·rw[K8 e,Kn (by simp;omega)]
theorem Zfu {xs:List D} {n j:Nat} {ys:List D} (h:V8 xs n j=some ys):∃ x,xs[n]?=some x∧x.cells[j]?=some (.sl ys):=by
 obtain⟨x,h1,h2⟩:=Za h;refine⟨x,h1,?_⟩;split at h2
 ·rename_i aa hy;cases h2;exact hy
 ·cases h2
theorem ZqX {I:Nat→Prop} {Γ:Gh} {w:World} {fl:Bool} {ns:Nat} {ys:List D} {o:Zh} (ho:ZoE fl ns ys=some o) {B:List Nat} {a:Option Addr} {c nm:Nat} (hT:Z6 w ns B (.sl ys) (.slice a ys.length c)) (ae:B.Nodup) (hB:∀ b∈B,¬I b∧F b) (hg:Γ nm=some (.row a ys.length c ns)) :
  XF Γ w I F A nm o∧∀ b,Blk Γ w nm o b→b∈B:=by
 simp only[Z6] at hT;obtain⟨a',c',e,aa,hT⟩:=hT;cases e;unfold ZoE at ho;split at ho
 ·split at ho
  ·rename_i hf;cases ho;rcases hT with ⟨rfl,rfl⟩ | ⟨g,cur,e,Bs,rfl,h1,h2,h3,h4,h5,rfl,h6⟩
   ·exact⟨⟨_,_,_,hg,rfl,.inl ⟨by omega,rfl⟩⟩,fun b hb=>(hb.nil (by rw[hg];cases a<;>simp[Zp])).elim⟩
   ·refine⟨⟨_,_,_,hg,rfl,.inr ⟨g,0,cur,e,rfl,h1,h2,aa,h3,⟨by omega,fun _=>rfl⟩,h5,by simpa using (hB g (by simp)).1,(hB g (by simp)).2,Ze1 hf (h6.rep (S:=fun _=>True) fun _ _=>trivial)⟩⟩,fun b hb=>?_⟩;have:=hb.row;rw[hg] at this;simp[Zp,Ku h1] at this;simp[this]
  ·cases ho
 ·cases ho;rcases hT with ⟨rfl,rfl⟩ | ⟨g,cur,e,Bs,rfl,h1,h2,h3,h4,h5,rfl,h6⟩
  ·exact⟨⟨_,_,_,hg,⟨rfl,.inl ⟨by omega,rfl,rfl⟩⟩,trivial⟩,fun b hb=>(hb.nil (by rw[hg];cases a<;>simp[Zp])).elim⟩
  ·refine⟨⟨_,_,_,hg,⟨rfl,.inr ⟨g,cur,e,Bs,rfl,h1,h2,aa,h3,h4,h5,h6,ae,hB⟩⟩,trivial⟩,fun b hb=>?_⟩;have ab:Zp (Γ nm)=some g:=by rw[hg];simp[Zp,Ku h1]
   rcases hb with hb | ⟨g',B',ad,af,hb⟩ | hb
   ·rw[WD,ab] at hb;cases hb;simp
   ·rw[ab] at ad;cases ad;cases ZK.uniq h6 af;simp[hb]
   ·exact hb.elim
theorem Sim.link {I:Nat→Prop} {Γ:Gh} {st ae : St} {a:Act} {w:World} (h:Sim nt F A I Γ (Wf st.nx) st.sl st.hp a w) (hc:ZaH Γ0 Γ st.hp) {fl:Bool} {id:Nat} {i:Opd} {j:Nat} (hl:ZaD fl id i j st=some ae) :
  ∃ Γ',Sim nt F A I Γ' (Wf ae.nx) ae.sl ae.hp a w∧ZaH Γ0 Γ' ae.hp∧ae.m=st.m:=by
 unfold ZaD at hl;obtain⟨n,_,hl⟩:=Za hl;split at hl
 ·obtain⟨q,h1,hl⟩:=Za hl;cases hl;unfold ZoF at h1;split at h1
  ·rename_i sz ns xs ho;obtain⟨ys,h2,h1⟩:=Za h1;obtain⟨o,h3,h1⟩:=Za h1;obtain⟨a3,h4,h1⟩:=Za h1;cases h1;obtain⟨x,hx,af⟩:=Zfu h2;obtain⟨ad,m,c,hg,⟨hm,hd⟩,_⟩:=h.objs id _ ho;have hi:n.toNat<xs.length:=(Kc.1 hx).1;rcases hd with hd | ⟨g,cur,e,B,rfl,p1,p2,p3,p4,p5,p6,p7,p8,p9⟩
   ·omega
   ·obtain⟨vs,_,_,_,_,v1,_,v3,_⟩:=ZK.at p7 hx;cases x with
    | int _ _=>cases j<;>simp[D.cells] at af
    | bool _=>cases j<;>simp[D.cells] at af
    | str _=>cases j<;>simp[D.cells] at af
    | sl _=>simp only[QH] at v3
    | agg cs=>
     simp only[D.cells] at af;have ao:cs.length=sz:=by have:=v3.cells.length;simp only[D.cells] at this;omega
     have hj:j<sz:=by rw[← ao];exact(Kc.1 af).1
     have ax:n.toNat*sz+sz≤cur.size:=by
      rw[p5,← Nat.succ_mul];exact KC _ (by omega)
     obtain⟨ai,ap⟩:=Ld.1 p8;obtain⟨B',BM,vm,t1,t2,t3,t4⟩:=Zca (us:=[.slice none 0 0]) (ds:=[.sl []]) (Bq:=[]) (off:=j) p2 p7 hx ao (by simp;omega)
      (by simp only[ZV,Z6];exact⟨_,[],[],[],rfl,rfl,⟨none,0,rfl,Kh _,.inl ⟨rfl,rfl⟩⟩,rfl,rfl⟩) ai (by simp) ax
     have hM:(cs.drop j).take [Value.slice none 0 0].length=[.sl ys]:=by
      refine Lj fun k=>?_;cases k with
      | zero=>simp[KY,af]
      | succ k=>simp[KS]
     rw[hM] at t3;simp only[ZV] at t3;obtain⟨v,_,al,_,rfl,rfl,hv,rfl,rfl⟩:=t3;rw[Lf] at t2;have ag:=t4 0 v rfl;have aq:=hv;simp only[Z6] at aq;obtain⟨a',c',rfl,_,_⟩:=aq;have ar:Γ st.nx=none:=h.names st.nx (by simp[Wf]);have hk:=Yd (.row a' ys.length c' ns) ar;have ay:id≠st.nx:=fun e=>by subst e;rw[ar] at hg;cases hg
     simp only[ZdD,hx,Zc,Option.some.injEq] at h4;subst h4;have ab:∀ b,b∈B'∨b∈al→b∈B:=fun b hb=>by
      have:=t2 b;simp only[List.count_nil,LM] at this;rw[← KT];rcases hb with hb | hb<;>have:=KT.2 hb<;>omega
     have ah:∀ b,b∈B'→b∈al→False:=fun b hb az=>by
      have h1:=t2 b;have h2:=KT.2 hb;have h3:=KT.2 az;have h4:=LN.1 ap b;simp only[List.count_nil,LM] at h1;omega
     have au:∀ L:List Nat,(∀ b,List.count b L≤List.count b B)→L.Nodup:=fun L hL=>LN.2 fun b=>Lp (hL b) (LN.1 ap b);have aj:Zp (Γ id)=some g:=by rw[hg];simp[Zp,Ku p1]
     have am:(Zn cur.toList (n.toNat*sz+j) [Value.slice none 0 0]).toArray=cur.setIfInBounds (n.toNat*sz+j) (.slice none 0 0):=by
      rw[ZhB (l:=cur.toList) _ (by rw[KU];omega)];apply Array.ext';rw[L2]
     rw[am,← Zb3 p2] at t1;obtain⟨a0,a1⟩:=ZqX (Γ:=upd Γ st.nx (.row a' ys.length c' ns)) (I:=I) (F:=F) (A:=A) (nm:=st.nx) h3 hv (au _ fun b=>by have:=t2 b;simp only[List.count_nil,LM] at this;omega)
      (fun b hb=>p9 b (Kt _ (ab b (.inr hb)))) (Zw _ _ _)
     have an:∀ k o,lkp st.hp k=some o→upd Γ st.nx (.row a' ys.length c' ns) k=Γ k:=fun k o hl=>Qg _ _ fun e=>by
      subst e;exact absurd (h.id_in hl) (by simp[Wf])
     have av:∀ k o',lkp (ins (ins st.hp id (.tree sz ns (xs.set n.toNat (Yp (.agg cs) j [.sl []])) (some (some st.nx,n.toNat,j)))) st.nx o) k=some o' →
       (k=st.nx∧o'=o)∨(k=id∧o'=.tree sz ns (xs.set n.toNat (Yp (.agg cs) j [.sl []])) (some (some st.nx,n.toNat,j)))∨(k≠id∧lkp st.hp k=some o'):=by
      intro k o' hk;rw[ZW] at hk;split at hk
      ·rename_i e;cases hk;exact .inl ⟨e.symm,rfl⟩
      ·rw[ZW] at hk;split at hk
       ·rename_i e;cases hk;exact .inr (.inl ⟨e.symm,rfl⟩)
       ·rename_i e;exact .inr (.inr ⟨fun h=>e h.symm,hk⟩)
     have a2:∀ b,Blk (upd Γ st.nx (.row a' ys.length c' ns)) w id (.tree sz ns (xs.set n.toNat (Yp (.agg cs) j [.sl []])) (some (some st.nx,n.toNat,j))) b→b=g∨b∈B':=by
      rintro b (hb | ⟨g',B2,hg',hB2,hb⟩ | hb)
      ·rw[WD,an _ _ ho,aj] at hb;cases hb;exact .inl rfl
      ·rw[an _ _ ho,aj] at hg';cases hg';cases ZK.uniq t1 hB2;exact .inr hb
      ·exact hb.elim
     have ak:∀ b,b=g∨b∈B→Blk Γ w id (.tree sz ns xs none) b:=fun b hb=>hb.elim (fun e=>.inl (e ▸ aj)) fun hb=>.inr (.inl ⟨g,B,aj,p7,hb⟩);refine⟨upd Γ st.nx (.row a' ys.length c' ns),?_,fun k r hr=>hk _ _ (hc k r hr),rfl⟩;refine { nt:=h.nt,dfr:=h.dfr,slots:=fun t=>(h.slots t).mono hk (ZB.refl I w),objs:=?_,inj:=?_,bound:=h.bound,fresh:=h.fresh,own:=h.own,names:=?_,glob:=h.glob }
     ·intro k o' aa;rcases av k o' aa with ⟨rfl,rfl⟩ | ⟨rfl,rfl⟩ | ⟨_,aa⟩
      ·exact a0
      ·refine⟨_,m,c,hk _ _ hg,⟨by simp[hm],.inr ⟨g,cur,e,B',rfl,p1,p2,p3,p4,p5,p6,t1,Ld.2 ⟨fun hb=>ai (ab g (.inl hb)),au _ fun b=>by have:=t2 b;simp only[List.count_nil,LM] at this;omega⟩,fun b hb=>?_⟩⟩,?_⟩
       ·rcases Kf.1 hb with rfl | hb
        ·exact p9 _ (by simp)
        ·exact p9 b (Kt _ (ab b (.inl hb)))
       ·refine⟨by simpa using hi,hj,?_,fun k aa=>?_⟩
        ·have:(Zn cs j [D.sl []])[j]?=some (.sl []):=by rw[Z5 _ _ _ _ (by simp;omega),Ko (by simp)];simp
         simp only[V8,LD hi,Zc,Yp,D.cells,this]
        ·cases aa;exact⟨g,a',ys.length,c',rfl,Zw _ _ _,ag⟩
      ·exact(h.objs k o' aa).mono hk (ZB.refl I w) fun b _=>⟨rfl,fun h=>h⟩
     ·intro k k' o1 o2 b h1 h2 hb1 hb2;have aw:∀ k o',lkp (ins (ins st.hp id (.tree sz ns (xs.set n.toNat (Yp (.agg cs) j [.sl []])) (some (some st.nx,n.toNat,j)))) st.nx o) k=some o'→Blk (upd Γ st.nx (.row a' ys.length c' ns)) w k o' b →
        (k=st.nx∧b∈al)∨(k=id∧(b=g∨b∈B'))∨(k≠id∧∃ o0,lkp st.hp k=some o0∧Blk Γ w k o0 b):=by
       intro k o' aa hb;rcases av k o' aa with ⟨e1,e2⟩ | ⟨e1,e2⟩ | ⟨e1,e2⟩
       ·rw[e1,e2] at hb;exact .inl ⟨e1,a1 b hb⟩
       ·rw[e1,e2] at hb;exact .inr (.inl ⟨e1,a2 b hb⟩)
       ·exact .inr (.inr ⟨e1,o',e2,hb.back (h.objs k o' e2) (an k o' e2) fun _ _=>rfl⟩)
      rcases aw k o1 h1 hb1 with ⟨e1,g1⟩ | ⟨e1,g1⟩ | ⟨e1,o3,g1,g2⟩<;>rcases aw k' o2 h2 hb2 with ⟨e2,q1⟩ | ⟨e2,q1⟩ | ⟨e2,o4,q1,q2⟩
      ·rw[e1,e2]
      ·rcases q1 with rfl | q1
       ·exact(ai (ab _ (.inr g1))).elim
       ·exact(ah b q1 g1).elim
      ·exact(e2 (h.inj k' id o4 _ b q1 ho q2 (ak b (.inr (ab b (.inr g1)))))).elim
      ·rcases g1 with rfl | g1
       ·exact(ai (ab _ (.inr q1))).elim
       ·exact(ah b g1 q1).elim
      ·rw[e1,e2]
      ·exact(e2 (h.inj k' id o4 _ b q1 ho q2 (ak b (g1.imp (fun e=>e) fun hb=>ab b (.inl hb))))).elim
      ·exact(e1 (h.inj k id o3 _ b g1 ho g2 (ak b (.inr (ab b (.inr q1)))))).elim
      ·exact(e1 (h.inj k id o3 _ b g1 ho g2 (ak b (q1.imp (fun e=>e) fun hb=>ab b (.inl hb))))).elim
      ·exact h.inj k k' o3 o4 b g1 q1 g2 q2
     ·intro k aa;rw[Qg _ _ (fun e=>aa (by subst e;simp[Wf]))];exact h.names k (fun hu=>aa (by simp[Wf] at hu ⊢;omega))
  ·cases h1
 ·cases hl
theorem ZqY {I:Nat→Prop} {Γ:Gh} {w:World} {k nm:Nat} {o:Zh} {ys:List D} (hb:Zho k (some o)=some ys) (ho:XF Γ w I F A nm o):∃ a c B,Γ nm=some (.row a ys.length c k)∧Z6 w k B (.sl ys) (.slice a ys.length c)∧B.Nodup∧(∀ b∈B,¬I b∧F b)∧∀ b∈B,Blk Γ w nm o b:=by
 unfold Zho at hb;split at hb
 ·rename_i k' ab e;cases e;split at hb
  ·rename_i hc;obtain⟨rfl,hf⟩:=hc;cases hb;obtain⟨a,n,c,hg,rfl,h⟩:=ho;rcases h with ⟨h1,rfl⟩ | ⟨g,q0,cur,e,rfl,h1,h2,h3,h4,h5,h6,h7,h8,h9⟩
   ·exact⟨a,0,[],hg,by simp only[Z6];exact⟨a,0,rfl,by omega,.inl ⟨rfl,trivial⟩⟩,Lm,fun b hb=>by simp at hb,fun b hb=>by simp at hb⟩
   ·obtain⟨h5,h0⟩:=h5;obtain rfl:=h0 rfl;rw[Lo] at h5;refine⟨_,c,[g],hg,by simp only[Z6];exact⟨_,c,rfl,h3,.inr ⟨g,cur,e,[],rfl,h1,h2,h4,h5,h6,rfl,ZeQ hf h9⟩⟩,by simp,fun b hb=>?_,fun b hb=>?_⟩
    ·simp at hb;subst hb;exact⟨by simpa using h7,h8⟩
    ·simp at hb;subst hb;exact .inl (by rw[hg];simp[Zp,Ku h1])
  ·cases hb
 ·rename_i k' n ab e;cases e;split at hb
  ·rename_i hc;obtain⟨rfl,rfl⟩:=hc;cases hb;obtain⟨a,n,c,hg,⟨rfl,h⟩,_⟩:=ho;rcases h with ⟨h1,rfl,_⟩ | ⟨g,cur,e,B,rfl,h1,h2,h3,h4,h5,h6,h7,h8,h9⟩
   ·exact⟨a,0,[],hg,by simp only[Z6];exact⟨a,0,rfl,by omega,.inl ⟨rfl,trivial⟩⟩,Lm,fun b hb=>by simp at hb,fun b hb=>by simp at hb⟩
   ·have aa:Zp (Γ nm)=some g:=by rw[hg];simp[Zp,Ku h1]
    refine⟨_,c,g :: B,hg,by simp only[Z6];exact⟨_,c,rfl,h3,.inr ⟨g,cur,e,B,rfl,h1,h2,h4,h5,h6,rfl,h7⟩⟩,h8,h9,fun b hb=>?_⟩;rcases Kf.1 hb with rfl | hb
    ·exact .inl aa
    ·exact .inr (.inl ⟨g,B,aa,h7,hb⟩)
  ·cases hb
 ·cases hb
theorem Sim.shut {I:Nat→Prop} {Γ:Gh} {U:Nat→Prop} {sl:Sl} {hp:Hp} {a:Act} {w:World} (h:Sim nt F A I Γ U sl hp a w) (id nm:Nat):Sim nt F A I Γ U sl (ZpM hp (Zft hp id nm (lkp hp id))) a w:=by
 cases hs:Zft hp id nm (lkp hp id) with
 | none=>exact h
 | some hp' =>
  show Sim nt F A I Γ U sl hp' a w;unfold Zft at hs;split at hs
  ·rename_i sz k xs aa n j hl;split at hs
   ·rename_i e;subst e;obtain⟨ys,h1,hs⟩:=Za hs;obtain⟨ba,h2,hs⟩:=Za hs;cases hs;cases hn:lkp hp aa with
    | none=>rw[hn] at h1;cases h1
    | some o=>
     rw[hn] at h1;obtain⟨a',c',BM,az,hT,ar,al,af⟩:=ZqY h1 (h.objs aa o hn);obtain⟨ad,m,c,hg,⟨hm,hd⟩,hi,hj,a0,a1⟩:=h.objs id _ hl;obtain⟨g,a2,n2,c2,rfl,ag,ab⟩:=a1 aa rfl;rw[az] at ag;cases ag;rcases hd with ⟨_,_,hd⟩ | ⟨g',cur,e,B,ai,p1,p2,p3,p4,p5,p6,p7,p8,p9⟩
     ·cases hd
     ·cases ai;have am:id≠aa:=fun e=>by
       subst e;rw[hl] at hn;cases hn;simp[Zho] at h1
      obtain⟨x,hx,an⟩:=Zfu a0;simp only[X0] at p7;obtain⟨vs,_,_,_,_,v1,_,v3,_⟩:=ZK.at p7 hx;cases x with
      | int _ _=>cases j<;>simp[D.cells] at an
      | bool _=>cases j<;>simp[D.cells] at an
      | str _=>cases j<;>simp[D.cells] at an
      | sl _=>simp only[QH] at v3
      | agg cs=>
       have a3:cs.length=sz:=by have:=v3.cells.length;simp only[D.cells] at this;omega
       have a4:n*sz+sz≤cur.size:=by
        rw[p5,← Nat.succ_mul];exact KC _ (by omega)
       obtain⟨ao,au⟩:=Ld.1 p8;have aj:Zp (Γ id)=some g:=by rw[hg];simp[Zp,Ku p1]
       have ap:∀ b,b=g∨b∈B→Blk Γ w id (.tree sz k xs (some (some aa,n,j))) b:=fun b hb=>hb.elim (fun e=>.inl (e ▸ aj)) fun hb=>.inr (.inl ⟨g,B,aj,p7,hb⟩);have ah:∀ b,b=g∨b∈B→b∈BM→False:=fun b hb a5=>am (h.inj id aa _ o b hl hn (ap b hb) (af b a5));rw[Zb3 p2] at p7;have a6:=setRow_heap w g cur (cur.setIfInBounds (n*sz+j) (.slice none 0 0)) e (0,0) p2;obtain⟨B',_,_,t1,t2,_⟩:=Zca (us:=[.slice a' ys.length c']) (ds:=[.sl ys]) (Bq:=BM) (off:=j) a6 p7 hx a3 (by simp;omega)
        (by simp only[ZV];exact⟨_,[],BM,[],rfl,by simp,hT.mono fun b hb=>setRow_other w g b _ fun e=>ah b (.inl e) hb,rfl,rfl⟩) ao (fun hb=>ah g (.inl rfl) hb) (by simpa using a4)
       rw[setRow_setRow,L2,ZhN _ _ _ _ _ (by simp;omega),Ko (by simp),ZhB (l:=cur.toList) _ (by rw[KU];omega)] at t1;have ak:∀ b∈B',b∈B∨b∈BM:=fun b hb=>by
        have h1:=t2 b;have h2:=KT.2 hb;rcases Lq (List.count b B) with h3 | h3
        ·exact .inr (KT.1 (by omega))
        ·exact .inl (KT.1 h3)
       have av:cur.toList[n*sz+j]?=some (.slice a' ys.length c'):=by
        rw[cell_of_row _ _ _ _ _ _ p2] at ab;simpa using ab
       have aq:(cur.toList.set (n*sz+j) (.slice a' ys.length c')).toArray=cur:=by
        have:cur.toList.set (n*sz+j) (.slice a' ys.length c')=cur.toList:=by
         refine Lj fun q=>?_;by_cases e:n*sz+j=q
         ·subst e;rw[LD (Kc.1 av).1,av]
         ·rw[K8 e]
        rw[this]
       rw[aq] at t1;have t3:ZK w k B' g sz (xs.set n (.agg (Zn cs j [.sl ys]))) 0:=t1.mono ((setRow_heap w g cur cur e (0,0) p2).symm ▸ p2) fun b hb=>(setRow_other w g b cur fun e=>by
        rcases ak b hb with hb | hb
        ·exact ao (e ▸ hb)
        ·exact ah b (.inl e) hb).symm
       simp only[ZdD,hx,Zc,Option.some.injEq,Yp] at h2;subst h2;have aw:∀ q o',lkp (ins (del hp aa) id (.tree sz k (xs.set n (.agg (Zn cs j [.sl ys]))) none)) q=some o'→(q=id∧o'=.tree sz k (xs.set n (.agg (Zn cs j [.sl ys]))) none)∨(q≠id∧q≠aa∧lkp hp q=some o'):=by
        intro q o' hq;rw[ZW] at hq;split at hq
        ·rename_i e;cases hq;exact .inl ⟨e.symm,rfl⟩
        ·rename_i e;rw[ZaL] at hq;split at hq
         ·cases hq
         ·rename_i e';exact .inr ⟨fun h=>e h.symm,fun h=>e' h.symm,hq⟩
       refine { nt:=h.nt,dfr:=h.dfr,slots:=h.slots,objs:=?_,inj:=?_,bound:=h.bound,fresh:=h.fresh,own:=h.own,names:=h.names,glob:=h.glob }
       ·intro q o' hq;rcases aw q o' hq with ⟨rfl,rfl⟩ | ⟨_,_,hq⟩
        ·refine⟨_,m,c,hg,⟨by simp[hm],.inr ⟨g,cur,e,B',rfl,p1,p2,p3,p4,p5,p6,t3,Ld.2 ⟨fun hb=>(ak g hb).elim ao fun hb=>ah g (.inl rfl) hb,?_⟩,fun b hb=>?_⟩⟩,trivial⟩
         ·rw[LN] at au ar ⊢;intro b;have h1:=t2 b;have h2:=au b;have h3:=ar b;rcases Lq (List.count b B) with h4 | h4
          ·omega
          ·have:List.count b BM=0:=by
            rcases Lq (List.count b BM) with h5 | h5
            ·exact h5
            ·exact(ah b (.inr (KT.1 h4)) (KT.1 h5)).elim
           omega
         ·rcases Kf.1 hb with rfl | hb
          ·exact p9 _ (by simp)
          ·rcases ak b hb with hb | hb
           ·exact p9 b (by simp[hb])
           ·exact al b hb
        ·exact h.objs q o' hq
       ·intro q q' o1 o2 b h1 h2 hb1 hb2;have ax:∀ q o',lkp (ins (del hp aa) id (.tree sz k (xs.set n (.agg (Zn cs j [.sl ys]))) none)) q=some o'→Blk Γ w q o' b →
          (q=id∧(b=g∨b∈B∨b∈BM))∨(q≠id∧q≠aa∧∃ o0,lkp hp q=some o0∧Blk Γ w q o0 b):=by
         intro q o' hq hb;rcases aw q o' hq with ⟨e1,e2⟩ | ⟨e1,e2,e3⟩
         ·rw[e1,e2] at hb;refine .inl ⟨e1,?_⟩;rcases hb with hb | ⟨g',B2,ai,a7,hb⟩ | hb
          ·rw[WD,aj] at hb;cases hb;exact .inl rfl
          ·rw[aj] at ai;cases ai;cases ZK.uniq t3 a7;exact .inr (ak b hb)
          ·exact hb.elim
         ·exact .inr ⟨e1,e2,o',e3,hb⟩
        have ay:∀ q o0,q≠id→q≠aa→lkp hp q=some o0→Blk Γ w q o0 b→(b=g∨b∈B∨b∈BM)→False:=by
         intro q o0 n1 n2 hq hb ae;rcases ae with ae | ae | ae
         ·exact n1 (h.inj q id o0 _ b hq hl hb (ap b (.inl ae)))
         ·exact n1 (h.inj q id o0 _ b hq hl hb (ap b (.inr ae)))
         ·exact n2 (h.inj q aa o0 o b hq hn hb (af b ae))
        rcases ax q o1 h1 hb1 with ⟨e1,g1⟩ | ⟨e1,a8,o3,g1,g2⟩<;>rcases ax q' o2 h2 hb2 with ⟨e2,q1⟩ | ⟨e2,a9,o4,q1,q2⟩
        ·rw[e1,e2]
        ·exact(ay q' o4 e2 a9 q1 q2 g1).elim
        ·exact(ay q o3 e1 a8 g1 g2 q1).elim
        ·exact h.inj q q' o3 o4 b g1 q1 g2 q2
   ·cases hs
  ·cases hs
theorem Sim.melt {I:Nat→Prop} {Γ:Gh} {U:Nat→Prop} {sl:Sl} {hp:Hp} {a:Act} {w:World} (h:Sim nt F A I Γ U sl hp a w):Sim nt F A (ZoP Γ w hp I (Ug hp)) Γ U sl (Zee Zdp hp) a w:=
 (h.meltIn (Ug hp)).sub fun k o hk=>by
  rw[Zbw] at hk;rw[VD];cases hl:lkp hp k with
  | none=>rw[hl] at hk;cases hk
  | some o0=>
   have:(Ug hp).contains k=true:=by
    have aa:∀ (l:Hp),lkp l k=some o0→k∈Ug l:=by
     intro l
     induction l with
     | nil=>intro h;cases h
     | cons q r ih=>
      intro h;obtain⟨k',o'⟩:=q;simp only[lkp] at h;simp only[Ug,Kf];split at h
      ·rename_i e;exact .inl e.symm
      ·exact .inr (ih h)
    simpa using aa hp hl
   rw[hl] at hk;simp only[KW,Option.some.injEq] at hk ⊢;rw[this];exact hk
def Zmn (Γ:Gh) (w:World) (hp:Hp) (I:Nat→Prop) (b:Nat):Prop:=I b∨∃ k o,lkp hp k=some o∧Blk Γ w k o b
theorem Sim.peek {I:Nat→Prop} {Γ:Gh} {U:Nat→Prop} {sl:Sl} {hp:Hp} {a:Act} {w:World} (h:Sim nt F A I Γ U sl hp a w) {id:Nat} {o:Zh} (ho:Zhq (lkp hp id)=some o):Sim nt F A (Zmn Γ w hp I) Γ U sl [(id,o)] a w:=by
 have hk:ZB I (Zmn Γ w hp I) w w:=⟨fun b hb=>.inl hb,fun _ _=>rfl⟩
 have one:∀ k o',lkp [(id,o)] k=some o'→k=id∧o'=o:=fun k o' hl=>by
  simp only[lkp] at hl;split at hl
  ·rename_i e;cases hl;exact⟨e.symm,rfl⟩
  ·cases hl
 refine⟨h.nt,h.dfr,fun t=>(h.slots t).mono (fun _ _ h=>h) hk,fun k o' hl=>?_,fun i j o1 o2 b hi hj _ _=>?_,?_,h.fresh,h.own,h.names,h.glob.mono hk⟩
 ·obtain⟨rfl,rfl⟩:=one k o' hl;unfold Zhq at ho;split at ho
  ·rename_i s ns xs aa;cases ho;obtain⟨ad,m,c,hg,⟨hm,hd⟩,_⟩:=h.objs _ _ aa;refine⟨ad,m,c,hg,hm,?_⟩;rcases hd with ⟨h1,h2,_⟩ | ⟨g,cur,e,B,rfl,p1,p2,p3,p4,p5,p6,p7,p8,p9⟩
   ·exact .inl ⟨h1,h2⟩
   ·have ab:Zp (Γ k)=some g:=by rw[hg];simp[Zp,Ku p1]
    refine .inr ⟨g,0,cur,e,rfl,p1,p2,p3,p4,⟨by omega,fun h=>by cases h⟩,p6,?_,(p9 g (by simp)).2,?_⟩
    ·simp only[Kk];exact .inr ⟨k,_,aa,.inl (by rw[WD,ab])⟩
    ·simp only[Ka,Ki];exact ZK.rep p7 fun b hb=>.inr ⟨k,_,aa,.inr (.inl ⟨g,B,ab,p7,hb⟩)⟩
  ·cases ho
 ·rw[(one i o1 hi).1,(one j o2 hj).1]
 ·rintro b (hb | ⟨k,o',hl,hb⟩)
  ·exact h.bound b hb
  ·exact h.blk_lt hl hb
theorem ZjR (aa:Sl):∀ (ds:List Nat) (sl:Sl) (t:Nat),gs (UX aa ds sl) t=if ds.contains t then ZaE (gs aa t) else gs sl t
 | [],sl,t=>by simp[UX]
 | d :: r,sl,t=>by
  rw[UX,ZjR aa r];by_cases h:r.contains t=true
  ·rw[Ko h,Ko (by simp only[List.contains_cons,h,Bool.or_true])]
  ·rw[Kn h];by_cases hd:d=t
   ·subst hd;rw[Ko (by simp)];simp[gs,ZW,UD]
   ·rw[Kn (by simp only[List.contains_cons,Lg,not_or,beq_iff_eq];exact⟨fun e=>hd e.symm,h⟩)];simp[gs,ZW,hd]
theorem Zmo {Γ Γ' : Gh} {w w' : World} {I I' : Nat→Prop} {x:AV} {v:Value} (h:Rep Γ w I x v):Rep Γ' w' I' (ZaE x) v:=by
 unfold ZaE;split
 ·exact QE.2 (by have:=QE.1 h;simpa [QZ,ZH] using this)
 ·exact QE.2 (by have:=QE.1 h;simpa [QZ,ZH] using this)
 ·exact trivial
theorem Sim.unpeek {I I2:Nat→Prop} {Γ Γ2:Gh} {U U2:Nat→Prop} {sl ab:Sl} {hp ad:Hp} {a a2:Act} {w w2:World} {ds:List Nat} (h:Sim nt F A I Γ U sl hp a w) (hk:ZB (Zmn Γ w hp I) I2 w w2) (hf:Fr F w w2)
  (h2:Sim nt F A I2 Γ2 U2 ab ad a2 w2) (hs:J3 ds a a2) (hU:∀ id,U id→U2 id):Sim nt F A I Γ U2 (UX ab ds sl) hp a2 w2:=by
 have aa:ZB I I w w2:=⟨fun b hb=>hb,fun b hb=>hk.blk b (.inl hb)⟩
 have hb:∀ k o,lkp hp k=some o→∀ b,Blk Γ w k o b→w2.heap[b]?=w.heap[b]?:=fun k o hl b hb=>hk.blk b (.inr ⟨k,o,hl,hb⟩);refine⟨h2.nt,h2.dfr,fun t=>?_,fun k o hl=>(h.objs k o hl).mono (fun _ _ h=>h) aa fun b ae=>⟨hb k o hl b ae,fun h=>h⟩,fun i j o1 o2 b hi hj h1 h3=>?_,fun b hb=>Kac (h.bound b hb) hf.size,h2.fresh,h.own,fun id af=>h.names id fun hu=>af (hU id hu),h.glob.mono aa⟩
 ·rw[ZjR];split
  ·exact Zmo (h2.slots t)
  ·rename_i ht;rw[hs t (by simpa using ht)];exact(h.slots t).mono (fun _ _ h=>h) aa
 ·exact h.inj i j o1 o2 b hi hj ((h1.back (h.objs i o1 hi) rfl (hb i o1 hi))) ((h3.back (h.objs j o2 hj) rfl (hb j o2 hj)))
theorem ZaJ {C:Orc} {M:Zg} (hC:Qh P C) (hD:Y5 P C M nt) {N:Nat}:∀ (cc:ZC) (c:Code) {st ab : St} {ex:Ex},YN P nt c=some (Xb cc)→Zu C M N cc st=some (ex,ab) →
  ∀ {I:Nat→Prop} {Γ:Gh} {a:Act} {w:World} {Q:Exit→Act→World→Prop},Sim nt F A I Γ (Wf st.nx) st.sl st.hp a w→ZaH Γ0 Γ st.hp→Zhy Γ0 st.m →
  (∀ a' w',Wg nt F A Γ0 I w ab a' w'→Q (exOf ex) a' w')→c.wp P Q a w:=by
 intro cc
 induction cc with
 | skip=>
  intro c st ab ex aa hv I Γ a w Q hS hc hm hQ;obtain rfl:=Y6 P nt aa;simp only[Zu] at hv;cases hv;exact wp_skip (hQ _ _ (Wg.refl hS hc))
 | region n d ag=>
  intro c st ab ex aa hv I Γ a w Q hS hc hm hQ;obtain⟨id,ops,draw,rfl⟩:=Y6 P nt aa;simp only[Xb,YN] at aa;obtain⟨os,h1,aa⟩:=Za aa;cases draw with
  | false=>
   simp only[Ka,Ki,Option.some.injEq,ZC.region.injEq] at aa;obtain⟨rfl,rfl,rfl⟩:=aa;simp only[Zhx] at h1;simp only[Zu,Zcf] at hv;obtain⟨r,h2,hv⟩:=Za hv;cases hv;refine wp_region ?_;have:=Zhz (F:=F) (A:=A) (Q:=Q) hC ag 0 (Nat.zero_le _) (by simpa using h1) h2 (by simpa using hS) (fun a' w' hp _=>hQ a' w' (by
    obtain⟨I',Γ',p1,p2,p3,p4,p5⟩:=hp;exact⟨I',Γ',X9.cpre p1 hc,p2,p3,p4,by simpa using p5⟩))
   rw[List.range_eq_range'];simpa using this
  | true=>
   simp only[Kk] at aa;split at aa
   ·rename_i ad;simp only[Option.some.injEq,ZC.region.injEq] at aa;obtain⟨rfl,rfl,ah⟩:=aa;simp only[Zhx] at ah;subst ah;simp only[Zu,Zcf] at hv;obtain⟨r,h2,hv⟩:=Za hv;cases hv;unfold ZdC at h2;obtain⟨r',h3,h2⟩:=Za h2;split at h2
    ·rename_i ae;cases h2;exact hD F A Γ0 ops _ st.nx st.m st.sl st.hp r I Γ a w Q id h1 ad h3 ae hS hc (fun a' w' hp _=>hQ a' w' (by simpa using hp))
    ·cases h2
   ·cases aa
 | seq cx cy ihx ihy=>
  intro c st ab ex aa hv I Γ a w Q hS hc hm hQ;obtain⟨x,y,rfl,h1,h2⟩:=Y6 P nt aa;simp only[Zu] at hv;cases hx:Zu C M N cx st with
  | none=>rw[hx] at hv;cases hv
  | some q=>
   obtain⟨e1,st1⟩:=q;rw[hx] at hv;refine wp_seq (ihx x h1 hx hS hc hm fun a1 w1 hp=>?_);have al:=ZnL _ _ _ _ hx;cases e1 with
   | normal=>
    simp only[andThen] at hv;obtain⟨I1,Γ1,b1,b2,b3,b4,b5⟩:=hp;exact ihy y h2 hv b5 b1 (by rw[al];exact hm) fun a2 w2 am=>hQ a2 w2 (am.step b2 b3 b4)
   | exit id=>simp only[andThen] at hv;cases hv;exact hQ a1 w1 hp
   | ret=>simp only[andThen] at hv;cases hv;exact hQ a1 w1 hp
 | cond co cx cy ihx ihy=>
  intro c st ab ex aa hv I Γ a w Q hS hc hm hQ;obtain⟨o,x,y,rfl,h0,h1,h2⟩:=Y6 P nt aa;simp only[Zu] at hv;have hr:=hS.slOK.ev h0;unfold Zcw at hv;split at hv
  ·rename_i t ht;rw[ht] at hr;have hb:=JY hr;cases t with
   | true=>simp only[Kk] at hv;exact wp_cond_true hb (ihx x h1 hv hS hc hm hQ)
   | false=>simp only[Ka,Ki] at hv;exact wp_cond_false hb (ihy y h2 hv hS hc hm hQ)
  ·cases hv
 | block id cx ih=>
  intro c st ab ex aa hv I Γ a w Q hS hc hm hQ;obtain⟨x,rfl,h1⟩:=Y6 P nt aa;simp only[Zu] at hv;cases hx:Zu C M N cx st with
  | none=>rw[hx] at hv;cases hv
  | some q=>
   obtain⟨e1,st1⟩:=q;rw[hx] at hv;refine wp_block (ih x h1 hx hS hc hm fun a1 w1 hp=>?_);cases e1 with
   | normal=>simp only[Zbr] at hv;cases hv;exact hQ a1 w1 hp
   | exit j=>
    simp only[Zbr] at hv;simp only[exOf,Exit.inBlock];split at hv
    ·rename_i hj;cases hv;rw[Ko hj];exact hQ a1 w1 hp
    ·rename_i hj;cases hv;rw[Kn hj];exact hQ a1 w1 hp
   | ret=>simp only[Zbr] at hv;cases hv;exact hQ a1 w1 hp
 | loop cx ih=>
  intro c st ab ex aa hv I Γ a w Q hS hc hm hQ;obtain⟨x,rfl,h1⟩:=Y6 P nt aa;simp only[Zu] at hv;generalize Ug st.sl=K at hv;refine ZpR (fun n a1 w1=>∃ st1 I1 Γ1,Wv (Zu C M N cx) K n st1=some (ex,ab)∧st1.m=st.m∧Sim nt F A I1 Γ1 (Wf st1.nx) st1.sl st1.hp a1 w1∧ZaH Γ0 Γ1 st1.hp∧ZB I I1 w w1∧(∀ b,I1 b→I b∨F b)∧Fr F w w1)
   ?_ (n:=N) ⟨st,I,Γ,hv,rfl,hS,hc,ZB.refl I w,fun _ h=>.inl h,Fr.refl F w⟩
  rintro n a1 w1 ⟨st1,I1,Γ1,j1,j2,j3,j4,j5,j6,j7⟩
  cases n with
  | zero=>simp only[Wv] at j1;cases j1
  | succ n=>
   simp only[Wv] at j1;obtain⟨Γ2,k1,k2⟩:=ZpQ j3 j4 (by rw[j2];exact hm) K;cases hx:Zu C M N cx (VK K st1) with
   | none=>rw[hx] at j1;cases j1
   | some q=>
    obtain⟨e1,aj⟩:=q;rw[hx] at j1;have an:aj.m=st1.m:=(ZnL _ _ _ _ hx).trans rfl;refine ih x h1 hx k1 k2 (by show Zhy Γ0 st1.m;rw[j2];exact hm) fun a2 w2 hp=>?_;obtain⟨I3,Γ3,b1,b2,b3,b4,b5⟩:=hp;have af:∀ b,I3 b→I b∨F b:=fun b hb=>by
     rcases b3 b hb with h | h
     ·exact j6 b h
     ·exact .inr h
    cases e1 with
    | normal=>exact⟨n,Nat.lt_succ_self n,aj,I3,Γ3,j1,by rw[an,j2],b5,b1,j5.trans b2,af,j7.trans b4⟩
    | exit id=>
     simp only at j1;cases j1;exact hQ a2 w2 ⟨I3,Γ3,b1,j5.trans b2,af,j7.trans b4,b5⟩
    | ret=>
     simp only at j1;cases j1;exact hQ a2 w2 ⟨I3,Γ3,b1,j5.trans b2,af,j7.trans b4,b5⟩
 | exit id=>
  intro c st ab ex aa hv I Γ a w Q hS hc hm hQ;obtain rfl:=Y6 P nt aa;simp only[Zu] at hv;cases hv;exact wp_exit (hQ _ _ (Wg.refl hS hc))
 | ret=>
  intro c st ab ex aa hv I Γ a w Q hS hc hm hQ;obtain rfl:=Y6 P nt aa;simp only[Zu] at hv;cases hv;exact wp_ret (hQ _ _ (Wg.refl hS hc))
 | stuck=>
  intro c st ab ex aa hv I Γ a w Q hS hc hm hQ;simp only[Zu] at hv;cases hv
 | link fl id i j cx ih=>
  intro c st ab ex aa hv I Γ a w Q hS hc hm hQ;simp only[Zu] at hv;obtain⟨st1,h1,hv⟩:=Za hv;obtain⟨Γ1,k1,k2,k3⟩:=hS.link hc h1;cases hx:Zu C M N cx st1 with
  | none=>rw[hx] at hv;cases hv
  | some q=>
   obtain⟨e1,aj⟩:=q;rw[hx] at hv;simp only[Zhp] at hv;cases hv;refine ih c aa hx k1 k2 (by rw[k3];exact hm) fun a1 w1 hp=>hQ a1 w1 ?_;obtain⟨I',Γ',b1,b2,b3,b4,b5⟩:=hp;exact⟨I',Γ',b1,b2,b3,b4,b5.shut id st.nx⟩
 | melt cx ih=>
  intro c st ab ex aa hv I Γ a w Q hS hc hm hQ;simp only[Zu] at hv;refine ih c aa hv hS.melt hc hm fun a1 w1 hp=>hQ a1 w1 (hp.step ⟨fun b hb=>.inl hb,fun _ _=>rfl⟩ ?_ (Fr.refl F w))
  rintro b (hb | ⟨id,_,o,hl,_,hi⟩)
  ·exact .inl hb
  ·exact .inr (ZdK (hS.objs id o hl) (.inr (.inl hi)))
 | peek id cx ih=>
  intro c st ab ex aa hv I Γ a w Q hS hc hm hQ;simp only[Zu] at hv;obtain⟨ds,ai,hv⟩:=Za hv;obtain⟨st1,h1,hv⟩:=Za hv;unfold ZeD at h1;obtain⟨o,ho,h1⟩:=Za h1;cases h1;unfold Zmg at ai;split at ai
  ·rename_i ag _ _;cases ai;obtain⟨ao,ops,draw,rfl⟩:=Y6 P nt aa;simp only[Xb,YN] at aa;obtain⟨os,h1,aa⟩:=Za aa;have ak:∀ (r:Sl×Hp) (a' : Act) (w' : World),Wg nt F A Γ0 (Zmn Γ w st.hp I) w { sl:=r.1,hp:=r.2,nx:=st.nx+64*ops.size,m:=st.m } a' w'→J3 (We ag) a a' →
     Wg nt F A Γ0 I w { sl:=UX r.1 (We ag) st.sl,hp:=st.hp,nx:=st.nx+64*ops.toList.length,m:=st.m } a' w':=fun r a' w' hp hs=>by
    obtain⟨I',Γ',p1,p2,p3,p4,p5⟩:=hp;exact⟨I,Γ,hc,⟨fun b hb=>hb,fun b hb=>p2.blk b (.inl hb)⟩,fun b hb=>.inl hb,p4,hS.unpeek p2 p4 (by simpa using p5) hs (ZoI (Nat.le_add_right _ _))⟩
   cases draw with
   | true=>
    simp only[Kk] at aa;split at aa
    ·rename_i ad;simp only[Option.some.injEq,ZC.region.injEq] at aa;obtain⟨rfl,rfl,ah⟩:=aa;simp only[Zhx] at ah;subst ah;simp only[Zu,Zcf] at hv;cases h2:ZdC os (WF ops os) (VJ C (Xa M) st.nx 0 false os st.sl [(id,o)]) with
     | none=>rw[h2] at hv;cases hv
     | some r=>
      rw[h2] at hv;simp only[Zc,Zhs] at hv;cases hv;unfold ZdC at h2;obtain⟨r',h3,h2⟩:=Za h2;split at h2
      ·rename_i ae;cases h2;exact hD F A Γ0 ops _ st.nx st.m st.sl [(id,o)] r (Zmn Γ w st.hp I) Γ a w Q ao h1 ad h3 ae (hS.peek ho) hc (fun a' w' hp hs=>hQ a' w' (ak r a' w' hp hs))
      ·cases h2
    ·cases aa
   | false=>
    simp only[Ka,Ki,Option.some.injEq,ZC.region.injEq] at aa;obtain⟨rfl,rfl,rfl⟩:=aa;simp only[Zhx] at h1;simp only[Zu,Zcf] at hv;cases h2:ZaB C M st.nx 0 ag st.sl [(id,o)] with
    | none=>rw[h2] at hv;cases hv
    | some r=>
     rw[h2] at hv;simp only[Zc,Zhs] at hv;cases hv;refine wp_region ?_;have:=Zhz (F:=F) (A:=A) (Q:=Q) hC ag 0 (Nat.zero_le _) (by simpa using h1) h2 (by simpa using hS.peek ho) (fun a' w' hp hs=>hQ a' w' (ak r a' w' (by
      obtain⟨I',Γ',p1,p2,p3,p4,p5⟩:=hp;exact⟨I',Γ',X9.cpre p1 hc,p2,p3,p4,p5⟩) hs))
     rw[List.range_eq_range'];simpa using this
  ·cases ai
 | keep K cx ih=>
  intro c st ab ex aa hv I Γ a w Q hS hc hm hQ;simp only[Zu] at hv;cases hx:Zu C M N cx st with
  | none=>rw[hx] at hv;cases hv
  | some q=>
   obtain⟨e1,st1⟩:=q;rw[hx] at hv;simp only[Zhn] at hv;cases hv;exact ih c aa hx hS hc hm fun a1 w1 hp=>hQ a1 w1 (hp.only K)
end
end Go.Abs

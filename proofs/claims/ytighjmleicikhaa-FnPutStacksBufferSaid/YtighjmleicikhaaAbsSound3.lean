/- Own text. -/
import Derived.Test.YtighjmleicikhaaAbsSound2
set_option linter.unusedVariables false
set_option linter.unusedSimpArgs false
namespace Go.Abs
open Go
def exOf:Ex→Exit
 | .normal=>.normal
 | .exit id=>.exit id
 | .ret=>.ret
theorem QQ {p:Nat→Prop} (h:∃ n,p n):∃ n,p n∧∀ m,p m→n≤m:=by
 obtain⟨n,hn⟩:=h
 induction n using Nat.strongRecOn with
 | _ n ih=>
  by_cases hm:∃ m,m<n∧p m
  ·obtain⟨m,h1,h2⟩:=hm;exact ih m h1 h2
  ·exact⟨n,hn,fun m aa=>by
    rcases KN m n with h | h
    ·exact absurd ⟨m,h,aa⟩ hm
    ·exact h⟩
open Classical in
noncomputable def ZdO (p:Nat→Prop):Nat:=if h:∃ n,p n then (QQ h).choose else 0
theorem ZbX {p:Nat→Prop} (h:∃ n,p n):p (ZdO p)∧∀ m,p m→ZdO p≤m:=by
 unfold ZdO;rw[dif_pos h];exact(QQ h).choose_spec
theorem ZlX {P:Program} {c:Code} {Q:Exit→Act→World→Prop} (J:Nat→Act→World→Prop) (aa:∀ n a w,J n a w→c.wp P (Exit.then (fun a' w'=>∃ m,m<n∧J m a' w') Q) a w) {n:Nat} {a:Act} {w:World} (h0:J n a w) :
  (Code.loop c).wp P Q a w:=by
 refine wp_loop (fun a w=>∃ n,J n a w) (fun a w=>ZdO fun n=>J n a w) ⟨n,h0⟩ fun a w hI=>?_;refine wp_mono (aa _ a w (ZbX hI).1) fun e a' w' he=>?_;cases e with
 | normal=>
  obtain⟨m,hm,hJ⟩:=he;exact⟨⟨m,hJ⟩,Nat.lt_of_le_of_lt ((ZbX ⟨m,hJ⟩).2 m hJ) hm⟩
 | _=>exact he
section
variable {P:Program} {nt:Nat} {F A:Nat→Prop} {Γ0:Gh}
def Yb (P:Program) (C:Orc) (M:Zf) (nt:Nat):Prop:=
 ∀ (F A:Nat→Prop) (Γ0:Gh) (ops:Array Oper) (os:List CO) (nx m:Nat) (sl:Sl) (hp:Hp) (r:Sl×Hp) (I:Nat→Prop) (Γ:Gh) (a:Act) (w:World) (Q:Exit→Act→World→Prop) (id:Nat),
  ZY (Zdi P nt ops.toList) ops.toList=some os→ZeV ops os=true→Vf C (Q8 M) nx 0 false os sl hp=some r→Yy os r.1 (Ww ops os)=true→Sim nt F A I Γ (Vc nx) sl hp a w→Uw Γ0 Γ hp →
  (∀ a' w',Vh nt F A Γ0 I w { sl:=r.1,hp:=r.2,nx:=nx+64*ops.size,m:=m } a' w'→Q .normal a' w')→(Code.region id ops true).wp P Q a w
theorem Zj3 {C:Orc} {M:Zf} {N:Nat}:∀ (c:Zy) (st aa : St) (e:Ex),Zr C M N c st=some (e,aa)→aa.m=st.m:=by
 intro c
 induction c with
 | skip=>intro st aa e h;simp only[Zr] at h;cases h;rfl
 | region n d ops=>
  intro st aa e h;cases d<;>(simp only[Zr,Zdx] at h;obtain⟨r,_,h⟩:=Za h;cases h;rfl)
 | seq x y ihx ihy=>
  intro st aa e h;simp only[Zr] at h;cases hx:Zr C M N x st with
  | none=>rw[hx] at h;cases h
  | some q=>
   obtain⟨e1,st1⟩:=q;rw[hx] at h;have h1:=ihx _ _ _ hx;cases e1<;>simp only[andThen] at h
   ·rw[ihy _ _ _ h,h1]
   ·cases h;exact h1
   ·cases h;exact h1
 | cond c x y ihx ihy=>
  intro st aa e h;simp only[Zr] at h;unfold ZaM at h;split at h
  ·split at h
   ·exact ihx _ _ _ h
   ·exact ihy _ _ _ h
  ·cases h
 | block id c ih=>
  intro st aa e h;simp only[Zr] at h;cases hx:Zr C M N c st with
  | none=>rw[hx] at h;cases h
  | some q=>
   obtain⟨e1,st1⟩:=q;rw[hx] at h;have h1:=ih _ _ _ hx;unfold JJ at h;split at h
   ·rename_i j st2 hq;cases hq;split at h<;>(cases h;exact h1)
   ·cases h;exact h1
 | loop c ih=>
  intro st aa e h;simp only[Zr] at h;have ab:∀ (K:List Nat) (n:Nat) (st:St),Vg (Zr C M N c) K n st=some (e,aa)→aa.m=st.m:=by
   intro K n
   induction n with
   | zero=>intro st h;simp only[Vg] at h;cases h
   | succ n ihn=>
    intro st h;simp only[Vg] at h;cases hx:Zr C M N c (YI K st) with
    | none=>rw[hx] at h;cases h
    | some q=>
     obtain⟨e1,st1⟩:=q;rw[hx] at h;have h1:=ih _ _ _ hx;cases e1 with
     | normal=>simp only at h;rw[ihn _ h,h1];rfl
     | exit id=>simp only at h;cases h;exact h1
     | ret=>simp only at h;cases h;exact h1
  exact ab _ N st h
 | exit id=>intro st aa e h;simp only[Zr] at h;cases h;rfl
 | ret=>intro st aa e h;simp only[Zr] at h;cases h;rfl
 | stuck=>intro st aa e h;simp only[Zr] at h;cases h
 | link fl id i j c ih=>
  intro st aa e h;simp only[Zr] at h;obtain⟨st1,h1,h⟩:=Za h;cases hx:Zr C M N c st1 with
  | none=>rw[hx] at h;cases h
  | some q=>
   obtain⟨e1,st2⟩:=q;rw[hx] at h;simp only[ZeY] at h;cases h;have h2:=ih _ _ _ hx;unfold U1 at h1;obtain⟨n,_,h1⟩:=Za h1;split at h1
   ·obtain⟨o,_,h1⟩:=Za h1;cases h1;exact h2
   ·cases h1
 | melt c ih=>
  intro st aa e h;simp only[Zr] at h;rw[ih _ _ _ h];rfl
 | keep K c ih=>
  intro st aa e h;simp only[Zr] at h;cases hx:Zr C M N c st with
  | none=>rw[hx] at h;cases h
  | some q=>
   obtain⟨e1,st1⟩:=q;rw[hx] at h;simp only[ZeW] at h;cases h;show st1.m=st.m;exact ih _ _ _ hx
theorem ZnZ (K:List Nat) (sl:Sl) (t:Nat):gs (only K sl) t=if K.contains t then gs sl t else .junk:=by
 simp only[gs,ZbW];split<;>rfl
theorem Sim.only {I:Nat→Prop} {Γ:Gh} {U:Nat→Prop} {sl:Sl} {hp:Hp} {a:Act} {w:World} (h:Sim nt F A I Γ U sl hp a w) (K:List Nat):Sim nt F A I Γ U (only K sl) hp a w where
 nt:=h.nt
 dfr:=h.dfr
 slots:=fun t=>by
  rw[ZnZ];split
  ·exact h.slots t
  ·exact trivial
 objs:=h.objs
 inj:=h.inj
 bound:=h.bound
 fresh:=h.fresh
 own:=h.own
 names:=h.names
 glob:=h.glob
theorem Vh.only {I:Nat→Prop} {w:World} {aa : St} {a' : Act} {w' : World} (h:Vh nt F A Γ0 I w aa a' w') (K:List Nat):Vh nt F A Γ0 I w { aa with sl:=only K aa.sl } a' w':=by
 obtain⟨I',Γ',h1,h2,h3,h4,h5⟩:=h;exact⟨I',Γ',h1,h2,h3,h4,h5.only K⟩
section
variable (P nt)
theorem YJ:∀ {c:Code} {cc:Zy},Yh P nt c=some cc→match cc with
  | .skip=>c=.skip
  | .region n d os=>∃ id ops draw,c=.region id ops draw
  | .seq u v=>∃ x y,c=.seq x y∧Yh P nt x=some u∧Yh P nt y=some v
  | .cond co u v=>∃ o x y,c=.cond o x y∧ZA o=some co∧Yh P nt x=some u∧Yh P nt y=some v
  | .block id u=>∃ x,c=.block id x∧Yh P nt x=some u
  | .loop u=>∃ x,c=.loop x∧Yh P nt x=some u
  | .exit id=>c=.exit id
  | .ret=>c=.ret
  | .keep _ _=>False
  | .link _ _ _ _ _=>False
  | .melt _=>False
  | .stuck=>True:=by
 intro c cc h;cases c<;>simp only[Yh] at h
 case skip=>cases h;rfl
 case region id ops draw=>
  obtain⟨os,_,h⟩:=Za h;split at h
  ·split at h
   ·cases h;exact⟨_,_,_,rfl⟩
   ·cases h;trivial
  ·cases h;exact⟨_,_,_,rfl⟩
 case seq x y=>
  obtain⟨u,h1,h⟩:=Za h;obtain⟨v,h2,h⟩:=Za h;cases h;exact⟨x,y,rfl,h1,h2⟩
 case cond o x y=>
  obtain⟨co,h0,h⟩:=Za h;obtain⟨u,h1,h⟩:=Za h;obtain⟨v,h2,h⟩:=Za h;cases h;exact⟨o,x,y,rfl,h0,h1,h2⟩
 case block id x=>
  obtain⟨u,h1,h⟩:=Za h;cases h;exact⟨x,rfl,h1⟩
 case loop x=>
  obtain⟨u,h1,h⟩:=Za h;cases h;exact⟨x,rfl,h1⟩
 case exit id=>cases h;rfl
 case ret=>cases h;rfl
 all_goals (cases h;trivial)
end
theorem Ze4 {l:List Value} {p:Nat} (v:Value) (hp:p<l.length):Zi l p [v]=l.set p v:=by
 refine Ld fun k=>?_;rw[ZS _ _ _ _ (by simp;omega)];by_cases e:p=k
 ·subst e;rw[Kw (by simp),Lu hp];simp
 ·rw[KI e,Kn (by simp;omega)]
theorem Zdm {xs:List D} {n j:Nat} {ys:List D} (h:Y0 xs n j=some ys):∃ x,xs[n]?=some x∧x.cells[j]?=some (.sl ys):=by
 obtain⟨x,h1,h2⟩:=Za h;refine⟨x,h1,?_⟩;split at h2
 ·rename_i aa hy;cases h2;exact hy
 ·cases h2
theorem Zm3 {I:Nat→Prop} {Γ:Gh} {w:World} {fl:Bool} {ns:Nat} {ys:List D} {o:Zg} (ho:ZkK fl ns ys=some o) {B:List Nat} {a:Option Addr} {c nm:Nat} (hT:ZT w ns B (.sl ys) (.slice a ys.length c)) (ae:B.Nodup) (hB:∀ b∈B,¬I b∧F b) (hg:Γ nm=some (.row a ys.length c ns)) :
  Xa Γ w I F A nm o∧∀ b,Blk Γ w nm o b→b∈B:=by
 simp only[ZT] at hT;obtain⟨a',c',e,aa,hT⟩:=hT;cases e;unfold ZkK at ho;split at ho
 ·split at ho
  ·rename_i hf;cases ho;rcases hT with ⟨rfl,rfl⟩ | ⟨g,cur,e,Bs,rfl,h1,h2,h3,h4,h5,rfl,h6⟩
   ·exact⟨⟨_,_,_,hg,rfl,.inl ⟨by omega,rfl⟩⟩,fun b hb=>(hb.nil (by rw[hg];cases a<;>simp[Zk])).elim⟩
   ·refine⟨⟨_,_,_,hg,rfl,.inr ⟨g,0,cur,e,rfl,h1,h2,aa,h3,⟨by omega,fun _=>rfl⟩,h5,by simpa using (hB g (by simp)).1,(hB g (by simp)).2,ZcU hf (h6.rep (S:=fun _=>True) fun _ _=>trivial)⟩⟩,fun b hb=>?_⟩;have:=hb.row;rw[hg] at this;simp[Zk,Kp h1] at this;simp[this]
  ·cases ho
 ·cases ho;rcases hT with ⟨rfl,rfl⟩ | ⟨g,cur,e,Bs,rfl,h1,h2,h3,h4,h5,rfl,h6⟩
  ·exact⟨⟨_,_,_,hg,⟨rfl,.inl ⟨by omega,rfl,rfl⟩⟩,trivial⟩,fun b hb=>(hb.nil (by rw[hg];cases a<;>simp[Zk])).elim⟩
  ·refine⟨⟨_,_,_,hg,⟨rfl,.inr ⟨g,cur,e,Bs,rfl,h1,h2,aa,h3,h4,h5,h6,ae,hB⟩⟩,trivial⟩,fun b hb=>?_⟩;have ab:Zk (Γ nm)=some g:=by rw[hg];simp[Zk,Kp h1]
   rcases hb with hb | ⟨g',B',ad,af,hb⟩ | hb
   ·rw[Wf,ab] at hb;cases hb;simp
   ·rw[ab] at ad;cases ad;cases ZE.uniq h6 af;simp[hb]
   ·exact hb.elim
theorem Sim.link {I:Nat→Prop} {Γ:Gh} {st ae : St} {a:Act} {w:World} (h:Sim nt F A I Γ (Vc st.nx) st.sl st.hp a w) (hc:Uw Γ0 Γ st.hp) {fl:Bool} {id:Nat} {i:Opd} {j:Nat} (hl:U1 fl id i j st=some ae) :
  ∃ Γ',Sim nt F A I Γ' (Vc ae.nx) ae.sl ae.hp a w∧Uw Γ0 Γ' ae.hp∧ae.m=st.m:=by
 unfold U1 at hl;obtain⟨n,_,hl⟩:=Za hl;split at hl
 ·obtain⟨q,h1,hl⟩:=Za hl;cases hl;unfold ZkL at h1;split at h1
  ·rename_i sz ns xs ho;obtain⟨ys,h2,h1⟩:=Za h1;obtain⟨o,h3,h1⟩:=Za h1;obtain⟨a5,h4,h1⟩:=Za h1;cases h1;obtain⟨x,hx,af⟩:=Zdm h2;obtain⟨ad,m,c,hg,⟨hm,hd⟩,_⟩:=h.objs id _ ho;have hi:n.toNat<xs.length:=(Kb.1 hx).1;rcases hd with hd | ⟨g,cur,e,B,rfl,p1,p2,p3,p4,p5,p6,p7,p8,p9⟩
   ·omega
   ·obtain⟨vs,_,_,_,_,v1,_,v3,_⟩:=ZE.at p7 hx;cases x with
    | int _ _=>cases j<;>simp[D.cells] at af
    | bool _=>cases j<;>simp[D.cells] at af
    | str _=>cases j<;>simp[D.cells] at af
    | sl _=>simp only[Qr] at v3
    | agg cs=>
     simp only[D.cells] at af;have ao:cs.length=sz:=by have:=v3.cells.length;simp only[D.cells] at this;omega
     have hj:j<sz:=by rw[← ao];exact(Kb.1 af).1
     have ax:n.toNat*sz+sz≤cur.size:=by
      rw[p5,← Nat.succ_mul];exact Kx _ (by omega)
     obtain⟨ai,ap⟩:=K2.1 p8;obtain⟨B',BM,vm,t1,t2,t3,t4⟩:=Zap (us:=[.slice none 0 0]) (ds:=[.sl []]) (Bq:=[]) (off:=j) p2 p7 hx ao (by simp;omega)
      (by simp only[ZM,ZT];exact⟨_,[],[],[],rfl,rfl,⟨none,0,rfl,Kg _,.inl ⟨rfl,rfl⟩⟩,rfl,rfl⟩) ai (by simp) ax
     have hM:(cs.drop j).take [Value.slice none 0 0].length=[.sl ys]:=by
      refine Ld fun k=>?_;cases k with
      | zero=>simp[K1,af]
      | succ k=>simp[KU]
     rw[hM] at t3;simp only[ZM] at t3;obtain⟨v,_,al,_,rfl,rfl,hv,rfl,rfl⟩:=t3;rw[LI] at t2;have ag:=t4 0 v rfl;have aq:=hv;simp only[ZT] at aq;obtain⟨a',c',rfl,_,_⟩:=aq;have ar:Γ st.nx=none:=h.names st.nx (by simp[Vc]);have hk:=Xx (.row a' ys.length c' ns) ar;have ay:id≠st.nx:=fun e=>by subst e;rw[ar] at hg;cases hg
     simp only[ZbS,hx,Zc,Option.some.injEq] at h4;subst h4;have ab:∀ b,b∈B'∨b∈al→b∈B:=fun b hb=>by
      have:=t2 b;simp only[List.count_nil,Lq] at this;rw[← KL];rcases hb with hb | hb<;>have:=KL.2 hb<;>omega
     have ah:∀ b,b∈B'→b∈al→False:=fun b hb az=>by
      have h1:=t2 b;have h2:=KL.2 hb;have h3:=KL.2 az;have h4:=Lz.1 ap b;simp only[List.count_nil,Lq] at h1;omega
     have au:∀ L:List Nat,(∀ b,List.count b L≤List.count b B)→L.Nodup:=fun L hL=>Lz.2 fun b=>Ly (hL b) (Lz.1 ap b);have aj:Zk (Γ id)=some g:=by rw[hg];simp[Zk,Kp p1]
     have am:(Zi cur.toList (n.toNat*sz+j) [Value.slice none 0 0]).toArray=cur.setIfInBounds (n.toNat*sz+j) (.slice none 0 0):=by
      rw[Ze4 (l:=cur.toList) _ (by rw[K4];omega)];apply Array.ext';rw[LK]
     rw[am,← Zai p2] at t1;obtain⟨a0,a1⟩:=Zm3 (Γ:=upd Γ st.nx (.row a' ys.length c' ns)) (I:=I) (F:=F) (A:=A) (nm:=st.nx) h3 hv (au _ fun b=>by have:=t2 b;simp only[List.count_nil,Lq] at this;omega)
      (fun b hb=>p9 b (Km _ (ab b (.inr hb)))) (Zq _ _ _)
     have an:∀ k o,lkp st.hp k=some o→upd Γ st.nx (.row a' ys.length c' ns) k=Γ k:=fun k o hl=>Z2 _ _ fun e=>by
      subst e;exact absurd (h.id_in hl) (by simp[Vc])
     have av:∀ k o',lkp (ins (ins st.hp id (.tree sz ns (xs.set n.toNat (XF (.agg cs) j [.sl []])) (some (some st.nx,n.toNat,j)))) st.nx o) k=some o' →
       (k=st.nx∧o'=o)∨(k=id∧o'=.tree sz ns (xs.set n.toNat (XF (.agg cs) j [.sl []])) (some (some st.nx,n.toNat,j)))∨(k≠id∧lkp st.hp k=some o'):=by
      intro k o' hk;rw[ZV] at hk;split at hk
      ·rename_i e;cases hk;exact .inl ⟨e.symm,rfl⟩
      ·rw[ZV] at hk;split at hk
       ·rename_i e;cases hk;exact .inr (.inl ⟨e.symm,rfl⟩)
       ·rename_i e;exact .inr (.inr ⟨fun h=>e h.symm,hk⟩)
     have a2:∀ b,Blk (upd Γ st.nx (.row a' ys.length c' ns)) w id (.tree sz ns (xs.set n.toNat (XF (.agg cs) j [.sl []])) (some (some st.nx,n.toNat,j))) b→b=g∨b∈B':=by
      rintro b (hb | ⟨g',B2,hg',hB2,hb⟩ | hb)
      ·rw[Wf,an _ _ ho,aj] at hb;cases hb;exact .inl rfl
      ·rw[an _ _ ho,aj] at hg';cases hg';cases ZE.uniq t1 hB2;exact .inr hb
      ·exact hb.elim
     have ak:∀ b,b=g∨b∈B→Blk Γ w id (.tree sz ns xs none) b:=fun b hb=>hb.elim (fun e=>.inl (e ▸ aj)) fun hb=>.inr (.inl ⟨g,B,aj,p7,hb⟩);refine⟨upd Γ st.nx (.row a' ys.length c' ns),?_,fun k r hr=>hk _ _ (hc k r hr),rfl⟩;refine { nt:=h.nt,dfr:=h.dfr,slots:=fun t=>(h.slots t).mono hk (Zw.refl I w),objs:=?_,inj:=?_,bound:=h.bound,fresh:=h.fresh,own:=h.own,names:=?_,glob:=h.glob }
     ·intro k o' aa;rcases av k o' aa with ⟨rfl,rfl⟩ | ⟨rfl,rfl⟩ | ⟨_,aa⟩
      ·exact a0
      ·refine⟨_,m,c,hk _ _ hg,⟨by simp[hm],.inr ⟨g,cur,e,B',rfl,p1,p2,p3,p4,p5,p6,t1,K2.2 ⟨fun hb=>ai (ab g (.inl hb)),au _ fun b=>by have:=t2 b;simp only[List.count_nil,Lq] at this;omega⟩,fun b hb=>?_⟩⟩,?_⟩
       ·rcases Ke.1 hb with rfl | hb
        ·exact p9 _ (by simp)
        ·exact p9 b (Km _ (ab b (.inl hb)))
       ·refine⟨by simpa using hi,hj,?_,fun k aa=>?_⟩
        ·have:(Zi cs j [D.sl []])[j]?=some (.sl []):=by rw[ZS _ _ _ _ (by simp;omega),Kw (by simp)];simp
         simp only[Y0,Lu hi,Zc,XF,D.cells,this]
        ·cases aa;exact⟨g,a',ys.length,c',rfl,Zq _ _ _,ag⟩
      ·exact(h.objs k o' aa).mono hk (Zw.refl I w) fun b _=>⟨rfl,fun h=>h⟩
     ·intro k k' o1 o2 b h1 h2 a3 a4;have aw:∀ k o',lkp (ins (ins st.hp id (.tree sz ns (xs.set n.toNat (XF (.agg cs) j [.sl []])) (some (some st.nx,n.toNat,j)))) st.nx o) k=some o'→Blk (upd Γ st.nx (.row a' ys.length c' ns)) w k o' b →
        (k=st.nx∧b∈al)∨(k=id∧(b=g∨b∈B'))∨(k≠id∧∃ o0,lkp st.hp k=some o0∧Blk Γ w k o0 b):=by
       intro k o' aa hb;rcases av k o' aa with ⟨e1,e2⟩ | ⟨e1,e2⟩ | ⟨e1,e2⟩
       ·rw[e1,e2] at hb;exact .inl ⟨e1,a1 b hb⟩
       ·rw[e1,e2] at hb;exact .inr (.inl ⟨e1,a2 b hb⟩)
       ·exact .inr (.inr ⟨e1,o',e2,hb.back (h.objs k o' e2) (an k o' e2) fun _ _=>rfl⟩)
      rcases aw k o1 h1 a3 with ⟨e1,g1⟩ | ⟨e1,g1⟩ | ⟨e1,o3,g1,g2⟩<;>rcases aw k' o2 h2 a4 with ⟨e2,q1⟩ | ⟨e2,q1⟩ | ⟨e2,o4,q1,q2⟩
      ·rw[e1,e2]
      ·rcases q1 with rfl | q1
       ·exact(ai (ab _ (.inr g1))).elim
       ·exact(ah b q1 g1).elim
      ·exact(e2 (h.inj k' id o4 _ b q1 ho q2 (ak b (.inr (ab b (.inr g1)))))).elim
      ·rcases g1 with rfl | g1
       ·exact(ai (ab _ (.inr q1))).elim
       ·exact(ah b g1 q1).elim
      ·rw[e1,e2]
      ·exact(e2 (h.inj k' id o4 _ b q1 ho q2 (ak b (g1.imp (fun e=>e) fun hb=>ab b (.inl hb))))).elim
      ·exact(e1 (h.inj k id o3 _ b g1 ho g2 (ak b (.inr (ab b (.inr q1)))))).elim
      ·exact(e1 (h.inj k id o3 _ b g1 ho g2 (ak b (q1.imp (fun e=>e) fun hb=>ab b (.inl hb))))).elim
      ·exact h.inj k k' o3 o4 b g1 q1 g2 q2
     ·intro k aa;rw[Z2 _ _ (fun e=>aa (by subst e;simp[Vc]))];exact h.names k (fun hu=>aa (by simp[Vc] at hu ⊢;omega))
  ·cases h1
 ·cases hl
theorem Zm4 {I:Nat→Prop} {Γ:Gh} {w:World} {k nm:Nat} {o:Zg} {ys:List D} (hb:ZeX k (some o)=some ys) (ho:Xa Γ w I F A nm o):∃ a c B,Γ nm=some (.row a ys.length c k)∧ZT w k B (.sl ys) (.slice a ys.length c)∧B.Nodup∧(∀ b∈B,¬I b∧F b)∧∀ b∈B,Blk Γ w nm o b:=by
 unfold ZeX at hb;split at hb
 ·rename_i k' ab e;cases e;split at hb
  ·rename_i hc;obtain⟨rfl,hf⟩:=hc;cases hb;obtain⟨a,n,c,hg,rfl,h⟩:=ho;rcases h with ⟨h1,rfl⟩ | ⟨g,q0,cur,e,rfl,h1,h2,h3,h4,h5,h6,h7,h8,h9⟩
   ·exact⟨a,0,[],hg,by simp only[ZT];exact⟨a,0,rfl,by omega,.inl ⟨rfl,trivial⟩⟩,Le,fun b hb=>by simp at hb,fun b hb=>by simp at hb⟩
   ·obtain⟨h5,h0⟩:=h5;obtain rfl:=h0 rfl;rw[KO] at h5;refine⟨_,c,[g],hg,by simp only[ZT];exact⟨_,c,rfl,h3,.inr ⟨g,cur,e,[],rfl,h1,h2,h4,h5,h6,rfl,ZcI hf h9⟩⟩,by simp,fun b hb=>?_,fun b hb=>?_⟩
    ·simp at hb;subst hb;exact⟨by simpa using h7,h8⟩
    ·simp at hb;subst hb;exact .inl (by rw[hg];simp[Zk,Kp h1])
  ·cases hb
 ·rename_i k' n ab e;cases e;split at hb
  ·rename_i hc;obtain⟨rfl,rfl⟩:=hc;cases hb;obtain⟨a,n,c,hg,⟨rfl,h⟩,_⟩:=ho;rcases h with ⟨h1,rfl,_⟩ | ⟨g,cur,e,B,rfl,h1,h2,h3,h4,h5,h6,h7,h8,h9⟩
   ·exact⟨a,0,[],hg,by simp only[ZT];exact⟨a,0,rfl,by omega,.inl ⟨rfl,trivial⟩⟩,Le,fun b hb=>by simp at hb,fun b hb=>by simp at hb⟩
   ·have aa:Zk (Γ nm)=some g:=by rw[hg];simp[Zk,Kp h1]
    refine⟨_,c,g :: B,hg,by simp only[ZT];exact⟨_,c,rfl,h3,.inr ⟨g,cur,e,B,rfl,h1,h2,h4,h5,h6,rfl,h7⟩⟩,h8,h9,fun b hb=>?_⟩;rcases Ke.1 hb with rfl | hb
    ·exact .inl aa
    ·exact .inr (.inl ⟨g,B,aa,h7,hb⟩)
  ·cases hb
 ·cases hb
theorem Sim.shut {I:Nat→Prop} {Γ:Gh} {U:Nat→Prop} {sl:Sl} {hp:Hp} {a:Act} {w:World} (h:Sim nt F A I Γ U sl hp a w) (id nm:Nat):Sim nt F A I Γ U sl (ZlR hp (Zdl hp id nm (lkp hp id))) a w:=by
 cases hs:Zdl hp id nm (lkp hp id) with
 | none=>exact h
 | some hp' =>
  show Sim nt F A I Γ U sl hp' a w;unfold Zdl at hs;split at hs
  ·rename_i sz k xs aa n j hl;split at hs
   ·rename_i e;subst e;obtain⟨ys,h1,hs⟩:=Za hs;obtain⟨bc,h2,hs⟩:=Za hs;cases hs;cases hn:lkp hp aa with
    | none=>rw[hn] at h1;cases h1
    | some o=>
     rw[hn] at h1;obtain⟨a',c',BM,az,hT,ar,al,af⟩:=Zm4 h1 (h.objs aa o hn);obtain⟨ad,m,c,hg,⟨hm,hd⟩,hi,hj,a0,a1⟩:=h.objs id _ hl;obtain⟨g,a2,n2,c2,rfl,ag,ab⟩:=a1 aa rfl;rw[az] at ag;cases ag;rcases hd with ⟨_,_,hd⟩ | ⟨g',cur,e,B,ai,p1,p2,p3,p4,p5,p6,p7,p8,p9⟩
     ·cases hd
     ·cases ai;have am:id≠aa:=fun e=>by
       subst e;rw[hl] at hn;cases hn;simp[ZeX] at h1
      obtain⟨x,hx,an⟩:=Zdm a0;simp only[Xo] at p7;obtain⟨vs,_,_,_,_,v1,_,v3,_⟩:=ZE.at p7 hx;cases x with
      | int _ _=>cases j<;>simp[D.cells] at an
      | bool _=>cases j<;>simp[D.cells] at an
      | str _=>cases j<;>simp[D.cells] at an
      | sl _=>simp only[Qr] at v3
      | agg cs=>
       have a3:cs.length=sz:=by have:=v3.cells.length;simp only[D.cells] at this;omega
       have a4:n*sz+sz≤cur.size:=by
        rw[p5,← Nat.succ_mul];exact Kx _ (by omega)
       obtain⟨ao,au⟩:=K2.1 p8;have aj:Zk (Γ id)=some g:=by rw[hg];simp[Zk,Kp p1]
       have ap:∀ b,b=g∨b∈B→Blk Γ w id (.tree sz k xs (some (some aa,n,j))) b:=fun b hb=>hb.elim (fun e=>.inl (e ▸ aj)) fun hb=>.inr (.inl ⟨g,B,aj,p7,hb⟩);have ah:∀ b,b=g∨b∈B→b∈BM→False:=fun b hb a5=>am (h.inj id aa _ o b hl hn (ap b hb) (af b a5));rw[Zai p2] at p7;have a6:=setRow_heap w g cur (cur.setIfInBounds (n*sz+j) (.slice none 0 0)) e (0,0) p2;obtain⟨B',_,_,t1,t2,_⟩:=Zap (us:=[.slice a' ys.length c']) (ds:=[.sl ys]) (Bq:=BM) (off:=j) a6 p7 hx a3 (by simp;omega)
        (by simp only[ZM];exact⟨_,[],BM,[],rfl,by simp,hT.mono fun b hb=>setRow_other w g b _ fun e=>ah b (.inl e) hb,rfl,rfl⟩) ao (fun hb=>ah g (.inl rfl) hb) (by simpa using a4)
       rw[setRow_setRow,LK,Zfh _ _ _ _ _ (by simp;omega),Kw (by simp),Ze4 (l:=cur.toList) _ (by rw[K4];omega)] at t1;have ak:∀ b∈B',b∈B∨b∈BM:=fun b hb=>by
        have h1:=t2 b;have h2:=KL.2 hb;rcases K8 (List.count b B) with h3 | h3
        ·exact .inr (KL.1 (by omega))
        ·exact .inl (KL.1 h3)
       have av:cur.toList[n*sz+j]?=some (.slice a' ys.length c'):=by
        rw[cell_of_row _ _ _ _ _ _ p2] at ab;simpa using ab
       have aq:(cur.toList.set (n*sz+j) (.slice a' ys.length c')).toArray=cur:=by
        have:cur.toList.set (n*sz+j) (.slice a' ys.length c')=cur.toList:=by
         refine Ld fun q=>?_;by_cases e:n*sz+j=q
         ·subst e;rw[Lu (Kb.1 av).1,av]
         ·rw[KI e]
        rw[this]
       rw[aq] at t1;have t3:ZE w k B' g sz (xs.set n (.agg (Zi cs j [.sl ys]))) 0:=t1.mono ((setRow_heap w g cur cur e (0,0) p2).symm ▸ p2) fun b hb=>(setRow_other w g b cur fun e=>by
        rcases ak b hb with hb | hb
        ·exact ao (e ▸ hb)
        ·exact ah b (.inl e) hb).symm
       simp only[ZbS,hx,Zc,Option.some.injEq,XF] at h2;subst h2;have aw:∀ q o',lkp (ins (del hp aa) id (.tree sz k (xs.set n (.agg (Zi cs j [.sl ys]))) none)) q=some o'→(q=id∧o'=.tree sz k (xs.set n (.agg (Zi cs j [.sl ys]))) none)∨(q≠id∧q≠aa∧lkp hp q=some o'):=by
        intro q o' hq;rw[ZV] at hq;split at hq
        ·rename_i e;cases hq;exact .inl ⟨e.symm,rfl⟩
        ·rename_i e;rw[U6] at hq;split at hq
         ·cases hq
         ·rename_i e';exact .inr ⟨fun h=>e h.symm,fun h=>e' h.symm,hq⟩
       refine { nt:=h.nt,dfr:=h.dfr,slots:=h.slots,objs:=?_,inj:=?_,bound:=h.bound,fresh:=h.fresh,own:=h.own,names:=h.names,glob:=h.glob }
       ·intro q o' hq;rcases aw q o' hq with ⟨rfl,rfl⟩ | ⟨_,_,hq⟩
        ·refine⟨_,m,c,hg,⟨by simp[hm],.inr ⟨g,cur,e,B',rfl,p1,p2,p3,p4,p5,p6,t3,K2.2 ⟨fun hb=>(ak g hb).elim ao fun hb=>ah g (.inl rfl) hb,?_⟩,fun b hb=>?_⟩⟩,trivial⟩
         ·rw[Lz] at au ar ⊢;intro b;have h1:=t2 b;have h2:=au b;have h3:=ar b;rcases K8 (List.count b B) with h4 | h4
          ·omega
          ·have:List.count b BM=0:=by
            rcases K8 (List.count b BM) with h5 | h5
            ·exact h5
            ·exact(ah b (.inr (KL.1 h4)) (KL.1 h5)).elim
           omega
         ·rcases Ke.1 hb with rfl | hb
          ·exact p9 _ (by simp)
          ·rcases ak b hb with hb | hb
           ·exact p9 b (by simp[hb])
           ·exact al b hb
        ·exact h.objs q o' hq
       ·intro q q' o1 o2 b h1 h2 a7 a8;have ax:∀ q o',lkp (ins (del hp aa) id (.tree sz k (xs.set n (.agg (Zi cs j [.sl ys]))) none)) q=some o'→Blk Γ w q o' b →
          (q=id∧(b=g∨b∈B∨b∈BM))∨(q≠id∧q≠aa∧∃ o0,lkp hp q=some o0∧Blk Γ w q o0 b):=by
         intro q o' hq hb;rcases aw q o' hq with ⟨e1,e2⟩ | ⟨e1,e2,e3⟩
         ·rw[e1,e2] at hb;refine .inl ⟨e1,?_⟩;rcases hb with hb | ⟨g',B2,ai,a9,hb⟩ | hb
          ·rw[Wf,aj] at hb;cases hb;exact .inl rfl
          ·rw[aj] at ai;cases ai;cases ZE.uniq t3 a9;exact .inr (ak b hb)
          ·exact hb.elim
         ·exact .inr ⟨e1,e2,o',e3,hb⟩
        have ay:∀ q o0,q≠id→q≠aa→lkp hp q=some o0→Blk Γ w q o0 b→(b=g∨b∈B∨b∈BM)→False:=by
         intro q o0 n1 n2 hq hb ae;rcases ae with ae | ae | ae
         ·exact n1 (h.inj q id o0 _ b hq hl hb (ap b (.inl ae)))
         ·exact n1 (h.inj q id o0 _ b hq hl hb (ap b (.inr ae)))
         ·exact n2 (h.inj q aa o0 o b hq hn hb (af b ae))
        rcases ax q o1 h1 a7 with ⟨e1,g1⟩ | ⟨e1,ba,o3,g1,g2⟩<;>rcases ax q' o2 h2 a8 with ⟨e2,q1⟩ | ⟨e2,bb,o4,q1,q2⟩
        ·rw[e1,e2]
        ·exact(ay q' o4 e2 bb q1 q2 g1).elim
        ·exact(ay q o3 e1 ba g1 g2 q1).elim
        ·exact h.inj q q' o3 o4 b g1 q1 g2 q2
   ·cases hs
  ·cases hs
theorem Sim.melt {I:Nat→Prop} {Γ:Gh} {U:Nat→Prop} {sl:Sl} {hp:Hp} {a:Act} {w:World} (h:Sim nt F A I Γ U sl hp a w):Sim nt F A (ZkU Γ w hp I (VX hp)) Γ U sl (Zb9 ZbH hp) a w:=
 (h.meltIn (VX hp)).sub fun k o hk=>by
  rw[JO] at hk;rw[YD];cases hl:lkp hp k with
  | none=>rw[hl] at hk;cases hk
  | some o0=>
   have:(VX hp).contains k=true:=by
    have aa:∀ (l:Hp),lkp l k=some o0→k∈VX l:=by
     intro l
     induction l with
     | nil=>intro h;cases h
     | cons q r ih=>
      intro h;obtain⟨k',o'⟩:=q;simp only[lkp] at h;simp only[VX,Ke];split at h
      ·rename_i e;exact .inl e.symm
      ·exact .inr (ih h)
    simpa using aa hp hl
   rw[hl] at hk;simp only[KK,Option.some.injEq] at hk ⊢;rw[this];exact hk
theorem U4 {C:Orc} {M:Zf} (hC:Z4 P C) (hD:Yb P C M nt) {N:Nat}:∀ (cc:Zy) (c:Code) {st ab : St} {ex:Ex},Yh P nt c=some (Q4 cc)→Zr C M N cc st=some (ex,ab) →
  ∀ {I:Nat→Prop} {Γ:Gh} {a:Act} {w:World} {Q:Exit→Act→World→Prop},Sim nt F A I Γ (Vc st.nx) st.sl st.hp a w→Uw Γ0 Γ st.hp→Ze2 Γ0 st.m →
  (∀ a' w',Vh nt F A Γ0 I w ab a' w'→Q (exOf ex) a' w')→c.wp P Q a w:=by
 intro cc
 induction cc with
 | skip=>
  intro c st ab ex aa hv I Γ a w Q hS hc hm hQ;obtain rfl:=YJ P nt aa;simp only[Zr] at hv;cases hv;exact wp_skip (hQ _ _ (Vh.refl hS hc))
 | region n d os0=>
  intro c st ab ex aa hv I Γ a w Q hS hc hm hQ;obtain⟨id,ops,draw,rfl⟩:=YJ P nt aa;simp only[Q4,Yh] at aa;obtain⟨os,h1,aa⟩:=Za aa;cases draw with
  | false=>
   simp only[Ka,Kh,Option.some.injEq,Zy.region.injEq] at aa;obtain⟨rfl,rfl,rfl⟩:=aa;simp only[Zj0] at h1;simp only[Zr,Zdx] at hv;obtain⟨r,h2,hv⟩:=Za hv;cases hv;refine wp_region ?_;have:=Zj1 (m:=st.m) (Γ0:=Γ0) (F:=F) (A:=A) (Q:=Q) hC os0 0 (Nat.zero_le _) (by simpa using h1) h2 (by simpa using hS) hc (fun a' w' hp=>hQ a' w' (by simpa using hp));rw[List.range_eq_range'];simpa using this
  | true=>
   simp only[Ki] at aa;split at aa
   ·rename_i ae;simp only[Option.some.injEq,Zy.region.injEq] at aa;obtain⟨rfl,rfl,ag⟩:=aa;simp only[Zj0] at ag;subst ag;simp only[Zr,Zdx] at hv;obtain⟨r,h2,hv⟩:=Za hv;cases hv;unfold Zgv at h2;obtain⟨r',h3,h2⟩:=Za h2;split at h2
    ·rename_i af;cases h2;exact hD F A Γ0 ops _ st.nx st.m st.sl st.hp r I Γ a w Q id h1 ae h3 af hS hc (fun a' w' hp=>hQ a' w' (by simpa using hp))
    ·cases h2
   ·cases aa
 | seq cx cy ihx ihy=>
  intro c st ab ex aa hv I Γ a w Q hS hc hm hQ;obtain⟨x,y,rfl,h1,h2⟩:=YJ P nt aa;simp only[Zr] at hv;cases hx:Zr C M N cx st with
  | none=>rw[hx] at hv;cases hv
  | some q=>
   obtain⟨e1,st1⟩:=q;rw[hx] at hv;refine wp_seq (ihx x h1 hx hS hc hm fun a1 w1 hp=>?_);have ah:=Zj3 _ _ _ _ hx;cases e1 with
   | normal=>
    simp only[andThen] at hv;obtain⟨I1,Γ1,b1,b2,b3,b4,b5⟩:=hp;exact ihy y h2 hv b5 b1 (by rw[ah];exact hm) fun a2 w2 ai=>hQ a2 w2 (ai.step b2 b3 b4)
   | exit id=>simp only[andThen] at hv;cases hv;exact hQ a1 w1 hp
   | ret=>simp only[andThen] at hv;cases hv;exact hQ a1 w1 hp
 | cond co cx cy ihx ihy=>
  intro c st ab ex aa hv I Γ a w Q hS hc hm hQ;obtain⟨o,x,y,rfl,h0,h1,h2⟩:=YJ P nt aa;simp only[Zr] at hv;have hr:=hS.slOK.ev h0;unfold ZaM at hv;split at hv
  ·rename_i t ht;rw[ht] at hr;have hb:=Uq hr;cases t with
   | true=>simp only[Ki] at hv;exact wp_cond_true hb (ihx x h1 hv hS hc hm hQ)
   | false=>simp only[Ka,Kh] at hv;exact wp_cond_false hb (ihy y h2 hv hS hc hm hQ)
  ·cases hv
 | block id cx ih=>
  intro c st ab ex aa hv I Γ a w Q hS hc hm hQ;obtain⟨x,rfl,h1⟩:=YJ P nt aa;simp only[Zr] at hv;cases hx:Zr C M N cx st with
  | none=>rw[hx] at hv;cases hv
  | some q=>
   obtain⟨e1,st1⟩:=q;rw[hx] at hv;refine wp_block (ih x h1 hx hS hc hm fun a1 w1 hp=>?_);cases e1 with
   | normal=>simp only[JJ] at hv;cases hv;exact hQ a1 w1 hp
   | exit j=>
    simp only[JJ] at hv;simp only[exOf,Exit.inBlock];split at hv
    ·rename_i hj;cases hv;rw[Kw hj];exact hQ a1 w1 hp
    ·rename_i hj;cases hv;rw[Kn hj];exact hQ a1 w1 hp
   | ret=>simp only[JJ] at hv;cases hv;exact hQ a1 w1 hp
 | loop cx ih=>
  intro c st ab ex aa hv I Γ a w Q hS hc hm hQ;obtain⟨x,rfl,h1⟩:=YJ P nt aa;simp only[Zr] at hv;generalize VX st.sl=K at hv;refine ZlX (fun n a1 w1=>∃ st1 I1 Γ1,Vg (Zr C M N cx) K n st1=some (ex,ab)∧st1.m=st.m∧Sim nt F A I1 Γ1 (Vc st1.nx) st1.sl st1.hp a1 w1∧Uw Γ0 Γ1 st1.hp∧Zw I I1 w w1∧(∀ b,I1 b→I b∨F b)∧Fr F w w1)
   ?_ (n:=N) ⟨st,I,Γ,hv,rfl,hS,hc,Zw.refl I w,fun _ h=>.inl h,Fr.refl F w⟩
  rintro n a1 w1 ⟨st1,I1,Γ1,j1,j2,j3,j4,j5,j6,j7⟩
  cases n with
  | zero=>simp only[Vg] at j1;cases j1
  | succ n=>
   simp only[Vg] at j1;obtain⟨Γ2,k1,k2⟩:=ZlW j3 j4 (by rw[j2];exact hm) K;cases hx:Zr C M N cx (YI K st1) with
   | none=>rw[hx] at j1;cases j1
   | some q=>
    obtain⟨e1,st2⟩:=q;rw[hx] at j1;have aj:st2.m=st1.m:=(Zj3 _ _ _ _ hx).trans rfl;refine ih x h1 hx k1 k2 (by show Ze2 Γ0 st1.m;rw[j2];exact hm) fun a2 w2 hp=>?_;obtain⟨I3,Γ3,b1,b2,b3,b4,b5⟩:=hp;have ad:∀ b,I3 b→I b∨F b:=fun b hb=>by
     rcases b3 b hb with h | h
     ·exact j6 b h
     ·exact .inr h
    cases e1 with
    | normal=>exact⟨n,Nat.lt_succ_self n,st2,I3,Γ3,j1,by rw[aj,j2],b5,b1,j5.trans b2,ad,j7.trans b4⟩
    | exit id=>
     simp only at j1;cases j1;exact hQ a2 w2 ⟨I3,Γ3,b1,j5.trans b2,ad,j7.trans b4,b5⟩
    | ret=>
     simp only at j1;cases j1;exact hQ a2 w2 ⟨I3,Γ3,b1,j5.trans b2,ad,j7.trans b4,b5⟩
 | exit id=>
  intro c st ab ex aa hv I Γ a w Q hS hc hm hQ;obtain rfl:=YJ P nt aa;simp only[Zr] at hv;cases hv;exact wp_exit (hQ _ _ (Vh.refl hS hc))
 | ret=>
  intro c st ab ex aa hv I Γ a w Q hS hc hm hQ;obtain rfl:=YJ P nt aa;simp only[Zr] at hv;cases hv;exact wp_ret (hQ _ _ (Vh.refl hS hc))
 | stuck=>
  intro c st ab ex aa hv I Γ a w Q hS hc hm hQ;simp only[Zr] at hv;cases hv
 | link fl id i j cx ih=>
  intro c st ab ex aa hv I Γ a w Q hS hc hm hQ;simp only[Zr] at hv;obtain⟨st1,h1,hv⟩:=Za hv;obtain⟨Γ1,k1,k2,k3⟩:=hS.link hc h1;cases hx:Zr C M N cx st1 with
  | none=>rw[hx] at hv;cases hv
  | some q=>
   obtain⟨e1,st2⟩:=q;rw[hx] at hv;simp only[ZeY] at hv;cases hv;refine ih c aa hx k1 k2 (by rw[k3];exact hm) fun a1 w1 hp=>hQ a1 w1 ?_;obtain⟨I',Γ',b1,b2,b3,b4,b5⟩:=hp;exact⟨I',Γ',b1,b2,b3,b4,b5.shut id st.nx⟩
 | melt cx ih=>
  intro c st ab ex aa hv I Γ a w Q hS hc hm hQ;simp only[Zr] at hv;refine ih c aa hv hS.melt hc hm fun a1 w1 hp=>hQ a1 w1 (hp.step ⟨fun b hb=>.inl hb,fun _ _=>rfl⟩ ?_ (Fr.refl F w))
  rintro b (hb | ⟨id,_,o,hl,_,hi⟩)
  ·exact .inl hb
  ·exact .inr (ZbY (hS.objs id o hl) (.inr (.inl hi)))
 | keep K cx ih=>
  intro c st ab ex aa hv I Γ a w Q hS hc hm hQ;simp only[Zr] at hv;cases hx:Zr C M N cx st with
  | none=>rw[hx] at hv;cases hv
  | some q=>
   obtain⟨e1,st1⟩:=q;rw[hx] at hv;simp only[ZeW] at hv;cases hv;exact ih c aa hx hS hc hm fun a1 w1 hp=>hQ a1 w1 (hp.only K)
end
end Go.Abs

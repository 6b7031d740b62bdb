/- Own text. -/
import Derived.Test.YtefabmohhbhlfaaAbsTreeOp
set_option linter.unusedVariables false
set_option linter.unusedSimpArgs false
namespace Go.Abs
open Go
section
variable {P:Program} {nt:Nat} {U:Nat→Prop} {F A I:Nat→Prop} {Γ:Gh} {sl:Sl} {hp:Hp} {a:Act} {w:World}
structure Part (Γ:Gh) (w:World) (I F:Nat→Prop) (hp:Hp) (ids:List Nat) (ns sz:Nat) (xs:List D) (B:List Nat) (os:List Value) (ad:Option Addr) (n c:Nat):Prop where
 len:n=xs.length
 cells:os.length=xs.length*sz
 one:∀ v∈os,v.oneCell'=true
 at_:(n=0∧c=0)∨∃ g cur e,ad=some ⟨g,0,none⟩∧0<c∧w.heap[g]?=some (.cells cur e (0,0))∧n≤c∧c≤maxLen∧cur.size=c*sz∧0<sz∧¬I g∧F g∧Z7 w g 0 os∧g∉B∧∃ id∈ids,∃ o,lkp hp id=some o∧Blk Γ w id o g
 tre:∀ (w' : World) (g' o' : Nat),(∀ b∈B,w'.heap[b]?=w.heap[b]?)→Z7 w' g' o' os→ZK w' ns B g' sz xs o'
 nd:B.Nodup
 own:∀ b∈B,¬I b∧F b
 blk:∀ b∈B,∃ id∈ids,∃ o,lkp hp id=some o∧Blk Γ w id o b
theorem Zmx {ids:List Nat} {ns sz:Nat} {ad:Option Addr}:Part Γ w I F hp ids ns sz [] [] [] ad 0 0:=
 ⟨rfl,by simp,fun v hv=>by simp at hv,.inl ⟨rfl,rfl⟩,fun w' g' o' _ _=>by simp[ZK],Lm,fun b hb=>by simp at hb,fun b hb=>by simp at hb⟩
theorem Zj9 (h:Sim nt F A I Γ U sl hp a w) {id sz ns:Nat} {xs:List D} (hl:lkp hp id=some (.tree sz ns xs none)) {ad:Option Addr} {n c:Nat} (hg:Γ id=some (.row ad n c sz)):∃ B os,Part Γ w I F hp [id] ns sz xs B os ad n c:=by
 obtain⟨ag,n',c',ae,⟨hn,h3⟩,_⟩:=h.objs id _ hl;rw[hg] at ae;cases ae;rcases h3 with ⟨h3,h4,_⟩ | ⟨g,cur,e,B,rfl,hc,hw,h4,h5,h6,aa,h8,h9,ab⟩
 ·subst h3 h4;have hx:xs=[]:=Km hn.symm;subst hx;exact⟨[],[],Zmx⟩
 ·obtain⟨os,k1,k2,k3,k4⟩:=ZhP h8;have af:Zp (Γ id)=some g:=by rw[hg];simp[Zp,Ku hc]
  obtain⟨n1,n2⟩:=Ld.1 h9;exact⟨B,os,hn,k1,k3,.inr ⟨g,cur,e,rfl,hc,hw,h4,h5,h6,aa,(ab g (by simp)).1,(ab g (by simp)).2,k2,n1,id,by simp,_,hl,.inl af⟩,k4,n2,fun b hb=>ab b (by simp[hb]),fun b hb=>⟨id,by simp,_,hl,.inr (.inl ⟨g,B,af,h8,hb⟩)⟩⟩
theorem Zq9 {ids:List Nat} {ns sz:Nat} {xs:List D} {B:List Nat} {os:List Value} {ad:Option Addr} {n c:Nat} (hp' : Part Γ w I F hp ids ns sz xs B os ad n c) {u e:TypeId} (hu:P.underlying u=some (.slice e)):Src P w u sz (.slice ad n c) xs.length os:=by
 have hn:=hp'.len;have aa:n=0∨∃ b o,ad=some ⟨b,o,none⟩∧Z7 w b o os:=by
  rcases hp'.at_ with h | ⟨g,_,_,h,_,_,_,_,_,_,_,_,h2,_⟩
  ·exact .inl h.1
  ·exact .inr ⟨g,0,h,h2⟩
 subst hn;exact⟨⟨_,hu,fun k=>by simp⟩,by simp[Builtin.lenOf],XM hp'.cells aa,XM hp'.cells (aa.imp id fun ⟨b,o,h1,h2⟩=>⟨b,o,h1,h2.drew⟩),hp'.one,hp'.cells⟩
theorem Zka (h:Sim nt F A I Γ U sl hp a w) {base:Nat} (hb:Qx U base) {t u ty e:TypeId} {i:TypeInfo} {z:Value} (ht:P.underlying t=some (.slice e)) (hi:P.info? e=some i) (hz:i.zero=some z) (bc:z.cells.size=i.size) (aw:0<i.size)
  {dst:Option Nat} (hd:Qm nt dst=true) (hu:P.underlying u=some (.slice e)) {aa ae:List Nat} {ns:Nat} {xs ys:List D} {B1 B2:List Nat} {os cs:List Value} {ad a6:Option Addr} {n c n2 c2:Nat}
  (hx:Part Γ w I F hp aa ns i.size xs B1 os ad n c) (hy:Part Γ w I F hp ae ns i.size ys B2 cs a6 n2 c2) (ax:∀ k∈aa,k∉ae)
  (h1:(n+ys.length)*i.bytes≤Zz) (h2:n+ys.length≤Zz) :
  ∃ v' w',(Builtin.append_ #[t,u] ty #[.slice ad n c,.slice a6 n2 c2]).run P w=.ok v' w'∧X9 nt F A I Γ w (Wb U base) (Zi sl dst (.own base)) (Zd (ZP hp (aa++ae)) [(base,.tree i.size ns (xs++ys) none)]) (a.put dst v') w':=by
 simp only[Zz] at h1 h2;have hs:=Zq9 (P:=P) hy hu;have aj:=hx.cells;have a7:=hy.cells;have hn:=hx.len;have ag:∀ (k k' : Nat) (o o' : Zh) (b:Nat),k∈aa→k'∈ae→lkp hp k=some o→lkp hp k'=some o'→Blk Γ w k o b→Blk Γ w k' o' b→False:=fun k k' o o' b hk ak hl al hb am=>ax k hk (h.inj k k' o o' b hl al hb am ▸ ak);have an:∀ b∈B1++B2,∃ id∈aa++ae,∃ o,lkp hp id=some o∧Blk Γ w id o b:=by
  intro b hb;rcases Kd.1 hb with hb | hb
  ·obtain⟨k,hk,hh⟩:=hx.blk b hb;exact⟨k,by simp[hk],hh⟩
  ·obtain⟨k,hk,hh⟩:=hy.blk b hb;exact⟨k,by simp[hk],hh⟩
 have a8:∀ b∈B1++B2,b<w.heap.size:=fun b hb=>by
  obtain⟨k,_,o,hl,ay⟩:=an b hb;exact h.blk_lt hl ay
 have bd:(B1++B2).Nodup:=LJ.2 ⟨hx.nd,hy.nd,fun b hb b' am e=>by
  subst e;obtain⟨k,hk,o,hl,ay⟩:=hx.blk b hb;obtain⟨k',ak,o',al,ah⟩:=hy.blk b am;exact ag k k' o o' b hk ak hl al ay ah⟩
 have az:∀ b∈B1++B2,¬I b∧F b:=fun b hb=>(Kd.1 hb).elim (hx.own b) (hy.own b);have a9:∀ (w' : World) (g c' : Nat) (cur:Array Value) (e' : TypeId),w.heap.size≤w'.heap.size→w'.os=w.os→w'.tape=w.tape→w'.output=w.output →
   (∀ k,k<w.heap.size→k≠g→w'.heap[k]?=w.heap[k]?)→(w.heap.size≤g∨(g∉B1∧∃ id∈aa,∃ o,lkp hp id=some o∧Blk Γ w id o g))→¬I g→F g →
   w'.heap[g]?=some (.cells cur e' (0,0))→0<c'→n+ys.length≤c'→c'≤maxLen→cur.size=c' * i.size→Z7 w' g 0 (os++cs) →
   X9 nt F A I Γ w (Wb U base) (Zi sl dst (.own base)) (Zd (ZP hp (aa++ae)) [(base,.tree i.size ns (xs++ys) none)]) (a.put dst (.slice (some ⟨g,0,none⟩) (n+ys.length) c')) w':=by
  intro w' g c' cur e' be bf ao a0 ap a1 a2 a3 ab a4 a' aq a5 ai;have ar:g∉B1++B2:=by
   intro hm;rcases a1 with a1 | ⟨bg,k,hk,o,hl,bh⟩
   ·have:=a8 g hm;omega
   ·rcases Kd.1 hm with hm | hm
    ·exact bg hm
    ·obtain⟨k',ak,o',al,ah⟩:=hy.blk g hm;exact ag k k' o o' g hk ak hl al bh ah
  have same:∀ b∈B1++B2,w'.heap[b]?=w.heap[b]?:=fun b hb=>ap b (a8 b hb) fun e=>ar (e ▸ hb);have hT:ZK w' ns (B1++B2) g i.size (xs++ys) 0:=by
   refine ZK.append (hx.tre w' g 0 (fun b hb=>same b (by simp[hb])) fun j u hu=>ai j u ?_) (hy.tre w' g _ (fun b hb=>same b (by simp[hb])) fun j u hu=>?_)
   ·rw[Kr (Kc.1 hu).1];exact hu
   ·have:=ai (os.length+j) u (by rw[Kp (by omega),Lc];exact hu)
    rwa [← KI,aj] at this
  refine h.newTree hb be bf ao a0 ap (a1.imp id fun ⟨_,k,hk,hh⟩=>⟨k,by simp[hk],hh⟩) a2 a3 (by simp[hn]) a4 ab a' aq a5 aw hT (Ld.2 ⟨ar,bd⟩) az an hd
 by_cases af:n+ys.length≤c
 ·rcases hx.at_ with ⟨e1,e2⟩ | ⟨g,cur,e',rfl,a4,hw,a',aq,a5,_,a2,a3,ai,bi,au⟩
  ·subst e1 e2;have bj:ys=[]:=Km (by omega);have bk:xs=[]:=Km (by omega);subst bj bk;refine⟨_,_,Zfz ht hi hs (Kh 0),?_⟩;refine h.takes hb (w':=w) (r:=.row ad 0 0 i.size) (Kh _) rfl rfl rfl (fun k _=>.inl rfl) ?_ ⟨_,_,_,_,Zw _ _ _,rfl⟩ hd fun b am=>?_
   ·exact⟨_,_,_,Zw _ _ _,⟨rfl,.inl ⟨rfl,rfl,rfl⟩⟩,trivial⟩
   exact(am.nil (by rw[Zw];cases ad<;>simp[Zp])).elim
  ·have bl:n*i.size+cs.length≤cur.size:=by rw[a7,a5,← KG];exact KC _ af
   have hr:=Jt (q:=0) (ty:=ty) ht hi hs hw af (by omega);rw[Lo] at hr;refine⟨_,_,hr,?_⟩;have ab:=setRow_heap w g cur (cur.toList.take (n*i.size)++cs++cur.toList.drop (n*i.size+cs.length)).toArray e' _ hw;refine a9 _ g c _ e' (by rw[size_setRow];exact Kh _) rfl rfl rfl (fun k _ bm=>setRow_other w g k _ bm) (.inr ⟨bi,au⟩) a2 a3 ab a4 af aq ?_ ?_
   ·simp only[LP,Kj,KP,KB,KU];omega
   ·have av:cur.toList.take (n*i.size)=os:=by
     refine Lj fun j=>?_;rw[KS];split
     ·rename_i hj;obtain⟨u',ba⟩:∃ u',os[j]?=some u':=⟨_,Kz (by rw[aj,← hn];exact hj)⟩
      have:=ai j u' ba;rw[cell_of_row w g _ cur e' _ hw] at this;rw[ba];simpa using this
     ·rw[KR (by rw[aj,← hn];omega)]
    refine Ya ab (ys:=cur.toList.drop (n*i.size+cs.length)) ?_;rw[av]
 ·have ai:n=0∨∃ b o,ad=some ⟨b,o,none⟩∧Z7 w b o os:=by
   rcases hx.at_ with h' | ⟨g,_,_,h',_,_,_,_,_,_,_,_,h2,_⟩
   ·exact .inl h'.1
   ·exact .inr ⟨g,0,h',h2⟩
  have ho:=XM (P:=P) (w:=w.drew) (c:=c) (by rw[aj,hn]) (ai.imp id fun ⟨b,o,h1,h2⟩=>⟨b,o,h1,h2.drew⟩);have hr:=ZfA (ty:=ty) ht hi hz hs ho (by omega) (by omega) (growslice_fits (by omega) h1);refine⟨_,_,hr,?_⟩;have bn:=grownCap_ge w (n+ys.length) c e;have aq:grownCap w (n+ys.length) c e≤maxLen:=grownCap_le_maxLen w (n+ys.length) c e (by simp only[maxLen];omega);have bb : (w.drew.alloc (.cells ((os++cs).toArray++Builtin.zeroCells z.cells (grownCap w (n+ys.length) c e-(n+ys.length))) e)).heap[w.heap.size]? =
    some (.cells ((os++cs).toArray++Builtin.zeroCells z.cells (grownCap w (n+ys.length) c e-(n+ys.length))) e (0,0)):=heap_alloc_new w.drew _
  refine a9 _ w.heap.size _ _ e (by simp) rfl rfl rfl (fun k hk _=>heap_alloc_old w.drew _ k hk) (.inl (Kh _)) (fun hi=>absurd (h.bound _ hi) (by omega)) (h.fresh _ (Kh _)) bb (by omega) bn aq ?_ ?_
  ·simp only[Array.size_append,LP,Kj,size_zeroCells,bc,aj,a7,← hn,← KG];congr 1
   omega
  ·refine Ya bb (ys:=(Builtin.zeroCells z.cells (grownCap w (n+ys.length) c e-(n+ys.length))).toList) ?_;simp
theorem ZnS {l:Hp} {t t' : Nat} (h:t≠t'):lkp (del l t) t'=lkp l t':=by rw[ZaL,Kn h]
theorem Vk:∀ (ds:List Nat) (l:Hp) (id:Nat),id∉ds→lkp (ZP l ds) id=lkp l id
 | [],l,id,_=>rfl
 | d :: ds,l,id,h=>by
  simp only[Kf,not_or] at h;simp only[ZP];rw[Vk ds _ id h.2,ZnS (fun e=>h.1 e.symm)]
def isOut:Zh→Bool
 | .tree _ _ _ (some _)=>true
 | _=>false
def ZoP (Γ:Gh) (w:World) (hp:Hp) (I:Nat→Prop) (ids:List Nat) (b:Nat):Prop:=I b∨∃ id∈ids,∃ o,lkp hp id=some o∧isOut o=false∧Za0 Γ w id o b
theorem VD (hp:Hp):∀ (ids:List Nat) (k:Nat),lkp (meltIn hp ids) k=(lkp hp k).map fun o=>if ids.contains k then Zdp o else o
 | [],k=>by simp[meltIn]
 | i :: r,k=>by
  simp only[meltIn];have ih:=VD hp r k;by_cases e:i=k
  ·subst e;cases hl:lkp hp i with
   | none=>simp only[ih,hl];rfl
   | some o=>simp only[ZW,Kk,KW];simp
  ·have hc:(i :: r).contains k=r.contains k:=by simp;intro h;exact absurd h.symm e
   rw[hc,← ih];cases lkp hp i with
   | none=>rfl
   | some o=>simp only[ZW];rw[Kn e]
theorem Sim.meltIn (h:Sim nt F A I Γ U sl hp a w) (ids:List Nat):Sim nt F A (ZoP Γ w hp I ids) Γ U sl (meltIn hp ids) a w:=by
 have aa:ZB I (ZoP Γ w hp I ids) w w:=⟨fun _ h=>.inl h,fun _ _=>rfl⟩
 have ae:∀ k o,lkp (Go.Abs.meltIn hp ids) k=some o→∃ o0,lkp hp k=some o0∧o=if ids.contains k then Zdp o0 else o0:=by
  intro k o hk;rw[VD] at hk;cases hl:lkp hp k with
  | none=>rw[hl] at hk;cases hk
  | some o0=>rw[hl] at hk;simp only[KW,Option.some.injEq] at hk;exact⟨o0,rfl,hk.symm⟩
 have bk:∀ k o0 b,Blk Γ w k (if ids.contains k then Zdp o0 else o0) b→Blk Γ w k o0 b:=by
  intro k o0 b hb;split at hb
  ·cases o0 with
   | box cs=>exact hb
   | row sz xs ex fz=>exact hb
   | gone=>exact hb
   | tree sz ns xs lk=>
    cases lk with
    | none=>exact .inl hb.row
    | some q=>exact hb
  ·exact hb
 refine { nt:=h.nt,dfr:=h.dfr,slots:=fun t=>(h.slots t).mono (ZY.refl Γ) aa,objs:=?_,inj:=?_,bound:=?_,fresh:=h.fresh,own:=h.own,names:=h.names,glob:=h.glob.mono aa }
 ·intro k o hk;obtain⟨o0,hl,rfl⟩:=ae k o hk;have ho:=h.objs k o0 hl;have plain:(∀ b,Za0 Γ w k o0 b→k∉ids)→XF Γ w (ZoP Γ w hp I ids) F A k o0:=fun hn=>ho.mono (ZY.refl Γ) aa fun b hb=>⟨rfl,fun hi=>by
   rcases hi with hi | ⟨id,aj,o',ab,_,hi⟩
   ·exact hi
   ·have:=h.inj k id o0 o' b hl ab hb (.inr (.inl hi));subst this;rw[hl] at ab;cases ab;exact absurd aj (hn b hi)⟩
  split
  ·rename_i af;have ag : k∈ids:=by simpa using af
   cases o0 with
   | box cs=>exact plain fun b hb=>False.elim hb
   | row sz xs ex fz=>exact plain fun b hb=>False.elim hb
   | gone=>exact ho
   | tree sz ns xs lk=>
    cases lk with
    | some q=>
     refine ho.mono (ZY.refl Γ) aa fun b hb=>⟨rfl,fun hi=>?_⟩
     rcases hi with hi | ⟨id,aj,o',ab,am,hi⟩
     ·exact hi
     ·have:=h.inj k id _ o' b hl ab hb (.inr (.inl hi));subst this;rw[hl] at ab;cases ab;cases am
    | none=>
    obtain⟨ad,n,c,h1,⟨h2,h3⟩,_⟩:=ho;refine⟨ad,n,c,h1,h2,?_⟩;rcases h3 with h3 | ⟨g,cur,e,B,rfl,hc,hw,h4,h5,h6,ah,h8,h9,ak⟩
    ·exact .inl ⟨h3.1,h3.2.1⟩
    ·have ai:Zp (Γ k)=some g:=by rw[h1];simp[Zp,Ku hc]
     refine .inr ⟨g,0,cur,e,rfl,hc,hw,h4,h5,⟨by omega,fun _=>rfl⟩,ah,?_,(ak g (by simp)).2,?_⟩
     ·simp only[Ka,Ki]
      rintro (hi | ⟨id,_,o',ab,_,hi⟩)
      ·exact(ak g (by simp)).1 hi
      ·have:=h.inj k id _ o' g hl ab (.inl ai) (.inr (.inl hi));subst this;rw[hl] at ab;cases ab;obtain⟨g2,B2,al,an,ao⟩:=hi;rw[ai] at al;cases al;cases ZK.uniq h8 an;exact(Ld.1 h9).1 ao
     ·simp only[Kk];exact h8.rep fun b hb=>
       have hi:Za0 Γ w k (.tree sz ns xs none) b:=⟨g,B,ai,h8,hb⟩
       ⟨.inr ⟨k,ag,_,hl,rfl,hi⟩,h.own b (ZdK (h.objs k _ hl) (.inr (.inl hi)))⟩
  ·rename_i af;exact plain fun _ _ hi=>af (by simpa using hi)
 ·intro i j o o' b hi hj ap aq;obtain⟨o0,hl,rfl⟩:=ae i o hi;obtain⟨o1,ab,rfl⟩:=ae j o' hj;exact h.inj i j o0 o1 b hl ab (bk i o0 b ap) (bk j o1 b aq)
 ·rintro b (hb | ⟨id,_,o,hl,_,hi⟩)
  ·exact h.bound b hb
  ·exact h.blk_lt hl (.inr (.inl hi))
theorem ZnT (h:Sim nt F A I Γ U sl hp a w) {o:Oper} {t u e:TypeId} {s x:Operand} {s' x' : Opd} {str flat:Bool}
  (ho:o.op=.call { callee:=.builtin .append,args := #[s,x],argTypes := #[t,u] }) (he:Q8 P t=some e) (aa:Zfp P e u=some str) (ae:Ve P e=true) (hs:ZJ s=some s') (hx:ZJ x=some x')
  {base:Nat} (hb:Qx U base) (hd:Qm nt o.dst=true) {ms:List Nat} (ah:∀ k∈ms,∃ o,lkp hp k=some o) {ef:Eff} (hv:XZ hp (P.cellsOf e) (P.bytesOf e) str flat base (evO sl s') (evO sl x') ms=some ef):JJ P nt F A I Γ U sl hp a w o base { eff:=ef,gone:=[] }:=by
 cases ms with
 | nil=>exact Zj3 h ho he aa ae hs hx hb hd (flat:=flat) (by simp only[XZ] at hv;rw[hv];rfl)
 | cons i r=>
  simp only[XZ] at hv;split at hv
  ·cases hv
  ·obtain⟨e0,h1,hv⟩:=Za hv;cases hv;obtain⟨u',w',hg,I',Γ',b1,b2,b3,b4,b5⟩:=Zj3 (h.meltIn (i :: r)) ho he aa ae hs hx hb hd (flat:=flat) (ce := { eff:=e0,gone:=[] }) (by rw[h1];rfl);refine⟨u',w',hg,I',Γ',b1,⟨fun b hb=>b2.sub b (.inl hb),fun b hb=>b2.blk b (.inl hb)⟩,fun b hb=>?_,b4,b5.sub fun k o hk=>?_⟩
   ·rcases b3 b hb with (h6 | ⟨id,_,o,hl,_,hi⟩) | h6
    ·exact .inl h6
    ·exact .inr (ZdK (h.objs id o hl) (.inr (.inl hi)))
    ·exact .inr h6
   ·have ag : lkp (Zd (Zd (ZP (Z2 e0.frz hp) (e0.dels++(i :: r))) e0.sets) e0.adds) k=some o:=hk;show lkp (Zd (Zd (ZP (Z2 e0.frz (meltIn hp (i :: r))) e0.dels) e0.sets) e0.adds) k=some o;have af:∀ (A:Hp) (ab ad:Hp),(∀ o,lkp ab k=some o→lkp ad k=some o)→∀ o,lkp (Zd ab A) k=some o→lkp (Zd ad A) k=some o:=by
     intro A
     induction A with
     | nil=>intro _ _ h;exact h
     | cons q r ih=>
      intro ab ad h;obtain⟨k',o'⟩:=q;simp only[Zd];refine ih _ _ fun o ho=>?_;rw[ZW] at ho ⊢;split
      ·rename_i e;rw[Ko e] at ho;exact ho
      ·rename_i e;rw[Kn e] at ho;exact h o ho
    refine af _ _ _ (fun o ho=>af _ _ _ (fun o ho=>?_) o ho) o ag;obtain⟨h2,h3⟩:=YO _ _ _ _ ho;simp only[Kd,not_or] at h3;rw[Vk _ _ k h3.1];rw[ZU] at h2 ⊢;rw[VD];have:(i :: r).contains k=false:=by simpa using h3.2
    rw[this];simpa using h2
theorem ZoQ (h:Sim nt F A I Γ U sl hp a w) {o:Oper} {t u e:TypeId} {s x:Operand} {s' x' : Opd}
  (ho:o.op=.call { callee:=.builtin .append,args := #[s,x],argTypes := #[t,u] }) (he:Q8 P t=some e) (ak:Zfp P e u=some false) (aw:Ve P e=true) (hs:ZJ s=some s') (hx:ZJ x=some x')
  {base:Nat} (hb:Qx U base) (hd:Qm nt o.dst=true) {ce:Zb} (hv:appT hp (P.cellsOf e) (P.bytesOf e) base (evO sl s') (evO sl x')=some ce):JJ P nt F A I Γ U sl hp a w o base ce:=by
 obtain⟨i,z,hi,hz,ap,af,ab,ae⟩:=XS aw;have ht:=Qp he;have aq:∀ {ef:Eff} {v' : Value} {w' : World},(Builtin.append_ #[t,u] o.type #[a.eval s,a.eval x]).run P w=.ok v' w' →
   X9 nt F A I Γ w (Wb U base) (Zb.on { eff:=ef,gone:=[] } o.dst sl hp).1 (Zb.on { eff:=ef,gone:=[] } o.dst sl hp).2 (a.put o.dst v') w'→JJ P nt F A I Γ U sl hp a w o base { eff:=ef,gone:=[] }:=by
  intro ef v' w' hr hp';refine⟨v',w',.inl ?_,hp'⟩;simp only[execOp,ho,resolve,invoke,builtin,Sem.run_bind,Sem.run_pure,Result.andThen_ok,List.map_toArray,Kq,Lv,hr]
 unfold appT Za2 at hv;obtain⟨ef,ar,ax⟩:=Za hv;clear hv;cases ax;obtain⟨q,hq,hv⟩:=Za ar;clear ar;have tree:∀ {id:Nat} {q:Nat×Nat×List D},Zeu (lkp hp id)=some q→lkp hp id=some (.tree q.1 q.2.1 q.2.2 none):=by
  intro id q hq;unfold Zeu at hq;split at hq
  ·rename_i hl;cases hq;exact hl
  ·cases hq
 split at hv
 ·rename_i c1;have hu:P.underlying u=some (.slice e):=by
   rcases ZhM ak with ⟨h2,_⟩ | ⟨_,h2⟩
   ·cases h2
   ·exact h2
  unfold Jp at hq;split at hq
  ·rename_i ay az;obtain⟨q2,h2,hq⟩:=Za hq;cases hq;have aj:=tree h2;obtain⟨s2,n2,ys⟩:=q2;dsimp only at c1 hv aj;have ag:=h.slOK.ev hx;rw[az] at ag;obtain⟨a1,m2,k2,s3,al,ag⟩:=ag;obtain⟨_,_,_,ah,_⟩:=h.objs ay _ aj;rw[al] at ah;cases ah;subst c1;rw[ab] at aj al hv;rw[ae] at hv;obtain⟨B2,cs,au⟩:=Zj9 h aj al;have aa:=h.slOK.ev hs;unfold Us at hv;split at hv
   ·rename_i am;rw[am] at aa;obtain⟨ad,aa⟩:=aa;split at hv
    ·rename_i hc;cases hv;obtain⟨v',w',h3,h4⟩:=Zka (ty:=o.type) h hb ht hi hz ap af hd hu (Zmx (ids:=[]) (ad:=ad)) au (fun k hk=>by simp at hk) (by simpa using hc.1) (by simpa using hc.2);exact aq (by rw[aa,ag];exact h3) (by rw[QB];exact h4)
    ·cases hv
   ·rename_i a0 am;rw[am] at aa;obtain⟨ad,n,c,s4,av,aa⟩:=aa;obtain⟨q1,h5,hw⟩:=Za hv;clear hv;have hv:=hw;clear hw;split at hv
    ·rename_i hc;obtain⟨c2,c3,c4,c5,c6⟩:=hc;cases hv;have an:=tree h5;obtain⟨s5,n5,xs⟩:=q1;dsimp only at c2 c3 c5 c6 an;obtain⟨_,_,_,ai,a2,_⟩:=h.objs a0 _ an;rw[av] at ai;cases ai;subst c2 c3;obtain⟨B1,os,ao⟩:=Zj9 h an av;obtain⟨v',w',h3,h4⟩:=Zka (ty:=o.type) h hb ht hi hz ap af hd hu ao au (fun k hk=>by simp at hk;subst hk;simpa using c4) (by rw[ao.len];exact c5) (by rw[ao.len];exact c6);exact aq (by rw[aa,ag];exact h3) (by rw[QB];exact h4)
    ·cases hv
   ·cases hv
  ·cases hq
 ·cases hv
theorem ZnU (h:Sim nt F A I Γ U sl hp a w) {o:Oper} {t u e:TypeId} {s x:Operand} {s' x' : Opd} {str flat:Bool}
  (ho:o.op=.call { callee:=.builtin .append,args := #[s,x],argTypes := #[t,u] }) (he:Q8 P t=some e) (aa:Zfp P e u=some str) (ad:Ve P e=true) (hs:ZJ s=some s') (hx:ZJ x=some x')
  {base:Nat} (hb:Qx U base) (hd:Qm nt o.dst=true) {ce:Zb} (hv:Zl5 hp (P.cellsOf e) (P.bytesOf e) str flat base (evO sl s') (evO sl x')=some ce):JJ P nt F A I Γ U sl hp a w o base ce:=by
 have ae:∀ {k:Nat} (z:AV),k∈QY hp z→∃ o,lkp hp k=some o:=by
  intro k z hz;unfold QY at hz;split at hz
  ·split at hz
   ·rename_i id af;simp at hz;subst hz;cases hl:lkp hp k with
    | none=>rw[hl] at af;cases af
    | some o=>exact⟨o,rfl⟩
   ·simp at hz
  ·simp at hz
 have melt:∀ {ms:List Nat} {ce:Zb},(∀ k∈ms,∃ o,lkp hp k=some o)→Za2 (XZ hp (P.cellsOf e) (P.bytesOf e) str flat base (evO sl s') (evO sl x') ms)=some ce→JJ P nt F A I Γ U sl hp a w o base ce:=by
  intro ms ce hm hv;obtain⟨ef,ag,ah⟩:=Za hv;cases ah;exact ZnT h ho he aa ad hs hx hb hd hm ag
 unfold Zl5 at hv;have kx:∀ k∈QY hp (evO sl s'),∃ o,lkp hp k=some o:=fun k hk=>ae _ hk;have ky:∀ k∈QY hp (evO sl x'),∃ o,lkp hp k=some o:=fun k hk=>ae _ hk;generalize QY hp (evO sl s')=mx at hv kx;generalize QY hp (evO sl x')=my at hv ky;cases mx with
 | nil=>exact melt ky hv
 | cons i r=>
  cases my with
  | nil=>exact melt kx hv
  | cons j t=>
   simp only[JD] at hv;split at hv
   ·cases hv
   ·rename_i hc;have ab:str=false:=by cases str<;>simp_all
    subst ab;exact ZoQ h ho he aa ad hs hx hb hd hv
end
end Go.Abs

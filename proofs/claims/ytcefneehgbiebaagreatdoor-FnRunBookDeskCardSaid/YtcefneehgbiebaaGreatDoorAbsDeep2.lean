/- Own text. -/
import Derived.Test.YtcefneehgbiebaaGreatDoorAbsDeep
import Derived.Test.YtcefneehgbiebaaGreatDoorAbsCall3
set_option linter.unusedVariables false
set_option linter.unusedSimpArgs false
namespace Go.Abs
open Go
section
variable {P:Program} {nt:Nat} {U:Nat→Prop} {F A I:Nat→Prop} {Γ:Gh} {sl:Sl} {hp:Hp} {a:Act} {w:World}
theorem Zu.mono' {α β:Type} {R R' : α→β→Prop}:∀ {as:List α} {bs:List β},Zu R as bs→(∀ a b,b∈bs→R a b→R' a b)→Zu R' as bs
 | [],[],_,_=>trivial
 | [],_ :: _,h,_=>h.elim
 | _ :: _,[],h,_=>h.elim
 | _ :: _,_ :: _,h,hr=>⟨hr _ _ (by simp) h.1,Zu.mono' h.2 fun a b hb=>hr a b (by simp[hb])⟩
theorem Cks.append {ns sz:Nat} {xs ys:List D} {cs ds:List (List Value)} (h:Cks w I F A ns sz xs cs) (k:Cks w I F A ns sz ys ds):Cks w I F A ns sz (xs++ys) (cs++ds):=Zu.append h k
theorem Dis.append {L M:List Value} (hL:Dis L) (hM:Dis M) (hx:∀ (p q b:Nat) (u v:Value),L[p]?=some u→M[q]?=some v→YB u=some b→YB v=some b→False):Dis (L++M):=by
 intro p q b u v hu hv hb aa;rw[Ln] at hu hv;split at hu<;>split at hv
 ·exact hL p q b u v hu hv hb aa
 ·exact(hx _ _ b u v hu hv hb aa).elim
 ·exact(hx _ _ b v u hv hu aa hb).elim
 ·have:=hM _ _ b u v hu hv hb aa;omega
structure Part (Γ:Gh) (w:World) (I F A:Nat→Prop) (hp:Hp) (ids:List Nat) (ns sz:Nat) (xs:List D) (os:List (List Value)) (ad:Option Addr) (n c:Nat):Prop where
 cks:Cks w I F A ns sz xs os
 len:n=xs.length
 dis:Dis os.flatten
 at_:(n=0∧c=0)∨∃ g cur e,ad=some ⟨g,0,none⟩∧0<c∧w.heap[g]?=some (.cells cur e (0,0))∧n≤c∧c≤maxLen∧cur.size=c*sz∧0<sz∧¬I g∧F g∧QE w g 0 os.flatten∧(∃ id∈ids,∃ o,lkp hp id=some o∧ZB (Γ id)=some g)∧∀ (p:Nat) (u:Value),os.flatten[p]?=some u→YB u≠some g
 blk:∀ (p:Nat) (u:Value) (b:Nat),os.flatten[p]?=some u→YB u=some b→∃ id∈ids,∃ o,lkp hp id=some o∧Ye Γ w id o b
theorem Zvg {ids:List Nat} {ns sz:Nat} {ad:Option Addr}:Part Γ w I F A hp ids ns sz [] [] ad 0 0:=
 ⟨trivial,rfl,fun p q b u v hu=>by simp at hu,.inl ⟨rfl,rfl⟩,fun p u b hu=>by simp at hu⟩
theorem Zsu (h:Sim nt F A I Γ U sl hp a w) {id sz ns:Nat} {xs:List D} {lk:Option (Nat×Nat×Nat)} (hl:lkp hp id=some (.deep sz ns xs lk)) {ad:Option Addr} {n c:Nat} (hg:Γ id=some (.row ad n c sz)):∃ os,Part Γ w I F A hp [id] ns sz xs os ad n c:=by
 obtain⟨ai,n',c',ab,hd,_⟩:=h.objs id _ hl;rw[hg] at ab;cases ab;have af:=hd;obtain⟨hn,h3⟩:=hd;rcases h3 with ⟨h3,h4⟩ | ⟨g,cur,e,rfl,hc,hw,h4,h5,h6,aa,h8,ag,aj,ah,ak⟩
 ·subst h3 h4;have hx:xs=[]:=Ks hn.symm;subst hx;exact⟨[],Zvg⟩
 ·obtain⟨os,k1,k2,k3,k4,k5⟩:=Zve af (KG hc);have ae:ZB (Γ id)=some g:=by rw[hg];simp[ZB,KG hc]
  exact⟨os,k1,hn,k3,.inr ⟨g,cur,e,rfl,hc,hw,h4,h5,h6,aa,h8,ag,k2,⟨id,by simp,_,hl,ae⟩,k4⟩,fun p u b hu hb=>⟨id,by simp,_,hl,g,p,ae,k5 p u b hu hb⟩⟩
theorem ZAI {ids:List Nat} {ns sz:Nat} {xs:List D} {os:List (List Value)} {ad:Option Addr} {n c:Nat} (hp' : Part Γ w I F A hp ids ns sz xs os ad n c) {u e:TypeId} (hu:P.underlying u=some (.slice e)):Src P w u sz (.slice ad n c) xs.length os.flatten:=by
 have hl:=hp'.cks.length_flatten;have hn:=hp'.len;have aa:n=0∨∃ b o,ad=some ⟨b,o,none⟩∧QE w b o os.flatten:=by
  rcases hp'.at_ with h | ⟨g,_,_,h,_,_,_,_,_,_,_,_,h2,_⟩
  ·exact .inl h.1
  ·exact .inr ⟨g,0,h,h2⟩
 subst hn;exact⟨⟨_,hu,fun k=>by simp⟩,by simp[Builtin.lenOf],Yp hl aa,Yp hl (aa.imp id fun ⟨b,o,h1,h2⟩=>⟨b,o,h1,h2.drew⟩),fun v hv=>by obtain⟨y,hy⟩:=hp'.cks.cell v hv;exact Zzl hy,hl⟩
theorem appDp (h:Sim nt F A I Γ U sl hp a w) {base:Nat} (hb:Xp U base) {t u ty e:TypeId} {i:TypeInfo} {z:Value} (ht:P.underlying t=some (.slice e)) (hi:P.info? e=some i) (hz:i.zero=some z) (bk:z.cells.size=i.size) (a0:0<i.size)
  {dst:Option Nat} (hd:Xb nt dst=true) (hu:P.underlying u=some (.slice e)) {aa ae:List Nat} {ns:Nat} {xs ys:List D} {os cs:List (List Value)} {ad bc:Option Addr} {n c n2 c2:Nat}
  (hx:Part Γ w I F A hp aa ns i.size xs os ad n c) (hy:Part Γ w I F A hp ae ns i.size ys cs bc n2 c2) (ao:∀ k∈aa,k∉ae)
  (h1:(n+ys.length)*i.bytes≤ZU) (h2:n+ys.length≤ZU) :
  ∃ v' w',(Builtin.append_ #[t,u] ty #[.slice ad n c,.slice bc n2 c2]).run P w=.ok v' w'∧UZ nt F A I Γ w (Zad U base) (Zt sl dst (.own base)) (Zh (Qs hp (aa++ae)) [(base,.deep i.size ns (xs++ys) none)]) (a.put dst v') w':=by
 simp only[ZU] at h1 h2;have hs:=ZAI (P:=P) hy hu;have az:=hx.cks.length_flatten;have bd:=hy.cks.length_flatten;have hn:=hx.len;have a1:(os++cs).flatten=os.flatten++cs.flatten:=by simp
 have a2:Dis (os++cs).flatten:=by
  rw[a1];refine hx.dis.append hy.dis fun p q b u v hu hv hb af=>?_;obtain⟨k,hk,o,hl,ai⟩:=hx.blk p u b hu hb;obtain⟨k',aj,o',a3,ak⟩:=hy.blk q v b hv af;exact ao k hk (h.inj k k' o o' b hl a3 (.inr (.inl ai)) (.inr (.inl ak)) ▸ aj)
 have ap:∀ (p:Nat) (u:Value) (b:Nat),(os++cs).flatten[p]?=some u→YB u=some b→∃ id∈aa++ae,∃ o,lkp hp id=some o∧Blk Γ w id o b:=by
  intro p u b hu hb;rw[a1,Ln] at hu;split at hu
  ·obtain⟨k,hk,o,hl,ai⟩:=hx.blk _ u b hu hb;exact⟨k,by simp[hk],o,hl,.inr (.inl ai)⟩
  ·obtain⟨k,hk,o,hl,ai⟩:=hy.blk _ u b hu hb;exact⟨k,by simp[hk],o,hl,.inr (.inl ai)⟩
 have be:∀ (p:Nat) (u:Value) (b:Nat),(os++cs).flatten[p]?=some u→YB u=some b→b<w.heap.size:=fun p u b hu hb=>by
  obtain⟨k,_,o,hl,ai⟩:=ap p u b hu hb;exact h.blk_lt hl ai
 have bf:Cks w I F A ns i.size (xs++ys) (os++cs):=hx.cks.append hy.cks;have bg:∀ (w' : World) (g c' : Nat) (cur:Array Value) (e' : TypeId),w.heap.size≤w'.heap.size→w'.os=w.os→w'.tape=w.tape→w'.output=w.output →
   (∀ k,k<w.heap.size→k≠g→w'.heap[k]?=w.heap[k]?)→(w.heap.size≤g∨((∃ id∈aa,∃ o,lkp hp id=some o∧ZB (Γ id)=some g)∧(∀ (p:Nat) (u:Value),os.flatten[p]?=some u→YB u≠some g)))→¬I g→F g →
   w'.heap[g]?=some (.cells cur e' (0,0))→0<c'→n+ys.length≤c'→c'≤maxLen→cur.size=c' * i.size→QE w' g 0 (os++cs).flatten →
   UZ nt F A I Γ w (Zad U base) (Zt sl dst (.own base)) (Zh (Qs hp (aa++ae)) [(base,.deep i.size ns (xs++ys) none)]) (a.put dst (.slice (some ⟨g,0,none⟩) (n+ys.length) c')) w':=by
  intro w' g c' cur e' bl bm aq a4 al am ar a5 ab au bh av a6 an;have ah:∀ (p:Nat) (u:Value),(os++cs).flatten[p]?=some u→YB u≠some g:=by
   intro p u hu hb;rcases am with am | ⟨⟨k,hk,o,hl,aw⟩,bn⟩
   ·have:=be p u g hu hb;omega
   ·rw[a1,Ln] at hu;split at hu
    ·exact bn _ u hu hb
    ·obtain⟨k',aj,o',a3,ak⟩:=hy.blk _ u g hu hb;exact ao k hk (h.inj k k' o o' g hl a3 (.inl aw) (.inr (.inl ak)) ▸ aj)
  have a7:∀ k,k<w.heap.size→w'.heap[k]?=w.heap[k]?∨(∃ id∈aa++ae,∃ o,lkp hp id=some o∧Blk Γ w id o k)∧¬I k:=by
   intro k hk;by_cases e:k=g
   ·subst e;rcases am with am | ⟨⟨k',aj,o,hl,aw⟩,_⟩
    ·omega
    ·exact .inr ⟨⟨k',by simp[aj],o,hl,.inl aw⟩,ar⟩
   ·exact .inl (al k hk e)
  have a8 : Cks w' I F A ns i.size (xs++ys) (os++cs):=bf.conv fun v hv y bo=>by
   obtain⟨p,hp'⟩:=K3 hv;refine bo.mono ⟨fun _ h=>h,fun b hb=>al b (h.bound b hb) fun e=>ar (e ▸ hb)⟩ fun b hb=>⟨al b (be p v b hp' hb) fun e=>ah p v hp' (e ▸ hb),fun h=>h⟩
  refine h.takes hb (r:=.row (some ⟨g,0,none⟩) (n+ys.length) c' i.size) bl bm aq a4 a7 ?_ ⟨_,_,_,_,ZK _ _ _,rfl⟩ hd ?_
  ·exact⟨_,_,_,ZK _ _ _,Zst (by simp[hn]) au ab bh av a6 a0 ar a5 a8 an a2 ah,trivial⟩
  ·intro b af;rcases af with af | ⟨g',p,a9,hp',a'⟩ | af
   rotate_right
   ·exact af.elim
   ·rw[ZK] at af;simp[ZB,KG au] at af;subst af;rcases am with am | ⟨⟨k',aj,o,hl,aw⟩,_⟩
    ·exact .inl am
    ·exact .inr ⟨k',by simp[aj],o,hl,.inl aw⟩
   ·rw[ZK] at a9;simp[ZB,KG au] at a9;subst a9;have ax : p<(os++cs).flatten.length:=by rw[bf.length_flatten];exact hp'
    have:=an p _ (Kn ax);simp only[La] at this;unfold YP at a';rw[this] at a';exact .inr (ap p _ b (Kn ax) a')
 by_cases ag:n+ys.length≤c
 ·rcases hx.at_ with ⟨e1,e2⟩ | ⟨g,cur,e',rfl,au,hw,bh,av,a6,_,ar,a5,an,ba,ah⟩
  ·subst e1 e2;have bp:ys=[]:=Ks (by omega);have bq:xs=[]:=Ks (by omega);subst bp bq;refine⟨_,_,Zhp ht hi hs (Kt 0),?_⟩;refine h.takes hb (w':=w) (r:=.row ad 0 0 i.size) (Kt _) rfl rfl rfl (fun k _=>.inl rfl) ?_ ⟨_,_,_,_,ZK _ _ _,rfl⟩ hd fun b af=>?_
   ·exact⟨_,_,_,ZK _ _ _,⟨rfl,.inl ⟨rfl,rfl⟩⟩,trivial⟩
   exact(af.nil (by rw[ZK];cases ad<;>simp[ZB])).elim
  ·have bb:n*i.size+cs.flatten.length≤cur.size:=by rw[bd,a6,← KH];exact KF _ ag
   refine⟨_,_,Zd6 (ty:=ty) ht hi hs hw ag bb,?_⟩;have ab:=setRow_heap w g cur (cur.toList.take (n*i.size)++cs.flatten++cur.toList.drop (n*i.size+cs.flatten.length)).toArray e' _ hw;refine bg _ g c _ e' (by rw[size_setRow];exact Kt _) rfl rfl rfl (fun k _ br=>setRow_other w g k _ br) (.inr ⟨ba,ah⟩) ar a5 ab au ag av ?_ ?_
   ·simp only[LA,Kr,Lo,LC,Lt];omega
   ·have ay:cur.toList.take (n*i.size)=os.flatten:=by
     refine LG fun j=>?_;rw[Lg];split
     ·rename_i hj;obtain⟨u',bi⟩:∃ u',os.flatten[j]?=some u':=⟨_,Kn (by rw[az,← hn];exact hj)⟩
      have:=an j u' bi;rw[cell_of_row w g _ cur e' _ hw] at this;rw[bi];simpa using this
     ·rw[KW (by rw[az,← hn];omega)]
    refine Q4 ab (ys:=cur.toList.drop (n*i.size+cs.flatten.length)) ?_;rw[ay];simp
 ·have an:n=0∨∃ b o,ad=some ⟨b,o,none⟩∧QE w b o os.flatten:=by
   rcases hx.at_ with h' | ⟨g,_,_,h',_,_,_,_,_,_,_,_,h2,_⟩
   ·exact .inl h'.1
   ·exact .inr ⟨g,0,h',h2⟩
  have ho:=Yp (P:=P) (w:=w.drew) (c:=c) (by rw[az,hn]) (an.imp id fun ⟨b,o,h1,h2⟩=>⟨b,o,h1,h2.drew⟩);have hr:=Zhq (ty:=ty) ht hi hz hs ho (by omega) (by omega) (growslice_fits (by omega) h1);refine⟨_,_,hr,?_⟩;have bs:=grownCap_ge w (n+ys.length) c e;have av:grownCap w (n+ys.length) c e≤maxLen:=grownCap_le_maxLen w (n+ys.length) c e (by simp only[maxLen];omega);have bj : (w.drew.alloc (.cells ((os.flatten++cs.flatten).toArray++Builtin.zeroCells z.cells (grownCap w (n+ys.length) c e-(n+ys.length))) e)).heap[w.heap.size]? =
    some (.cells ((os.flatten++cs.flatten).toArray++Builtin.zeroCells z.cells (grownCap w (n+ys.length) c e-(n+ys.length))) e (0,0)):=heap_alloc_new w.drew _
  refine bg _ w.heap.size _ _ e (by simp) rfl rfl rfl (fun k hk _=>heap_alloc_old w.drew _ k hk) (.inl (Kt _)) (fun hi=>absurd (h.bound _ hi) (by omega)) (h.fresh _ (Kt _)) bj (by omega) bs av ?_ ?_
  ·simp only[Array.size_append,LA,Kr,size_zeroCells,bk,az,bd,← hn,← KH];congr 1
   omega
  ·refine Q4 bj (ys:=(Builtin.zeroCells z.cells (grownCap w (n+ys.length) c e-(n+ys.length))).toList) ?_;simp
theorem ZAJ (h:Sim nt F A I Γ U sl hp a w) {base:Nat} (hb:Xp U base) {t u ty e:TypeId} {i:TypeInfo} {z:Value} (ht:P.underlying t=some (.slice e)) (hi:P.info? e=some i) (hz:i.zero=some z) (cy:z.cells.size=i.size) (ar:0<i.size)
  {dst:Option Nat} (hd:Xb nt dst=true) {id sz nm ii jj:Nat} {xs fl ys:List D} (hl:lkp hp id=some (.deep sz i.size xs (some (nm,ii,jj)))) {ad:Option Addr} {n c s' : Nat} (cz:Γ nm=some (.row ad n c s')) (a9:Zkc xs ii jj=some fl)
  {cs:List (List Value)} {xv:Value} {c0 : Bool} (hs:Src P w u i.size xv ys.length cs.flatten) (hc:Z1 w (inS I A c0) i.size ys cs) (ba:QH ys) (h1:(fl.length+ys.length)*i.bytes≤ZU) (h2:fl.length+ys.length≤ZU) :
  ∃ v' w',(Builtin.append_ #[t,u] ty #[.slice ad n c,xv]).run P w=.ok v' w'∧UZ nt F A I Γ w (Zad U base) (Zt sl dst (.own base)) (Zh (Zh hp [(id,.row sz xs true false)]) [(base,.row i.size (fl++ys) true true)]) (a.put dst v') w':=by
 simp only[ZU] at h1 h2;obtain⟨dm,nD,cD,cg,a0,c1⟩:=h.objs id _ hl;obtain⟨g,a',n',c',dn,rfl,bb,c4,dp,ao⟩:=c1;rw[cz] at bb;cases bb;have br:cD≠0:=by
  rcases a0.2 with h3 | ⟨_,_,_,_,h3,_⟩
  ·have:=a0.1;omega
  ·omega
 have a1:ZB (Γ id)=some g:=by rw[cg];simp[ZB,br]
 obtain⟨os,ch,bs,bt,bu,bc⟩:=Zve a0 br;have ci:=ch.length_flatten;have bp:∀ (p:Nat) (v:Value) (b:Nat),os.flatten[p]?=some v→YB v=some b→Ye Γ w id (.deep sz i.size xs (some (nm,ii,jj))) b:=fun p v b hv hb=>⟨g,p,a1,bc p v b hv hb⟩
 have ag:∀ b,Ye Γ w id (.deep sz i.size xs (some (nm,ii,jj))) b→b<w.heap.size∧¬I b∧F b:=fun b hb=>Zpt (h.objs id _ hl) hb;have bv:os.flatten[ii*sz+jj]?=some (.slice ad n c):=by
  have cj:ii*sz+jj<os.flatten.length:=by
   rw[ci];have:=KF sz (show ii+1≤xs.length from c4);rw[KH] at this;omega
  have:=bs _ _ (Kn cj);simp only[La] at this;rw[ao] at this;rw[Kn cj];exact this.symm
 obtain⟨x,hx,a9⟩:=Za a9;obtain⟨g',vs,bw,dq,c5,c6⟩:=ZcP a0 hx;cases bw;have bx:x.cells[jj]?=some (.sl fl):=by
  split at a9
  ·rename_i dr hy;cases a9;exact hy
  ·cases a9
 obtain⟨v0,c7,bz⟩:=c6.get jj _ bx;have b1 : v0=.slice ad n c:=by
  have:=c5 jj v0 c7;rw[ao] at this;cases this;rfl
 subst b1;obtain⟨a2,c2,e2,bd,c8⟩:=bz;cases e2;have b2:∀ (w' : World) (B:Nat→Prop) (am : Option Addr) (n' c' : Nat),w.heap.size≤w'.heap.size→w'.os=w.os→w'.tape=w.tape→w'.output=w.output →
   (∀ k,k<w.heap.size→w'.heap[k]?=w.heap[k]?∨Ye Γ w id (.deep sz i.size xs (some (nm,ii,jj))) k)→(∀ b,B b→w.heap.size≤b∧b<w'.heap.size) →
   (∀ (p:Nat) (v:Value) (y:D),os.flatten[p]?=some v→WK w I F A i.size y v→WK w' I F A i.size y v) →
   Zfe w' (fun b=>I b∨Ye Γ w id (.deep sz i.size xs (some (nm,ii,jj))) b∨B b) F A am n' c' i.size (fl++ys) true true →
   (∀ b,ZB (some (.row am n' c' i.size))=some b→Ye Γ w id (.deep sz i.size xs (some (nm,ii,jj))) b∨B b) →
   UZ nt F A I Γ w (Zad U base) (Zt sl dst (.own base)) (Zh (Zh hp [(id,.row sz xs true false)]) [(base,.row i.size (fl++ys) true true)]) (a.put dst (.slice am n' c')) w':=by
  intro w' B am n' c' ck c9 be b4 ai hB bf da db;have ah:∀ k,k<w.heap.size→¬Ye Γ w id (.deep sz i.size xs (some (nm,ii,jj))) k→w'.heap[k]?=w.heap[k]?:=fun k hk hn=>(ai k hk).elim (fun h=>h) fun h=>absurd h hn;have cl:g<w.heap.size:=h.blk_lt hl (.inl a1);have an:¬Ye Γ w id (.deep sz i.size xs (some (nm,ii,jj))) g:=by
   rintro ⟨g2,p,a4,hp2,hn2⟩
   rw[a1] at a4;cases a4;have cm:p<os.flatten.length:=by rw[ci];exact hp2
   have:=bs p _ (Kn cm);simp only[La] at this;unfold YP at hn2;rw[this] at hn2;exact bu p _ (Kn cm) hn2
  have ae:∀ j o b,j≠id→lkp hp j=some o→Blk Γ w j o b→¬Ye Γ w id (.deep sz i.size xs (some (nm,ii,jj))) b∧b<w.heap.size:=fun j o b hj cn co=>
   ⟨fun hi=>hj (h.inj j id o _ b cn hl co (.inr (.inl hi))),h.blk_lt cn co⟩
  have aj:ZR I (fun b=>I b∨Ye Γ w id (.deep sz i.size xs (some (nm,ii,jj))) b∨B b) w w':=⟨fun _ h=>.inl h,fun b hb=>ah b (h.bound b hb) fun hi=>(ag b hi).2.1 hb⟩
  have hk:Q9 Γ (upd Γ base (.row am n' c' i.size)):=Vn _ (h.names base hb.self);have bg:base≠id:=fun e=>hb.self (e ▸ h.id_in hl);refine⟨_,upd Γ base (.row am n' c' i.size),fun id b hg=>hk _ _ hg,aj,?_,⟨c9,be,b4,ck,fun k a5 dc=>ah k a5 fun hi=>dc (ag k hi).2.2⟩,?_⟩
  ·rintro b (aa | aa | aa)
   ·exact .inl aa
   ·exact .inr (ag b aa).2.2
   ·exact .inr (h.fresh b (hB b aa).1)
  have b5:∀ k o,lkp (Zh (Zh hp [(id,.row sz xs true false)]) [(base,.row i.size (fl++ys) true true)]) k=some o→(k=base∧o=.row i.size (fl++ys) true true)∨(k=id∧o=.row sz xs true false)∨(k≠base∧k≠id∧lkp hp k=some o):=by
   intro k o hk;simp only[Zh,Qm] at hk;split at hk
   ·rename_i e;cases hk;exact .inl ⟨e.symm,rfl⟩
   ·rename_i e;split at hk
    ·rename_i e';cases hk;exact .inr (.inl ⟨e'.symm,rfl⟩)
    ·rename_i e';exact .inr (.inr ⟨fun h=>e h.symm,fun h=>e' h.symm,hk⟩)
  have a6:∀ j o b,j≠base→j≠id→lkp hp j=some o→Blk (upd Γ base (.row am n' c' i.size)) w' j o b→Blk Γ w j o b:=fun j o b h3 h4 h5 h6=>
   h6.back (Qj _ _ h3) fun g' bw=>have:=ae j o g' h4 h5 (.inl bw);ah g' this.2 this.1
  refine h.next hk aj ?_ ?_ ?_ ck (fun k a5=>by rw[Qj _ _ (fun e=>a5 (.inr (by omega)))];exact h.names k (fun hu=>a5 (.inl hu))) ⟨_,_,_,_,ZK _ _ _,rfl⟩ hd
  ·intro k o a5;rcases b5 k o a5 with ⟨rfl,rfl⟩ | ⟨rfl,rfl⟩ | ⟨h3,h4,h5⟩
   ·exact⟨_,_,_,ZK _ _ _,da⟩
   ·refine⟨_,nD,cD,by rw[Qj _ _ (fun e=>bg e.symm)];exact cg,a0.1,?_⟩;rcases a0.2 with h6 | ⟨g2,cur,e',a4,q1,q2,q3,q4,q5,q6,q7,q8,_⟩
    ·exact absurd h6.2 br
    ·cases a4;refine .inr ⟨g,cur,e',rfl,q1,by rw[ah g cl an];exact q2,q3,q4,q5,q6,?_,q8,?_⟩
     ·simp only[Ka,Kq]
      rintro (h6 | h6 | h6)
      ·exact q7 h6
      ·exact an h6
      ·have:=(hB g h6).1;omega
     ·simp only[Km];have b6 : Z1 w' (fun b=>(I b∨Ye Γ w k (.deep sz i.size xs (some (nm,ii,jj))) b∨B b)∧A b) sz xs os:=by
       refine Zu.mono' ch fun x vs dd hx=>⟨hx.1,Zer (Zu.of_get hx.2.length fun j y v hy hv=>?_)⟩
       obtain⟨v',cp,hn⟩:=hx.2.get j y hy;rw[hv] at cp;cases cp;obtain⟨p,hp⟩:=K3 (List.mem_flatten.2 ⟨vs,dd,Kc hv⟩);exact Zs0 (bf p v y hp hn) (fun b hb ha=>⟨.inl hb,ha⟩) fun b hb=>⟨.inr (.inl (bp p v b hp hb)),h.own b (ag b (bp p v b hp hb)).2.2⟩
      refine Q0 b6 fun j v hv=>?_;have:=bs j v hv;rw[World.cell?_of_block (w:=w) (a:=⟨g,0+j,none⟩) (ah g cl an)];exact this
   ·refine(h.objs k o h5).mono hk aj fun b b7=>?_;have:=ae k o b h4 h5 b7;refine⟨ah b this.2 this.1,?_⟩
    rintro (h6 | h6 | h6)
    ·exact h6
    ·exact absurd h6 this.1
    ·have:=(hB b h6).1;omega
  ·have af:∀ b,Blk (upd Γ base (.row am n' c' i.size)) w' base (.row i.size (fl++ys) true true) b→Ye Γ w id (.deep sz i.size xs (some (nm,ii,jj))) b∨B b:=fun b aa=>by
    have:=aa.row;rw[ZK] at this;exact db b this
   have bq:∀ b,Blk (upd Γ base (.row am n' c' i.size)) w' id (.row sz xs true false) b→b=g:=fun b aa=>by
    have:=aa.row;rw[Qj _ _ (fun e=>bg e.symm),a1] at this;cases this;rfl
   have n1:∀ b,(Ye Γ w id (.deep sz i.size xs (some (nm,ii,jj))) b∨B b)→b=g→False:=by
    rintro b (h6 | h6) rfl
    ·exact an h6
    ·have:=(hB b h6).1;omega
   have n2:∀ j o b,j≠id→lkp hp j=some o→Blk Γ w j o b→(Ye Γ w id (.deep sz i.size xs (some (nm,ii,jj))) b∨B b)→False:=by
    rintro j o b h3 h4 h5 (h6 | h6)
    ·exact(ae j o b h3 h4 h5).1 h6
    ·have:=(hB b h6).1;have:=(ae j o b h3 h4 h5).2;omega
   intro k k' o o' b de df au av;rcases b5 k o de with ⟨rfl,rfl⟩ | ⟨rfl,rfl⟩ | ⟨h3,h4,h5⟩<;>rcases b5 k' o' df with ⟨rfl,rfl⟩ | ⟨rfl,rfl⟩ | ⟨h6,h7,h8⟩
   ·rfl
   ·exact(n1 b (af b au) (bq b av)).elim
   ·exact(n2 k' o' b h7 h8 (a6 k' o' b h6 h7 h8 av) (af b au)).elim
   ·exact(n1 b (af b av) (bq b au)).elim
   ·rfl
   ·have e:=bq b au;subst e;exact(h.inj k k' _ o' b hl h8 (.inl a1) (a6 k' o' b h6 h7 h8 av))
   ·exact(n2 k o b h4 h5 (a6 k o b h3 h4 h5 au) (af b av)).elim
   ·have e:=bq b av;subst e;exact(h.inj k k' o _ b h5 hl (a6 k o b h3 h4 h5 au) (.inl a1))
   ·exact h.inj k k' o o' b h5 h8 (a6 k o b h3 h4 h5 au) (a6 k' o' b h6 h7 h8 av)
  ·rintro b (aa | aa | aa)
   ·have:=h.bound b aa;omega
   ·have:=(ag b aa).1;omega
   ·exact(hB b aa).2
 have bh:∀ (S:Nat→Prop) (w' : World),Z1 w' S i.size ys cs:=fun S w'=>VL ba hc;have bi:QH fl:=by
  have:∀ {l:List D},Zb0 D.flat l=true→QH l:=by
   intro l
   induction l with
   | nil=>intro _ y hy;simp at hy
   | cons x l ih=>
    intro hl y hy;simp only[Zb0,Kf] at hl;rcases Kd.1 hy with rfl | hy
    ·exact hl.1
    ·exact ih hl.2 y hy
  exact this c8
 by_cases ak:fl.length+ys.length≤c
 ·rcases bd.2 with ⟨e1,e2⟩ | ⟨b0,cur,e',rfl,bj,hw,cq,bk,b8,_,aw,ax,b9⟩
  ·have dg:ys=[]:=Ks (by omega);have b':fl=[]:=Ks e1;subst dg b' e2;refine⟨_,_,Zhp ht hi hs (Kt 0),?_⟩;exact b2 w (fun _=>False) ad 0 0 (Kt _) rfl rfl rfl (fun _ _=>.inl rfl) (fun _ h=>h.elim) (fun _ _ _ _ h=>h) ⟨rfl,.inl ⟨rfl,rfl⟩⟩ (fun b aa=>by cases ad<;>simp[ZB] at aa)
  ·have ca:=hc.length_flatten;have cb:fl.length*i.size+cs.flatten.length≤cur.size:=by rw[ca,b8,← KH];exact KF _ ak
   refine⟨_,_,Zd6 (ty:=ty) ht hi hs hw ak cb,?_⟩;have ab:=setRow_heap w b0 cur (cur.toList.take (fl.length*i.size)++cs.flatten++cur.toList.drop (fl.length*i.size+cs.flatten.length)).toArray e' _ hw;have cr:YB (.slice (some ⟨b0,0,none⟩) fl.length c)=some b0:=by simp[YB,KG bj]
   have al:=bp _ _ b0 bv cr;obtain⟨fs,ay,a7⟩:=Q1 b9;have a8:=ay.length_flatten;have bl:cur.toList.take (fl.length*i.size)=fs.flatten:=by
    refine LG fun j=>?_;rw[Lg];split
    ·rename_i hj;obtain⟨u',ct⟩:∃ u',fs.flatten[j]?=some u':=⟨_,Kn (by rw[a8];exact hj)⟩
     have:=a7 j u' ct;rw[cell_of_row w b0 _ cur e' _ hw] at this;rw[ct];simpa using this
    ·rw[KW (by rw[a8];omega)]
   generalize bm:(cur.toList.take (fl.length*i.size)++cs.flatten++cur.toList.drop (fl.length*i.size+cs.flatten.length)).toArray=cur' at ab;have ap : cur'.toList=fs.flatten++(cs.flatten++cur.toList.drop (fl.length*i.size+cs.flatten.length)):=by rw[← bm,bl];simp
   have bn : cur'.size=c*i.size:=by
    rw[← bm,← b8];simp only[LA,Kr,Lo,LC,Lt];omega
   have cc:QE (w.setRow b0 cur') b0 0 fs.flatten:=Q4 ab ap;have cd:QE (w.setRow b0 cur') b0 0 (fs++cs).flatten:=Q4 ab (ys:=cur.toList.drop (fl.length*i.size+cs.flatten.length)) (by rw[ap];simp);refine b2 (w.setRow b0 cur') (fun _=>False) _ _ c (by rw[size_setRow];exact Kt _) rfl rfl rfl (fun k _=>?_) (fun _ h=>h.elim) ?_ ?_ ?_
   ·by_cases e:k=b0
    ·subst e;exact .inr al
    ·exact .inl (setRow_other w b0 k _ e)
   ·intro p v y hv aq;by_cases cu:p=ii*sz+jj
    ·subst cu;rw[bv] at hv;cases hv;cases y with
     | sl zs=>
      obtain⟨a3,c3,e3,az,bo⟩:=aq;injection e3 with e4 e5 e6;subst e4 e6;rw[← e5] at az;refine⟨_,c,by rw[e5],⟨rfl,.inr ⟨b0,cur',e',rfl,bj,ab,by rw[← e5];exact cq,bk,bn,ar,aw,ax,?_⟩⟩,bo⟩;rcases az.2 with h6 | ⟨b3,dh,e3,di,_,ds,_,_,_,_,_,_,ce⟩
      ·have:=h6.2;omega
      ·cases di;obtain⟨dt,cv,a4⟩:=Q1 ce;have dj:QH zs:=fun y hy=>by
        have:∀ {l:List D},Zb0 D.flat l=true→∀ y∈l,y.flat=true:=by
         intro l
         induction l with
         | nil=>intro _ y hy;simp at hy
         | cons x l ih=>
          intro hl y hy;simp only[Zb0,Kf] at hl;rcases Kd.1 hy with rfl | hy
          ·exact hl.1
          ·exact ih hl.2 y hy
        exact this bo y hy
       refine Q0 (VL dj cv) fun j v hv=>?_;have cw:j<fs.flatten.length:=by rw[a8,az.1,← cv.length_flatten];exact(Kb.1 hv).1
       have h8:=a4 j v hv;have h9:=a7 j _ (Kn cw);rw[h8] at h9;have dk:=cc j _ (Kn cw);rw[dk];exact h9.symm
     | int k m=>obtain⟨_,h6⟩:=aq;simp[ZQ] at h6
     | bool k=>obtain⟨_,h6⟩:=aq;simp[ZQ] at h6
     | str k=>obtain⟨_,h6⟩:=aq;simp[ZQ] at h6
     | agg k=>exact absurd aq.1 (by simp[D.plain])
    ·refine aq.mono ⟨fun _ h=>h,fun b aa=>setRow_other w b0 b _ fun e=>aw (by simpa using e ▸ aa)⟩ fun b aa=>⟨setRow_other w b0 b _ fun e=>cu (bt p _ b0 v _ hv bv (e ▸ aa) cr),fun h=>h⟩
   ·refine⟨by simp,.inr ⟨b0,cur',e',rfl,bj,ab,ak,bk,bn,ar,by simp only[Km];exact .inr (.inl al),ax,?_⟩⟩;exact Q0 (Z1.append (VL bi ay) (bh _ _)) cd
   ·intro b aa;simp[ZB,KG bj] at aa;subst aa;exact .inl al
 ·have cf:∃ fs,Z1 w (inS I A true) i.size fl fs∧(fl.length=0∨∃ b o,ad=some ⟨b,o,none⟩∧QE w b o fs.flatten):=by
   rcases bd.2 with ⟨e1,e2⟩ | ⟨b0,cur,e',rfl,bj,hw,cq,bk,b8,_,aw,ax,b9⟩
   ·have b':fl=[]:=Ks e1;subst b';exact⟨[],trivial,.inl rfl⟩
   ·obtain⟨fs,ay,a7⟩:=Q1 b9;exact⟨fs,ay,.inr ⟨b0,0,rfl,a7⟩⟩
  obtain⟨fs,ay,a7⟩:=cf;have a8:=ay.length_flatten;have ca:=hc.length_flatten;have ho:=Yp (P:=P) (w:=w.drew) (c:=c) a8 (a7.imp (fun h=>h) fun ⟨b,o,h1,h2⟩=>⟨b,o,h1,h2.drew⟩);have hr:=Zhq (ty:=ty) ht hi hz hs ho (by omega) (by omega) (growslice_fits (by omega) h1);refine⟨_,_,hr,?_⟩;have dl:=grownCap_ge w (fl.length+ys.length) c e;have bk:grownCap w (fl.length+ys.length) c e≤maxLen:=grownCap_le_maxLen w (fl.length+ys.length) c e (by simp only[maxLen];omega);have cx : (w.drew.alloc (.cells ((fs.flatten++cs.flatten).toArray++Builtin.zeroCells z.cells (grownCap w (fl.length+ys.length) c e-(fl.length+ys.length))) e)).heap[w.heap.size]? =
    some (.cells ((fs.flatten++cs.flatten).toArray++Builtin.zeroCells z.cells (grownCap w (fl.length+ys.length) c e-(fl.length+ys.length))) e (0,0)):=heap_alloc_new w.drew _
  have ai:∀ k,k<w.heap.size→(w.drew.alloc (.cells ((fs.flatten++cs.flatten).toArray++Builtin.zeroCells z.cells (grownCap w (fl.length+ys.length) c e-(fl.length+ys.length))) e)).heap[k]?=w.heap[k]?:=fun k hk=>heap_alloc_old w.drew _ k hk;refine b2 _ (fun b=>b=w.heap.size) _ _ _ (by simp) rfl rfl rfl (fun k hk=>.inl (ai k hk)) (fun b aa=>by subst aa;simp) (fun p v y hv aq=>?_) ?_ ?_
  ·exact aq.mono ⟨fun _ h=>h,fun b aa=>ai b (h.bound b aa)⟩ fun b aa=>⟨ai b (ag b (bp p v b hv aa)).1,fun h=>h⟩
  ·refine⟨by simp,.inr ⟨w.heap.size,_,e,rfl,by omega,cx,dl,bk,?_,ar,by simp,h.fresh _ (Kt _),?_⟩⟩
   ·simp only[Array.size_append,LA,Kr,size_zeroCells,cy,a8,ca,← KH];congr 1
    omega
   ·refine Q0 (Z1.append (VL bi ay) (bh _ _)) (Q4 cx (ys:=(Builtin.zeroCells z.cells (grownCap w (fl.length+ys.length) c e-(fl.length+ys.length))).toList) ?_);simp
  ·intro b aa;have:grownCap w (fl.length+ys.length) c e≠0:=by omega
   simp[ZB,this] at aa;exact .inr aa.symm
theorem Zw3 {l:Hp} {t t' : Nat} (h:t≠t'):lkp (del l t) t'=lkp l t':=by rw[Zii,Ke h]
theorem Wj:∀ (ds:List Nat) (l:Hp) (id:Nat),id∉ds→lkp (Qs l ds) id=lkp l id
 | [],l,id,_=>rfl
 | d :: ds,l,id,h=>by
  simp only[Kd,not_or] at h;simp only[Qs];rw[Wj ds _ id h.2,Zw3 (fun e=>h.1 e.symm)]
def ZAK (Γ:Gh) (w:World) (hp:Hp) (I:Nat→Prop) (ids:List Nat) (b:Nat):Prop:=I b∨∃ id∈ids,∃ o,lkp hp id=some o∧Ye Γ w id o b
theorem Jx (hp:Hp):∀ (ids:List Nat) (k:Nat),lkp (meltIn hp ids) k=(lkp hp k).map fun o=>if ids.contains k then Zda o else o
 | [],k=>by simp[meltIn]
 | i :: r,k=>by
  simp only[meltIn];have ih:=Jx hp r k;by_cases e:i=k
  ·subst e;cases hl:lkp hp i with
   | none=>simp only[ih,hl];rfl
   | some o=>simp only[Qm,Km,KI];simp
  ·have hc:(i :: r).contains k=r.contains k:=by simp;intro h;exact absurd h.symm e
   rw[hc,← ih];cases lkp hp i with
   | none=>rfl
   | some o=>simp only[Qm];rw[Ke e]
theorem Sim.meltIn (h:Sim nt F A I Γ U sl hp a w) (ids:List Nat):Sim nt F A (ZAK Γ w hp I ids) Γ U sl (meltIn hp ids) a w:=by
 have aa:ZR I (ZAK Γ w hp I ids) w w:=⟨fun _ h=>.inl h,fun _ _=>rfl⟩
 have ae:∀ k o,lkp (Go.Abs.meltIn hp ids) k=some o→∃ o0,lkp hp k=some o0∧o=if ids.contains k then Zda o0 else o0:=by
  intro k o hk;rw[Jx] at hk;cases hl:lkp hp k with
  | none=>rw[hl] at hk;cases hk
  | some o0=>rw[hl] at hk;simp only[KI,Option.some.injEq] at hk;exact⟨o0,rfl,hk.symm⟩
 have bk:∀ k o0 b,Blk Γ w k (if ids.contains k then Zda o0 else o0) b→Blk Γ w k o0 b:=by
  intro k o0 b hb;split at hb
  ·cases o0 with
   | box cs=>exact hb
   | row sz xs ex fz=>exact hb
   | deep sz ns xs lk=>exact .inl hb.row
  ·exact hb
 refine { nt:=h.nt,dfr:=h.dfr,slots:=fun t=>(h.slots t).mono (Q9.refl Γ) aa,objs:=?_,inj:=?_,bound:=?_,fresh:=h.fresh,own:=h.own,names:=h.names,glob:=h.glob.mono aa }
 ·intro k o hk;obtain⟨o0,hl,rfl⟩:=ae k o hk;have ho:=h.objs k o0 hl;have plain:(∀ b,Ye Γ w k o0 b→k∉ids)→Wa Γ w (ZAK Γ w hp I ids) F A k o0:=fun hn=>ho.mono (Q9.refl Γ) aa fun b hb=>⟨rfl,fun hi=>by
   rcases hi with hi | ⟨id,ak,o',ab,hi⟩
   ·exact hi
   ·have:=h.inj k id o0 o' b hl ab hb (.inr (.inl hi));subst this;rw[hl] at ab;cases ab;exact absurd ak (hn b hi)⟩
  split
  ·rename_i af;have ag : k∈ids:=by simpa using af
   cases o0 with
   | box cs=>exact plain fun b hb=>False.elim hb
   | row sz xs ex fz=>exact plain fun b hb=>False.elim hb
   | deep sz ns xs lk=>
    obtain⟨ad,n,c,h1,hd,_⟩:=ho;have al:=hd;obtain⟨h2,h3⟩:=hd;refine⟨ad,n,c,h1,h2,?_⟩;rcases h3 with h3 | ⟨g,cur,e,rfl,hc,hw,h4,h5,h6,ah,h8,am,av,an,ao⟩
    ·exact .inl h3
    ·have ai:ZB (Γ k)=some g:=by rw[h1];simp[ZB,KG hc]
     refine .inr ⟨g,cur,e,rfl,hc,hw,h4,h5,h6,ah,?_,am,?_⟩
     ·simp only[Ka,Kq]
      rintro (hi | ⟨id,_,o',ab,hi⟩)
      ·exact h8 hi
      ·have:=h.inj k id _ o' g hl ab (.inl ai) (.inr (.inl hi));subst this;rw[hl] at ab;cases ab;obtain⟨g2,p,aj,ap,aq⟩:=hi;rw[ai] at aj;cases aj;exact ao p (by rw[h2];exact ap) aq
     ·simp only[Km];exact Zpu al (fun b hb ha=>⟨.inl hb,ha⟩) fun p b hp hn=>
       have hi:Ye Γ w k (.deep sz ns xs lk) b:=⟨g,p,ai,hp,hn⟩
       ⟨.inr ⟨k,ag,_,hl,hi⟩,h.own b (ZiP (h.objs k _ hl) (.inr (.inl hi)))⟩
  ·rename_i af;exact plain fun _ _ hi=>af (by simpa using hi)
 ·intro i j o o' b hi hj ar au;obtain⟨o0,hl,rfl⟩:=ae i o hi;obtain⟨o1,ab,rfl⟩:=ae j o' hj;exact h.inj i j o0 o1 b hl ab (bk i o0 b ar) (bk j o1 b au)
 ·rintro b (hb | ⟨id,_,o,hl,hi⟩)
  ·exact h.bound b hb
  ·exact h.blk_lt hl (.inr (.inl hi))
theorem Zw4 (h:Sim nt F A I Γ U sl hp a w) {o:Oper} {t u e:TypeId} {s x:Operand} {s' x' : Opd} {str flat:Bool}
  (ho:o.op=.call { callee:=.builtin .append,args := #[s,x],argTypes := #[t,u] }) (he:Yn P t=some e) (aa:ZmJ P e u=some str) (ae:Jz P e=true) (hs:Z5 s=some s') (hx:Z5 x=some x')
  {base:Nat} (hb:Xp U base) (hd:Xb nt o.dst=true) {ms:List Nat} (ah:∀ k∈ms,∃ o,lkp hp k=some o) {ef:Eff} (hv:VS hp (P.cellsOf e) (P.bytesOf e) str flat base (evO sl s') (evO sl x') ms=some ef):Zfh P nt F A I Γ U sl hp a w o base { eff:=ef,gone:=[] }:=by
 cases ms with
 | nil=>exact Zta h ho he aa ae hs hx hb hd (flat:=flat) (by simp only[VS] at hv;rw[hv];rfl)
 | cons i r=>
  simp only[VS] at hv;split at hv
  ·cases hv
  ·obtain⟨e0,h1,hv⟩:=Za hv;cases hv;obtain⟨u',w',hg,I',Γ',b1,b2,b3,b4,b5⟩:=Zta (h.meltIn (i :: r)) ho he aa ae hs hx hb hd (flat:=flat) (ce := { eff:=e0,gone:=[] }) (by rw[h1];rfl);refine⟨u',w',hg,I',Γ',b1,⟨fun b hb=>b2.sub b (.inl hb),fun b hb=>b2.blk b (.inl hb)⟩,fun b hb=>?_,b4,b5.sub fun k o hk=>?_⟩
   ·rcases b3 b hb with (h6 | ⟨id,_,o,hl,hi⟩) | h6
    ·exact .inl h6
    ·exact .inr (ZiP (h.objs id o hl) (.inr (.inl hi)))
    ·exact .inr h6
   ·have ag : lkp (Zh (Zh (Qs (Qi e0.frz hp) (e0.dels++(i :: r))) e0.sets) e0.adds) k=some o:=hk;show lkp (Zh (Zh (Qs (Qi e0.frz (meltIn hp (i :: r))) e0.dels) e0.sets) e0.adds) k=some o;have af:∀ (A:Hp) (ab ad:Hp),(∀ o,lkp ab k=some o→lkp ad k=some o)→∀ o,lkp (Zh ab A) k=some o→lkp (Zh ad A) k=some o:=by
     intro A
     induction A with
     | nil=>intro _ _ h;exact h
     | cons q r ih=>
      intro ab ad h;obtain⟨k',o'⟩:=q;simp only[Zh];refine ih _ _ fun o ho=>?_;rw[Qm] at ho ⊢;split
      ·rename_i e;rw[Kh e] at ho;exact ho
      ·rename_i e;rw[Ke e] at ho;exact h o ho
    refine af _ _ _ (fun o ho=>af _ _ _ (fun o ho=>?_) o ho) o ag;obtain⟨h2,h3⟩:=Zbb _ _ _ _ ho;simp only[Kg,not_or] at h3;rw[Wj _ _ k h3.1];rw[Qd] at h2 ⊢;rw[Jx];have:(i :: r).contains k=false:=by simpa using h3.2
    rw[this];simpa using h2
theorem Zw5 (h:Sim nt F A I Γ U sl hp a w) {o:Oper} {t u e:TypeId} {s x:Operand} {s' x' : Opd} {str flat:Bool}
  (ho:o.op=.call { callee:=.builtin .append,args := #[s,x],argTypes := #[t,u] }) (he:Yn P t=some e) (ae:ZmJ P e u=some str) (al:Jz P e=true) (hs:Z5 s=some s') (hx:Z5 x=some x')
  {base:Nat} (hb:Xp U base) (hd:Xb nt o.dst=true) {ce:Zd} (hv:Zt7 hp (P.cellsOf e) (P.bytesOf e) str flat base (evO sl s') (evO sl x')=some ce):Zfh P nt F A I Γ U sl hp a w o base ce:=by
 obtain⟨i,z,hi,hz,an,ah,aa,ab⟩:=VJ al;have ht:=Q5 he;have ao:∀ {ef:Eff} {v' : Value} {w' : World},(Builtin.append_ #[t,u] o.type #[a.eval s,a.eval x]).run P w=.ok v' w' →
   UZ nt F A I Γ w (Zad U base) (Zd.on { eff:=ef,gone:=[] } o.dst sl hp).1 (Zd.on { eff:=ef,gone:=[] } o.dst sl hp).2 (a.put o.dst v') w'→Zfh P nt F A I Γ U sl hp a w o base { eff:=ef,gone:=[] }:=by
  intro ef v' w' hr hp';refine⟨v',w',.inl ?_,hp'⟩;simp only[execOp,ho,resolve,invoke,builtin,Sem.run_bind,Sem.run_pure,Result.andThen_ok,List.map_toArray,Kj,Kx,hr]
 unfold Zt7 at hv;unfold Ze6 at hv;split at hv
 ·rename_i id nm ap;have af:=h.slOK.ev hs;rw[ap] at af;obtain⟨_,ad,n,c,s0,aq,af⟩:=af;cases str with
  | true=>simp[ZgO,bnd] at hv
  | false=>
   simp only[Ka,Kq] at hv;obtain⟨ef,ag,ai⟩:=Za hv;clear hv;cases ai;obtain⟨⟨ys,au⟩,h1,hv⟩:=Za ag;clear ag;split at hv
   ·cases hv
   ·unfold Zjg at hv;split at hv
    ·rename_i sz ns xs av ii jj hl;obtain⟨fl,h2,hw⟩:=Za hv;clear hv;have hv:=hw;clear hw;split at hv
     ·rename_i hc;obtain⟨rfl,c2,c3,c4,c5,c6⟩:=hc;cases hv;subst c2;obtain⟨cs,aj,ak⟩:=ZBr (P:=P) (flat:=true) (str:=false) h.hpOK ae (h.slOK.ev hx) (by simpa using h1) c3 fun _=>c4;dsimp only at aj ak;rw[aa] at hl aj ak ⊢;rw[ab] at c5;obtain⟨v',w',h3,h4⟩:=ZAJ (ty:=o.type) h hb ht hi hz an ah hd hl aq h2 aj ak c4 c5 c6;exact ao (by rw[af];exact h3) (by rw[XA];exact h4)
     ·cases hv
    ·cases hv
 ·obtain⟨ef,ag,ai⟩:=Za hv;cases ai;refine Zw4 h ho he ae al hs hx hb hd (fun k hk=>?_) ag;have ar:∀ z,k∈YC hp z→∃ o,lkp hp k=some o:=by
   intro z hz;unfold YC at hz;split at hz
   ·split at hz
    ·rename_i id am;simp at hz;subst hz;cases hl:lkp hp k with
     | none=>rw[hl] at am;cases am
     | some o=>exact⟨o,rfl⟩
    ·simp at hz
   ·simp at hz
  rcases Kg.1 hk with hk | hk<;>exact ar _ hk
theorem Zw6 (h:Sim nt F A I Γ U sl hp a w) {o:Oper} {t u e:TypeId} {s x:Operand} {s' x' : Opd}
  (ho:o.op=.call { callee:=.builtin .append,args := #[s,x],argTypes := #[t,u] }) (he:Yn P t=some e) (aj:ZmJ P e u=some false) (aw:Jz P e=true) (hs:Z5 s=some s') (hx:Z5 x=some x')
  {base:Nat} (hb:Xp U base) (hd:Xb nt o.dst=true) {ce:Zd} (hv:Zre hp (P.cellsOf e) (P.bytesOf e) base (evO sl s') (evO sl x')=some ce):Zfh P nt F A I Γ U sl hp a w o base ce:=by
 obtain⟨i,z,hi,hz,ao,af,ab,ae⟩:=VJ aw;have ht:=Q5 he;have ap:∀ {ef:Eff} {v' : Value} {w' : World},(Builtin.append_ #[t,u] o.type #[a.eval s,a.eval x]).run P w=.ok v' w' →
   UZ nt F A I Γ w (Zad U base) (Zd.on { eff:=ef,gone:=[] } o.dst sl hp).1 (Zd.on { eff:=ef,gone:=[] } o.dst sl hp).2 (a.put o.dst v') w'→Zfh P nt F A I Γ U sl hp a w o base { eff:=ef,gone:=[] }:=by
  intro ef v' w' hr hp';refine⟨v',w',.inl ?_,hp'⟩;simp only[execOp,ho,resolve,invoke,builtin,Sem.run_bind,Sem.run_pure,Result.andThen_ok,List.map_toArray,Kj,Kx,hr]
 unfold Zre ZgO at hv;obtain⟨ef,aq,ax⟩:=Za hv;clear hv;cases ax;obtain⟨q,hq,hv⟩:=Za aq;clear aq;split at hv
 ·rename_i c1;have hu:P.underlying u=some (.slice e):=by
   rcases ZpD aj with ⟨h2,_⟩ | ⟨_,h2⟩
   ·cases h2
   ·exact h2
  unfold Zd1 at hq;split at hq
  ·rename_i ay az;obtain⟨q2,h2,hq⟩:=Za hq;cases hq;unfold Zjf at h2;split at h2
   ·rename_i s2 n2 ys a1 ak;cases h2;dsimp only at c1 hv;have ag:=h.slOK.ev hx;rw[az] at ag;obtain⟨a2,m2,k2,s3,al,ag⟩:=ag;obtain⟨_,_,_,ah,_⟩:=h.objs ay _ ak;rw[al] at ah;cases ah;subst c1;rw[ab] at ak al hv;rw[ae] at hv;obtain⟨cs,ar⟩:=Zsu h ak al;have aa:=h.slOK.ev hs;unfold Zcz at hv;split at hv
    ·rename_i am;rw[am] at aa;obtain⟨ad,aa⟩:=aa;split at hv
     ·rename_i hc;cases hv;obtain⟨v',w',h3,h4⟩:=appDp (ty:=o.type) h hb ht hi hz ao af hd hu (Zvg (ids:=[]) (ad:=ad)) ar (fun k hk=>by simp at hk) (by simpa using hc.1) (by simpa using hc.2);exact ap (by rw[aa,ag];exact h3) (by rw[XA];exact h4)
     ·cases hv
    ·rename_i a0 am;rw[am] at aa;obtain⟨ad,n,c,s4,au,aa⟩:=aa;obtain⟨q1,h5,hw⟩:=Za hv;clear hv;have hv:=hw;clear hw;split at hv
     ·rename_i hc;obtain⟨c2,c3,c4,c5,c6⟩:=hc;cases hv;unfold Zjf at h5;split at h5
      ·rename_i s5 n5 xs a3 av;cases h5;dsimp only at c2 c3 c5 c6;obtain⟨_,_,_,ai,a4,_⟩:=h.objs a0 _ av;rw[au] at ai;cases ai;subst c2 c3;obtain⟨os,an⟩:=Zsu h av au;obtain⟨v',w',h3,h4⟩:=appDp (ty:=o.type) h hb ht hi hz ao af hd hu an ar (fun k hk=>by simp at hk;subst hk;simpa using c4) (by rw[an.len];exact c5) (by rw[an.len];exact c6);exact ap (by rw[aa,ag];exact h3) (by rw[XA];exact h4)
      ·cases h5
     ·cases hv
    ·cases hv
   ·cases h2
  ·cases hq
 ·cases hv
end
end Go.Abs

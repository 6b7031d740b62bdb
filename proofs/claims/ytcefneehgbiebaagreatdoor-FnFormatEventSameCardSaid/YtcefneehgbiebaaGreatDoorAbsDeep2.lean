/- Own text. -/
import Derived.Test.YtcefneehgbiebaaGreatDoorAbsDeep
import Derived.Test.YtcefneehgbiebaaGreatDoorAbsCall3
set_option linter.unusedVariables false
set_option linter.unusedSimpArgs false
namespace Go.Abs
open Go
section
variable {P:Program} {nt:Nat} {U:Nat→Prop} {F A I:Nat→Prop} {Γ:Gh} {sl:Sl} {hp:Hp} {a:Act} {w:World}
theorem Zt.mono' {α β:Type} {R R' : α→β→Prop}:∀ {as:List α} {bs:List β},Zt R as bs→(∀ a b,b∈bs→R a b→R' a b)→Zt R' as bs
 | [],[],_,_=>trivial
 | [],_ :: _,h,_=>h.elim
 | _ :: _,[],h,_=>h.elim
 | _ :: _,_ :: _,h,hr=>⟨hr _ _ (by simp) h.1,Zt.mono' h.2 fun a b hb=>hr a b (by simp[hb])⟩
theorem Cks.append {ns sz:Nat} {xs ys:List D} {cs ds:List (List Value)} (h:Cks w I F A ns sz xs cs) (k:Cks w I F A ns sz ys ds):Cks w I F A ns sz (xs++ys) (cs++ds):=Zt.append h k
theorem Dis.append {L M:List Value} (hL:Dis L) (hM:Dis M) (hx:∀ (p q b:Nat) (u v:Value),L[p]?=some u→M[q]?=some v→Yt u=some b→Yt v=some b→False):Dis (L++M):=by
 intro p q b u v hu hv hb aa;rw[Li] at hu hv;split at hu<;>split at hv
 ·exact hL p q b u v hu hv hb aa
 ·exact(hx _ _ b u v hu hv hb aa).elim
 ·exact(hx _ _ b v u hv hu aa hb).elim
 ·have:=hM _ _ b u v hu hv hb aa;omega
structure Part (Γ:Gh) (w:World) (I F A:Nat→Prop) (hp:Hp) (ids:List Nat) (ns sz:Nat) (xs:List D) (os:List (List Value)) (ad:Option Addr) (n c:Nat):Prop where
 cks:Cks w I F A ns sz xs os
 len:n=xs.length
 dis:Dis os.flatten
 at_:(n=0∧c=0)∨∃ g cur e,ad=some ⟨g,0,none⟩∧0<c∧w.heap[g]?=some (.cells cur e (0,0))∧n≤c∧c≤maxLen∧cur.size=c*sz∧0<sz∧¬I g∧F g∧QD w g 0 os.flatten∧(∃ id∈ids,∃ o,lkp hp id=some o∧Zy (Γ id)=some g)∧∀ (p:Nat) (u:Value),os.flatten[p]?=some u→Yt u≠some g
 blk:∀ (p:Nat) (u:Value) (b:Nat),os.flatten[p]?=some u→Yt u=some b→∃ id∈ids,∃ o,lkp hp id=some o∧X8 Γ w id o b
theorem Zub {ids:List Nat} {ns sz:Nat} {ad:Option Addr}:Part Γ w I F A hp ids ns sz [] [] ad 0 0:=
 ⟨trivial,rfl,fun p q b u v hu=>by simp at hu,.inl ⟨rfl,rfl⟩,fun p u b hu=>by simp at hu⟩
theorem Zrt (h:Sim nt F A I Γ U sl hp a w) {id sz ns:Nat} {xs:List D} {lk:Option (Nat×Nat×Nat)} (hl:lkp hp id=some (.deep sz ns xs lk)) {ad:Option Addr} {n c:Nat} (hg:Γ id=some (.row ad n c sz)):∃ os,Part Γ w I F A hp [id] ns sz xs os ad n c:=by
 obtain⟨ai,n',c',ab,hd,_⟩:=h.objs id _ hl;rw[hg] at ab;cases ab;have af:=hd;obtain⟨hn,h3⟩:=hd;rcases h3 with ⟨h3,h4⟩ | ⟨g,cur,e,rfl,hc,hw,h4,h5,h6,aa,h8,ag,aj,ah,ak⟩
 ·subst h3 h4;have hx:xs=[]:=Kp hn.symm;subst hx;exact⟨[],Zub⟩
 ·obtain⟨os,k1,k2,k3,k4,k5⟩:=Zt9 af (KC hc);have ae:Zy (Γ id)=some g:=by rw[hg];simp[Zy,KC hc]
  exact⟨os,k1,hn,k3,.inr ⟨g,cur,e,rfl,hc,hw,h4,h5,h6,aa,h8,ag,k2,⟨id,by simp,_,hl,ae⟩,k4⟩,fun p u b hu hb=>⟨id,by simp,_,hl,g,p,ae,k5 p u b hu hb⟩⟩
theorem Zzm {ids:List Nat} {ns sz:Nat} {xs:List D} {os:List (List Value)} {ad:Option Addr} {n c:Nat} (hp' : Part Γ w I F A hp ids ns sz xs os ad n c) {u e:TypeId} (hu:P.underlying u=some (.slice e)):Src P w u sz (.slice ad n c) xs.length os.flatten:=by
 have hl:=hp'.cks.length_flatten;have hn:=hp'.len;have aa:n=0∨∃ b o,ad=some ⟨b,o,none⟩∧QD w b o os.flatten:=by
  rcases hp'.at_ with h | ⟨g,_,_,h,_,_,_,_,_,_,_,_,h2,_⟩
  ·exact .inl h.1
  ·exact .inr ⟨g,0,h,h2⟩
 subst hn;exact⟨⟨_,hu,fun k=>by simp⟩,by simp[Builtin.lenOf],Yh hl aa,Yh hl (aa.imp id fun ⟨b,o,h1,h2⟩=>⟨b,o,h1,h2.drew⟩),fun v hv=>by obtain⟨y,hy⟩:=hp'.cks.cell v hv;exact Zx3 hy,hl⟩
theorem appDp (h:Sim nt F A I Γ U sl hp a w) {base:Nat} (hb:Xk U base) {t u ty e:TypeId} {i:TypeInfo} {z:Value} (ht:P.underlying t=some (.slice e)) (hi:P.info? e=some i) (hz:i.zero=some z) (bk:z.cells.size=i.size) (a0:0<i.size)
  {dst:Option Nat} (hd:Q7 nt dst=true) (hu:P.underlying u=some (.slice e)) {aa ae:List Nat} {ns:Nat} {xs ys:List D} {os cs:List (List Value)} {ad bc:Option Addr} {n c n2 c2:Nat}
  (hx:Part Γ w I F A hp aa ns i.size xs os ad n c) (hy:Part Γ w I F A hp ae ns i.size ys cs bc n2 c2) (ao:∀ k∈aa,k∉ae)
  (h1:(n+ys.length)*i.bytes≤ZR) (h2:n+ys.length≤ZR) :
  ∃ v' w',(Builtin.append_ #[t,u] ty #[.slice ad n c,.slice bc n2 c2]).run P w=.ok v' w'∧UD nt F A I Γ w (JJ U base) (Zp sl dst (.own base)) (Zh (Qm hp (aa++ae)) [(base,.deep i.size ns (xs++ys) none)]) (a.put dst v') w':=by
 simp only[ZR] at h1 h2;have hs:=Zzm (P:=P) hy hu;have az:=hx.cks.length_flatten;have bd:=hy.cks.length_flatten;have hn:=hx.len;have a1:(os++cs).flatten=os.flatten++cs.flatten:=by simp
 have a2:Dis (os++cs).flatten:=by
  rw[a1];refine hx.dis.append hy.dis fun p q b u v hu hv hb af=>?_;obtain⟨k,hk,o,hl,ai⟩:=hx.blk p u b hu hb;obtain⟨k',aj,o',a3,ak⟩:=hy.blk q v b hv af;exact ao k hk (h.inj k k' o o' b hl a3 (.inr (.inl ai)) (.inr (.inl ak)) ▸ aj)
 have ap:∀ (p:Nat) (u:Value) (b:Nat),(os++cs).flatten[p]?=some u→Yt u=some b→∃ id∈aa++ae,∃ o,lkp hp id=some o∧Blk Γ w id o b:=by
  intro p u b hu hb;rw[a1,Li] at hu;split at hu
  ·obtain⟨k,hk,o,hl,ai⟩:=hx.blk _ u b hu hb;exact⟨k,by simp[hk],o,hl,.inr (.inl ai)⟩
  ·obtain⟨k,hk,o,hl,ai⟩:=hy.blk _ u b hu hb;exact⟨k,by simp[hk],o,hl,.inr (.inl ai)⟩
 have be:∀ (p:Nat) (u:Value) (b:Nat),(os++cs).flatten[p]?=some u→Yt u=some b→b<w.heap.size:=fun p u b hu hb=>by
  obtain⟨k,_,o,hl,ai⟩:=ap p u b hu hb;exact h.blk_lt hl ai
 have bf:Cks w I F A ns i.size (xs++ys) (os++cs):=hx.cks.append hy.cks;have bg:∀ (w' : World) (g c' : Nat) (cur:Array Value) (e' : TypeId),w.heap.size≤w'.heap.size→w'.os=w.os→w'.tape=w.tape→w'.output=w.output →
   (∀ k,k<w.heap.size→k≠g→w'.heap[k]?=w.heap[k]?)→(w.heap.size≤g∨((∃ id∈aa,∃ o,lkp hp id=some o∧Zy (Γ id)=some g)∧(∀ (p:Nat) (u:Value),os.flatten[p]?=some u→Yt u≠some g)))→¬I g→F g →
   w'.heap[g]?=some (.cells cur e' (0,0))→0<c'→n+ys.length≤c'→c'≤maxLen→cur.size=c' * i.size→QD w' g 0 (os++cs).flatten →
   UD nt F A I Γ w (JJ U base) (Zp sl dst (.own base)) (Zh (Qm hp (aa++ae)) [(base,.deep i.size ns (xs++ys) none)]) (a.put dst (.slice (some ⟨g,0,none⟩) (n+ys.length) c')) w':=by
  intro w' g c' cur e' bl bm aq a4 al am ar a5 ab au bh av a6 an;have ah:∀ (p:Nat) (u:Value),(os++cs).flatten[p]?=some u→Yt u≠some g:=by
   intro p u hu hb;rcases am with am | ⟨⟨k,hk,o,hl,aw⟩,bn⟩
   ·have:=be p u g hu hb;omega
   ·rw[a1,Li] at hu;split at hu
    ·exact bn _ u hu hb
    ·obtain⟨k',aj,o',a3,ak⟩:=hy.blk _ u g hu hb;exact ao k hk (h.inj k k' o o' g hl a3 (.inl aw) (.inr (.inl ak)) ▸ aj)
  have a7:∀ k,k<w.heap.size→w'.heap[k]?=w.heap[k]?∨(∃ id∈aa++ae,∃ o,lkp hp id=some o∧Blk Γ w id o k)∧¬I k:=by
   intro k hk;by_cases e:k=g
   ·subst e;rcases am with am | ⟨⟨k',aj,o,hl,aw⟩,_⟩
    ·omega
    ·exact .inr ⟨⟨k',by simp[aj],o,hl,.inl aw⟩,ar⟩
   ·exact .inl (al k hk e)
  have a8 : Cks w' I F A ns i.size (xs++ys) (os++cs):=bf.conv fun v hv y bo=>by
   obtain⟨p,hp'⟩:=KV hv;refine bo.mono ⟨fun _ h=>h,fun b hb=>al b (h.bound b hb) fun e=>ar (e ▸ hb)⟩ fun b hb=>⟨al b (be p v b hp' hb) fun e=>ah p v hp' (e ▸ hb),fun h=>h⟩
  refine h.takes hb (r:=.row (some ⟨g,0,none⟩) (n+ys.length) c' i.size) bl bm aq a4 a7 ?_ ⟨_,_,_,_,ZH _ _ _,rfl⟩ hd ?_
  ·exact⟨_,_,_,ZH _ _ _,Zrs (by simp[hn]) au ab bh av a6 a0 ar a5 a8 an a2 ah,trivial⟩
  ·intro b af;rcases af with af | ⟨g',p,a9,hp',a'⟩ | af
   rotate_right
   ·exact af.elim
   ·rw[ZH] at af;simp[Zy,KC au] at af;subst af;rcases am with am | ⟨⟨k',aj,o,hl,aw⟩,_⟩
    ·exact .inl am
    ·exact .inr ⟨k',by simp[aj],o,hl,.inl aw⟩
   ·rw[ZH] at a9;simp[Zy,KC au] at a9;subst a9;have ax : p<(os++cs).flatten.length:=by rw[bf.length_flatten];exact hp'
    have:=an p _ (Kq ax);simp only[K2] at this;unfold YG at a';rw[this] at a';exact .inr (ap p _ b (Kq ax) a')
 by_cases ag:n+ys.length≤c
 ·rcases hx.at_ with ⟨e1,e2⟩ | ⟨g,cur,e',rfl,au,hw,bh,av,a6,_,ar,a5,an,ba,ah⟩
  ·subst e1 e2;have bp:ys=[]:=Kp (by omega);have bq:xs=[]:=Kp (by omega);subst bp bq;refine⟨_,_,ZgR ht hi hs (Kr 0),?_⟩;refine h.takes hb (w':=w) (r:=.row ad 0 0 i.size) (Kr _) rfl rfl rfl (fun k _=>.inl rfl) ?_ ⟨_,_,_,_,ZH _ _ _,rfl⟩ hd fun b af=>?_
   ·exact⟨_,_,_,ZH _ _ _,⟨rfl,.inl ⟨rfl,rfl⟩⟩,trivial⟩
   exact(af.nil (by rw[ZH];cases ad<;>simp[Zy])).elim
  ·have bb:n*i.size+cs.flatten.length≤cur.size:=by rw[bd,a6,← KE];exact KB _ ag
   refine⟨_,_,Zdt (ty:=ty) ht hi hs hw ag bb,?_⟩;have ab:=setRow_heap w g cur (cur.toList.take (n*i.size)++cs.flatten++cur.toList.drop (n*i.size+cs.flatten.length)).toArray e' _ hw;refine bg _ g c _ e' (by rw[size_setRow];exact Kr _) rfl rfl rfl (fun k _ br=>setRow_other w g k _ br) (.inr ⟨ba,ah⟩) ar a5 ab au ag av ?_ ?_
   ·simp only[Lt,Kt,Lj,Lv,Lp];omega
   ·have ay:cur.toList.take (n*i.size)=os.flatten:=by
     refine Lz fun j=>?_;rw[K7];split
     ·rename_i hj;obtain⟨u',bi⟩:∃ u',os.flatten[j]?=some u':=⟨_,Kq (by rw[az,← hn];exact hj)⟩
      have:=an j u' bi;rw[cell_of_row w g _ cur e' _ hw] at this;rw[bi];simpa using this
     ·rw[KR (by rw[az,← hn];omega)]
    refine QY ab (ys:=cur.toList.drop (n*i.size+cs.flatten.length)) ?_;rw[ay];simp
 ·have an:n=0∨∃ b o,ad=some ⟨b,o,none⟩∧QD w b o os.flatten:=by
   rcases hx.at_ with h' | ⟨g,_,_,h',_,_,_,_,_,_,_,_,h2,_⟩
   ·exact .inl h'.1
   ·exact .inr ⟨g,0,h',h2⟩
  have ho:=Yh (P:=P) (w:=w.drew) (c:=c) (by rw[az,hn]) (an.imp id fun ⟨b,o,h1,h2⟩=>⟨b,o,h1,h2.drew⟩);have hr:=ZgS (ty:=ty) ht hi hz hs ho (by omega) (by omega) (growslice_fits (by omega) h1);refine⟨_,_,hr,?_⟩;have bs:=grownCap_ge w (n+ys.length) c e;have av:grownCap w (n+ys.length) c e≤maxLen:=grownCap_le_maxLen w (n+ys.length) c e (by simp only[maxLen];omega);have bj : (w.drew.alloc (.cells ((os.flatten++cs.flatten).toArray++Builtin.zeroCells z.cells (grownCap w (n+ys.length) c e-(n+ys.length))) e)).heap[w.heap.size]? =
    some (.cells ((os.flatten++cs.flatten).toArray++Builtin.zeroCells z.cells (grownCap w (n+ys.length) c e-(n+ys.length))) e (0,0)):=heap_alloc_new w.drew _
  refine bg _ w.heap.size _ _ e (by simp) rfl rfl rfl (fun k hk _=>heap_alloc_old w.drew _ k hk) (.inl (Kr _)) (fun hi=>absurd (h.bound _ hi) (by omega)) (h.fresh _ (Kr _)) bj (by omega) bs av ?_ ?_
  ·simp only[Array.size_append,Lt,Kt,size_zeroCells,bk,az,bd,← hn,← KE];congr 1
   omega
  ·refine QY bj (ys:=(Builtin.zeroCells z.cells (grownCap w (n+ys.length) c e-(n+ys.length))).toList) ?_;simp
theorem Zzn (h:Sim nt F A I Γ U sl hp a w) {base:Nat} (hb:Xk U base) {t u ty e:TypeId} {i:TypeInfo} {z:Value} (ht:P.underlying t=some (.slice e)) (hi:P.info? e=some i) (hz:i.zero=some z) (cy:z.cells.size=i.size) (ar:0<i.size)
  {dst:Option Nat} (hd:Q7 nt dst=true) {id sz nm ii jj:Nat} {xs fl ys:List D} (hl:lkp hp id=some (.deep sz i.size xs (some (nm,ii,jj)))) {ad:Option Addr} {n c s' : Nat} (cz:Γ nm=some (.row ad n c s')) (a9:Zjx xs ii jj=some fl)
  {cs:List (List Value)} {xv:Value} {c0 : Bool} (hs:Src P w u i.size xv ys.length cs.flatten) (hc:Z0 w (inS I A c0) i.size ys cs) (ba:QG ys) (h1:(fl.length+ys.length)*i.bytes≤ZR) (h2:fl.length+ys.length≤ZR) :
  ∃ v' w',(Builtin.append_ #[t,u] ty #[.slice ad n c,xv]).run P w=.ok v' w'∧UD nt F A I Γ w (JJ U base) (Zp sl dst (.own base)) (Zh (Zh hp [(id,.row sz xs true false)]) [(base,.row i.size (fl++ys) true true)]) (a.put dst v') w':=by
 simp only[ZR] at h1 h2;obtain⟨dm,nD,cD,cg,a0,c1⟩:=h.objs id _ hl;obtain⟨g,a',n',c',dn,rfl,bb,c4,dp,ao⟩:=c1;rw[cz] at bb;cases bb;have br:cD≠0:=by
  rcases a0.2 with h3 | ⟨_,_,_,_,h3,_⟩
  ·have:=a0.1;omega
  ·omega
 have a1:Zy (Γ id)=some g:=by rw[cg];simp[Zy,br]
 obtain⟨os,ch,bs,bt,bu,bc⟩:=Zt9 a0 br;have ci:=ch.length_flatten;have bp:∀ (p:Nat) (v:Value) (b:Nat),os.flatten[p]?=some v→Yt v=some b→X8 Γ w id (.deep sz i.size xs (some (nm,ii,jj))) b:=fun p v b hv hb=>⟨g,p,a1,bc p v b hv hb⟩
 have ag:∀ b,X8 Γ w id (.deep sz i.size xs (some (nm,ii,jj))) b→b<w.heap.size∧¬I b∧F b:=fun b hb=>ZoC (h.objs id _ hl) hb;have bv:os.flatten[ii*sz+jj]?=some (.slice ad n c):=by
  have cj:ii*sz+jj<os.flatten.length:=by
   rw[ci];have:=KB sz (show ii+1≤xs.length from c4);rw[KE] at this;omega
  have:=bs _ _ (Kq cj);simp only[K2] at this;rw[ao] at this;rw[Kq cj];exact this.symm
 obtain⟨x,hx,a9⟩:=Za a9;obtain⟨g',vs,bw,dq,c5,c6⟩:=Zcg a0 hx;cases bw;have bx:x.cells[jj]?=some (.sl fl):=by
  split at a9
  ·rename_i dr hy;cases a9;exact hy
  ·cases a9
 obtain⟨v0,c7,bz⟩:=c6.get jj _ bx;have b1 : v0=.slice ad n c:=by
  have:=c5 jj v0 c7;rw[ao] at this;cases this;rfl
 subst b1;obtain⟨a2,c2,e2,bd,c8⟩:=bz;cases e2;have b2:∀ (w' : World) (B:Nat→Prop) (am : Option Addr) (n' c' : Nat),w.heap.size≤w'.heap.size→w'.os=w.os→w'.tape=w.tape→w'.output=w.output →
   (∀ k,k<w.heap.size→w'.heap[k]?=w.heap[k]?∨X8 Γ w id (.deep sz i.size xs (some (nm,ii,jj))) k)→(∀ b,B b→w.heap.size≤b∧b<w'.heap.size) →
   (∀ (p:Nat) (v:Value) (y:D),os.flatten[p]?=some v→Wu w I F A i.size y v→Wu w' I F A i.size y v) →
   ZeC w' (fun b=>I b∨X8 Γ w id (.deep sz i.size xs (some (nm,ii,jj))) b∨B b) F A am n' c' i.size (fl++ys) true true →
   (∀ b,Zy (some (.row am n' c' i.size))=some b→X8 Γ w id (.deep sz i.size xs (some (nm,ii,jj))) b∨B b) →
   UD nt F A I Γ w (JJ U base) (Zp sl dst (.own base)) (Zh (Zh hp [(id,.row sz xs true false)]) [(base,.row i.size (fl++ys) true true)]) (a.put dst (.slice am n' c')) w':=by
  intro w' B am n' c' ck c9 be b4 ai hB bf da db;have ah:∀ k,k<w.heap.size→¬X8 Γ w id (.deep sz i.size xs (some (nm,ii,jj))) k→w'.heap[k]?=w.heap[k]?:=fun k hk hn=>(ai k hk).elim (fun h=>h) fun h=>absurd h hn;have cl:g<w.heap.size:=h.blk_lt hl (.inl a1);have an:¬X8 Γ w id (.deep sz i.size xs (some (nm,ii,jj))) g:=by
   rintro ⟨g2,p,a4,hp2,hn2⟩
   rw[a1] at a4;cases a4;have cm:p<os.flatten.length:=by rw[ci];exact hp2
   have:=bs p _ (Kq cm);simp only[K2] at this;unfold YG at hn2;rw[this] at hn2;exact bu p _ (Kq cm) hn2
  have ae:∀ j o b,j≠id→lkp hp j=some o→Blk Γ w j o b→¬X8 Γ w id (.deep sz i.size xs (some (nm,ii,jj))) b∧b<w.heap.size:=fun j o b hj cn co=>
   ⟨fun hi=>hj (h.inj j id o _ b cn hl co (.inr (.inl hi))),h.blk_lt cn co⟩
  have aj:ZP I (fun b=>I b∨X8 Γ w id (.deep sz i.size xs (some (nm,ii,jj))) b∨B b) w w':=⟨fun _ h=>.inl h,fun b hb=>ah b (h.bound b hb) fun hi=>(ag b hi).2.1 hb⟩
  have hk:Q4 Γ (upd Γ base (.row am n' c' i.size)):=Vd _ (h.names base hb.self);have bg:base≠id:=fun e=>hb.self (e ▸ h.id_in hl);refine⟨_,upd Γ base (.row am n' c' i.size),fun id b hg=>hk _ _ hg,aj,?_,⟨c9,be,b4,ck,fun k a5 dc=>ah k a5 fun hi=>dc (ag k hi).2.2⟩,?_⟩
  ·rintro b (aa | aa | aa)
   ·exact .inl aa
   ·exact .inr (ag b aa).2.2
   ·exact .inr (h.fresh b (hB b aa).1)
  have b5:∀ k o,lkp (Zh (Zh hp [(id,.row sz xs true false)]) [(base,.row i.size (fl++ys) true true)]) k=some o→(k=base∧o=.row i.size (fl++ys) true true)∨(k=id∧o=.row sz xs true false)∨(k≠base∧k≠id∧lkp hp k=some o):=by
   intro k o hk;simp only[Zh,Qh] at hk;split at hk
   ·rename_i e;cases hk;exact .inl ⟨e.symm,rfl⟩
   ·rename_i e;split at hk
    ·rename_i e';cases hk;exact .inr (.inl ⟨e'.symm,rfl⟩)
    ·rename_i e';exact .inr (.inr ⟨fun h=>e h.symm,fun h=>e' h.symm,hk⟩)
  have a6:∀ j o b,j≠base→j≠id→lkp hp j=some o→Blk (upd Γ base (.row am n' c' i.size)) w' j o b→Blk Γ w j o b:=fun j o b h3 h4 h5 h6=>
   h6.back (Qd _ _ h3) fun g' bw=>have:=ae j o g' h4 h5 (.inl bw);ah g' this.2 this.1
  refine h.next hk aj ?_ ?_ ?_ ck (fun k a5=>by rw[Qd _ _ (fun e=>a5 (.inr (by omega)))];exact h.names k (fun hu=>a5 (.inl hu))) ⟨_,_,_,_,ZH _ _ _,rfl⟩ hd
  ·intro k o a5;rcases b5 k o a5 with ⟨rfl,rfl⟩ | ⟨rfl,rfl⟩ | ⟨h3,h4,h5⟩
   ·exact⟨_,_,_,ZH _ _ _,da⟩
   ·refine⟨_,nD,cD,by rw[Qd _ _ (fun e=>bg e.symm)];exact cg,a0.1,?_⟩;rcases a0.2 with h6 | ⟨g2,cur,e',a4,q1,q2,q3,q4,q5,q6,q7,q8,_⟩
    ·exact absurd h6.2 br
    ·cases a4;refine .inr ⟨g,cur,e',rfl,q1,by rw[ah g cl an];exact q2,q3,q4,q5,q6,?_,q8,?_⟩
     ·simp only[Ka,Ko]
      rintro (h6 | h6 | h6)
      ·exact q7 h6
      ·exact an h6
      ·have:=(hB g h6).1;omega
     ·simp only[Km];have b6 : Z0 w' (fun b=>(I b∨X8 Γ w k (.deep sz i.size xs (some (nm,ii,jj))) b∨B b)∧A b) sz xs os:=by
       refine Zt.mono' ch fun x vs dd hx=>⟨hx.1,ZdO (Zt.of_get hx.2.length fun j y v hy hv=>?_)⟩
       obtain⟨v',cp,hn⟩:=hx.2.get j y hy;rw[hv] at cp;cases cp;obtain⟨p,hp⟩:=KV (List.mem_flatten.2 ⟨vs,dd,Kc hv⟩);exact ZrZ (bf p v y hp hn) (fun b hb ha=>⟨.inl hb,ha⟩) fun b hb=>⟨.inr (.inl (bp p v b hp hb)),h.own b (ag b (bp p v b hp hb)).2.2⟩
      refine QU b6 fun j v hv=>?_;have:=bs j v hv;rw[World.cell?_of_block (w:=w) (a:=⟨g,0+j,none⟩) (ah g cl an)];exact this
   ·refine(h.objs k o h5).mono hk aj fun b b7=>?_;have:=ae k o b h4 h5 b7;refine⟨ah b this.2 this.1,?_⟩
    rintro (h6 | h6 | h6)
    ·exact h6
    ·exact absurd h6 this.1
    ·have:=(hB b h6).1;omega
  ·have af:∀ b,Blk (upd Γ base (.row am n' c' i.size)) w' base (.row i.size (fl++ys) true true) b→X8 Γ w id (.deep sz i.size xs (some (nm,ii,jj))) b∨B b:=fun b aa=>by
    have:=aa.row;rw[ZH] at this;exact db b this
   have bq:∀ b,Blk (upd Γ base (.row am n' c' i.size)) w' id (.row sz xs true false) b→b=g:=fun b aa=>by
    have:=aa.row;rw[Qd _ _ (fun e=>bg e.symm),a1] at this;cases this;rfl
   have n1:∀ b,(X8 Γ w id (.deep sz i.size xs (some (nm,ii,jj))) b∨B b)→b=g→False:=by
    rintro b (h6 | h6) rfl
    ·exact an h6
    ·have:=(hB b h6).1;omega
   have n2:∀ j o b,j≠id→lkp hp j=some o→Blk Γ w j o b→(X8 Γ w id (.deep sz i.size xs (some (nm,ii,jj))) b∨B b)→False:=by
    rintro j o b h3 h4 h5 (h6 | h6)
    ·exact(ae j o b h3 h4 h5).1 h6
    ·have:=(hB b h6).1;have:=(ae j o b h3 h4 h5).2;omega
   intro k k' o o' b de df au av;rcases b5 k o de with ⟨rfl,rfl⟩ | ⟨rfl,rfl⟩ | ⟨h3,h4,h5⟩<;>rcases b5 k' o' df with ⟨rfl,rfl⟩ | ⟨rfl,rfl⟩ | ⟨h6,h7,h8⟩
   ·rfl
   ·exact(n1 b (af b au) (bq b av)).elim
   ·exact(n2 k' o' b h7 h8 (a6 k' o' b h6 h7 h8 av) (af b au)).elim
   ·exact(n1 b (af b av) (bq b au)).elim
   ·rfl
   ·have e:=bq b au;subst e;exact(h.inj k k' _ o' b hl h8 (.inl a1) (a6 k' o' b h6 h7 h8 av))
   ·exact(n2 k o b h4 h5 (a6 k o b h3 h4 h5 au) (af b av)).elim
   ·have e:=bq b av;subst e;exact(h.inj k k' o _ b h5 hl (a6 k o b h3 h4 h5 au) (.inl a1))
   ·exact h.inj k k' o o' b h5 h8 (a6 k o b h3 h4 h5 au) (a6 k' o' b h6 h7 h8 av)
  ·rintro b (aa | aa | aa)
   ·have:=h.bound b aa;omega
   ·have:=(ag b aa).1;omega
   ·exact(hB b aa).2
 have bh:∀ (S:Nat→Prop) (w' : World),Z0 w' S i.size ys cs:=fun S w'=>Vy ba hc;have bi:QG fl:=by
  have:∀ {l:List D},Zbw D.flat l=true→QG l:=by
   intro l
   induction l with
   | nil=>intro _ y hy;simp at hy
   | cons x l ih=>
    intro hl y hy;simp only[Zbw,Ke] at hl;rcases Kf.1 hy with rfl | hy
    ·exact hl.1
    ·exact ih hl.2 y hy
  exact this c8
 by_cases ak:fl.length+ys.length≤c
 ·rcases bd.2 with ⟨e1,e2⟩ | ⟨b0,cur,e',rfl,bj,hw,cq,bk,b8,_,aw,ax,b9⟩
  ·have dg:ys=[]:=Kp (by omega);have b':fl=[]:=Kp e1;subst dg b' e2;refine⟨_,_,ZgR ht hi hs (Kr 0),?_⟩;exact b2 w (fun _=>False) ad 0 0 (Kr _) rfl rfl rfl (fun _ _=>.inl rfl) (fun _ h=>h.elim) (fun _ _ _ _ h=>h) ⟨rfl,.inl ⟨rfl,rfl⟩⟩ (fun b aa=>by cases ad<;>simp[Zy] at aa)
  ·have ca:=hc.length_flatten;have cb:fl.length*i.size+cs.flatten.length≤cur.size:=by rw[ca,b8,← KE];exact KB _ ak
   refine⟨_,_,Zdt (ty:=ty) ht hi hs hw ak cb,?_⟩;have ab:=setRow_heap w b0 cur (cur.toList.take (fl.length*i.size)++cs.flatten++cur.toList.drop (fl.length*i.size+cs.flatten.length)).toArray e' _ hw;have cr:Yt (.slice (some ⟨b0,0,none⟩) fl.length c)=some b0:=by simp[Yt,KC bj]
   have al:=bp _ _ b0 bv cr;obtain⟨fs,ay,a7⟩:=QV b9;have a8:=ay.length_flatten;have bl:cur.toList.take (fl.length*i.size)=fs.flatten:=by
    refine Lz fun j=>?_;rw[K7];split
    ·rename_i hj;obtain⟨u',ct⟩:∃ u',fs.flatten[j]?=some u':=⟨_,Kq (by rw[a8];exact hj)⟩
     have:=a7 j u' ct;rw[cell_of_row w b0 _ cur e' _ hw] at this;rw[ct];simpa using this
    ·rw[KR (by rw[a8];omega)]
   generalize bm:(cur.toList.take (fl.length*i.size)++cs.flatten++cur.toList.drop (fl.length*i.size+cs.flatten.length)).toArray=cur' at ab;have ap : cur'.toList=fs.flatten++(cs.flatten++cur.toList.drop (fl.length*i.size+cs.flatten.length)):=by rw[← bm,bl];simp
   have bn : cur'.size=c*i.size:=by
    rw[← bm,← b8];simp only[Lt,Kt,Lj,Lv,Lp];omega
   have cc:QD (w.setRow b0 cur') b0 0 fs.flatten:=QY ab ap;have cd:QD (w.setRow b0 cur') b0 0 (fs++cs).flatten:=QY ab (ys:=cur.toList.drop (fl.length*i.size+cs.flatten.length)) (by rw[ap];simp);refine b2 (w.setRow b0 cur') (fun _=>False) _ _ c (by rw[size_setRow];exact Kr _) rfl rfl rfl (fun k _=>?_) (fun _ h=>h.elim) ?_ ?_ ?_
   ·by_cases e:k=b0
    ·subst e;exact .inr al
    ·exact .inl (setRow_other w b0 k _ e)
   ·intro p v y hv aq;by_cases cu:p=ii*sz+jj
    ·subst cu;rw[bv] at hv;cases hv;cases y with
     | sl zs=>
      obtain⟨a3,c3,e3,az,bo⟩:=aq;injection e3 with e4 e5 e6;subst e4 e6;rw[← e5] at az;refine⟨_,c,by rw[e5],⟨rfl,.inr ⟨b0,cur',e',rfl,bj,ab,by rw[← e5];exact cq,bk,bn,ar,aw,ax,?_⟩⟩,bo⟩;rcases az.2 with h6 | ⟨b3,dh,e3,di,_,ds,_,_,_,_,_,_,ce⟩
      ·have:=h6.2;omega
      ·cases di;obtain⟨dt,cv,a4⟩:=QV ce;have dj:QG zs:=fun y hy=>by
        have:∀ {l:List D},Zbw D.flat l=true→∀ y∈l,y.flat=true:=by
         intro l
         induction l with
         | nil=>intro _ y hy;simp at hy
         | cons x l ih=>
          intro hl y hy;simp only[Zbw,Ke] at hl;rcases Kf.1 hy with rfl | hy
          ·exact hl.1
          ·exact ih hl.2 y hy
        exact this bo y hy
       refine QU (Vy dj cv) fun j v hv=>?_;have cw:j<fs.flatten.length:=by rw[a8,az.1,← cv.length_flatten];exact(Kb.1 hv).1
       have h8:=a4 j v hv;have h9:=a7 j _ (Kq cw);rw[h8] at h9;have dk:=cc j _ (Kq cw);rw[dk];exact h9.symm
     | int k m=>obtain⟨_,h6⟩:=aq;simp[ZO] at h6
     | bool k=>obtain⟨_,h6⟩:=aq;simp[ZO] at h6
     | str k=>obtain⟨_,h6⟩:=aq;simp[ZO] at h6
     | agg k=>exact absurd aq.1 (by simp[D.plain])
    ·refine aq.mono ⟨fun _ h=>h,fun b aa=>setRow_other w b0 b _ fun e=>aw (by simpa using e ▸ aa)⟩ fun b aa=>⟨setRow_other w b0 b _ fun e=>cu (bt p _ b0 v _ hv bv (e ▸ aa) cr),fun h=>h⟩
   ·refine⟨by simp,.inr ⟨b0,cur',e',rfl,bj,ab,ak,bk,bn,ar,by simp only[Km];exact .inr (.inl al),ax,?_⟩⟩;exact QU (Z0.append (Vy bi ay) (bh _ _)) cd
   ·intro b aa;simp[Zy,KC bj] at aa;subst aa;exact .inl al
 ·have cf:∃ fs,Z0 w (inS I A true) i.size fl fs∧(fl.length=0∨∃ b o,ad=some ⟨b,o,none⟩∧QD w b o fs.flatten):=by
   rcases bd.2 with ⟨e1,e2⟩ | ⟨b0,cur,e',rfl,bj,hw,cq,bk,b8,_,aw,ax,b9⟩
   ·have b':fl=[]:=Kp e1;subst b';exact⟨[],trivial,.inl rfl⟩
   ·obtain⟨fs,ay,a7⟩:=QV b9;exact⟨fs,ay,.inr ⟨b0,0,rfl,a7⟩⟩
  obtain⟨fs,ay,a7⟩:=cf;have a8:=ay.length_flatten;have ca:=hc.length_flatten;have ho:=Yh (P:=P) (w:=w.drew) (c:=c) a8 (a7.imp (fun h=>h) fun ⟨b,o,h1,h2⟩=>⟨b,o,h1,h2.drew⟩);have hr:=ZgS (ty:=ty) ht hi hz hs ho (by omega) (by omega) (growslice_fits (by omega) h1);refine⟨_,_,hr,?_⟩;have dl:=grownCap_ge w (fl.length+ys.length) c e;have bk:grownCap w (fl.length+ys.length) c e≤maxLen:=grownCap_le_maxLen w (fl.length+ys.length) c e (by simp only[maxLen];omega);have cx : (w.drew.alloc (.cells ((fs.flatten++cs.flatten).toArray++Builtin.zeroCells z.cells (grownCap w (fl.length+ys.length) c e-(fl.length+ys.length))) e)).heap[w.heap.size]? =
    some (.cells ((fs.flatten++cs.flatten).toArray++Builtin.zeroCells z.cells (grownCap w (fl.length+ys.length) c e-(fl.length+ys.length))) e (0,0)):=heap_alloc_new w.drew _
  have ai:∀ k,k<w.heap.size→(w.drew.alloc (.cells ((fs.flatten++cs.flatten).toArray++Builtin.zeroCells z.cells (grownCap w (fl.length+ys.length) c e-(fl.length+ys.length))) e)).heap[k]?=w.heap[k]?:=fun k hk=>heap_alloc_old w.drew _ k hk;refine b2 _ (fun b=>b=w.heap.size) _ _ _ (by simp) rfl rfl rfl (fun k hk=>.inl (ai k hk)) (fun b aa=>by subst aa;simp) (fun p v y hv aq=>?_) ?_ ?_
  ·exact aq.mono ⟨fun _ h=>h,fun b aa=>ai b (h.bound b aa)⟩ fun b aa=>⟨ai b (ag b (bp p v b hv aa)).1,fun h=>h⟩
  ·refine⟨by simp,.inr ⟨w.heap.size,_,e,rfl,by omega,cx,dl,bk,?_,ar,by simp,h.fresh _ (Kr _),?_⟩⟩
   ·simp only[Array.size_append,Lt,Kt,size_zeroCells,cy,a8,ca,← KE];congr 1
    omega
   ·refine QU (Z0.append (Vy bi ay) (bh _ _)) (QY cx (ys:=(Builtin.zeroCells z.cells (grownCap w (fl.length+ys.length) c e-(fl.length+ys.length))).toList) ?_);simp
  ·intro b aa;have:grownCap w (fl.length+ys.length) c e≠0:=by omega
   simp[Zy,this] at aa;exact .inr aa.symm
theorem ZvQ {l:Hp} {t t' : Nat} (h:t≠t'):lkp (del l t) t'=lkp l t':=by rw[ZhI,Kd h]
theorem V5:∀ (ds:List Nat) (l:Hp) (id:Nat),id∉ds→lkp (Qm l ds) id=lkp l id
 | [],l,id,_=>rfl
 | d :: ds,l,id,h=>by
  simp only[Kf,not_or] at h;simp only[Qm];rw[V5 ds _ id h.2,ZvQ (fun e=>h.1 e.symm)]
def Zzo (Γ:Gh) (w:World) (hp:Hp) (I:Nat→Prop) (ids:List Nat) (b:Nat):Prop:=I b∨∃ id∈ids,∃ o,lkp hp id=some o∧X8 Γ w id o b
theorem U6 (hp:Hp):∀ (ids:List Nat) (k:Nat),lkp (meltIn hp ids) k=(lkp hp k).map fun o=>if ids.contains k then ZcA o else o
 | [],k=>by simp[meltIn]
 | i :: r,k=>by
  simp only[meltIn];have ih:=U6 hp r k;by_cases e:i=k
  ·subst e;cases hl:lkp hp i with
   | none=>simp only[ih,hl];rfl
   | some o=>simp only[Qh,Km,KJ];simp
  ·have hc:(i :: r).contains k=r.contains k:=by simp;intro h;exact absurd h.symm e
   rw[hc,← ih];cases lkp hp i with
   | none=>rfl
   | some o=>simp only[Qh];rw[Kd e]
theorem Sim.meltIn (h:Sim nt F A I Γ U sl hp a w) (ids:List Nat):Sim nt F A (Zzo Γ w hp I ids) Γ U sl (meltIn hp ids) a w:=by
 have aa:ZP I (Zzo Γ w hp I ids) w w:=⟨fun _ h=>.inl h,fun _ _=>rfl⟩
 have ae:∀ k o,lkp (Go.Abs.meltIn hp ids) k=some o→∃ o0,lkp hp k=some o0∧o=if ids.contains k then ZcA o0 else o0:=by
  intro k o hk;rw[U6] at hk;cases hl:lkp hp k with
  | none=>rw[hl] at hk;cases hk
  | some o0=>rw[hl] at hk;simp only[KJ,Option.some.injEq] at hk;exact⟨o0,rfl,hk.symm⟩
 have bk:∀ k o0 b,Blk Γ w k (if ids.contains k then ZcA o0 else o0) b→Blk Γ w k o0 b:=by
  intro k o0 b hb;split at hb
  ·cases o0 with
   | box cs=>exact hb
   | row sz xs ex fz=>exact hb
   | deep sz ns xs lk=>exact .inl hb.row
  ·exact hb
 refine { nt:=h.nt,dfr:=h.dfr,slots:=fun t=>(h.slots t).mono (Q4.refl Γ) aa,objs:=?_,inj:=?_,bound:=?_,fresh:=h.fresh,own:=h.own,names:=h.names,glob:=h.glob.mono aa }
 ·intro k o hk;obtain⟨o0,hl,rfl⟩:=ae k o hk;have ho:=h.objs k o0 hl;have plain:(∀ b,X8 Γ w k o0 b→k∉ids)→VY Γ w (Zzo Γ w hp I ids) F A k o0:=fun hn=>ho.mono (Q4.refl Γ) aa fun b hb=>⟨rfl,fun hi=>by
   rcases hi with hi | ⟨id,ak,o',ab,hi⟩
   ·exact hi
   ·have:=h.inj k id o0 o' b hl ab hb (.inr (.inl hi));subst this;rw[hl] at ab;cases ab;exact absurd ak (hn b hi)⟩
  split
  ·rename_i af;have ag : k∈ids:=by simpa using af
   cases o0 with
   | box cs=>exact plain fun b hb=>False.elim hb
   | row sz xs ex fz=>exact plain fun b hb=>False.elim hb
   | deep sz ns xs lk=>
    obtain⟨ad,n,c,h1,hd,_⟩:=ho;have al:=hd;obtain⟨h2,h3⟩:=hd;refine⟨ad,n,c,h1,h2,?_⟩;rcases h3 with h3 | ⟨g,cur,e,rfl,hc,hw,h4,h5,h6,ah,h8,am,av,an,ao⟩
    ·exact .inl h3
    ·have ai:Zy (Γ k)=some g:=by rw[h1];simp[Zy,KC hc]
     refine .inr ⟨g,cur,e,rfl,hc,hw,h4,h5,h6,ah,?_,am,?_⟩
     ·simp only[Ka,Ko]
      rintro (hi | ⟨id,_,o',ab,hi⟩)
      ·exact h8 hi
      ·have:=h.inj k id _ o' g hl ab (.inl ai) (.inr (.inl hi));subst this;rw[hl] at ab;cases ab;obtain⟨g2,p,aj,ap,aq⟩:=hi;rw[ai] at aj;cases aj;exact ao p (by rw[h2];exact ap) aq
     ·simp only[Km];exact ZoD al (fun b hb ha=>⟨.inl hb,ha⟩) fun p b hp hn=>
       have hi:X8 Γ w k (.deep sz ns xs lk) b:=⟨g,p,ai,hp,hn⟩
       ⟨.inr ⟨k,ag,_,hl,hi⟩,h.own b (Zif (h.objs k _ hl) (.inr (.inl hi)))⟩
  ·rename_i af;exact plain fun _ _ hi=>af (by simpa using hi)
 ·intro i j o o' b hi hj ar au;obtain⟨o0,hl,rfl⟩:=ae i o hi;obtain⟨o1,ab,rfl⟩:=ae j o' hj;exact h.inj i j o0 o1 b hl ab (bk i o0 b ar) (bk j o1 b au)
 ·rintro b (hb | ⟨id,_,o,hl,hi⟩)
  ·exact h.bound b hb
  ·exact h.blk_lt hl (.inr (.inl hi))
theorem ZvR (h:Sim nt F A I Γ U sl hp a w) {o:Oper} {t u e:TypeId} {s x:Operand} {s' x' : Opd} {str flat:Bool}
  (ho:o.op=.call { callee:=.builtin .append,args := #[s,x],argTypes := #[t,u] }) (he:Yf P t=some e) (aa:ZlZ P e u=some str) (ae:U8 P e=true) (hs:Z2 s=some s') (hx:Z2 x=some x')
  {base:Nat} (hb:Xk U base) (hd:Q7 nt o.dst=true) {ms:List Nat} (ah:∀ k∈ms,∃ o,lkp hp k=some o) {ef:Eff} (hv:VG hp (P.cellsOf e) (P.bytesOf e) str flat base (evO sl s') (evO sl x') ms=some ef):ZeF P nt F A I Γ U sl hp a w o base { eff:=ef,gone:=[] }:=by
 cases ms with
 | nil=>exact Zr9 h ho he aa ae hs hx hb hd (flat:=flat) (by simp only[VG] at hv;rw[hv];rfl)
 | cons i r=>
  simp only[VG] at hv;split at hv
  ·cases hv
  ·obtain⟨e0,h1,hv⟩:=Za hv;cases hv;obtain⟨u',w',hg,I',Γ',b1,b2,b3,b4,b5⟩:=Zr9 (h.meltIn (i :: r)) ho he aa ae hs hx hb hd (flat:=flat) (ce := { eff:=e0,gone:=[] }) (by rw[h1];rfl);refine⟨u',w',hg,I',Γ',b1,⟨fun b hb=>b2.sub b (.inl hb),fun b hb=>b2.blk b (.inl hb)⟩,fun b hb=>?_,b4,b5.sub fun k o hk=>?_⟩
   ·rcases b3 b hb with (h6 | ⟨id,_,o,hl,hi⟩) | h6
    ·exact .inl h6
    ·exact .inr (Zif (h.objs id o hl) (.inr (.inl hi)))
    ·exact .inr h6
   ·have ag : lkp (Zh (Zh (Qm (Qc e0.frz hp) (e0.dels++(i :: r))) e0.sets) e0.adds) k=some o:=hk;show lkp (Zh (Zh (Qm (Qc e0.frz (meltIn hp (i :: r))) e0.dels) e0.sets) e0.adds) k=some o;have af:∀ (A:Hp) (ab ad:Hp),(∀ o,lkp ab k=some o→lkp ad k=some o)→∀ o,lkp (Zh ab A) k=some o→lkp (Zh ad A) k=some o:=by
     intro A
     induction A with
     | nil=>intro _ _ h;exact h
     | cons q r ih=>
      intro ab ad h;obtain⟨k',o'⟩:=q;simp only[Zh];refine ih _ _ fun o ho=>?_;rw[Qh] at ho ⊢;split
      ·rename_i e;rw[Ki e] at ho;exact ho
      ·rename_i e;rw[Kd e] at ho;exact h o ho
    refine af _ _ _ (fun o ho=>af _ _ _ (fun o ho=>?_) o ho) o ag;obtain⟨h2,h3⟩:=ZaG _ _ _ _ ho;simp only[Kg,not_or] at h3;rw[V5 _ _ k h3.1];rw[Z8] at h2 ⊢;rw[U6];have:(i :: r).contains k=false:=by simpa using h3.2
    rw[this];simpa using h2
theorem ZvS (h:Sim nt F A I Γ U sl hp a w) {o:Oper} {t u e:TypeId} {s x:Operand} {s' x' : Opd} {str flat:Bool}
  (ho:o.op=.call { callee:=.builtin .append,args := #[s,x],argTypes := #[t,u] }) (he:Yf P t=some e) (ae:ZlZ P e u=some str) (al:U8 P e=true) (hs:Z2 s=some s') (hx:Z2 x=some x')
  {base:Nat} (hb:Xk U base) (hd:Q7 nt o.dst=true) {ce:Zd} (hv:Zs2 hp (P.cellsOf e) (P.bytesOf e) str flat base (evO sl s') (evO sl x')=some ce):ZeF P nt F A I Γ U sl hp a w o base ce:=by
 obtain⟨i,z,hi,hz,an,ah,aa,ab⟩:=Vw al;have ht:=Q0 he;have ao:∀ {ef:Eff} {v' : Value} {w' : World},(Builtin.append_ #[t,u] o.type #[a.eval s,a.eval x]).run P w=.ok v' w' →
   UD nt F A I Γ w (JJ U base) (Zd.on { eff:=ef,gone:=[] } o.dst sl hp).1 (Zd.on { eff:=ef,gone:=[] } o.dst sl hp).2 (a.put o.dst v') w'→ZeF P nt F A I Γ U sl hp a w o base { eff:=ef,gone:=[] }:=by
  intro ef v' w' hr hp';refine⟨v',w',.inl ?_,hp'⟩;simp only[execOp,ho,resolve,invoke,builtin,Sem.run_bind,Sem.run_pure,Result.andThen_ok,List.map_toArray,Kj,Ku,hr]
 unfold Zs2 at hv;unfold Zeu at hv;split at hv
 ·rename_i id nm ap;have af:=h.slOK.ev hs;rw[ap] at af;obtain⟨_,ad,n,c,s0,aq,af⟩:=af;cases str with
  | true=>simp[Zgg,bnd] at hv
  | false=>
   simp only[Ka,Ko] at hv;obtain⟨ef,ag,ai⟩:=Za hv;clear hv;cases ai;obtain⟨⟨ys,au⟩,h1,hv⟩:=Za ag;clear ag;split at hv
   ·cases hv
   ·unfold ZiE at hv;split at hv
    ·rename_i sz ns xs av ii jj hl;obtain⟨fl,h2,hw⟩:=Za hv;clear hv;have hv:=hw;clear hw;split at hv
     ·rename_i hc;obtain⟨rfl,c2,c3,c4,c5,c6⟩:=hc;cases hv;subst c2;obtain⟨cs,aj,ak⟩:=Zz5 (P:=P) (flat:=true) (str:=false) h.hpOK ae (h.slOK.ev hx) (by simpa using h1) c3 fun _=>c4;dsimp only at aj ak;rw[aa] at hl aj ak ⊢;rw[ab] at c5;obtain⟨v',w',h3,h4⟩:=Zzn (ty:=o.type) h hb ht hi hz an ah hd hl aq h2 aj ak c4 c5 c6;exact ao (by rw[af];exact h3) (by rw[Xu];exact h4)
     ·cases hv
    ·cases hv
 ·obtain⟨ef,ag,ai⟩:=Za hv;cases ai;refine ZvR h ho he ae al hs hx hb hd (fun k hk=>?_) ag;have ar:∀ z,k∈Yu hp z→∃ o,lkp hp k=some o:=by
   intro z hz;unfold Yu at hz;split at hz
   ·split at hz
    ·rename_i id am;simp at hz;subst hz;cases hl:lkp hp k with
     | none=>rw[hl] at am;cases am
     | some o=>exact⟨o,rfl⟩
    ·simp at hz
   ·simp at hz
  rcases Kg.1 hk with hk | hk<;>exact ar _ hk
theorem ZvT (h:Sim nt F A I Γ U sl hp a w) {o:Oper} {t u e:TypeId} {s x:Operand} {s' x' : Opd}
  (ho:o.op=.call { callee:=.builtin .append,args := #[s,x],argTypes := #[t,u] }) (he:Yf P t=some e) (aj:ZlZ P e u=some false) (aw:U8 P e=true) (hs:Z2 s=some s') (hx:Z2 x=some x')
  {base:Nat} (hb:Xk U base) (hd:Q7 nt o.dst=true) {ce:Zd} (hv:Zqg hp (P.cellsOf e) (P.bytesOf e) base (evO sl s') (evO sl x')=some ce):ZeF P nt F A I Γ U sl hp a w o base ce:=by
 obtain⟨i,z,hi,hz,ao,af,ab,ae⟩:=Vw aw;have ht:=Q0 he;have ap:∀ {ef:Eff} {v' : Value} {w' : World},(Builtin.append_ #[t,u] o.type #[a.eval s,a.eval x]).run P w=.ok v' w' →
   UD nt F A I Γ w (JJ U base) (Zd.on { eff:=ef,gone:=[] } o.dst sl hp).1 (Zd.on { eff:=ef,gone:=[] } o.dst sl hp).2 (a.put o.dst v') w'→ZeF P nt F A I Γ U sl hp a w o base { eff:=ef,gone:=[] }:=by
  intro ef v' w' hr hp';refine⟨v',w',.inl ?_,hp'⟩;simp only[execOp,ho,resolve,invoke,builtin,Sem.run_bind,Sem.run_pure,Result.andThen_ok,List.map_toArray,Kj,Ku,hr]
 unfold Zqg Zgg at hv;obtain⟨ef,aq,ax⟩:=Za hv;clear hv;cases ax;obtain⟨q,hq,hv⟩:=Za aq;clear aq;split at hv
 ·rename_i c1;have hu:P.underlying u=some (.slice e):=by
   rcases ZoM aj with ⟨h2,_⟩ | ⟨_,h2⟩
   ·cases h2
   ·exact h2
  unfold Zdo at hq;split at hq
  ·rename_i ay az;obtain⟨q2,h2,hq⟩:=Za hq;cases hq;unfold ZiD at h2;split at h2
   ·rename_i s2 n2 ys a1 ak;cases h2;dsimp only at c1 hv;have ag:=h.slOK.ev hx;rw[az] at ag;obtain⟨a2,m2,k2,s3,al,ag⟩:=ag;obtain⟨_,_,_,ah,_⟩:=h.objs ay _ ak;rw[al] at ah;cases ah;subst c1;rw[ab] at ak al hv;rw[ae] at hv;obtain⟨cs,ar⟩:=Zrt h ak al;have aa:=h.slOK.ev hs;unfold Zb2 at hv;split at hv
    ·rename_i am;rw[am] at aa;obtain⟨ad,aa⟩:=aa;split at hv
     ·rename_i hc;cases hv;obtain⟨v',w',h3,h4⟩:=appDp (ty:=o.type) h hb ht hi hz ao af hd hu (Zub (ids:=[]) (ad:=ad)) ar (fun k hk=>by simp at hk) (by simpa using hc.1) (by simpa using hc.2);exact ap (by rw[aa,ag];exact h3) (by rw[Xu];exact h4)
     ·cases hv
    ·rename_i a0 am;rw[am] at aa;obtain⟨ad,n,c,s4,au,aa⟩:=aa;obtain⟨q1,h5,hw⟩:=Za hv;clear hv;have hv:=hw;clear hw;split at hv
     ·rename_i hc;obtain⟨c2,c3,c4,c5,c6⟩:=hc;cases hv;unfold ZiD at h5;split at h5
      ·rename_i s5 n5 xs a3 av;cases h5;dsimp only at c2 c3 c5 c6;obtain⟨_,_,_,ai,a4,_⟩:=h.objs a0 _ av;rw[au] at ai;cases ai;subst c2 c3;obtain⟨os,an⟩:=Zrt h av au;obtain⟨v',w',h3,h4⟩:=appDp (ty:=o.type) h hb ht hi hz ao af hd hu an ar (fun k hk=>by simp at hk;subst hk;simpa using c4) (by rw[an.len];exact c5) (by rw[an.len];exact c6);exact ap (by rw[aa,ag];exact h3) (by rw[Xu];exact h4)
      ·cases h5
     ·cases hv
    ·cases hv
   ·cases h2
  ·cases hq
 ·cases hv
end
end Go.Abs

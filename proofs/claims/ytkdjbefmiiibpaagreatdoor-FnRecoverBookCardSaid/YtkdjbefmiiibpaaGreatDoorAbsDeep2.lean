/- The abstract semantics and the model: rows whose nested rows are their own are appended. Own text. -/
import Derived.Test.YtkdjbefmiiibpaaGreatDoorAbsDeep
import Derived.Test.YtkdjbefmiiibpaaGreatDoorAbsCall3
set_option linter.unusedVariables false
set_option linter.unusedSimpArgs false
namespace Go.Abs
open Go
section
variable {P:Program} {nt:Nat} {U:Nat→Prop} {F A I:Nat→Prop} {Γ:Gh} {sl:Sl} {hp:Hp} {a:Act} {w:World}
theorem Zz.mono' {α β:Type} {R R' : α→β→Prop}:∀ {as:List α} {bs:List β},Zz R as bs→(∀ a b,b∈bs→R a b→R' a b)→Zz R' as bs
 | [],[],_,_=>trivial
 | [],_ :: _,h,_=>h.elim
 | _ :: _,[],h,_=>h.elim
 | _ :: _,_ :: _,h,hr=>⟨hr _ _ (by simp) h.1,Zz.mono' h.2 fun a b hb=>hr a b (by simp[hb])⟩
theorem Cks.append {ns sz:Nat} {xs ys:List D} {cs ds:List (List Value)} (h:Cks w I F A ns sz xs cs) (k:Cks w I F A ns sz ys ds):Cks w I F A ns sz (xs++ys) (cs++ds):=Zz.append h k
theorem Dis.append {L M:List Value} (hL:Dis L) (hM:Dis M) (hx:∀ (p q b:Nat) (u v:Value),L[p]?=some u→M[q]?=some v→VC u=some b→VC v=some b→False):Dis (L++M):=by
 intro p q b u v hu hv hb hb'
 rw[List.getElem?_append] at hu hv
 split at hu<;>split at hv
 ·exact hL p q b u v hu hv hb hb'
 ·exact(hx _ _ b u v hu hv hb hb').elim
 ·exact(hx _ _ b v u hv hu hb' hb).elim
 ·have:=hM _ _ b u v hu hv hb hb';omega
structure Part (Γ:Gh) (w:World) (I F A:Nat→Prop) (hp:Hp) (ids:List Nat) (ns sz:Nat) (xs:List D) (os:List (List Value)) (ad:Option Addr) (n c:Nat):Prop where
 cks:Cks w I F A ns sz xs os
 len:n=xs.length
 dis:Dis os.flatten
 at_:(n=0∧c=0)∨∃ g cur e,ad=some ⟨g,0,none⟩∧0<c∧w.heap[g]?=some (.cells cur e (0,0))∧n≤c∧c≤maxLen∧cur.size=c*sz∧0<sz∧¬I g∧F g∧Q4 w g 0 os.flatten∧(∃ id∈ids,∃ o,lkp hp id=some o∧ZG (Γ id)=some g)∧∀ (p:Nat) (u:Value),os.flatten[p]?=some u→VC u≠some g
 blk:∀ (p:Nat) (u:Value) (b:Nat),os.flatten[p]?=some u→VC u=some b→∃ id∈ids,∃ o,lkp hp id=some o∧Y9 Γ w id o b
theorem Zui {ids:List Nat} {ns sz:Nat} {ad:Option Addr}:Part Γ w I F A hp ids ns sz [] [] ad 0 0:=
 ⟨trivial,rfl,fun p q b u v hu=>by simp at hu,.inl ⟨rfl,rfl⟩,fun p u b hu=>by simp at hu⟩
theorem ZrH (h:Sim nt F A I Γ U sl hp a w) {id sz ns:Nat} {xs:List D} {lk:Option (Nat×Nat×Nat)} (hl:lkp hp id=some (.deep sz ns xs lk)) {ad:Option Addr} {n c:Nat} (hg:Γ id=some (.row ad n c sz)):∃ os,Part Γ w I F A hp [id] ns sz xs os ad n c:=by
 obtain⟨ad',n',c',hg',hd,_⟩:=h.objs id _ hl
 rw[hg] at hg';cases hg'
 have hd':=hd
 obtain⟨hn,h3⟩:=hd
 rcases h3 with ⟨h3,h4⟩ | ⟨g,cur,e,rfl,hc,hw,h4,h5,h6,hpos,h8,hFg,hel,hdis,hne⟩
 ·subst h3 h4
  have hx:xs=[]:=List.eq_nil_of_length_eq_zero hn.symm
  subst hx
  exact⟨[],Zui⟩
 ·obtain⟨os,k1,k2,k3,k4,k5⟩:=Zug hd' (Nat.ne_of_gt hc)
  have hbg:ZG (Γ id)=some g:=by rw[hg];simp[ZG,Nat.ne_of_gt hc]
  exact⟨os,k1,hn,k3,.inr ⟨g,cur,e,rfl,hc,hw,h4,h5,h6,hpos,h8,hFg,k2,⟨id,by simp,_,hl,hbg⟩,k4⟩,fun p u b hu hb=>⟨id,by simp,_,hl,g,p,hbg,k5 p u b hu hb⟩⟩
theorem ZAt {ids:List Nat} {ns sz:Nat} {xs:List D} {os:List (List Value)} {ad:Option Addr} {n c:Nat} (hp' : Part Γ w I F A hp ids ns sz xs os ad n c) {u e:TypeId} (hu:P.underlying u=some (.slice e)):Src P w u sz (.slice ad n c) xs.length os.flatten:=by
 have hl:=hp'.cks.length_flatten
 have hn:=hp'.len
 have hat:n=0∨∃ b o,ad=some ⟨b,o,none⟩∧Q4 w b o os.flatten:=by
  rcases hp'.at_ with h | ⟨g,_,_,h,_,_,_,_,_,_,_,_,h2,_⟩
  ·exact .inl h.1
  ·exact .inr ⟨g,0,h,h2⟩
 subst hn
 exact⟨⟨_,hu,fun k=>by simp⟩,by simp[Builtin.lenOf],Vl hl hat,Vl hl (hat.imp id fun ⟨b,o,h1,h2⟩=>⟨b,o,h1,h2.drew⟩),fun v hv=>by obtain⟨y,hy⟩:=hp'.cks.cell v hv;exact ZyQ hy,hl⟩
theorem appDp (h:Sim nt F A I Γ U sl hp a w) {base:Nat} (hb:Yd U base) {t u ty e:TypeId} {i:TypeInfo} {z:Value} (ht:P.underlying t=some (.slice e)) (hi:P.info? e=some i) (hz:i.zero=some z) (hzs:z.cells.size=i.size) (hpos:0<i.size)
  {dst:Option Nat} (hd:XI nt dst=true) (hu:P.underlying u=some (.slice e)) {ids1 ids2:List Nat} {ns:Nat} {xs ys:List D} {os cs:List (List Value)} {ad ad2:Option Addr} {n c n2 c2:Nat}
  (hx:Part Γ w I F A hp ids1 ns i.size xs os ad n c) (hy:Part Γ w I F A hp ids2 ns i.size ys cs ad2 n2 c2) (hids:∀ k∈ids1,k∉ids2)
  (h1:(n+ys.length)*i.bytes≤QI) (h2:n+ys.length≤QI) :
  ∃ v' w',(Builtin.append_ #[t,u] ty #[.slice ad n c,.slice ad2 n2 c2]).run P w=.ok v' w'∧JX nt F A I Γ w (Za3 U base) (Zw sl dst (.own base)) (Zg (QH hp (ids1++ids2)) [(base,.deep i.size ns (xs++ys) none)]) (a.put dst v') w':=by
 simp only[QI] at h1 h2
 have hs:=ZAt (P:=P) hy hu
 have hlo:=hx.cks.length_flatten
 have hln:=hy.cks.length_flatten
 have hn:=hx.len
 have hfl:(os++cs).flatten=os.flatten++cs.flatten:=by simp
 have hdis:Dis (os++cs).flatten:=by
  rw[hfl]
  refine hx.dis.append hy.dis fun p q b u v hu hv hb hb'=>?_
  obtain⟨k,hk,o,hl,hbb⟩:=hx.blk p u b hu hb
  obtain⟨k',hk',o',hl',hbb'⟩:=hy.blk q v b hv hb'
  exact hids k hk (h.inj k k' o o' b hl hl' (.inr (.inl hbb)) (.inr (.inl hbb')) ▸ hk')
 have hblk:∀ (p:Nat) (u:Value) (b:Nat),(os++cs).flatten[p]?=some u→VC u=some b→∃ id∈ids1++ids2,∃ o,lkp hp id=some o∧Blk Γ w id o b:=by
  intro p u b hu hb
  rw[hfl,List.getElem?_append] at hu
  split at hu
  ·obtain⟨k,hk,o,hl,hbb⟩:=hx.blk _ u b hu hb;exact⟨k,by simp[hk],o,hl,.inr (.inl hbb)⟩
  ·obtain⟨k,hk,o,hl,hbb⟩:=hy.blk _ u b hu hb;exact⟨k,by simp[hk],o,hl,.inr (.inl hbb)⟩
 have hlt:∀ (p:Nat) (u:Value) (b:Nat),(os++cs).flatten[p]?=some u→VC u=some b→b<w.heap.size:=fun p u b hu hb=>by
  obtain⟨k,_,o,hl,hbb⟩:=hblk p u b hu hb
  exact h.blk_lt hl hbb
 have hck:Cks w I F A ns i.size (xs++ys) (os++cs):=hx.cks.append hy.cks
 have fin:∀ (w' : World) (g c' : Nat) (cur:Array Value) (e' : TypeId),w.heap.size≤w'.heap.size→w'.os=w.os→w'.tape=w.tape→w'.output=w.output →
   (∀ k,k<w.heap.size→k≠g→w'.heap[k]?=w.heap[k]?)→(w.heap.size≤g∨((∃ id∈ids1,∃ o,lkp hp id=some o∧ZG (Γ id)=some g)∧(∀ (p:Nat) (u:Value),os.flatten[p]?=some u→VC u≠some g)))→¬I g→F g →
   w'.heap[g]?=some (.cells cur e' (0,0))→0<c'→n+ys.length≤c'→c'≤maxLen→cur.size=c' * i.size→Q4 w' g 0 (os++cs).flatten →
   JX nt F A I Γ w (Za3 U base) (Zw sl dst (.own base)) (Zg (QH hp (ids1++ids2)) [(base,.deep i.size ns (xs++ys) none)]) (a.put dst (.slice (some ⟨g,0,none⟩) (n+ys.length) c')) w':=by
  intro w' g c' cur e' hsz hos htape hout hoth hgg hgI hgF hheap hc0 hnc hcm hcs hat
  have hgne:∀ (p:Nat) (u:Value),(os++cs).flatten[p]?=some u→VC u≠some g:=by
   intro p u hu hb
   rcases hgg with hgg | ⟨⟨k,hk,o,hl,hbg⟩,hgo⟩
   ·have:=hlt p u g hu hb;omega
   ·rw[hfl,List.getElem?_append] at hu
    split at hu
    ·exact hgo _ u hu hb
    ·obtain⟨k',hk',o',hl',hbb'⟩:=hy.blk _ u g hu hb
     exact hids k hk (h.inj k k' o o' g hl hl' (.inl hbg) (.inr (.inl hbb')) ▸ hk')
  have hext:∀ k,k<w.heap.size→w'.heap[k]?=w.heap[k]?∨(∃ id∈ids1++ids2,∃ o,lkp hp id=some o∧Blk Γ w id o k)∧¬I k:=by
   intro k hk
   by_cases e:k=g
   ·subst e
    rcases hgg with hgg | ⟨⟨k',hk',o,hl,hbg⟩,_⟩
    ·omega
    ·exact .inr ⟨⟨k',by simp[hk'],o,hl,.inl hbg⟩,hgI⟩
   ·exact .inl (hoth k hk e)
  have hck' : Cks w' I F A ns i.size (xs++ys) (os++cs):=hck.conv fun v hv y hny=>by
   obtain⟨p,hp'⟩:=List.getElem?_of_mem hv
   refine hny.mono ⟨fun _ h=>h,fun b hb=>hoth b (h.bound b hb) fun e=>hgI (e ▸ hb)⟩ fun b hb=>⟨hoth b (hlt p v b hp' hb) fun e=>hgne p v hp' (e ▸ hb),fun h=>h⟩
  refine h.takes hb (r:=.row (some ⟨g,0,none⟩) (n+ys.length) c' i.size) hsz hos htape hout hext ?_ ⟨_,_,_,_,ZR _ _ _,rfl⟩ hd ?_
  ·exact⟨_,_,_,ZR _ _ _,ZrG (by simp[hn]) hc0 hheap hnc hcm hcs hpos hgI hgF hck' hat hdis hgne,trivial⟩
  ·intro b hb'
   rcases hb' with hb' | ⟨g',p,hg',hp',hnb⟩ | hb'
   rotate_right
   ·exact hb'.elim
   ·rw[ZR] at hb'
    simp[ZG,Nat.ne_of_gt hc0] at hb'
    subst hb'
    rcases hgg with hgg | ⟨⟨k',hk',o,hl,hbg⟩,_⟩
    ·exact .inl hgg
    ·exact .inr ⟨k',by simp[hk'],o,hl,.inl hbg⟩
   ·rw[ZR] at hg'
    simp[ZG,Nat.ne_of_gt hc0] at hg'
    subst hg'
    have hp'' : p<(os++cs).flatten.length:=by rw[hck.length_flatten];exact hp'
    have:=hat p _ (List.getElem?_eq_getElem hp'')
    simp only[Nat.zero_add] at this
    unfold VN at hnb
    rw[this] at hnb
    exact .inr (hblk p _ b (List.getElem?_eq_getElem hp'') hnb)
 by_cases hroom:n+ys.length≤c
 ·rcases hx.at_ with ⟨e1,e2⟩ | ⟨g,cur,e',rfl,hc0,hw,hnc,hcm,hcs,_,hgI,hgF,hat,hown,hgne⟩
  ·subst e1 e2
   have hy0:ys=[]:=List.eq_nil_of_length_eq_zero (by omega)
   have hx0:xs=[]:=List.eq_nil_of_length_eq_zero (by omega)
   subst hy0 hx0
   refine⟨_,_,ZiS ht hi hs (Nat.le_refl 0),?_⟩
   refine h.takes hb (w':=w) (r:=.row ad 0 0 i.size) (Nat.le_refl _) rfl rfl rfl (fun k _=>.inl rfl) ?_ ⟨_,_,_,_,ZR _ _ _,rfl⟩ hd fun b hb'=>?_
   ·exact⟨_,_,_,ZR _ _ _,⟨rfl,.inl ⟨rfl,rfl⟩⟩,trivial⟩
   exact(hb'.nil (by rw[ZR];cases ad<;>simp[ZG])).elim
  ·have hfit:n*i.size+cs.flatten.length≤cur.size:=by rw[hln,hcs,← Nat.add_mul];exact Nat.mul_le_mul_right _ hroom
   refine⟨_,_,Zfm (ty:=ty) ht hi hs hw hroom hfit,?_⟩
   have hheap:=setRow_heap w g cur (cur.toList.take (n*i.size)++cs.flatten++cur.toList.drop (n*i.size+cs.flatten.length)).toArray e' _ hw
   refine fin _ g c _ e' (by rw[size_setRow];exact Nat.le_refl _) rfl rfl rfl (fun k _ hne=>setRow_other w g k _ hne) (.inr ⟨hown,hgne⟩) hgI hgF hheap hc0 hroom hcm ?_ ?_
   ·simp only[List.size_toArray,List.length_append,List.length_take,List.length_drop,Array.length_toList]
    omega
   ·have htake:cur.toList.take (n*i.size)=os.flatten:=by
     refine List.ext_getElem? fun j=>?_
     rw[List.getElem?_take]
     split
     ·rename_i hj
      obtain⟨u',hu'⟩:∃ u',os.flatten[j]?=some u':=⟨_,List.getElem?_eq_getElem (by rw[hlo,← hn];exact hj)⟩
      have:=hat j u' hu'
      rw[cell_of_row w g _ cur e' _ hw] at this
      rw[hu'];simpa using this
     ·rw[List.getElem?_eq_none (by rw[hlo,← hn];omega)]
    refine Xq hheap (ys:=cur.toList.drop (n*i.size+cs.flatten.length)) ?_
    rw[htake];simp
 ·have hat:n=0∨∃ b o,ad=some ⟨b,o,none⟩∧Q4 w b o os.flatten:=by
   rcases hx.at_ with h' | ⟨g,_,_,h',_,_,_,_,_,_,_,_,h2,_⟩
   ·exact .inl h'.1
   ·exact .inr ⟨g,0,h',h2⟩
  have ho:=Vl (P:=P) (w:=w.drew) (c:=c) (by rw[hlo,hn]) (hat.imp id fun ⟨b,o,h1,h2⟩=>⟨b,o,h1,h2.drew⟩)
  have hr:=ZiT (ty:=ty) ht hi hz hs ho (by omega) (by omega) (growslice_fits (by omega) h1)
  refine⟨_,_,hr,?_⟩
  have hge:=grownCap_ge w (n+ys.length) c e
  have hcm:grownCap w (n+ys.length) c e≤maxLen:=grownCap_le_maxLen w (n+ys.length) c e (by simp only[maxLen];omega)
  have hw' : (w.drew.alloc (.cells ((os.flatten++cs.flatten).toArray++Builtin.zeroCells z.cells (grownCap w (n+ys.length) c e-(n+ys.length))) e)).heap[w.heap.size]? =
    some (.cells ((os.flatten++cs.flatten).toArray++Builtin.zeroCells z.cells (grownCap w (n+ys.length) c e-(n+ys.length))) e (0,0)):=heap_alloc_new w.drew _
  refine fin _ w.heap.size _ _ e (by simp) rfl rfl rfl (fun k hk _=>heap_alloc_old w.drew _ k hk) (.inl (Nat.le_refl _)) (fun hi=>absurd (h.bound _ hi) (by omega)) (h.fresh _ (Nat.le_refl _)) hw' (by omega) hge hcm ?_ ?_
  ·simp only[Array.size_append,List.size_toArray,List.length_append,size_zeroCells,hzs,hlo,hln,← hn,← Nat.add_mul]
   congr 1
   omega
  ·refine Xq hw' (ys:=(Builtin.zeroCells z.cells (grownCap w (n+ys.length) c e-(n+ys.length))).toList) ?_
   simp
theorem ZAu (h:Sim nt F A I Γ U sl hp a w) {base:Nat} (hb:Yd U base) {t u ty e:TypeId} {i:TypeInfo} {z:Value} (ht:P.underlying t=some (.slice e)) (hi:P.info? e=some i) (hz:i.zero=some z) (hzs:z.cells.size=i.size) (hpos:0<i.size)
  {dst:Option Nat} (hd:XI nt dst=true) {id sz nm ii jj:Nat} {xs fl ys:List D} (hl:lkp hp id=some (.deep sz i.size xs (some (nm,ii,jj)))) {ad:Option Addr} {n c s' : Nat} (hnm:Γ nm=some (.row ad n c s')) (hfl:Zlv xs ii jj=some fl)
  {cs:List (List Value)} {xv:Value} {ex' : Bool} (hs:Src P w u i.size xv ys.length cs.flatten) (hc:Qc w (inS I A ex') i.size ys cs) (hflat:Q7 ys) (h1:(fl.length+ys.length)*i.bytes≤QI) (h2:fl.length+ys.length≤QI) :
  ∃ v' w',(Builtin.append_ #[t,u] ty #[.slice ad n c,xv]).run P w=.ok v' w'∧JX nt F A I Γ w (Za3 U base) (Zw sl dst (.own base)) (Zg (Zg hp [(id,.row sz xs true false)]) [(base,.row i.size (fl++ys) true true)]) (a.put dst v') w':=by
 simp only[QI] at h1 h2
 obtain⟨adD,nD,cD,hgD,hdD,hlk⟩:=h.objs id _ hl
 obtain⟨g,a',n',c',sz',rfl,hnm',hii,hjj,hcell⟩:=hlk
 rw[hnm] at hnm';cases hnm'
 have hcD:cD≠0:=by
  rcases hdD.2 with h3 | ⟨_,_,_,_,h3,_⟩
  ·have:=hdD.1;omega
  ·omega
 have hbg:ZG (Γ id)=some g:=by rw[hgD];simp[ZG,hcD]
 obtain⟨os,hck,hat,hdis,hgne,hnest⟩:=Zug hdD hcD
 have hlo:=hck.length_flatten
 have hin:∀ (p:Nat) (v:Value) (b:Nat),os.flatten[p]?=some v→VC v=some b→Y9 Γ w id (.deep sz i.size xs (some (nm,ii,jj))) b:=fun p v b hv hb=>⟨g,p,hbg,hnest p v b hv hb⟩
 have hinI:∀ b,Y9 Γ w id (.deep sz i.size xs (some (nm,ii,jj))) b→b<w.heap.size∧¬I b∧F b:=fun b hb=>ZpL (h.objs id _ hl) hb
 have hp0:os.flatten[ii*sz+jj]?=some (.slice ad n c):=by
  have hlt:ii*sz+jj<os.flatten.length:=by
   rw[hlo]
   have:=Nat.mul_le_mul_right sz (show ii+1≤xs.length from hii)
   rw[Nat.add_mul] at this
   omega
  have:=hat _ _ (List.getElem?_eq_getElem hlt)
  simp only[Nat.zero_add] at this
  rw[hcell] at this
  rw[List.getElem?_eq_getElem hlt];exact this.symm
 obtain⟨x,hx,hfl⟩:=Za hfl
 obtain⟨g',vs,hg',hv1,hv2,hv3⟩:=ZdN hdD hx
 cases hg'
 have hxfl:x.cells[jj]?=some (.sl fl):=by
  split at hfl
  ·rename_i ys' hy;cases hfl;exact hy
  ·cases hfl
 obtain⟨v0,hv0,hnc0⟩:=hv3.get jj _ hxfl
 have hv0' : v0=.slice ad n c:=by
  have:=hv2 jj v0 hv0
  rw[hcell] at this;cases this;rfl
 subst hv0'
 obtain⟨a2,c2,e2,hrow,hff⟩:=hnc0
 cases e2
 have fin:∀ (w' : World) (B:Nat→Prop) (ad' : Option Addr) (n' c' : Nat),w.heap.size≤w'.heap.size→w'.os=w.os→w'.tape=w.tape→w'.output=w.output →
   (∀ k,k<w.heap.size→w'.heap[k]?=w.heap[k]?∨Y9 Γ w id (.deep sz i.size xs (some (nm,ii,jj))) k)→(∀ b,B b→w.heap.size≤b∧b<w'.heap.size) →
   (∀ (p:Nat) (v:Value) (y:D),os.flatten[p]?=some v→UC w I F A i.size y v→UC w' I F A i.size y v) →
   ZgI w' (fun b=>I b∨Y9 Γ w id (.deep sz i.size xs (some (nm,ii,jj))) b∨B b) F A ad' n' c' i.size (fl++ys) true true →
   (∀ b,ZG (some (.row ad' n' c' i.size))=some b→Y9 Γ w id (.deep sz i.size xs (some (nm,ii,jj))) b∨B b) →
   JX nt F A I Γ w (Za3 U base) (Zw sl dst (.own base)) (Zg (Zg hp [(id,.row sz xs true false)]) [(base,.row i.size (fl++ys) true true)]) (a.put dst (.slice ad' n' c')) w':=by
  intro w' B ad' n' c' hsz hos htape hout hext hB hconv hro hbb
  have hfix:∀ k,k<w.heap.size→¬Y9 Γ w id (.deep sz i.size xs (some (nm,ii,jj))) k→w'.heap[k]?=w.heap[k]?:=fun k hk hn=>(hext k hk).elim (fun h=>h) fun h=>absurd h hn
  have hg0:g<w.heap.size:=h.blk_lt hl (.inl hbg)
  have hgin:¬Y9 Γ w id (.deep sz i.size xs (some (nm,ii,jj))) g:=by
   rintro ⟨g2,p,hg2,hp2,hn2⟩
   rw[hbg] at hg2;cases hg2
   have hp3:p<os.flatten.length:=by rw[hlo];exact hp2
   have:=hat p _ (List.getElem?_eq_getElem hp3)
   simp only[Nat.zero_add] at this
   unfold VN at hn2
   rw[this] at hn2
   exact hgne p _ (List.getElem?_eq_getElem hp3) hn2
  have hstay:∀ j o b,j≠id→lkp hp j=some o→Blk Γ w j o b→¬Y9 Γ w id (.deep sz i.size xs (some (nm,ii,jj))) b∧b<w.heap.size:=fun j o b hj hlj hbj=>
   ⟨fun hi=>hj (h.inj j id o _ b hlj hl hbj (.inr (.inl hi))),h.blk_lt hlj hbj⟩
  have hkeep:Z3 I (fun b=>I b∨Y9 Γ w id (.deep sz i.size xs (some (nm,ii,jj))) b∨B b) w w':=⟨fun _ h=>.inl h,fun b hb=>hfix b (h.bound b hb) fun hi=>(hinI b hi).2.1 hb⟩
  have hk:XA Γ (upd Γ base (.row ad' n' c' i.size)):=Wq _ (h.names base hb.self)
  have hbid:base≠id:=fun e=>hb.self (e ▸ h.id_in hl)
  refine⟨_,upd Γ base (.row ad' n' c' i.size),fun id b hg=>hk _ _ hg,hkeep,?_,⟨hos,htape,hout,hsz,fun k hk' hnf=>hfix k hk' fun hi=>hnf (hinI k hi).2.2⟩,?_⟩
  ·rintro b (hb' | hb' | hb')
   ·exact .inl hb'
   ·exact .inr (hinI b hb').2.2
   ·exact .inr (h.fresh b (hB b hb').1)
  have mem:∀ k o,lkp (Zg (Zg hp [(id,.row sz xs true false)]) [(base,.row i.size (fl++ys) true true)]) k=some o→(k=base∧o=.row i.size (fl++ys) true true)∨(k=id∧o=.row sz xs true false)∨(k≠base∧k≠id∧lkp hp k=some o):=by
   intro k o hk
   simp only[Zg,Qy] at hk
   split at hk
   ·rename_i e;cases hk;exact .inl ⟨e.symm,rfl⟩
   ·rename_i e
    split at hk
    ·rename_i e';cases hk;exact .inr (.inl ⟨e'.symm,rfl⟩)
    ·rename_i e';exact .inr (.inr ⟨fun h=>e h.symm,fun h=>e' h.symm,hk⟩)
  have old:∀ j o b,j≠base→j≠id→lkp hp j=some o→Blk (upd Γ base (.row ad' n' c' i.size)) w' j o b→Blk Γ w j o b:=fun j o b h3 h4 h5 h6=>
   h6.back (Qv _ _ h3) fun g' hg'=>have:=hstay j o g' h4 h5 (.inl hg');hfix g' this.2 this.1
  refine h.next hk hkeep ?_ ?_ ?_ hsz (fun k hk'=>by rw[Qv _ _ (fun e=>hk' (.inr (by omega)))];exact h.names k (fun hu=>hk' (.inl hu))) ⟨_,_,_,_,ZR _ _ _,rfl⟩ hd
  ·intro k o hk'
   rcases mem k o hk' with ⟨rfl,rfl⟩ | ⟨rfl,rfl⟩ | ⟨h3,h4,h5⟩
   ·exact⟨_,_,_,ZR _ _ _,hro⟩
   ·refine⟨_,nD,cD,by rw[Qv _ _ (fun e=>hbid e.symm)];exact hgD,hdD.1,?_⟩
    rcases hdD.2 with h6 | ⟨g2,cur,e',hg2,q1,q2,q3,q4,q5,q6,q7,q8,_⟩
    ·exact absurd h6.2 hcD
    ·cases hg2
     refine .inr ⟨g,cur,e',rfl,q1,by rw[hfix g hg0 hgin];exact q2,q3,q4,q5,q6,?_,q8,?_⟩
     ·simp only[Bool.false_eq_true,if_false]
      rintro (h6 | h6 | h6)
      ·exact q7 h6
      ·exact hgin h6
      ·have:=(hB g h6).1;omega
     ·simp only[if_true]
      have hck' : Qc w' (fun b=>(I b∨Y9 Γ w k (.deep sz i.size xs (some (nm,ii,jj))) b∨B b)∧A b) sz xs os:=by
       refine Zz.mono' hck fun x vs hvs hx=>⟨hx.1,ZfI (Zz.of_get hx.2.length fun j y v hy hv=>?_)⟩
       obtain⟨v',hv',hn⟩:=hx.2.get j y hy
       rw[hv] at hv';cases hv'
       obtain⟨p,hp⟩:=List.getElem?_of_mem (List.mem_flatten.2 ⟨vs,hvs,List.mem_of_getElem? hv⟩)
       exact Zsg (hconv p v y hp hn) (fun b hb ha=>⟨.inl hb,ha⟩) fun b hb=>⟨.inr (.inl (hin p v b hp hb)),h.own b (hinI b (hin p v b hp hb)).2.2⟩
      refine Xm hck' fun j v hv=>?_
      have:=hat j v hv
      rw[World.cell?_of_block (w:=w) (a:=⟨g,0+j,none⟩) (hfix g hg0 hgin)]
      exact this
   ·refine(h.objs k o h5).mono hk hkeep fun b hbb'=>?_
    have:=hstay k o b h4 h5 hbb'
    refine⟨hfix b this.2 this.1,?_⟩
    rintro (h6 | h6 | h6)
    ·exact h6
    ·exact absurd h6 this.1
    ·have:=(hB b h6).1;omega
  ·have bbase:∀ b,Blk (upd Γ base (.row ad' n' c' i.size)) w' base (.row i.size (fl++ys) true true) b→Y9 Γ w id (.deep sz i.size xs (some (nm,ii,jj))) b∨B b:=fun b hb'=>by
    have:=hb'.row;rw[ZR] at this;exact hbb b this
   have bid:∀ b,Blk (upd Γ base (.row ad' n' c' i.size)) w' id (.row sz xs true false) b→b=g:=fun b hb'=>by
    have:=hb'.row;rw[Qv _ _ (fun e=>hbid e.symm),hbg] at this;cases this;rfl
   have n1:∀ b,(Y9 Γ w id (.deep sz i.size xs (some (nm,ii,jj))) b∨B b)→b=g→False:=by
    rintro b (h6 | h6) rfl
    ·exact hgin h6
    ·have:=(hB b h6).1;omega
   have n2:∀ j o b,j≠id→lkp hp j=some o→Blk Γ w j o b→(Y9 Γ w id (.deep sz i.size xs (some (nm,ii,jj))) b∨B b)→False:=by
    rintro j o b h3 h4 h5 (h6 | h6)
    ·exact(hstay j o b h3 h4 h5).1 h6
    ·have:=(hB b h6).1;have:=(hstay j o b h3 h4 h5).2;omega
   intro k k' o o' b hk1 hk2 hb1 hb2
   rcases mem k o hk1 with ⟨rfl,rfl⟩ | ⟨rfl,rfl⟩ | ⟨h3,h4,h5⟩<;>rcases mem k' o' hk2 with ⟨rfl,rfl⟩ | ⟨rfl,rfl⟩ | ⟨h6,h7,h8⟩
   ·rfl
   ·exact(n1 b (bbase b hb1) (bid b hb2)).elim
   ·exact(n2 k' o' b h7 h8 (old k' o' b h6 h7 h8 hb2) (bbase b hb1)).elim
   ·exact(n1 b (bbase b hb2) (bid b hb1)).elim
   ·rfl
   ·have e:=bid b hb1;subst e
    exact(h.inj k k' _ o' b hl h8 (.inl hbg) (old k' o' b h6 h7 h8 hb2))
   ·exact(n2 k o b h4 h5 (old k o b h3 h4 h5 hb1) (bbase b hb2)).elim
   ·have e:=bid b hb2;subst e
    exact(h.inj k k' o _ b h5 hl (old k o b h3 h4 h5 hb1) (.inl hbg))
   ·exact h.inj k k' o o' b h5 h8 (old k o b h3 h4 h5 hb1) (old k' o' b h6 h7 h8 hb2)
  ·rintro b (hb' | hb' | hb')
   ·have:=h.bound b hb';omega
   ·have:=(hinI b hb').1;omega
   ·exact(hB b hb').2
 have hfys:∀ (S:Nat→Prop) (w' : World),Qc w' S i.size ys cs:=fun S w'=>WF hflat hc
 have hffl:Q7 fl:=by
  have:∀ {l:List D},ZdT D.flat l=true→Q7 l:=by
   intro l
   induction l with
   | nil=>intro _ y hy;simp at hy
   | cons x l ih=>
    intro hl y hy
    simp only[ZdT,Bool.and_eq_true] at hl
    rcases List.mem_cons.1 hy with rfl | hy
    ·exact hl.1
    ·exact ih hl.2 y hy
  exact this hff
 by_cases hroom:fl.length+ys.length≤c
 ·rcases hrow.2 with ⟨e1,e2⟩ | ⟨b0,cur,e',rfl,hc0,hw,hnc,hcm,hcs,_,hb0I,hb0F,hre⟩
  ·have hy0:ys=[]:=List.eq_nil_of_length_eq_zero (by omega)
   have hf0:fl=[]:=List.eq_nil_of_length_eq_zero e1
   subst hy0 hf0 e2
   refine⟨_,_,ZiS ht hi hs (Nat.le_refl 0),?_⟩
   exact fin w (fun _=>False) ad 0 0 (Nat.le_refl _) rfl rfl rfl (fun _ _=>.inl rfl) (fun _ h=>h.elim) (fun _ _ _ _ h=>h) ⟨rfl,.inl ⟨rfl,rfl⟩⟩ (fun b hb'=>by cases ad<;>simp[ZG] at hb')
  ·have hln:=hc.length_flatten
   have hfit:fl.length*i.size+cs.flatten.length≤cur.size:=by rw[hln,hcs,← Nat.add_mul];exact Nat.mul_le_mul_right _ hroom
   refine⟨_,_,Zfm (ty:=ty) ht hi hs hw hroom hfit,?_⟩
   have hheap:=setRow_heap w b0 cur (cur.toList.take (fl.length*i.size)++cs.flatten++cur.toList.drop (fl.length*i.size+cs.flatten.length)).toArray e' _ hw
   have hb0:VC (.slice (some ⟨b0,0,none⟩) fl.length c)=some b0:=by simp[VC,Nat.ne_of_gt hc0]
   have hb0in:=hin _ _ b0 hp0 hb0
   obtain⟨fs,hf1,hf2⟩:=Xn hre
   have hlf:=hf1.length_flatten
   have htake:cur.toList.take (fl.length*i.size)=fs.flatten:=by
    refine List.ext_getElem? fun j=>?_
    rw[List.getElem?_take]
    split
    ·rename_i hj
     obtain⟨u',hu'⟩:∃ u',fs.flatten[j]?=some u':=⟨_,List.getElem?_eq_getElem (by rw[hlf];exact hj)⟩
     have:=hf2 j u' hu'
     rw[cell_of_row w b0 _ cur e' _ hw] at this
     rw[hu'];simpa using this
    ·rw[List.getElem?_eq_none (by rw[hlf];omega)]
   generalize hcur:(cur.toList.take (fl.length*i.size)++cs.flatten++cur.toList.drop (fl.length*i.size+cs.flatten.length)).toArray=cur' at hheap
   have hcur' : cur'.toList=fs.flatten++(cs.flatten++cur.toList.drop (fl.length*i.size+cs.flatten.length)):=by rw[← hcur,htake];simp
   have hsz' : cur'.size=c*i.size:=by
    rw[← hcur,← hcs]
    simp only[List.size_toArray,List.length_append,List.length_take,List.length_drop,Array.length_toList]
    omega
   have hatf:Q4 (w.setRow b0 cur') b0 0 fs.flatten:=Xq hheap hcur'
   have hata:Q4 (w.setRow b0 cur') b0 0 (fs++cs).flatten:=Xq hheap (ys:=cur.toList.drop (fl.length*i.size+cs.flatten.length)) (by rw[hcur'];simp)
   refine fin (w.setRow b0 cur') (fun _=>False) _ _ c (by rw[size_setRow];exact Nat.le_refl _) rfl rfl rfl (fun k _=>?_) (fun _ h=>h.elim) ?_ ?_ ?_
   ·by_cases e:k=b0
    ·subst e;exact .inr hb0in
    ·exact .inl (setRow_other w b0 k _ e)
   ·intro p v y hv hny
    by_cases hpe:p=ii*sz+jj
    ·subst hpe
     rw[hp0] at hv;cases hv
     cases y with
     | sl zs=>
      obtain⟨a3,c3,e3,hro3,hfl3⟩:=hny
      injection e3 with e4 e5 e6
      subst e4 e6
      rw[← e5] at hro3
      refine⟨_,c,by rw[e5],⟨rfl,.inr ⟨b0,cur',e',rfl,hc0,hheap,by rw[← e5];exact hnc,hcm,hsz',hpos,hb0I,hb0F,?_⟩⟩,hfl3⟩
      rcases hro3.2 with h6 | ⟨b3,cur3,e3,hb3,_,hw3,_,_,_,_,_,_,hre3⟩
      ·have:=h6.2;omega
      ·cases hb3
       obtain⟨gs',hg1,hg2⟩:=Xn hre3
       have hzf:Q7 zs:=fun y hy=>by
        have:∀ {l:List D},ZdT D.flat l=true→∀ y∈l,y.flat=true:=by
         intro l
         induction l with
         | nil=>intro _ y hy;simp at hy
         | cons x l ih=>
          intro hl y hy
          simp only[ZdT,Bool.and_eq_true] at hl
          rcases List.mem_cons.1 hy with rfl | hy
          ·exact hl.1
          ·exact ih hl.2 y hy
        exact this hfl3 y hy
       refine Xm (WF hzf hg1) fun j v hv=>?_
       have hjl:j<fs.flatten.length:=by rw[hlf,hro3.1,← hg1.length_flatten];exact(List.getElem?_eq_some_iff.1 hv).1
       have h8:=hg2 j v hv
       have h9:=hf2 j _ (List.getElem?_eq_getElem hjl)
       rw[h8] at h9
       have h10:=hatf j _ (List.getElem?_eq_getElem hjl)
       rw[h10];exact h9.symm
     | int k m=>obtain⟨_,h6⟩:=hny;simp[Z2] at h6
     | bool k=>obtain⟨_,h6⟩:=hny;simp[Z2] at h6
     | str k=>obtain⟨_,h6⟩:=hny;simp[Z2] at h6
     | agg k=>exact absurd hny.1 (by simp[D.plain])
    ·refine hny.mono ⟨fun _ h=>h,fun b hb'=>setRow_other w b0 b _ fun e=>hb0I (by simpa using e ▸ hb')⟩ fun b hb'=>⟨setRow_other w b0 b _ fun e=>hpe (hdis p _ b0 v _ hv hp0 (e ▸ hb') hb0),fun h=>h⟩
   ·refine⟨by simp,.inr ⟨b0,cur',e',rfl,hc0,hheap,hroom,hcm,hsz',hpos,by simp only[if_true];exact .inr (.inl hb0in),hb0F,?_⟩⟩
    exact Xm (Qc.append (WF hffl hf1) (hfys _ _)) hata
   ·intro b hb'
    simp[ZG,Nat.ne_of_gt hc0] at hb'
    subst hb'
    exact .inl hb0in
 ·have hrep:∃ fs,Qc w (inS I A true) i.size fl fs∧(fl.length=0∨∃ b o,ad=some ⟨b,o,none⟩∧Q4 w b o fs.flatten):=by
   rcases hrow.2 with ⟨e1,e2⟩ | ⟨b0,cur,e',rfl,hc0,hw,hnc,hcm,hcs,_,hb0I,hb0F,hre⟩
   ·have hf0:fl=[]:=List.eq_nil_of_length_eq_zero e1
    subst hf0
    exact⟨[],trivial,.inl rfl⟩
   ·obtain⟨fs,hf1,hf2⟩:=Xn hre
    exact⟨fs,hf1,.inr ⟨b0,0,rfl,hf2⟩⟩
  obtain⟨fs,hf1,hf2⟩:=hrep
  have hlf:=hf1.length_flatten
  have hln:=hc.length_flatten
  have ho:=Vl (P:=P) (w:=w.drew) (c:=c) hlf (hf2.imp (fun h=>h) fun ⟨b,o,h1,h2⟩=>⟨b,o,h1,h2.drew⟩)
  have hr:=ZiT (ty:=ty) ht hi hz hs ho (by omega) (by omega) (growslice_fits (by omega) h1)
  refine⟨_,_,hr,?_⟩
  have hge:=grownCap_ge w (fl.length+ys.length) c e
  have hcm:grownCap w (fl.length+ys.length) c e≤maxLen:=grownCap_le_maxLen w (fl.length+ys.length) c e (by simp only[maxLen];omega)
  have hw' : (w.drew.alloc (.cells ((fs.flatten++cs.flatten).toArray++Builtin.zeroCells z.cells (grownCap w (fl.length+ys.length) c e-(fl.length+ys.length))) e)).heap[w.heap.size]? =
    some (.cells ((fs.flatten++cs.flatten).toArray++Builtin.zeroCells z.cells (grownCap w (fl.length+ys.length) c e-(fl.length+ys.length))) e (0,0)):=heap_alloc_new w.drew _
  have hext:∀ k,k<w.heap.size→(w.drew.alloc (.cells ((fs.flatten++cs.flatten).toArray++Builtin.zeroCells z.cells (grownCap w (fl.length+ys.length) c e-(fl.length+ys.length))) e)).heap[k]?=w.heap[k]?:=fun k hk=>heap_alloc_old w.drew _ k hk
  refine fin _ (fun b=>b=w.heap.size) _ _ _ (by simp) rfl rfl rfl (fun k hk=>.inl (hext k hk)) (fun b hb'=>by subst hb';simp) (fun p v y hv hny=>?_) ?_ ?_
  ·exact hny.mono ⟨fun _ h=>h,fun b hb'=>hext b (h.bound b hb')⟩ fun b hb'=>⟨hext b (hinI b (hin p v b hv hb')).1,fun h=>h⟩
  ·refine⟨by simp,.inr ⟨w.heap.size,_,e,rfl,by omega,hw',hge,hcm,?_,hpos,by simp,h.fresh _ (Nat.le_refl _),?_⟩⟩
   ·simp only[Array.size_append,List.size_toArray,List.length_append,size_zeroCells,hzs,hlf,hln,← Nat.add_mul]
    congr 1
    omega
   ·refine Xm (Qc.append (WF hffl hf1) (hfys _ _)) (Xq hw' (ys:=(Builtin.zeroCells z.cells (grownCap w (fl.length+ys.length) c e-(fl.length+ys.length))).toList) ?_)
    simp
  ·intro b hb'
   have:grownCap w (fl.length+ys.length) c e≠0:=by omega
   simp[ZG,this] at hb'
   exact .inr hb'.symm
theorem Zv9 {l:Hp} {t t' : Nat} (h:t≠t'):lkp (del l t) t'=lkp l t':=by rw[ZjI,if_neg h]
theorem Uf:∀ (ds:List Nat) (l:Hp) (id:Nat),id∉ds→lkp (QH l ds) id=lkp l id
 | [],l,id,_=>rfl
 | d :: ds,l,id,h=>by
  simp only[List.mem_cons,not_or] at h
  simp only[QH]
  rw[Uf ds _ id h.2,Zv9 (fun e=>h.1 e.symm)]
def ZAv (Γ:Gh) (w:World) (hp:Hp) (I:Nat→Prop) (ids:List Nat) (b:Nat):Prop:=I b∨∃ id∈ids,∃ o,lkp hp id=some o∧Y9 Γ w id o b
theorem Zan (hp:Hp):∀ (ids:List Nat) (k:Nat),lkp (meltIn hp ids) k=(lkp hp k).map fun o=>if ids.contains k then Zd7 o else o
 | [],k=>by simp[meltIn]
 | i :: r,k=>by
  simp only[meltIn]
  have ih:=Zan hp r k
  by_cases e:i=k
  ·subst e
   cases hl:lkp hp i with
   | none=>simp only[ih,hl];rfl
   | some o=>simp only[Qy,if_true,Option.map_some];simp
  ·have hc:(i :: r).contains k=r.contains k:=by simp;intro h;exact absurd h.symm e
   rw[hc,← ih]
   cases lkp hp i with
   | none=>rfl
   | some o=>simp only[Qy];rw[if_neg e]
theorem Sim.meltIn (h:Sim nt F A I Γ U sl hp a w) (ids:List Nat):Sim nt F A (ZAv Γ w hp I ids) Γ U sl (meltIn hp ids) a w:=by
 have hkeep:Z3 I (ZAv Γ w hp I ids) w w:=⟨fun _ h=>.inl h,fun _ _=>rfl⟩
 have mem:∀ k o,lkp (Go.Abs.meltIn hp ids) k=some o→∃ o0,lkp hp k=some o0∧o=if ids.contains k then Zd7 o0 else o0:=by
  intro k o hk
  rw[Zan] at hk
  cases hl:lkp hp k with
  | none=>rw[hl] at hk;cases hk
  | some o0=>rw[hl] at hk;simp only[Option.map_some,Option.some.injEq] at hk;exact⟨o0,rfl,hk.symm⟩
 have bk:∀ k o0 b,Blk Γ w k (if ids.contains k then Zd7 o0 else o0) b→Blk Γ w k o0 b:=by
  intro k o0 b hb
  split at hb
  ·cases o0 with
   | box cs=>exact hb
   | row sz xs ex fz=>exact hb
   | deep sz ns xs lk=>exact .inl hb.row
  ·exact hb
 refine { nt:=h.nt,dfr:=h.dfr,slots:=fun t=>(h.slots t).mono (XA.refl Γ) hkeep,objs:=?_,inj:=?_,bound:=?_,fresh:=h.fresh,own:=h.own,names:=h.names,glob:=h.glob.mono hkeep }
 ·intro k o hk
  obtain⟨o0,hl,rfl⟩:=mem k o hk
  have ho:=h.objs k o0 hl
  have plain:(∀ b,Y9 Γ w k o0 b→k∉ids)→W1 Γ w (ZAv Γ w hp I ids) F A k o0:=fun hn=>ho.mono (XA.refl Γ) hkeep fun b hb=>⟨rfl,fun hi=>by
   rcases hi with hi | ⟨id,hid,o',hl',hi⟩
   ·exact hi
   ·have:=h.inj k id o0 o' b hl hl' hb (.inr (.inl hi))
    subst this
    rw[hl] at hl';cases hl'
    exact absurd hid (hn b hi)⟩
  split
  ·rename_i hin
   have hin' : k∈ids:=by simpa using hin
   cases o0 with
   | box cs=>exact plain fun b hb=>False.elim hb
   | row sz xs ex fz=>exact plain fun b hb=>False.elim hb
   | deep sz ns xs lk=>
    obtain⟨ad,n,c,h1,hd,_⟩:=ho
    have hd':=hd
    obtain⟨h2,h3⟩:=hd
    refine⟨ad,n,c,h1,h2,?_⟩
    rcases h3 with h3 | ⟨g,cur,e,rfl,hc,hw,h4,h5,h6,hpos,h8,hFg,hel,hdis,hne⟩
    ·exact .inl h3
    ·have hbg:ZG (Γ k)=some g:=by rw[h1];simp[ZG,Nat.ne_of_gt hc]
     refine .inr ⟨g,cur,e,rfl,hc,hw,h4,h5,h6,hpos,?_,hFg,?_⟩
     ·simp only[Bool.false_eq_true,if_false]
      rintro (hi | ⟨id,_,o',hl',hi⟩)
      ·exact h8 hi
      ·have:=h.inj k id _ o' g hl hl' (.inl hbg) (.inr (.inl hi))
       subst this
       rw[hl] at hl';cases hl'
       obtain⟨g2,p,hg2,hp2,hn2⟩:=hi
       rw[hbg] at hg2;cases hg2
       exact hne p (by rw[h2];exact hp2) hn2
     ·simp only[if_true]
      exact ZpM hd' (fun b hb ha=>⟨.inl hb,ha⟩) fun p b hp hn=>
       have hi:Y9 Γ w k (.deep sz ns xs lk) b:=⟨g,p,hbg,hp,hn⟩
       ⟨.inr ⟨k,hin',_,hl,hi⟩,h.own b (Zkf (h.objs k _ hl) (.inr (.inl hi)))⟩
  ·rename_i hin
   exact plain fun _ _ hi=>hin (by simpa using hi)
 ·intro i j o o' b hi hj hbi hbj
  obtain⟨o0,hl,rfl⟩:=mem i o hi
  obtain⟨o1,hl',rfl⟩:=mem j o' hj
  exact h.inj i j o0 o1 b hl hl' (bk i o0 b hbi) (bk j o1 b hbj)
 ·rintro b (hb | ⟨id,_,o,hl,hi⟩)
  ·exact h.bound b hb
  ·exact h.blk_lt hl (.inr (.inl hi))
theorem Zwa (h:Sim nt F A I Γ U sl hp a w) {o:Oper} {t u e:TypeId} {s x:Operand} {s' x' : Opd} {str flat:Bool}
  (ho:o.op=.call { callee:=.builtin .append,args := #[s,x],argTypes := #[t,u] }) (he:VD P t=some e) (hsrc:ZnC P e u=some str) (hok:Zaq P e=true) (hs:Qd s=some s') (hx:Qd x=some x')
  {base:Nat} (hb:Yd U base) (hd:XI nt o.dst=true) {ms:List Nat} (hms:∀ k∈ms,∃ o,lkp hp k=some o) {ef:Eff} (hv:WN hp (P.cellsOf e) (P.bytesOf e) str flat base (evO sl s') (evO sl x') ms=some ef):ZgL P nt F A I Γ U sl hp a w o base { eff:=ef,gone:=[] }:=by
 cases ms with
 | nil=>exact Zsq h ho he hsrc hok hs hx hb hd (flat:=flat) (by simp only[WN] at hv;rw[hv];rfl)
 | cons i r=>
  simp only[WN] at hv
  split at hv
  ·cases hv
  ·obtain⟨e0,h1,hv⟩:=Za hv
   cases hv
   obtain⟨u',w',hg,I',Γ',b1,b2,b3,b4,b5⟩:=Zsq (h.meltIn (i :: r)) ho he hsrc hok hs hx hb hd (flat:=flat) (ce := { eff:=e0,gone:=[] }) (by rw[h1];rfl)
   refine⟨u',w',hg,I',Γ',b1,⟨fun b hb=>b2.sub b (.inl hb),fun b hb=>b2.blk b (.inl hb)⟩,fun b hb=>?_,b4,b5.sub fun k o hk=>?_⟩
   ·rcases b3 b hb with (h6 | ⟨id,_,o,hl,hi⟩) | h6
    ·exact .inl h6
    ·exact .inr (Zkf (h.objs id o hl) (.inr (.inl hi)))
    ·exact .inr h6
   ·have hk' : lkp (Zg (Zg (QH (Qu e0.frz hp) (e0.dels++(i :: r))) e0.sets) e0.adds) k=some o:=hk
    show lkp (Zg (Zg (QH (Qu e0.frz (meltIn hp (i :: r))) e0.dels) e0.sets) e0.adds) k=some o
    have key:∀ (A:Hp) (hp1 hp2:Hp),(∀ o,lkp hp1 k=some o→lkp hp2 k=some o)→∀ o,lkp (Zg hp1 A) k=some o→lkp (Zg hp2 A) k=some o:=by
     intro A
     induction A with
     | nil=>intro _ _ h;exact h
     | cons q r ih=>
      intro hp1 hp2 h
      obtain⟨k',o'⟩:=q
      simp only[Zg]
      refine ih _ _ fun o ho=>?_
      rw[Qy] at ho ⊢
      split
      ·rename_i e;rw[if_pos e] at ho;exact ho
      ·rename_i e;rw[if_neg e] at ho;exact h o ho
    refine key _ _ _ (fun o ho=>key _ _ _ (fun o ho=>?_) o ho) o hk'
    obtain⟨h2,h3⟩:=ZbN _ _ _ _ ho
    simp only[List.mem_append,not_or] at h3
    rw[Uf _ _ k h3.1]
    rw[Qm] at h2 ⊢
    rw[Zan]
    have:(i :: r).contains k=false:=by simpa using h3.2
    rw[this]
    simpa using h2
theorem Zwb (h:Sim nt F A I Γ U sl hp a w) {o:Oper} {t u e:TypeId} {s x:Operand} {s' x' : Opd} {str flat:Bool}
  (ho:o.op=.call { callee:=.builtin .append,args := #[s,x],argTypes := #[t,u] }) (he:VD P t=some e) (hsrc:ZnC P e u=some str) (hok:Zaq P e=true) (hs:Qd s=some s') (hx:Qd x=some x')
  {base:Nat} (hb:Yd U base) (hd:XI nt o.dst=true) {ce:Zc} (hv:Ztb hp (P.cellsOf e) (P.bytesOf e) str flat base (evO sl s') (evO sl x')=some ce):ZgL P nt F A I Γ U sl hp a w o base ce:=by
 obtain⟨i,z,hi,hz,hzs,hpos,hcells,hbytes⟩:=WE hok
 have ht:=Xt he
 have fin:∀ {ef:Eff} {v' : Value} {w' : World},(Builtin.append_ #[t,u] o.type #[a.eval s,a.eval x]).run P w=.ok v' w' →
   JX nt F A I Γ w (Za3 U base) (Zc.on { eff:=ef,gone:=[] } o.dst sl hp).1 (Zc.on { eff:=ef,gone:=[] } o.dst sl hp).2 (a.put o.dst v') w'→ZgL P nt F A I Γ U sl hp a w o base { eff:=ef,gone:=[] }:=by
  intro ef v' w' hr hp'
  refine⟨v',w',.inl ?_,hp'⟩
  simp only[execOp,ho,resolve,invoke,builtin,Sem.run_bind,Sem.run_pure,Result.andThen_ok,List.map_toArray,List.map_cons,List.map_nil,hr]
 unfold Ztb at hv
 unfold ZgB at hv
 split at hv
 ·rename_i id nm hsl
  have hrs:=h.slOK.ev hs
  rw[hsl] at hrs
  obtain⟨_,ad,n,c,s0,hnm,hrs⟩:=hrs
  cases str with
  | true=>simp[Zik,bnd] at hv
  | false=>
   simp only[Bool.false_eq_true,if_false] at hv
   obtain⟨ef,hq1,hq2⟩:=Za hv
   clear hv
   cases hq2
   obtain⟨⟨ys,ex'⟩,h1,hv⟩:=Za hq1
   clear hq1
   split at hv
   ·cases hv
   ·unfold ZkD at hv
    split at hv
    ·rename_i sz ns xs nm' ii jj hl
     obtain⟨fl,h2,hw⟩:=Za hv
     clear hv
     have hv:=hw;clear hw
     split at hv
     ·rename_i hc
      obtain⟨rfl,c2,c3,c4,c5,c6⟩:=hc
      cases hv
      subst c2
      obtain⟨cs,hsr,hch⟩:=ZBd (P:=P) (flat:=true) (str:=false) h.hpOK hsrc (h.slOK.ev hx) (by simpa using h1) c3 fun _=>c4
      dsimp only at hsr hch
      rw[hcells] at hl hsr hch ⊢
      rw[hbytes] at c5
      obtain⟨v',w',h3,h4⟩:=ZAu (ty:=o.type) h hb ht hi hz hzs hpos hd hl hnm h2 hsr hch c4 c5 c6
      exact fin (by rw[hrs];exact h3) (by rw[Yl];exact h4)
     ·cases hv
    ·cases hv
 ·obtain⟨ef,hq1,hq2⟩:=Za hv
  cases hq2
  refine Zwa h ho he hsrc hok hs hx hb hd (fun k hk=>?_) hq1
  have key:∀ z,k∈VE hp z→∃ o,lkp hp k=some o:=by
   intro z hz
   unfold VE at hz
   split at hz
   ·split at hz
    ·rename_i id hdp
     simp at hz;subst hz
     cases hl:lkp hp k with
     | none=>rw[hl] at hdp;cases hdp
     | some o=>exact⟨o,rfl⟩
    ·simp at hz
   ·simp at hz
  rcases List.mem_append.1 hk with hk | hk<;>exact key _ hk
theorem Zwc (h:Sim nt F A I Γ U sl hp a w) {o:Oper} {t u e:TypeId} {s x:Operand} {s' x' : Opd}
  (ho:o.op=.call { callee:=.builtin .append,args := #[s,x],argTypes := #[t,u] }) (he:VD P t=some e) (hsrc:ZnC P e u=some false) (hok:Zaq P e=true) (hs:Qd s=some s') (hx:Qd x=some x')
  {base:Nat} (hb:Yd U base) (hd:XI nt o.dst=true) {ce:Zc} (hv:ZqV hp (P.cellsOf e) (P.bytesOf e) base (evO sl s') (evO sl x')=some ce):ZgL P nt F A I Γ U sl hp a w o base ce:=by
 obtain⟨i,z,hi,hz,hzs,hpos,hcells,hbytes⟩:=WE hok
 have ht:=Xt he
 have fin:∀ {ef:Eff} {v' : Value} {w' : World},(Builtin.append_ #[t,u] o.type #[a.eval s,a.eval x]).run P w=.ok v' w' →
   JX nt F A I Γ w (Za3 U base) (Zc.on { eff:=ef,gone:=[] } o.dst sl hp).1 (Zc.on { eff:=ef,gone:=[] } o.dst sl hp).2 (a.put o.dst v') w'→ZgL P nt F A I Γ U sl hp a w o base { eff:=ef,gone:=[] }:=by
  intro ef v' w' hr hp'
  refine⟨v',w',.inl ?_,hp'⟩
  simp only[execOp,ho,resolve,invoke,builtin,Sem.run_bind,Sem.run_pure,Result.andThen_ok,List.map_toArray,List.map_cons,List.map_nil,hr]
 unfold ZqV Zik at hv
 obtain⟨ef,hq1,hq2⟩:=Za hv
 clear hv
 cases hq2
 obtain⟨q,hq,hv⟩:=Za hq1
 clear hq1
 split at hv
 ·rename_i c1
  have hu:P.underlying u=some (.slice e):=by
   rcases ZpV hsrc with ⟨h2,_⟩ | ⟨_,h2⟩
   ·cases h2
   ·exact h2
  unfold Zfh at hq
  split at hq
  ·rename_i id2 hx2
   obtain⟨q2,h2,hq⟩:=Za hq
   cases hq
   unfold ZkC at h2
   split at h2
   ·rename_i s2 n2 ys lk2 hl2
    cases h2
    dsimp only at c1 hv
    have hrx:=h.slOK.ev hx
    rw[hx2] at hrx
    obtain⟨ad2,m2,k2,s3,hg2,hrx⟩:=hrx
    obtain⟨_,_,_,hg2',_⟩:=h.objs id2 _ hl2
    rw[hg2] at hg2';cases hg2'
    subst c1
    rw[hcells] at hl2 hg2 hv
    rw[hbytes] at hv
    obtain⟨cs,hp2⟩:=ZrH h hl2 hg2
    have hrs:=h.slOK.ev hs
    unfold ZdA at hv
    split at hv
    ·rename_i hsl
     rw[hsl] at hrs
     obtain⟨ad,hrs⟩:=hrs
     split at hv
     ·rename_i hc
      cases hv
      obtain⟨v',w',h3,h4⟩:=appDp (ty:=o.type) h hb ht hi hz hzs hpos hd hu (Zui (ids:=[]) (ad:=ad)) hp2 (fun k hk=>by simp at hk) (by simpa using hc.1) (by simpa using hc.2)
      exact fin (by rw[hrs,hrx];exact h3) (by rw[Yl];exact h4)
     ·cases hv
    ·rename_i id1 hsl
     rw[hsl] at hrs
     obtain⟨ad,n,c,s4,hg1,hrs⟩:=hrs
     obtain⟨q1,h5,hw⟩:=Za hv
     clear hv
     have hv:=hw;clear hw
     split at hv
     ·rename_i hc
      obtain⟨c2,c3,c4,c5,c6⟩:=hc
      cases hv
      unfold ZkC at h5
      split at h5
      ·rename_i s5 n5 xs lk1 hl1
       cases h5
       dsimp only at c2 c3 c5 c6
       obtain⟨_,_,_,hg1',hd1,_⟩:=h.objs id1 _ hl1
       rw[hg1] at hg1';cases hg1'
       subst c2 c3
       obtain⟨os,hp1⟩:=ZrH h hl1 hg1
       obtain⟨v',w',h3,h4⟩:=appDp (ty:=o.type) h hb ht hi hz hzs hpos hd hu hp1 hp2 (fun k hk=>by simp at hk;subst hk;simpa using c4) (by rw[hp1.len];exact c5) (by rw[hp1.len];exact c6)
       exact fin (by rw[hrs,hrx];exact h3) (by rw[Yl];exact h4)
      ·cases h5
     ·cases hv
    ·cases hv
   ·cases h2
  ·cases hq
 ·cases hv
end
end Go.Abs

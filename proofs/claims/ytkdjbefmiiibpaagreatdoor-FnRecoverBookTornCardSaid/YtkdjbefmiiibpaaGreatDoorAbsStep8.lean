/- The abstract semantics and the model: append,all together. Own text. -/
import Derived.Test.YtkdjbefmiiibpaaGreatDoorAbsStep7
set_option linter.unusedVariables false
set_option linter.unusedSimpArgs false
namespace Go.Abs
open Go
section
variable {P:Program} {nt:Nat} {U:Nat→Prop} {F A I:Nat→Prop} {Γ:Gh} {sl:Sl} {hp:Hp} {a:Act} {w:World}
theorem Sim.moves (h:Sim nt F A I Γ U sl hp a w) {base:Nat} (hb:Yd U base) {id:Nat} {dels:List Nat} (hid:id∈dels) {o0 o1:Zo} (hl:lkp hp id=some o0) {g:Nat} (hg:ZG (Γ id)=some g) (hgI:¬I g) (hgF:F g) {cur:Array Value}
  {r:Ref} (hr:ZG (some r)=some g) (ho1:W1 (upd Γ base r) (w.setRow g cur) I F A base o1) {v:AV} {u:Value} {dst:Option Nat} (hrep:Rep (upd Γ base r) (w.setRow g cur) I v u) (hdst:XI nt dst=true)
  (hin:∀ b,Y9 (upd Γ base r) (w.setRow g cur) base o1 b→∃ k∈dels,∃ o,lkp hp k=some o∧Blk Γ w k o b) (hbuf:∀ b,¬Buf (upd Γ base r) (w.setRow g cur) base o1 b:=by exact fun _ h=>h) :
  JX nt F A I Γ w (Za3 U base) (Zw sl dst v) (Zg (QH hp dels) [(base,o1)]) (a.put dst u) (w.setRow g cur):=by
 have hoth:∀ k,k≠g→(w.setRow g cur).heap[k]?=w.heap[k]?:=fun k hk=>setRow_other w g k cur hk
 have hkeep:Z3 I I w (w.setRow g cur):=⟨fun _ h=>h,fun b hb'=>hoth b fun e=>hgI (e ▸ hb')⟩
 have hsz:(w.setRow g cur).heap.size=w.heap.size:=size_setRow w g cur
 have hk:XA Γ (upd Γ base r):=Wq _ (h.names base hb.self)
 refine⟨I,upd Γ base r,fun id b hg=>hk _ _ hg,hkeep,fun _ h=>.inl h,⟨rfl,rfl,rfl,by rw[hsz];exact Nat.le_refl _,fun k _ hkf=>hoth k fun e=>hkf (e ▸ hgF)⟩,?_⟩
 have mem:∀ i o,lkp (Zg (QH hp dels) [(base,o1)]) i=some o→(i=base∧o=o1)∨(i≠base∧i∉dels∧lkp hp i=some o):=by
  intro i o hi
  simp only[Zg,Qy] at hi
  split at hi
  ·rename_i e;cases hi;exact .inl ⟨e.symm,rfl⟩
  ·rename_i e
   obtain⟨h1,h2⟩:=ZbN _ _ _ _ hi
   exact .inr ⟨fun e'=>e e'.symm,h2,h1⟩
 have new:∀ b,Blk (upd Γ base r) (w.setRow g cur) base o1 b→∃ k∈dels,∃ o,lkp hp k=some o∧Blk Γ w k o b:=by
  intro b hb
  rcases hb with hb | hb | hb
  ·rw[ZR,hr] at hb;cases hb
   exact⟨id,hid,o0,hl,.inl hg⟩
  ·exact hin b hb
  ·exact absurd hb (hbuf b)
 have old:∀ i o b,i≠base→i∉dels→lkp hp i=some o→Blk (upd Γ base r) (w.setRow g cur) i o b→Blk Γ w i o b:=fun i o b h1 h2 h3 h4=>
  h4.back (Qv _ _ h1) fun g' hg'=>hoth g' fun e=>h2 (h.inj i id o o0 g h3 hl (.inl (e ▸ hg')) (.inl hg) ▸ hid)
 refine h.next hk hkeep ?_ ?_ (fun b hI=>by rw[hsz];exact h.bound b hI) (by rw[hsz];exact Nat.le_refl _) (fun k hk'=>by rw[Qv _ _ (fun e=>hk' (.inr (by omega)))];exact h.names k (fun hu=>hk' (.inl hu))) hrep hdst
 ·intro i o hi
  rcases mem i o hi with ⟨rfl,rfl⟩ | ⟨hne,hne',hm⟩
  ·exact ho1
  ·exact(h.objs i o hm).mono hk hkeep fun b hbb=>⟨hoth b fun e=>hne' (h.inj i id o o0 g hm hl (e ▸ hbb) (.inl hg) ▸ hid),fun h=>h⟩
 ·intro i j o o' b hi hj hbi hbj
  rcases mem i o hi with ⟨rfl,rfl⟩ | ⟨hi1,hi2,hi3⟩<;>rcases mem j o' hj with ⟨rfl,rfl⟩ | ⟨hj1,hj2,hj3⟩
  ·rfl
  ·obtain⟨k,hkd,ok,hkl,hkb⟩:=new b hbi
   exact absurd (h.inj j k o' ok b hj3 hkl (old j o' b hj1 hj2 hj3 hbj) hkb ▸ hkd) hj2
  ·obtain⟨k,hkd,ok,hkl,hkb⟩:=new b hbj
   exact absurd (h.inj i k o ok b hi3 hkl (old i o b hi1 hi2 hi3 hbi) hkb ▸ hkd) hi2
  ·exact h.inj i j o o' b hi3 hj3 (old i o b hi1 hi2 hi3 hbi) (old j o' b hj1 hj2 hj3 hbj)
theorem Sim.move (h:Sim nt F A I Γ U sl hp a w) {base:Nat} (hb:Yd U base) {id:Nat} {o0:Zo} {s:Nat} {xs:List D} {ex fz:Bool} (hl:lkp hp id=some o0) {g:Nat} (hg:ZG (Γ id)=some g) (hgI:¬I g) (hgF:F g) {cur:Array Value}
  {r:Ref} (hr:ZG (some r)=some g) (ho1:W1 (upd Γ base r) (w.setRow g cur) I F A base (.row s xs ex fz)) {v:AV} {u:Value} {dst:Option Nat} (hrep:Rep (upd Γ base r) (w.setRow g cur) I v u) (hdst:XI nt dst=true) :
  JX nt F A I Γ w (Za3 U base) (Zw sl dst v) (Zg (QH hp [id]) [(base,.row s xs ex fz)]) (a.put dst u) (w.setRow g cur):=
 h.moves hb (by simp) hl hg hgI hgF hr ho1 hrep hdst fun _ h=>False.elim h
theorem Ztu (h:Sim nt F A I Γ U sl hp a w) {base:Nat} (hb:Yd U base) {t u ty e:TypeId} {i:TypeInfo} {z:Value} (ht:P.underlying t=some (.slice e)) (hi:P.info? e=some i) (hz:i.zero=some z) (hzs:z.cells.size=i.size) (hpos:0<i.size)
  {dst:Option Nat} (hd:XI nt dst=true) {ad:Option Addr} {n c:Nat} {xs ys:List D} {ex ex' : Bool} {os cs:List (List Value)} {xv:Value}
  (hs:Src P w u i.size xv ys.length cs.flatten) (hc:Qc w (inS I A ex') i.size ys cs) (hn:n=xs.length) (hoc:Qc w (inS I A ex) i.size xs os) (hat:n=0∨∃ b o,ad=some ⟨b,o,none⟩∧Q4 w b o os.flatten)
  (hnc:n≤c) (hroom:c<n+ys.length) (h1:(n+ys.length)*i.bytes≤QI) (h2:n+ys.length≤QI) :
  ∃ v' w',(Builtin.append_ #[t,u] ty #[.slice ad n c,xv]).run P w=.ok v' w'∧JX nt F A I Γ w (Za3 U base) (Zw sl dst (.own base)) (Zg hp [(base,.row i.size (xs++ys) (ex&&ex') false)]) (a.put dst v') w':=by
 simp only[QI] at h1 h2
 have hlo:=hoc.length_flatten
 have hln:=hc.length_flatten
 have ho:=Vl (P:=P) (w:=w.drew) (c:=c) (by rw[hlo,hn]) (hat.imp id fun ⟨b,o,h1,h2⟩=>⟨b,o,h1,h2.drew⟩)
 have hr:=ZiT (ty:=ty) ht hi hz hs ho hroom (by omega) (growslice_fits (by omega) h1)
 refine⟨_,_,hr,?_⟩
 have hge:=grownCap_ge w (n+ys.length) c e
 have hcm:grownCap w (n+ys.length) c e≤maxLen:=grownCap_le_maxLen w (n+ys.length) c e (by simp only[maxLen];omega)
 have hw' : (w.drew.alloc (.cells ((os.flatten++cs.flatten).toArray++Builtin.zeroCells z.cells (grownCap w (n+ys.length) c e-(n+ys.length))) e)).heap[w.heap.size]? =
   some (.cells ((os.flatten++cs.flatten).toArray++Builtin.zeroCells z.cells (grownCap w (n+ys.length) c e-(n+ys.length))) e (0,0)):=heap_alloc_new w.drew _
 have hext:∀ k,k<w.heap.size→(w.drew.alloc (.cells ((os.flatten++cs.flatten).toArray++Builtin.zeroCells z.cells (grownCap w (n+ys.length) c e-(n+ys.length))) e)).heap[k]?=w.heap[k]?:=fun k hk=>heap_alloc_old w.drew _ k hk
 refine Ztr h hb hd hext (by simp) rfl rfl rfl hw' (by simp[hn]) hge hcm ?_ hpos ?_
 ·simp only[Array.size_append,List.size_toArray,List.length_append,size_zeroCells,hzs,hlo,hln,← hn,← Nat.add_mul]
  congr 1
  omega
 ·have hk:Z3 (inS I A (ex&&ex')) (inS I A (ex&&ex')) w (w.drew.alloc (.cells ((os.flatten++cs.flatten).toArray++Builtin.zeroCells z.cells (grownCap w (n+ys.length) c e-(n+ys.length))) e)):=
   ⟨fun _ h=>h,fun b hbb=>hext b (h.bound b (Ztt b hbb))⟩
  have hch:Qc w (inS I A (ex&&ex')) i.size (xs++ys) (os++cs):=
   (ZbT ZjM hoc).append (ZbT (fun b hb=>by rw[Bool.and_comm];exact ZjM b hb) hc)
  refine Xm (hch.mono hk) (Xq hw' (ys:=(Builtin.zeroCells z.cells (grownCap w (n+ys.length) c e-(n+ys.length))).toList) ?_)
  simp
theorem Zyf (h:Sim nt F A I Γ U sl hp a w) {base:Nat} (hb:Yd U base) {t u ty e:TypeId} {i:TypeInfo} (ht:P.underlying t=some (.slice e)) (hi:P.info? e=some i)
  {dst:Option Nat} (hd:XI nt dst=true) {ad:Option Addr} {ex:Bool} {cs:List (List Value)} {xv:Value} (hs:Src P w u i.size xv 0 cs.flatten) :
  ∃ v' w',(Builtin.append_ #[t,u] ty #[.slice ad 0 0,xv]).run P w=.ok v' w'∧JX nt F A I Γ w (Za3 U base) (Zw sl dst (.own base)) (Zg hp [(base,.row i.size [] ex false)]) (a.put dst v') w':=by
 refine⟨_,_,ZiS ht hi hs (Nat.le_refl 0),?_⟩
 refine h.add (Γ':=upd Γ base (.row ad 0 0 i.size)) (Wq _ (h.names base hb.self)) (fun _ _=>rfl) (Nat.le_refl _) rfl rfl rfl ?_ ?_ ?_ ?_ ?_ ?_ hd
 ·intro k o' hk
  simp at hk
  obtain⟨rfl,rfl⟩:=hk
  exact⟨ad,0,0,ZR _ _ _,rfl,.inl ⟨rfl,rfl⟩⟩
 ·intro i j o1 o2 b hi hj _ _
  simp at hi hj
  omega
 ·intro k o' b hk hbb
  simp at hk
  obtain⟨rfl,rfl⟩:=hk
  exact(hbb.nil (by rw[ZR];cases ad<;>simp[ZG])).elim
 ·intro k hk;exact Qv _ _ (fun e=>hb.self (e ▸ hk))
 ·intro id hid;rw[Qv _ _ (fun e=>hid (.inr (by omega)))];exact h.names id (fun hu=>hid (.inl hu))
 ·exact⟨ad,0,0,_,ZR _ _ _,rfl⟩
theorem Zyg (h:Sim nt F A I Γ U sl hp a w) {base:Nat} (hb:Yd U base) {t u ty e:TypeId} {i:TypeInfo} {z:Value} (ht:P.underlying t=some (.slice e)) (hi:P.info? e=some i) (hz:i.zero=some z) (hzs:z.cells.size=i.size) (hpos:0<i.size)
  {dst:Option Nat} (hd:XI nt dst=true) {id:Nat} {xs ys:List D} {ex ex' : Bool} (hl:lkp hp id=some (.row i.size xs ex false)) {ad:Option Addr} {n m c:Nat} (hg:Γ id=some (.row ad m c i.size)) (hnm:n≤m)
  {cs:List (List Value)} {xv:Value} (hs:Src P w u i.size xv ys.length cs.flatten) (hc:Qc w (inS I A ex') i.size ys cs)
  (h1:(n+ys.length)*i.bytes≤QI) (h2:n+ys.length≤QI) :
  ∃ v' w',(Builtin.append_ #[t,u] ty #[.slice ad n c,xv]).run P w=.ok v' w'∧JX nt F A I Γ w (Za3 U base) (Zw sl dst (.own base)) (Zg (QH hp [id]) [(base,.row i.size (xs.take n++ys) (ex&&ex') false)]) (a.put dst v') w':=by
 obtain⟨ad',m',c',hg',hm,hro⟩:=h.objs id _ hl
 rw[hg] at hg';cases hg'
 have hsub:=h.sub (hp':=QH hp [id]) fun k o hk=>(ZbN _ _ _ _ hk).1
 rcases hro with ⟨hm0,hc0⟩ | ⟨g,cur,e',rfl,hc0,hw,hmc,hcm,hcs,_,hfz,hFg,hrE⟩
 ·subst hm0
  subst hc0
  have hn0:n=0:=by omega
  subst hn0
  simp only[List.take_zero,List.nil_append]
  by_cases hy:ys.length=0
  ·have hy':=List.eq_nil_of_length_eq_zero hy
   subst hy'
   exact Zyf hsub hb ht hi hd hs
  ·have:=Ztu (ty:=ty) (ad:=ad) (n:=0) (c:=0) (xs:=[]) (ex:=ex) (os:=[]) hsub hb ht hi hz hzs hpos hd hs hc rfl UO (.inl rfl) (Nat.le_refl 0) (by omega) h1 h2
   simpa using this
 ·have hrE':=ZlR hrE 0 n
  simp only[List.drop_zero,Nat.zero_mul,Nat.add_zero] at hrE'
  obtain⟨os,ho1,ho2⟩:=Xn hrE'
  have hn:n=(xs.take n).length:=by simp;omega
  by_cases hroom:n+ys.length≤c
  ·have hlo:=ho1.length_flatten
   rw[← hn] at hlo
   have hln:=hc.length_flatten
   have hfit:n*i.size+cs.flatten.length≤cur.size:=by rw[hln,hcs,← Nat.add_mul];exact Nat.mul_le_mul_right _ hroom
   have hr:=Zfm (ty:=ty) ht hi hs hw hroom hfit
   refine⟨_,_,hr,?_⟩
   simp only[Bool.false_eq_true,if_false] at hfz
   have hheap:(w.setRow g (cur.toList.take (n*i.size)++cs.flatten++cur.toList.drop (n*i.size+cs.flatten.length)).toArray).heap[g]?=some (.cells (cur.toList.take (n*i.size)++cs.flatten++cur.toList.drop (n*i.size+cs.flatten.length)).toArray e' (0,0)):=
    setRow_heap w g cur _ e' _ hw
   refine h.move hb hl (by rw[hg];simp[ZG,Nat.ne_of_gt hc0]) hfz hFg (r:=.row (some ⟨g,0,none⟩) (n+ys.length) c i.size) (by simp[ZG,Nat.ne_of_gt hc0]) ?_ ?_ hd
   ·refine⟨_,n+ys.length,c,ZR _ _ _,by rw[List.length_append,← hn],.inr ⟨g,_,e',rfl,hc0,hheap,hroom,hcm,?_,hpos,by simpa using hfz,hFg,?_⟩⟩
    ·simp only[List.size_toArray,List.length_append,List.length_take,List.length_drop,Array.length_toList]
     omega
    ·have hnS:¬inS I A (ex&&ex') g:=fun hi=>hfz (Ztt g hi)
     have hch:Qc w (inS I A (ex&&ex')) i.size (xs.take n++ys) (os++cs):=
      (ZbT ZjM (show Qc w (inS I A ex) i.size (xs.take n) os from ho1)).append (ZbT (fun b hb=>by rw[Bool.and_comm];exact ZjM b hb) hc)
     have htake:cur.toList.take (n*i.size)=os.flatten:=by
      refine List.ext_getElem? fun j=>?_
      rw[List.getElem?_take]
      split
      ·rename_i hj
       obtain⟨u',hu'⟩:∃ u',os.flatten[j]?=some u':=⟨_,List.getElem?_eq_getElem (by omega)⟩
       have:=ho2 j u' hu'
       rw[cell_of_row w g _ cur e' _ hw] at this
       rw[hu'];simpa using this
      ·rw[List.getElem?_eq_none (by omega)]
     refine Xm (hch.mono (ZdF hnS)) (Xq hheap (ys:=cur.toList.drop (n*i.size+cs.flatten.length)) ?_)
     rw[htake];simp
   ·exact⟨_,_,_,_,ZR _ _ _,rfl⟩
  ·exact Ztu (ty:=ty) hsub hb ht hi hz hzs hpos hd hs hc hn ho1 (.inr ⟨g,0,rfl,ho2⟩) (by omega) (by omega) h1 h2
theorem ZBe (h:Sim nt F A I Γ U sl hp a w) {base:Nat} (hb:Yd U base) {t u ty e:TypeId} {i:TypeInfo} (ht:P.underlying t=some (.slice e)) (hi:P.info? e=some i)
  {dst:Option Nat} (hd:XI nt dst=true) {id:Nat} {xs ys:List D} {ex ex' : Bool} (hl:lkp hp id=some (.row i.size xs ex false)) {ad:Option Addr} {n m c:Nat} (hg:Γ id=some (.row ad m c i.size))
  {cs:List (List Value)} {xv:Value} (hs:Src P w u i.size xv ys.length cs.flatten) (hc:Qc w (inS I A ex') i.size ys cs) (h0:0<xs.length) (h1:n+ys.length≤xs.length) :
  ∃ v' w',(Builtin.append_ #[t,u] ty #[.slice ad n c,xv]).run P w=.ok v' w'∧JX nt F A I Γ w (Za3 U base) (Zw sl dst (.ownv base 0 (n+ys.length))) (Zg (QH hp [id]) [(base,.row i.size (xs.take n++ys++xs.drop (n+ys.length)) (ex&&ex') false)]) (a.put dst v') w':=by
 obtain⟨ad',m',c',hg',hm,hro⟩:=h.objs id _ hl
 rw[hg] at hg';cases hg'
 rcases hro with ⟨hm0,hc0⟩ | ⟨g,cur,e',rfl,hc0,hw,hmc,hcm,hcs,hpos,hfz,hFg,hrE⟩
 ·omega
 ·obtain⟨os,ho1,ho2⟩:=Xn hrE
  have hlo:=ho1.length_flatten
  have hln:=hc.length_flatten
  have hroom:n+ys.length≤c:=by omega
  have hfit:n*i.size+cs.flatten.length≤cur.size:=by rw[hln,hcs,← Nat.add_mul];exact Nat.mul_le_mul_right _ hroom
  have hr:=Zfm (ty:=ty) ht hi hs hw hroom hfit
  refine⟨_,_,hr,?_⟩
  simp only[Bool.false_eq_true,if_false] at hfz
  have hheap:(w.setRow g (cur.toList.take (n*i.size)++cs.flatten++cur.toList.drop (n*i.size+cs.flatten.length)).toArray).heap[g]?=some (.cells (cur.toList.take (n*i.size)++cs.flatten++cur.toList.drop (n*i.size+cs.flatten.length)).toArray e' (0,0)):=
   setRow_heap w g cur _ e' _ hw
  refine h.move hb hl (by rw[hg];simp[ZG,Nat.ne_of_gt hc0]) hfz hFg (r:=.row (some ⟨g,0,none⟩) m c i.size) (by simp[ZG,Nat.ne_of_gt hc0]) ?_ ?_ hd
  ·refine⟨_,m,c,ZR _ _ _,by simp only[List.length_append,List.length_take,List.length_drop];omega,.inr ⟨g,_,e',rfl,hc0,hheap,hmc,hcm,?_,hpos,by simpa using hfz,hFg,?_⟩⟩
   ·simp only[List.size_toArray,List.length_append,List.length_take,List.length_drop,Array.length_toList]
    omega
   ·have hnS:¬inS I A (ex&&ex') g:=fun hi=>hfz (Ztt g hi)
    have ho1' : Qc w (inS I A (ex&&ex')) i.size xs os:=ZbT ZjM (show Qc w (inS I A ex) i.size xs os from ho1)
    have hch:Qc w (inS I A (ex&&ex')) i.size (xs.take n++ys++xs.drop (n+ys.length)) (os.take n++cs++os.drop (n+ys.length)):=
     Qc.append (Qc.append (Zz.take n ho1') (ZbT (fun b hb=>by rw[Bool.and_comm];exact ZjM b hb) hc)) (Zz.drop (n+ys.length) ho1')
    have hcur:cur.toList=os.flatten++cur.toList.drop os.flatten.length:=by
     refine List.ext_getElem? fun j=>?_
     rcases Nat.lt_or_ge j os.flatten.length with hj | hj
     ·rw[List.getElem?_append_left hj]
      obtain⟨u',hu'⟩:∃ u',os.flatten[j]?=some u':=⟨_,List.getElem?_eq_getElem hj⟩
      have:=ho2 j u' hu'
      rw[cell_of_row w g _ cur e' _ hw] at this
      rw[hu'];simpa using this
     ·rw[List.getElem?_append_right hj,List.getElem?_drop]
      congr 1;omega
    have hA:=Qc.length_flatten (show Qc w (inS I A ex) i.size (xs.take n) (os.take n) from Zz.take n ho1)
    have hB:=Qc.length_flatten (show Qc w (inS I A ex) i.size (xs.take (n+ys.length)) (os.take (n+ys.length)) from Zz.take (n+ys.length) ho1)
    rw[List.length_take,Nat.min_eq_left (by omega)] at hA hB
    have eA:os.flatten=(os.take n).flatten++(os.drop n).flatten:=by rw[← List.flatten_append,List.take_append_drop]
    have eB:os.flatten=(os.take (n+ys.length)).flatten++(os.drop (n+ys.length)).flatten:=by rw[← List.flatten_append,List.take_append_drop]
    generalize cur.toList.drop os.flatten.length=R at hcur
    refine Xm (hch.mono (ZdF hnS)) (Xq hheap (ys:=R) ?_)
    have t1:cur.toList.take (n*i.size)=(os.take n).flatten:=by
     rw[hcur,eA,List.append_assoc,← hA,List.take_left']
     rfl
    have t2:cur.toList.drop (n*i.size+cs.flatten.length)=(os.drop (n+ys.length)).flatten++R:=by
     rw[hcur,eB,List.append_assoc,hln,← Nat.add_mul,← hB,List.drop_left']
     rfl
    simp only[List.flatten_append]
    rw[t1,t2]
    simp
  ·exact⟨_,_,_,_,_,ZR _ _ _,by omega,by omega,rfl,fun _=>rfl,.inl (by simp[Addr.add])⟩
theorem Zsq (h:Sim nt F A I Γ U sl hp a w) {o:Oper} {t u e:TypeId} {s x:Operand} {s' x' : Opd} {str flat:Bool}
  (ho:o.op=.call { callee:=.builtin .append,args := #[s,x],argTypes := #[t,u] }) (he:VD P t=some e) (hsrc:ZnC P e u=some str) (hok:Zaq P e=true) (hs:Qd s=some s') (hx:Qd x=some x')
  {base:Nat} (hb:Yd U base) (hd:XI nt o.dst=true) {ce:Zc} (hv:Zik (Jd hp (P.cellsOf e) (P.bytesOf e) str flat base (evO sl s') (evO sl x'))=some ce):ZgL P nt F A I Γ U sl hp a w o base ce:=by
 obtain⟨i,z,hi,hz,hzs,hpos,hcells,hbytes⟩:=WE hok
 rw[hcells,hbytes] at hv
 unfold Zik at hv
 obtain⟨ef,h1,hv⟩:=Za hv
 cases hv
 unfold Jd at h1
 obtain⟨⟨ys,ex'⟩,hq,h1⟩:=Za h1
 simp only[] at h1
 split at h1
 ·rename_i hcond
  obtain⟨cs,hsr,hch⟩:=ZBd (P:=P) h.hpOK hsrc (h.slOK.ev hx) hq hcond.1 hcond.2
  dsimp only at hsr hch
  have ht:=Xt he
  have fin:∀ {v' : Value} {w' : World},(Builtin.append_ #[t,u] o.type #[a.eval s,a.eval x]).run P w=.ok v' w' →
    JX nt F A I Γ w (Za3 U base) (Zc.on { eff:=ef,gone:=[] } o.dst sl hp).1 (Zc.on { eff:=ef,gone:=[] } o.dst sl hp).2 (a.put o.dst v') w'→ZgL P nt F A I Γ U sl hp a w o base { eff:=ef,gone:=[] }:=by
   intro v' w' hr hp'
   refine⟨v',w',.inl ?_,hp'⟩
   simp only[execOp,ho,resolve,invoke,builtin,Sem.run_bind,Sem.run_pure,Result.andThen_ok,List.map_toArray,List.map_cons,List.map_nil,hr]
  have hrs:=h.slOK.ev hs
  unfold Ziz at h1
  split at h1
  ·rename_i hsl
   rw[hsl] at hrs
   obtain⟨ad,hrs⟩:=hrs
   split at h1
   ·rename_i hr
    cases h1
    by_cases hy:ys.length=0
    ·have hy':=List.eq_nil_of_length_eq_zero hy
     subst hy'
     obtain⟨v',w',h2,h3⟩:=Zyf (ty:=o.type) (ad:=ad) (ex:=ex') h hb ht hi hd hsr
     exact fin (by rw[hrs];exact h2) h3
    ·obtain⟨v',w',h2,h3⟩:=Ztu (ty:=o.type) (ad:=ad) (n:=0) (c:=0) (xs:=[]) (ex:=true) (os:=[]) h hb ht hi hz hzs hpos hd hsr hch rfl UO (.inl rfl) (Nat.le_refl 0) (by omega) (by simpa using hr.1) (by simpa using hr.2)
     simp only[List.nil_append,Bool.true_and] at h3
     exact fin (by rw[hrs];exact h2) h3
   ·cases h1
  ·rename_i id hsl
   rw[hsl] at hrs
   obtain⟨ad,n,c,sz,hg,hrs⟩:=hrs
   split at h1
   ·cases h1
   ·unfold ZmC at h1
    split at h1
    ·rename_i sz' xs ex hl
     split at h1
     ·rename_i hr
      obtain⟨rfl,hr1,hr2⟩:=hr
      cases h1
      obtain⟨ad',n',c',hg',hn,_⟩:=h.objs id _ hl
      rw[hg] at hg';cases hg'
      obtain⟨v',w',h2,h3⟩:=Zyg (ty:=o.type) h hb ht hi hz hzs hpos hd hl hg (Nat.le_refl n) hsr hch (by rw[hn];exact hr1) (by rw[hn];exact hr2)
      refine fin (by rw[hrs];exact h2) ?_
      rw[List.take_of_length_le (by omega)] at h3
      exact h3
     ·cases h1
    ·cases h1
  ·rename_i id off n hsl
   rw[hsl] at hrs
   obtain⟨a0,m,c,sz,av,hg,hom,hmc,hrs,ha0,ha1⟩:=hrs
   split at h1
   ·cases h1
   ·rename_i hoff
    simp only[Decidable.not_not] at hoff
    subst hoff
    have:=ha0 rfl
    subst this
    split at h1
    ·unfold ZjB at h1
     split at h1
     ·rename_i sz' xs ex hl
      split at h1
      ·rename_i hr
       obtain⟨rfl,hr0,hr1⟩:=hr
       cases h1
       obtain⟨ad',n',c',hg',hn,_⟩:=h.objs id _ hl
       rw[hg] at hg';cases hg'
       obtain⟨v',w',h2,h3⟩:=ZBe (ty:=o.type) (n:=n) h hb ht hi hd hl hg hsr hch hr0 hr1
       exact fin (by rw[hrs];exact h2) h3
      ·cases h1
     ·cases h1
    ·unfold ZjA at h1
     split at h1
     ·rename_i sz' xs ex hl
      split at h1
      ·rename_i hr
       obtain⟨rfl,hr1,hr2⟩:=hr
       cases h1
       obtain⟨ad',n',c',hg',hn,_⟩:=h.objs id _ hl
       rw[hg] at hg';cases hg'
       obtain⟨v',w',h2,h3⟩:=Zyg (ty:=o.type) (n:=n) h hb ht hi hz hzs hpos hd hl hg (by omega) hsr hch hr1 hr2
       exact fin (by rw[hrs];exact h2) h3
      ·cases h1
     ·cases h1
  ·cases h1
 ·cases h1
end
end Go.Abs

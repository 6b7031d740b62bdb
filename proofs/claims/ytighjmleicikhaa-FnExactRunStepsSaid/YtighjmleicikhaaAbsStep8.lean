/- Own text. -/
import Derived.Test.YtighjmleicikhaaAbsStep7
set_option linter.unusedVariables false
set_option linter.unusedSimpArgs false
namespace Go.Abs
open Go
section
variable {P:Program} {nt:Nat} {U:Nat→Prop} {F A I:Nat→Prop} {Γ:Gh} {sl:Sl} {hp:Hp} {a:Act} {w:World}
theorem Sim.moves (h:Sim nt F A I Γ U sl hp a w) {base:Nat} (hb:QD U base) {id:Nat} {dels:List Nat} (ag:id∈dels) {o0 o1:Zh} (hl:lkp hp id=some o0) {g:Nat} (hg:ZaI (Γ id) o0=some g) (az:¬I g) (a0:F g) {cur:Array Value}
  {r:Ref} (hr:Zp (some r)=some g) (a1:Xw (upd Γ base r) (w.setRow g cur) I F A base o1) {v:AV} {u:Value} {dst:Option Nat} (ah:Rep (upd Γ base r) (w.setRow g cur) I v u) (ai:Qr nt dst=true)
  (a2:∀ b,ZaG (upd Γ base r) (w.setRow g cur) base o1 b→∃ k∈dels,∃ o,lkp hp k=some o∧Blk Γ w k o b) (hbuf:∀ b,¬Buf (upd Γ base r) (w.setRow g cur) base o1 b:=by exact fun _ h=>h) :
  YU nt F A I Γ w (V0 U base) (Zi sl dst v) (Zd (ZO hp dels) [(base,o1)]) (a.put dst u) (w.setRow g cur):=by
 have ab:∀ k,k≠g→(w.setRow g cur).heap[k]?=w.heap[k]?:=fun k hk=>setRow_other w g k cur hk;have aa:ZB I I w (w.setRow g cur):=⟨fun _ h=>h,fun b a3=>ab b fun e=>az (e ▸ a3)⟩
 have aj:(w.setRow g cur).heap.size=w.heap.size:=size_setRow w g cur;have hk:ZU Γ (upd Γ base r):=XX _ (h.names base hb.self);refine⟨I,upd Γ base r,hk,aa,fun _ h=>.inl h,⟨rfl,rfl,rfl,by rw[aj];exact Kf _,fun k _ a4=>ab k fun e=>a4 (e ▸ a0)⟩,?_⟩;have ak:∀ i o,lkp (Zd (ZO hp dels) [(base,o1)]) i=some o→(i=base∧o=o1)∨(i≠base∧i∉dels∧lkp hp i=some o):=by
  intro i o hi;simp only[Zd,Z2] at hi;split at hi
  ·rename_i e;cases hi;exact .inl ⟨e.symm,rfl⟩
  ·rename_i e;obtain⟨h1,h2⟩:=Vk _ _ _ _ hi;exact .inr ⟨fun e'=>e e'.symm,h2,h1⟩
 have av:∀ b,Blk (upd Γ base r) (w.setRow g cur) base o1 b→∃ k∈dels,∃ o,lkp hp k=some o∧Blk Γ w k o b:=by
  intro b hb;rcases hb with hb | hb | hb
  ·have h1:=ZbX hb;rw[Zt,hr] at h1;cases h1;exact⟨id,ag,o0,hl,.inl hg⟩
  ·exact a2 b hb
  ·exact absurd hb (hbuf b)
 have ad:∀ i o b,i≠base→i∉dels→lkp hp i=some o→Blk (upd Γ base r) (w.setRow g cur) i o b→Blk Γ w i o b:=fun i o b h1 h2 h3 h4=>
  h4.back (h.objs i o h3) (Qh _ _ h1) fun g' a5=>ab g' fun e=>h2 (h.inj i id o o0 g h3 hl (e ▸ a5) (.inl hg) ▸ ag)
 refine h.next hk aa ?_ ?_ (fun b hI=>by rw[aj];exact h.bound b hI) (by rw[aj];exact Kf _) (fun k aw=>by rw[Qh _ _ (fun e=>aw (.inr (by omega)))];exact h.names k (fun hu=>aw (.inl hu))) ah ai
 ·intro i o hi;rcases ak i o hi with ⟨rfl,rfl⟩ | ⟨a7,al,hm⟩
  ·exact a1
  ·exact(h.objs i o hm).mono hk aa fun b a6=>⟨ab b fun e=>al (h.inj i id o o0 g hm hl (e ▸ a6) (.inl hg) ▸ ag),fun h=>h⟩
 ·intro i j o o' b hi hj am an;rcases ak i o hi with ⟨rfl,rfl⟩ | ⟨ax,ao,ae⟩<;>rcases ak j o' hj with ⟨rfl,rfl⟩ | ⟨ay,ap,af⟩
  ·rfl
  ·obtain⟨k,aq,ok,ar,au⟩:=av b am;exact absurd (h.inj j k o' ok b af ar (ad j o' b ay ap af an) au ▸ aq) ap
  ·obtain⟨k,aq,ok,ar,au⟩:=av b an;exact absurd (h.inj i k o ok b ae ar (ad i o b ax ao ae am) au ▸ aq) ao
  ·exact h.inj i j o o' b ae af (ad i o b ax ao ae am) (ad j o' b ay ap af an)
theorem Sim.move (h:Sim nt F A I Γ U sl hp a w) {base:Nat} (hb:QD U base) {id:Nat} {o0:Zh} {s:Nat} {xs:List D} {ex fz:Bool} (hl:lkp hp id=some o0) {g:Nat} (hg:ZaI (Γ id) o0=some g) (ad:¬I g) (ae:F g) {cur:Array Value}
  {r:Ref} (hr:Zp (some r)=some g) (af:Xw (upd Γ base r) (w.setRow g cur) I F A base (.row s xs ex fz)) {v:AV} {u:Value} {dst:Option Nat} (aa:Rep (upd Γ base r) (w.setRow g cur) I v u) (ab:Qr nt dst=true) :
  YU nt F A I Γ w (V0 U base) (Zi sl dst v) (Zd (ZO hp [id]) [(base,.row s xs ex fz)]) (a.put dst u) (w.setRow g cur):=
 h.moves hb (by simp) hl hg ad ae hr af aa ab fun _ h=>False.elim h
theorem ZkG (h:Sim nt F A I Γ U sl hp a w) {base:Nat} (hb:QD U base) {t u ty e:TypeId} {i:TypeInfo} {z:Value} (ht:P.underlying t=some (.slice e)) (hi:P.info? e=some i) (hz:i.zero=some z) (aj:z.cells.size=i.size) (af:0<i.size)
  {dst:Option Nat} (hd:Qr nt dst=true) {ad:Option Addr} {n c:Nat} {xs ys:List D} {ex aa : Bool} {os cs:List (List Value)} {xv:Value}
  (hs:Src P w u i.size xv ys.length cs.flatten) (hc:ZJ w (inS I A aa) i.size ys cs) (hn:n=xs.length) (ag:ZJ w (inS I A ex) i.size xs os) (ak:n=0∨∃ b o,ad=some ⟨b,o,none⟩∧Qi w b o os.flatten)
  (aq:n≤c) (ab:c<n+ys.length) (h1:(n+ys.length)*i.bytes≤Zv) (h2:n+ys.length≤Zv) :
  ∃ v' w',(Builtin.append_ #[t,u] ty #[.slice ad n c,xv]).run P w=.ok v' w'∧YU nt F A I Γ w (V0 U base) (Zi sl dst (.own base)) (Zd hp [(base,.row i.size (xs++ys) (ex&&aa) false)]) (a.put dst v') w':=by
 simp only[Zv] at h1 h2;have ah:=ag.length_flatten;have al:=hc.length_flatten;have ho:=XG (P:=P) (w:=w.drew) (c:=c) (by rw[ah,hn]) (ak.imp id fun ⟨b,o,h1,h2⟩=>⟨b,o,h1,h2.drew⟩);have hr:=Zfo (ty:=ty) ht hi hz hs ho ab (by omega) (growslice_fits (by omega) h1);refine⟨_,_,hr,?_⟩;have am:=grownCap_ge w (n+ys.length) c e;have an:grownCap w (n+ys.length) c e≤maxLen:=grownCap_le_maxLen w (n+ys.length) c e (by simp only[maxLen];omega);have ai : (w.drew.alloc (.cells ((os.flatten++cs.flatten).toArray++Builtin.zeroCells z.cells (grownCap w (n+ys.length) c e-(n+ys.length))) e)).heap[w.heap.size]? =
   some (.cells ((os.flatten++cs.flatten).toArray++Builtin.zeroCells z.cells (grownCap w (n+ys.length) c e-(n+ys.length))) e (0,0)):=heap_alloc_new w.drew _
 have ae:∀ k,k<w.heap.size→(w.drew.alloc (.cells ((os.flatten++cs.flatten).toArray++Builtin.zeroCells z.cells (grownCap w (n+ys.length) c e-(n+ys.length))) e)).heap[k]?=w.heap[k]?:=fun k hk=>heap_alloc_old w.drew _ k hk;refine ZkD h hb hd ae (by simp) rfl rfl rfl ai (by simp[hn]) am an ?_ af ?_
 ·simp only[Array.size_append,LA,Kn,size_zeroCells,aj,ah,al,← hn,← KC];congr 1
  omega
 ·have hk:ZB (inS I A (ex&&aa)) (inS I A (ex&&aa)) w (w.drew.alloc (.cells ((os.flatten++cs.flatten).toArray++Builtin.zeroCells z.cells (grownCap w (n+ys.length) c e-(n+ys.length))) e)):=
   ⟨fun _ h=>h,fun b ao=>ae b (h.bound b (ZkF b ao))⟩
  have ap:ZJ w (inS I A (ex&&aa)) i.size (xs++ys) (os++cs):=
   (Wp ZbZ ag).append (Wp (fun b hb=>by rw[Bool.and_comm];exact ZbZ b hb) hc)
  refine XF (ap.mono hk) (Q5 ai (ys:=(Builtin.zeroCells z.cells (grownCap w (n+ys.length) c e-(n+ys.length))).toList) ?_);simp
theorem Zog (h:Sim nt F A I Γ U sl hp a w) {base:Nat} (hb:QD U base) {t u ty e:TypeId} {i:TypeInfo} (ht:P.underlying t=some (.slice e)) (hi:P.info? e=some i)
  {dst:Option Nat} (hd:Qr nt dst=true) {ad:Option Addr} {ex:Bool} {cs:List (List Value)} {xv:Value} (hs:Src P w u i.size xv 0 cs.flatten) :
  ∃ v' w',(Builtin.append_ #[t,u] ty #[.slice ad 0 0,xv]).run P w=.ok v' w'∧YU nt F A I Γ w (V0 U base) (Zi sl dst (.own base)) (Zd hp [(base,.row i.size [] ex false)]) (a.put dst v') w':=by
 refine⟨_,_,Zfn ht hi hs (Kf 0),?_⟩;refine h.add (Γ':=upd Γ base (.row ad 0 0 i.size)) (XX _ (h.names base hb.self)) (fun _ _=>rfl) (Kf _) rfl rfl rfl ?_ ?_ ?_ ?_ ?_ ?_ hd
 ·intro k o' hk;simp at hk;obtain⟨rfl,rfl⟩:=hk;exact⟨ad,0,0,Zt _ _ _,rfl,.inl ⟨rfl,rfl⟩⟩
 ·intro i j o1 o2 b hi hj _ _;simp at hi hj;omega
 ·intro k o' b hk ab;simp at hk;obtain⟨rfl,rfl⟩:=hk;exact(ab.nil (by rw[Zt];cases ad<;>simp[Zp])).elim
 ·intro k hk;exact Qh _ _ (fun e=>hb.self (e ▸ hk))
 ·intro id aa;rw[Qh _ _ (fun e=>aa (.inr (by omega)))];exact h.names id (fun hu=>aa (.inl hu))
 ·exact⟨ad,0,0,_,Zt _ _ _,rfl⟩
theorem Zoh (h:Sim nt F A I Γ U sl hp a w) {base:Nat} (hb:QD U base) {t u ty e:TypeId} {i:TypeInfo} {z:Value} (ht:P.underlying t=some (.slice e)) (hi:P.info? e=some i) (hz:i.zero=some z) (an:z.cells.size=i.size) (ae:0<i.size)
  {dst:Option Nat} (hd:Qr nt dst=true) {id:Nat} {xs ys:List D} {ex aj : Bool} (hl:lkp hp id=some (.row i.size xs ex false)) {ad:Option Addr} {n m c:Nat} (hg:Γ id=some (.row ad m c i.size)) (a5:n≤m)
  {cs:List (List Value)} {xv:Value} (hs:Src P w u i.size xv ys.length cs.flatten) (hc:ZJ w (inS I A aj) i.size ys cs)
  (h1:(n+ys.length)*i.bytes≤Zv) (h2:n+ys.length≤Zv) :
  ∃ v' w',(Builtin.append_ #[t,u] ty #[.slice ad n c,xv]).run P w=.ok v' w'∧YU nt F A I Γ w (V0 U base) (Zi sl dst (.own base)) (Zd (ZO hp [id]) [(base,.row i.size (xs.take n++ys) (ex&&aj) false)]) (a.put dst v') w':=by
 obtain⟨a6,m',c',ao,hm,au⟩:=h.objs id _ hl;rw[hg] at ao;cases ao;have af:=h.sub (hp':=ZO hp [id]) fun k o hk=>(Vk _ _ _ _ hk).1;rcases au with ⟨av,ag⟩ | ⟨g,cur,e',rfl,ag,hw,a7,aw,ax,_,ak,ap,ay⟩
 ·subst av;subst ag;have az:n=0:=by omega
  subst az;simp only[List.take_zero,Lv];by_cases hy:ys.length=0
  ·have a0:=Ki hy;subst a0;exact Zog af hb ht hi hd hs
  ·have:=ZkG (ty:=ty) (ad:=ad) (n:=0) (c:=0) (xs:=[]) (ex:=ex) (os:=[]) af hb ht hi hz an ae hd hs hc rfl YB (.inl rfl) (Kf 0) (by omega) h1 h2;simpa using this
 ·have ah:=ZdY ay 0 n;simp only[List.drop_zero,Nat.zero_mul,Ls] at ah;obtain⟨os,al,aq⟩:=Xk ah;have hn:n=(xs.take n).length:=by simp;omega
  by_cases aa:n+ys.length≤c
  ·have a1:=al.length_flatten;rw[← hn] at a1;have a2:=hc.length_flatten;have am:n*i.size+cs.flatten.length≤cur.size:=by rw[a2,ax,← KC];exact Kz _ aa
   have hr:=Zbz (ty:=ty) ht hi hs hw aa am;refine⟨_,_,hr,?_⟩;simp only[Ka,Kg] at ak;have ab:(w.setRow g (cur.toList.take (n*i.size)++cs.flatten++cur.toList.drop (n*i.size+cs.flatten.length)).toArray).heap[g]?=some (.cells (cur.toList.take (n*i.size)++cs.flatten++cur.toList.drop (n*i.size+cs.flatten.length)).toArray e' (0,0)):=
    setRow_heap w g cur _ e' _ hw
   refine h.move hb hl (by rw[hg];simp[Zp,Ks ag]) ak ap (r:=.row (some ⟨g,0,none⟩) (n+ys.length) c i.size) (by simp[Zp,Ks ag]) ?_ ?_ hd
   ·refine⟨_,n+ys.length,c,Zt _ _ _,by rw[Kn,← hn],.inr ⟨g,_,e',rfl,ag,ab,aa,aw,?_,ae,by simpa using ak,ap,?_⟩⟩
    ·simp only[LA,Kn,Le,Lq,K3];omega
    ·have a3:¬inS I A (ex&&aj) g:=fun hi=>ak (ZkF g hi);have a4:ZJ w (inS I A (ex&&aj)) i.size (xs.take n++ys) (os++cs):=
      (Wp ZbZ (show ZJ w (inS I A ex) i.size (xs.take n) os from al)).append (Wp (fun b hb=>by rw[Bool.and_comm];exact ZbZ b hb) hc)
     have ai:cur.toList.take (n*i.size)=os.flatten:=by
      refine KT fun j=>?_;rw[K0];split
      ·rename_i hj;obtain⟨u',ar⟩:∃ u',os.flatten[j]?=some u':=⟨_,Km (by omega)⟩
       have:=aq j u' ar;rw[cell_of_row w g _ cur e' _ hw] at this;rw[ar];simpa using this
      ·rw[KE (by omega)]
     refine XF (a4.mono (Uc a3)) (Q5 ab (ys:=cur.toList.drop (n*i.size+cs.flatten.length)) ?_);rw[ai];simp
   ·exact⟨_,_,_,_,Zt _ _ _,rfl⟩
  ·exact ZkG (ty:=ty) af hb ht hi hz an ae hd hs hc hn al (.inr ⟨g,0,rfl,aq⟩) (by omega) (by omega) h1 h2
theorem ZqK (h:Sim nt F A I Γ U sl hp a w) {base:Nat} (hb:QD U base) {t u ty e:TypeId} {i:TypeInfo} (ht:P.underlying t=some (.slice e)) (hi:P.info? e=some i)
  {dst:Option Nat} (hd:Qr nt dst=true) {id:Nat} {xs ys:List D} {ex af : Bool} (hl:lkp hp id=some (.row i.size xs ex false)) {ad:Option Addr} {n m c:Nat} (hg:Γ id=some (.row ad m c i.size))
  {cs:List (List Value)} {xv:Value} (hs:Src P w u i.size xv ys.length cs.flatten) (hc:ZJ w (inS I A af) i.size ys cs) (h0:0<xs.length) (h1:n+ys.length≤xs.length) :
  ∃ v' w',(Builtin.append_ #[t,u] ty #[.slice ad n c,xv]).run P w=.ok v' w'∧YU nt F A I Γ w (V0 U base) (Zi sl dst (.ownv base 0 (n+ys.length))) (Zd (ZO hp [id]) [(base,.row i.size (xs.take n++ys++xs.drop (n+ys.length)) (ex&&af) false)]) (a.put dst v') w':=by
 obtain⟨a0,m',c',am,hm,aq⟩:=h.objs id _ hl;rw[hg] at am;cases am;rcases aq with ⟨a1,ah⟩ | ⟨g,cur,e',rfl,ah,hw,ar,au,av,ak,ai,an,aw⟩
 ·omega
 ·obtain⟨os,aj,ax⟩:=Xk aw;have a2:=aj.length_flatten;have ao:=hc.length_flatten;have aa:n+ys.length≤c:=by omega
  have al:n*i.size+cs.flatten.length≤cur.size:=by rw[ao,av,← KC];exact Kz _ aa
  have hr:=Zbz (ty:=ty) ht hi hs hw aa al;refine⟨_,_,hr,?_⟩;simp only[Ka,Kg] at ai;have ab:(w.setRow g (cur.toList.take (n*i.size)++cs.flatten++cur.toList.drop (n*i.size+cs.flatten.length)).toArray).heap[g]?=some (.cells (cur.toList.take (n*i.size)++cs.flatten++cur.toList.drop (n*i.size+cs.flatten.length)).toArray e' (0,0)):=
   setRow_heap w g cur _ e' _ hw
  refine h.move hb hl (by rw[hg];simp[Zp,Ks ah]) ai an (r:=.row (some ⟨g,0,none⟩) m c i.size) (by simp[Zp,Ks ah]) ?_ ?_ hd
  ·refine⟨_,m,c,Zt _ _ _,by simp only[Kn,Le,Lq];omega,.inr ⟨g,_,e',rfl,ah,ab,ar,au,?_,ak,by simpa using ai,an,?_⟩⟩
   ·simp only[LA,Kn,Le,Lq,K3];omega
   ·have ay:¬inS I A (ex&&af) g:=fun hi=>ai (ZkF g hi);have ag : ZJ w (inS I A (ex&&af)) i.size xs os:=Wp ZbZ (show ZJ w (inS I A ex) i.size xs os from aj);have az:ZJ w (inS I A (ex&&af)) i.size (xs.take n++ys++xs.drop (n+ys.length)) (os.take n++cs++os.drop (n+ys.length)):=
     ZJ.append (ZJ.append (Zn.take n ag) (Wp (fun b hb=>by rw[Bool.and_comm];exact ZbZ b hb) hc)) (Zn.drop (n+ys.length) ag)
    have ae:cur.toList=os.flatten++cur.toList.drop os.flatten.length:=by
     refine KT fun j=>?_;rcases KK j os.flatten.length with hj | hj
     ·rw[Ky hj];obtain⟨u',ap⟩:∃ u',os.flatten[j]?=some u':=⟨_,Km hj⟩
      have:=ax j u' ap;rw[cell_of_row w g _ cur e' _ hw] at this;rw[ap];simpa using this
     ·rw[Kt hj,KN];congr 1;omega
    have hA:=ZJ.length_flatten (show ZJ w (inS I A ex) i.size (xs.take n) (os.take n) from Zn.take n aj);have hB:=ZJ.length_flatten (show ZJ w (inS I A ex) i.size (xs.take (n+ys.length)) (os.take (n+ys.length)) from Zn.take (n+ys.length) aj);rw[Le,Nat.min_eq_left (by omega)] at hA hB;have eA:os.flatten=(os.take n).flatten++(os.drop n).flatten:=by rw[← Lo,K4]
    have eB:os.flatten=(os.take (n+ys.length)).flatten++(os.drop (n+ys.length)).flatten:=by rw[← Lo,K4]
    generalize cur.toList.drop os.flatten.length=R at ae;refine XF (az.mono (Uc ay)) (Q5 ab (ys:=R) ?_);have t1:cur.toList.take (n*i.size)=(os.take n).flatten:=by
     rw[ae,eA,KM,← hA,List.take_left'];rfl
    have t2:cur.toList.drop (n*i.size+cs.flatten.length)=(os.drop (n+ys.length)).flatten++R:=by
     rw[ae,eB,KM,ao,← KC,← hB,List.drop_left'];rfl
    simp only[Lo];rw[t1,t2];simp
  ·exact⟨_,_,_,_,_,Zt _ _ _,by omega,by omega,rfl,fun _=>rfl,.inl (by simp[Addr.add])⟩
theorem Zjj (h:Sim nt F A I Γ U sl hp a w) {o:Oper} {t u e:TypeId} {s x:Operand} {s' x' : Opd} {str flat:Bool}
  (ho:o.op=.call { callee:=.builtin .append,args := #[s,x],argTypes := #[t,u] }) (he:Xg P t=some e) (ao:Zfd P e u=some str) (aw:YS P e=true) (hs:ZE s=some s') (hx:ZE x=some x')
  {base:Nat} (hb:QD U base) (hd:Qr nt o.dst=true) {ce:Zb} (hv:ZaH (VQ hp (P.cellsOf e) (P.bytesOf e) str flat base (evO sl s') (evO sl x'))=some ce):Jw P nt F A I Γ U sl hp a w o base ce:=by
 obtain⟨i,z,hi,hz,ap,af,ag,ah⟩:=XI aw;rw[ag,ah] at hv;unfold ZaH at hv;obtain⟨ef,h1,hv⟩:=Za hv;cases hv;unfold VQ at h1;obtain⟨⟨ys,ax⟩,hq,h1⟩:=Za h1;simp only[] at h1;split at h1
 ·rename_i ab;obtain⟨cs,ai,aj⟩:=src_ok (P:=P) h.hpOK ao (h.slOK.ev hx) hq ab.1 ab.2;dsimp only at ai aj;have ht:=Qs he;have ak:∀ {v' : Value} {w' : World},(Builtin.append_ #[t,u] o.type #[a.eval s,a.eval x]).run P w=.ok v' w' →
    YU nt F A I Γ w (V0 U base) (Zb.on { eff:=ef,gone:=[] } o.dst sl hp).1 (Zb.on { eff:=ef,gone:=[] } o.dst sl hp).2 (a.put o.dst v') w'→Jw P nt F A I Γ U sl hp a w o base { eff:=ef,gone:=[] }:=by
   intro v' w' hr hp';refine⟨v',w',.inl ?_,hp'⟩;simp only[execOp,ho,resolve,invoke,builtin,Sem.run_bind,Sem.run_pure,Result.andThen_ok,List.map_toArray,Kq,KS,hr]
  have aa:=h.slOK.ev hs;unfold Zcp at h1;split at h1
  ·rename_i al;rw[al] at aa;obtain⟨ad,aa⟩:=aa;split at h1
   ·rename_i hr;cases h1;by_cases hy:ys.length=0
    ·have ay:=Ki hy;subst ay;obtain⟨v',w',h2,h3⟩:=Zog (ty:=o.type) (ad:=ad) (ex:=ax) h hb ht hi hd ai;exact ak (by rw[aa];exact h2) h3
    ·obtain⟨v',w',h2,h3⟩:=ZkG (ty:=o.type) (ad:=ad) (n:=0) (c:=0) (xs:=[]) (ex:=true) (os:=[]) h hb ht hi hz ap af hd ai aj rfl YB (.inl rfl) (Kf 0) (by omega) (by simpa using hr.1) (by simpa using hr.2);simp only[Lv,Lj] at h3;exact ak (by rw[aa];exact h2) h3
   ·cases h1
  ·rename_i id al;rw[al] at aa;obtain⟨ad,n,c,sz,hg,aa⟩:=aa;split at h1
   ·cases h1
   ·unfold Zg6 at h1;split at h1
    ·rename_i ar xs ex hl;split at h1
     ·rename_i hr;obtain⟨rfl,am,aq⟩:=hr;cases h1;obtain⟨au,n',c',ae,hn,_⟩:=h.objs id _ hl;rw[hg] at ae;cases ae;obtain⟨v',w',h2,h3⟩:=Zoh (ty:=o.type) h hb ht hi hz ap af hd hl hg (Kf n) ai aj (by rw[hn];exact am) (by rw[hn];exact aq);refine ak (by rw[aa];exact h2) ?_;rw[List.take_of_length_le (by omega)] at h3;exact h3
     ·cases h1
    ·cases h1
  ·rename_i id off n al;rw[al] at aa;obtain⟨a0,m,c,sz,av,hg,a2,a3,aa,az,a4⟩:=aa;split at h1
   ·cases h1
   ·rename_i an;simp only[Decidable.not_not] at an;subst an;have:=az rfl;subst this;split at h1
    ·unfold ZdA at h1;split at h1
     ·rename_i ar xs ex hl;split at h1
      ·rename_i hr;obtain⟨rfl,a1,am⟩:=hr;cases h1;obtain⟨au,n',c',ae,hn,_⟩:=h.objs id _ hl;rw[hg] at ae;cases ae;obtain⟨v',w',h2,h3⟩:=ZqK (ty:=o.type) (n:=n) h hb ht hi hd hl hg ai aj a1 am;exact ak (by rw[aa];exact h2) h3
      ·cases h1
     ·cases h1
    ·unfold Zdz at h1;split at h1
     ·rename_i ar xs ex hl;split at h1
      ·rename_i hr;obtain⟨rfl,am,aq⟩:=hr;cases h1;obtain⟨au,n',c',ae,hn,_⟩:=h.objs id _ hl;rw[hg] at ae;cases ae;obtain⟨v',w',h2,h3⟩:=Zoh (ty:=o.type) (n:=n) h hb ht hi hz ap af hd hl hg (by omega) ai aj am aq;exact ak (by rw[aa];exact h2) h3
      ·cases h1
     ·cases h1
  ·cases h1
 ·cases h1
end
end Go.Abs

/- Own text. -/
import Derived.Test.YtefabmohhbhlfaaAbsStep7
set_option linter.unusedVariables false
set_option linter.unusedSimpArgs false
namespace Go.Abs
open Go
section
variable {P:Program} {nt:Nat} {U:Nat→Prop} {F A I:Nat→Prop} {Γ:Gh} {sl:Sl} {hp:Hp} {a:Act} {w:World}
theorem Sim.moves (h:Sim nt F A I Γ U sl hp a w) {base:Nat} (hb:Qx U base) {id:Nat} {dels:List Nat} (ag:id∈dels) {o0 o1:Zh} (hl:lkp hp id=some o0) {g:Nat} (hg:Za3 (Γ id) o0=some g) (az:¬I g) (a0:F g) {cur:Array Value}
  {r:Ref} (hr:Zp (some r)=some g) (a1:XF (upd Γ base r) (w.setRow g cur) I F A base o1) {v:AV} {u:Value} {dst:Option Nat} (ah:Rep (upd Γ base r) (w.setRow g cur) I v u) (ai:Qm nt dst=true)
  (a2:∀ b,Za0 (upd Γ base r) (w.setRow g cur) base o1 b→∃ k∈dels,∃ o,lkp hp k=some o∧Blk Γ w k o b) (hbuf:∀ b,¬Buf (upd Γ base r) (w.setRow g cur) base o1 b:=by exact fun _ h=>h) :
  X9 nt F A I Γ w (Wb U base) (Zi sl dst v) (Zd (ZP hp dels) [(base,o1)]) (a.put dst u) (w.setRow g cur):=by
 have ab:∀ k,k≠g→(w.setRow g cur).heap[k]?=w.heap[k]?:=fun k hk=>setRow_other w g k cur hk;have aa:ZB I I w (w.setRow g cur):=⟨fun _ h=>h,fun b a3=>ab b fun e=>az (e ▸ a3)⟩
 have aj:(w.setRow g cur).heap.size=w.heap.size:=size_setRow w g cur;have hk:ZY Γ (upd Γ base r):=Yd _ (h.names base hb.self);refine⟨I,upd Γ base r,hk,aa,fun _ h=>.inl h,⟨rfl,rfl,rfl,by rw[aj];exact Kh _,fun k _ a4=>ab k fun e=>a4 (e ▸ a0)⟩,?_⟩;have ak:∀ i o,lkp (Zd (ZP hp dels) [(base,o1)]) i=some o→(i=base∧o=o1)∨(i≠base∧i∉dels∧lkp hp i=some o):=by
  intro i o hi;simp only[Zd,ZW] at hi;split at hi
  ·rename_i e;cases hi;exact .inl ⟨e.symm,rfl⟩
  ·rename_i e;obtain⟨h1,h2⟩:=YO _ _ _ _ hi;exact .inr ⟨fun e'=>e e'.symm,h2,h1⟩
 have av:∀ b,Blk (upd Γ base r) (w.setRow g cur) base o1 b→∃ k∈dels,∃ o,lkp hp k=some o∧Blk Γ w k o b:=by
  intro b hb;rcases hb with hb | hb | hb
  ·have h1:=Zb6 hb;rw[Zw,hr] at h1;cases h1;exact⟨id,ag,o0,hl,.inl hg⟩
  ·exact a2 b hb
  ·exact absurd hb (hbuf b)
 have ad:∀ i o b,i≠base→i∉dels→lkp hp i=some o→Blk (upd Γ base r) (w.setRow g cur) i o b→Blk Γ w i o b:=fun i o b h1 h2 h3 h4=>
  h4.back (h.objs i o h3) (Qg _ _ h1) fun g' a5=>ab g' fun e=>h2 (h.inj i id o o0 g h3 hl (e ▸ a5) (.inl hg) ▸ ag)
 refine h.next hk aa ?_ ?_ (fun b hI=>by rw[aj];exact h.bound b hI) (by rw[aj];exact Kh _) (fun k aw=>by rw[Qg _ _ (fun e=>aw (.inr (by omega)))];exact h.names k (fun hu=>aw (.inl hu))) ah ai
 ·intro i o hi;rcases ak i o hi with ⟨rfl,rfl⟩ | ⟨a7,al,hm⟩
  ·exact a1
  ·exact(h.objs i o hm).mono hk aa fun b a6=>⟨ab b fun e=>al (h.inj i id o o0 g hm hl (e ▸ a6) (.inl hg) ▸ ag),fun h=>h⟩
 ·intro i j o o' b hi hj am an;rcases ak i o hi with ⟨rfl,rfl⟩ | ⟨ax,ao,ae⟩<;>rcases ak j o' hj with ⟨rfl,rfl⟩ | ⟨ay,ap,af⟩
  ·rfl
  ·obtain⟨k,aq,ok,ar,au⟩:=av b am;exact absurd (h.inj j k o' ok b af ar (ad j o' b ay ap af an) au ▸ aq) ap
  ·obtain⟨k,aq,ok,ar,au⟩:=av b an;exact absurd (h.inj i k o ok b ae ar (ad i o b ax ao ae am) au ▸ aq) ao
  ·exact h.inj i j o o' b ae af (ad i o b ax ao ae am) (ad j o' b ay ap af an)
theorem Sim.move (h:Sim nt F A I Γ U sl hp a w) {base:Nat} (hb:Qx U base) {id:Nat} {o0:Zh} {s:Nat} {xs:List D} {ex fz:Bool} (hl:lkp hp id=some o0) {g:Nat} (hg:Za3 (Γ id) o0=some g) (ad:¬I g) (ae:F g) {cur:Array Value}
  {r:Ref} (hr:Zp (some r)=some g) (af:XF (upd Γ base r) (w.setRow g cur) I F A base (.row s xs ex fz)) {v:AV} {u:Value} {dst:Option Nat} (aa:Rep (upd Γ base r) (w.setRow g cur) I v u) (ab:Qm nt dst=true) :
  X9 nt F A I Γ w (Wb U base) (Zi sl dst v) (Zd (ZP hp [id]) [(base,.row s xs ex fz)]) (a.put dst u) (w.setRow g cur):=
 h.moves hb (by simp) hl hg ad ae hr af aa ab fun _ h=>False.elim h
theorem ZeP {g p q:Nat} {cur:Array Value} {e' : TypeId} (hw:w.heap[g]?=some (.cells cur e' (0,0))) {news os:List Value} (ho:Z7 w g q os) (hp:p=q+os.length) (ab:p+news.length≤cur.size) :
  Z7 (w.setRow g (cur.toList.take p++news++cur.toList.drop (p+news.length)).toArray) g q (os++news):=by
 intro j u hu;have aa:=setRow_heap w g cur (cur.toList.take p++news++cur.toList.drop (p+news.length)).toArray e' _ hw;rw[cell_of_row _ g _ _ _ _ aa];have hl:(cur.toList.take p).length=p:=by simp;omega
 by_cases hj:j<os.length
 ·rw[Kr hj] at hu;have:=ho j u hu;rw[cell_of_row w g _ cur e' _ hw] at this;simp only[L0];rw[Lz,Kr (by omega),KS,Ko (by omega)];simpa using this
 ·rw[Kp (by omega)] at hu;have ad:=(Kc.1 hu).1;simp only[L0];rw[Kr (by rw[Kj];omega),Kp (by omega),hl,← hu];congr 1;omega
theorem ZdP (h:Sim nt F A I Γ U sl hp a w) {base:Nat} (hb:Qx U base) {t u ty e:TypeId} {i:TypeInfo} {z:Value} (ht:P.underlying t=some (.slice e)) (hi:P.info? e=some i) (hz:i.zero=some z) (aj:z.cells.size=i.size) (af:0<i.size)
  {dst:Option Nat} (hd:Qm nt dst=true) {ad:Option Addr} {n c:Nat} {xs ys:List D} {ex aa : Bool} {os cs:List (List Value)} {xv:Value}
  (hs:Src P w u i.size xv ys.length cs.flatten) (hc:ZM w (inS I A aa) i.size ys cs) (hn:n=xs.length) (ag:ZM w (inS I A ex) i.size xs os) (ak:n=0∨∃ b o,ad=some ⟨b,o,none⟩∧Z7 w b o os.flatten)
  (aq:n≤c) (ab:c<n+ys.length) (h1:(n+ys.length)*i.bytes≤Zz) (h2:n+ys.length≤Zz) :
  ∃ v' w',(Builtin.append_ #[t,u] ty #[.slice ad n c,xv]).run P w=.ok v' w'∧X9 nt F A I Γ w (Wb U base) (Zi sl dst (.own base)) (Zd hp [(base,.row i.size (xs++ys) (ex&&aa) false)]) (a.put dst v') w':=by
 simp only[Zz] at h1 h2;have ah:=ag.length_flatten;have al:=hc.length_flatten;have ho:=XM (P:=P) (w:=w.drew) (c:=c) (by rw[ah,hn]) (ak.imp id fun ⟨b,o,h1,h2⟩=>⟨b,o,h1,h2.drew⟩);have hr:=ZfA (ty:=ty) ht hi hz hs ho ab (by omega) (growslice_fits (by omega) h1);refine⟨_,_,hr,?_⟩;have am:=grownCap_ge w (n+ys.length) c e;have an:grownCap w (n+ys.length) c e≤maxLen:=grownCap_le_maxLen w (n+ys.length) c e (by simp only[maxLen];omega);have ai : (w.drew.alloc (.cells ((os.flatten++cs.flatten).toArray++Builtin.zeroCells z.cells (grownCap w (n+ys.length) c e-(n+ys.length))) e)).heap[w.heap.size]? =
   some (.cells ((os.flatten++cs.flatten).toArray++Builtin.zeroCells z.cells (grownCap w (n+ys.length) c e-(n+ys.length))) e (0,0)):=heap_alloc_new w.drew _
 have ae:∀ k,k<w.heap.size→(w.drew.alloc (.cells ((os.flatten++cs.flatten).toArray++Builtin.zeroCells z.cells (grownCap w (n+ys.length) c e-(n+ys.length))) e)).heap[k]?=w.heap[k]?:=fun k hk=>heap_alloc_old w.drew _ k hk;refine Zk1 h hb hd ae (by simp) rfl rfl rfl ai (by simp[hn]) am an ?_ af ?_
 ·simp only[Array.size_append,LP,Kj,size_zeroCells,aj,ah,al,← hn,← KG];congr 1
  omega
 ·have hk:ZB (inS I A (ex&&aa)) (inS I A (ex&&aa)) w (w.drew.alloc (.cells ((os.flatten++cs.flatten).toArray++Builtin.zeroCells z.cells (grownCap w (n+ys.length) c e-(n+ys.length))) e)):=
   ⟨fun _ h=>h,fun b ao=>ae b (h.bound b (Zb8 b ao))⟩
  have ap:ZM w (inS I A (ex&&aa)) i.size (xs++ys) (os++cs):=
   (YP Zb9 ag).append (YP (fun b hb=>by rw[Bool.and_comm];exact Zb9 b hb) hc)
  refine Xe (ap.mono hk) (Ya ai (ys:=(Builtin.zeroCells z.cells (grownCap w (n+ys.length) c e-(n+ys.length))).toList) ?_);simp
theorem Zk3 (h:Sim nt F A I Γ U sl hp a w) {base:Nat} (hb:Qx U base) {t u ty e:TypeId} {i:TypeInfo} (ht:P.underlying t=some (.slice e)) (hi:P.info? e=some i)
  {dst:Option Nat} (hd:Qm nt dst=true) {ad:Option Addr} {ex:Bool} {cs:List (List Value)} {xv:Value} (hs:Src P w u i.size xv 0 cs.flatten) :
  ∃ v' w',(Builtin.append_ #[t,u] ty #[.slice ad 0 0,xv]).run P w=.ok v' w'∧X9 nt F A I Γ w (Wb U base) (Zi sl dst (.own base)) (Zd hp [(base,.row i.size [] ex false)]) (a.put dst v') w':=by
 refine⟨_,_,Zfz ht hi hs (Kh 0),?_⟩;refine h.add (Γ':=upd Γ base (.row ad 0 0 i.size)) (Yd _ (h.names base hb.self)) (fun _ _=>rfl) (Kh _) rfl rfl rfl ?_ ?_ ?_ ?_ ?_ ?_ hd
 ·intro k o' hk;simp at hk;obtain⟨rfl,rfl⟩:=hk;exact⟨ad,0,0,Zw _ _ _,rfl,.inl ⟨rfl,rfl⟩⟩
 ·intro i j o1 o2 b hi hj _ _;simp at hi hj;omega
 ·intro k o' b hk ab;simp at hk;obtain⟨rfl,rfl⟩:=hk;exact(ab.nil (by rw[Zw];cases ad<;>simp[Zp])).elim
 ·intro k hk;exact Qg _ _ (fun e=>hb.self (e ▸ hk))
 ·intro id aa;rw[Qg _ _ (fun e=>aa (.inr (by omega)))];exact h.names id (fun hu=>aa (.inl hu))
 ·exact⟨ad,0,0,_,Zw _ _ _,rfl⟩
theorem ZoO (h:Sim nt F A I Γ U sl hp a w) {base:Nat} (hb:Qx U base) {t u ty e:TypeId} {i:TypeInfo} {z:Value} (ht:P.underlying t=some (.slice e)) (hi:P.info? e=some i) (hz:i.zero=some z) (an:z.cells.size=i.size) (ab:0<i.size)
  {dst:Option Nat} (hd:Qm nt dst=true) {id:Nat} {xs ys:List D} {ex aj : Bool} (hl:lkp hp id=some (.row i.size xs ex false)) {ad:Option Addr} {n m c:Nat} (hg:Γ id=some (.row ad m c i.size)) (a4:n≤m)
  {cs:List (List Value)} {xv:Value} (hs:Src P w u i.size xv ys.length cs.flatten) (hc:ZM w (inS I A aj) i.size ys cs)
  (h1:(n+ys.length)*i.bytes≤Zz) (h2:n+ys.length≤Zz) :
  ∃ v' w',(Builtin.append_ #[t,u] ty #[.slice ad n c,xv]).run P w=.ok v' w'∧X9 nt F A I Γ w (Wb U base) (Zi sl dst (.own base)) (Zd (ZP hp [id]) [(base,.row i.size (xs.take n++ys) (ex&&aj) false)]) (a.put dst v') w':=by
 obtain⟨a5,m',c',ao,hm,au⟩:=h.objs id _ hl;rw[hg] at ao;cases ao;have ae:=h.sub (hp':=ZP hp [id]) fun k o hk=>(YO _ _ _ _ hk).1;rcases au with ⟨av,af⟩ | ⟨g,q0,cur,e',rfl,af,hw,a6,aw,al,_,ak,ap,ax⟩
 ·subst av;subst af;have ay:n=0:=by omega
  subst ay;simp only[Kaf,K4];by_cases hy:ys.length=0
  ·have az:=Km hy;subst az;exact Zk3 ae hb ht hi hd hs
  ·have:=ZdP (ty:=ty) (ad:=ad) (n:=0) (c:=0) (xs:=[]) (ex:=ex) (os:=[]) ae hb ht hi hz an ab hd hs hc rfl X1 (.inl rfl) (Kh 0) (by omega) h1 h2;simpa using this
 ·have ag:=ZbB ax 0 n;simp only[Kag,Nat.zero_mul,LM] at ag;obtain⟨os,am,aq⟩:=QQ ag;have hn:n=(xs.take n).length:=by simp;omega
  obtain⟨al,a0⟩:=al;by_cases aa:n+ys.length≤c
  ·have ar:=am.length_flatten;rw[← hn] at ar;have a1:=hc.length_flatten;have ah:q0+n*i.size+cs.flatten.length≤cur.size:=by rw[a1,al,KI,← KG];exact LR (KC _ aa) _
   have hr:=Jt (ty:=ty) ht hi hs hw aa ah;refine⟨_,_,hr,?_⟩;simp only[Ka,Ki] at ak;have ai:(w.setRow g (cur.toList.take (q0+n*i.size)++cs.flatten++cur.toList.drop (q0+n*i.size+cs.flatten.length)).toArray).heap[g]?=some (.cells (cur.toList.take (q0+n*i.size)++cs.flatten++cur.toList.drop (q0+n*i.size+cs.flatten.length)).toArray e' (0,0)):=
    setRow_heap w g cur _ e' _ hw
   refine h.move hb hl (by rw[hg];simp[Zp,Ku af]) ak ap (r:=.row (some ⟨g,q0,none⟩) (n+ys.length) c i.size) (by simp[Zp,Ku af]) ?_ ?_ hd
   ·refine⟨_,n+ys.length,c,Zw _ _ _,by rw[Kj,← hn],.inr ⟨g,q0,_,e',rfl,af,ai,aa,aw,⟨?_,fun he=>a0 (by simp at he;exact he.1)⟩,ab,by simpa using ak,ap,?_⟩⟩
    ·simp only[LP,Kj,KP,KB,KU];omega
    ·have a2:¬inS I A (ex&&aj) g:=fun hi=>ak (Zb8 g hi);have a3:ZM w (inS I A (ex&&aj)) i.size (xs.take n++ys) (os++cs):=
      (YP Zb9 (show ZM w (inS I A ex) i.size (xs.take n) os from am)).append (YP (fun b hb=>by rw[Bool.and_comm];exact Zb9 b hb) hc)
     refine Xe (a3.mono (Wh a2)) ?_;rw[La];exact ZeP hw aq (by rw[ar]) ah
   ·exact⟨_,_,_,_,Zw _ _ _,rfl⟩
  ·exact ZdP (ty:=ty) ae hb ht hi hz an ab hd hs hc hn am (.inr ⟨g,q0,rfl,aq⟩) (by omega) (by omega) h1 h2
theorem Zq3 (h:Sim nt F A I Γ U sl hp a w) {base:Nat} (hb:Qx U base) {t u ty e:TypeId} {i:TypeInfo} {z:Value} (ht:P.underlying t=some (.slice e)) (hi:P.info? e=some i) (hz:i.zero=some z) (ao:z.cells.size=i.size) (ab:0<i.size)
  {dst:Option Nat} (hd:Qm nt dst=true) {id:Nat} {xs ys:List D} {ex az : Bool} (hl:lkp hp id=some (.row i.size xs ex false)) {ad:Option Addr} {off n m c:Nat} (hg:Γ id=some (.row ad m c i.size)) (a':off+n≤m) (ba:m≤c)
  {av:Option Addr} (a0:av=ad.map (·.add (off*i.size))∨c=off)
  {cs:List (List Value)} {xv:Value} (hs:Src P w u i.size xv ys.length cs.flatten) (hc:ZM w (inS I A az) i.size ys cs)
  (h1:(n+ys.length)*i.bytes≤Zz) (h2:n+ys.length≤Zz) :
  ∃ v' w',(Builtin.append_ #[t,u] ty #[.slice av n (c-off),xv]).run P w=.ok v' w'∧X9 nt F A I Γ w (Wb U base) (Zi sl dst (.own base)) (Zd (ZP hp [id]) [(base,.row i.size ((xs.drop off).take n++ys) false false)]) (a.put dst v') w':=by
 obtain⟨bb,m',c',ap,hm,a1⟩:=h.objs id _ hl;rw[hg] at ap;cases ap;have ae:=h.sub (hp':=ZP hp [id]) fun k o hk=>(YO _ _ _ _ hk).1;by_cases aj : c=off
 ·have a2:n=0:=by omega
  subst a2;have a3:c-off=0:=by omega
  rw[a3];simp only[Kaf,K4];by_cases hy:ys.length=0
  ·have a4:=Km hy;subst a4;exact Zk3 ae hb ht hi hd hs
  ·have:=ZdP (ty:=ty) (ad:=av) (n:=0) (c:=0) (xs:=[]) (ex:=false) (os:=[]) ae hb ht hi hz ao ab hd hs hc rfl X1 (.inl rfl) (Kh 0) (by omega) h1 h2;simpa using this
 ·rcases a1 with ⟨bc,aq⟩ | ⟨g,q0,cur,e',rfl,aq,hw,a5,bd,ak,_,ai,ar,a6⟩
  ·omega
  ·obtain rfl:=a0.resolve_right aj;have al:=ZbB a6 off n;obtain⟨os,au,aw⟩:=QQ al;have hn:n=((xs.drop off).take n).length:=by simp;omega
   have af : ZM w (inS I A false) i.size ((xs.drop off).take n) os:=YP (fun b hb=>Zb8 b hb) (show ZM w (inS I A ex) i.size ((xs.drop off).take n) os from au);have am : (some (⟨g,q0,none⟩:Addr)).map (·.add (off*i.size))=some ⟨g,q0+off*i.size,none⟩:=by simp[YH]
   rw[am];obtain⟨ak,_⟩:=ak;by_cases aa:n+ys.length≤c-off
   ·have ax:=au.length_flatten;rw[← hn] at ax;have a7:=hc.length_flatten;have an : cur.size=q0+off*i.size+(c-off)*i.size:=by rw[ak,KI,← KG];congr 2;omega
    have ag:q0+off*i.size+n*i.size+cs.flatten.length≤cur.size:=by rw[a7,an,KI,← KG];exact LR (KC _ aa) _
    have hr:=Jt (ty:=ty) ht hi hs hw aa ag;refine⟨_,_,hr,?_⟩;simp only[Ka,Ki] at ai;have ah:(w.setRow g (cur.toList.take (q0+off*i.size+n*i.size)++cs.flatten++cur.toList.drop (q0+off*i.size+n*i.size+cs.flatten.length)).toArray).heap[g]?=some (.cells (cur.toList.take (q0+off*i.size+n*i.size)++cs.flatten++cur.toList.drop (q0+off*i.size+n*i.size+cs.flatten.length)).toArray e' (0,0)):=
     setRow_heap w g cur _ e' _ hw
    have ay:0<c-off:=by omega
    refine h.move hb hl (by rw[hg];simp[Zp,Ku aq]) ai ar (r:=.row (some ⟨g,q0+off*i.size,none⟩) (n+ys.length) (c-off) i.size) (by simp[Zp,Ku ay]) ?_ ?_ hd
    ·refine⟨_,n+ys.length,c-off,Zw _ _ _,by rw[Kj,← hn],.inr ⟨g,q0+off*i.size,_,e',rfl,ay,ah,aa,by omega,⟨?_,fun he=>by cases he⟩,ab,by simpa using ai,ar,?_⟩⟩
     ·simp only[LP,Kj,KP,KB,KU];omega
     ·have a8:¬inS I A false g:=fun hi=>ai (Zb8 g hi);have a9:ZM w (inS I A false) i.size ((xs.drop off).take n++ys) (os++cs):=af.append (YP (fun b hb=>Zb8 b hb) hc);refine Xe (a9.mono (Wh a8)) ?_;rw[La];exact ZeP hw aw (by rw[ax]) ag
    ·exact⟨_,_,_,_,Zw _ _ _,rfl⟩
   ·exact ZdP (ty:=ty) (ex:=false) ae hb ht hi hz ao ab hd hs hc hn af (.inr ⟨g,q0+off*i.size,rfl,aw⟩) (by omega) (by omega) h1 h2
theorem Zq4 (h:Sim nt F A I Γ U sl hp a w) {base:Nat} (hb:Qx U base) {t u ty e:TypeId} {i:TypeInfo} (ht:P.underlying t=some (.slice e)) (hi:P.info? e=some i)
  {dst:Option Nat} (hd:Qm nt dst=true) {id:Nat} {xs ys:List D} {ex ae : Bool} (hl:lkp hp id=some (.row i.size xs ex false)) {ad:Option Addr} {n m c:Nat} (hg:Γ id=some (.row ad m c i.size))
  {cs:List (List Value)} {xv:Value} (hs:Src P w u i.size xv ys.length cs.flatten) (hc:ZM w (inS I A ae) i.size ys cs) (h0:0<xs.length) (h1:n+ys.length≤xs.length) :
  ∃ v' w',(Builtin.append_ #[t,u] ty #[.slice ad n c,xv]).run P w=.ok v' w'∧X9 nt F A I Γ w (Wb U base) (Zi sl dst (.ownv base 0 (n+ys.length))) (Zd (ZP hp [id]) [(base,.row i.size (xs.take n++ys++xs.drop (n+ys.length)) (ex&&ae) false)]) (a.put dst v') w':=by
 obtain⟨a0,m',c',an,hm,ar⟩:=h.objs id _ hl;rw[hg] at an;cases an;rcases ar with ⟨a1,ah⟩ | ⟨g,q0,cur,e',rfl,ah,hw,au,av,ak,al,ai,ao,aw⟩
 ·omega
 ·obtain⟨os,aj,ap⟩:=QQ aw;have a2:=aj.length_flatten;have aq:=hc.length_flatten;have aa:n+ys.length≤c:=by omega
  obtain⟨ak,ax⟩:=ak;have af:q0+n*i.size+cs.flatten.length≤cur.size:=by rw[aq,ak,KI,← KG];exact LR (KC _ aa) _
  have hr:=Jt (ty:=ty) ht hi hs hw aa af;refine⟨_,_,hr,?_⟩;simp only[Ka,Ki] at ai;have ab:(w.setRow g (cur.toList.take (q0+n*i.size)++cs.flatten++cur.toList.drop (q0+n*i.size+cs.flatten.length)).toArray).heap[g]?=some (.cells (cur.toList.take (q0+n*i.size)++cs.flatten++cur.toList.drop (q0+n*i.size+cs.flatten.length)).toArray e' (0,0)):=
   setRow_heap w g cur _ e' _ hw
  refine h.move hb hl (by rw[hg];simp[Zp,Ku ah]) ai ao (r:=.row (some ⟨g,q0,none⟩) m c i.size) (by simp[Zp,Ku ah]) ?_ ?_ hd
  ·refine⟨_,m,c,Zw _ _ _,by simp only[Kj,KP,KB];omega,.inr ⟨g,q0,_,e',rfl,ah,ab,au,av,⟨?_,fun he=>ax (by simp at he;exact he.1)⟩,al,by simpa using ai,ao,?_⟩⟩
   ·simp only[LP,Kj,KP,KB,KU];omega
   ·have ay:¬inS I A (ex&&ae) g:=fun hi=>ai (Zb8 g hi);have ag : ZM w (inS I A (ex&&ae)) i.size xs os:=YP Zb9 (show ZM w (inS I A ex) i.size xs os from aj);have az:ZM w (inS I A (ex&&ae)) i.size (xs.take n++ys++xs.drop (n+ys.length)) (os.take n++cs++os.drop (n+ys.length)):=
     ZM.append (ZM.append (Zq.take n ag) (YP (fun b hb=>by rw[Bool.and_comm];exact Zb9 b hb) hc)) (Zq.drop (n+ys.length) ag)
    refine Xe (az.mono (Wh ay)) ?_;have hA:=ZM.length_flatten (show ZM w (inS I A ex) i.size (xs.take n) (os.take n) from Zq.take n aj);have hB:=ZM.length_flatten (show ZM w (inS I A ex) i.size (xs.take (n+ys.length)) (os.take (n+ys.length)) from Zq.take (n+ys.length) aj);rw[KP,LY (by omega)] at hA hB;have eA:os.flatten=(os.take n).flatten++(os.drop n).flatten:=by rw[← La,Ll]
    have eB:os.flatten=(os.take (n+ys.length)).flatten++(os.drop (n+ys.length)).flatten:=by rw[← La,Ll]
    have h1:Z7 w g q0 (os.take n).flatten:=by
     have:=ap;rw[eA] at this;intro j u hu;exact this j u (by rw[Kr (Kc.1 hu).1];exact hu)
    have h2:Z7 w g (q0+n*i.size+cs.flatten.length) (os.drop (n+ys.length)).flatten:=by
     have:=ap;rw[eB] at this;intro j u hu;have:=this ((n+ys.length)*i.size+j) u (by rw[Kp (by omega),← hu];congr 1;omega);rw[← this];congr 2
     rw[aq,KG];omega
    rw[La,La];intro j u hu;have am:=ZeP hw h1 (by rw[hA]) af;rcases KZ j ((os.take n).flatten++cs.flatten).length with hj | hj
    ·rw[Kr hj] at hu;exact am j u hu
    ·rw[Kp hj] at hu;have h3:=h2 _ u hu;rw[cell_of_row w g _ cur e' _ hw] at h3;rw[Kj,hA] at hj h3;rw[cell_of_row _ g _ _ _ _ ab];simp only[L0];have hl:(cur.toList.take (q0+n*i.size)).length=q0+n*i.size:=by simp;omega
     rw[Kp (by rw[Kj,hl];omega),KY,Kj,hl,← h3,← LI];congr 1;omega
  ·exact⟨_,_,_,_,_,Zw _ _ _,by omega,by omega,rfl,fun _=>rfl,.inl (by simp[Addr.add])⟩
theorem Zj3 (h:Sim nt F A I Γ U sl hp a w) {o:Oper} {t u e:TypeId} {s x:Operand} {s' x' : Opd} {str flat:Bool}
  (ho:o.op=.call { callee:=.builtin .append,args := #[s,x],argTypes := #[t,u] }) (he:Q8 P t=some e) (aq:Zfp P e u=some str) (aw:Ve P e=true) (hs:ZJ s=some s') (hx:ZJ x=some x')
  {base:Nat} (hb:Qx U base) (hd:Qm nt o.dst=true) {ce:Zb} (hv:Za2 (V6 hp (P.cellsOf e) (P.bytesOf e) str flat base (evO sl s') (evO sl x'))=some ce):JJ P nt F A I Γ U sl hp a w o base ce:=by
 obtain⟨i,z,hi,hz,ap,ae,ag,ah⟩:=XS aw;rw[ag,ah] at hv;unfold Za2 at hv;obtain⟨ef,h1,hv⟩:=Za hv;cases hv;unfold V6 at h1;obtain⟨⟨ys,ax⟩,hq,h1⟩:=Za h1;simp only[] at h1;split at h1
 ·rename_i af;obtain⟨cs,ai,ak⟩:=src_ok (P:=P) h.hpOK aq (h.slOK.ev hx) hq af.1 af.2;dsimp only at ai ak;have ht:=Qp he;have al:∀ {v' : Value} {w' : World},(Builtin.append_ #[t,u] o.type #[a.eval s,a.eval x]).run P w=.ok v' w' →
    X9 nt F A I Γ w (Wb U base) (Zb.on { eff:=ef,gone:=[] } o.dst sl hp).1 (Zb.on { eff:=ef,gone:=[] } o.dst sl hp).2 (a.put o.dst v') w'→JJ P nt F A I Γ U sl hp a w o base { eff:=ef,gone:=[] }:=by
   intro v' w' hr hp';refine⟨v',w',.inl ?_,hp'⟩;simp only[execOp,ho,resolve,invoke,builtin,Sem.run_bind,Sem.run_pure,Result.andThen_ok,List.map_toArray,Kq,Lv,hr]
  have aa:=h.slOK.ev hs;unfold Zcu at h1;split at h1
  ·rename_i am;rw[am] at aa;obtain⟨ad,aa⟩:=aa;split at h1
   ·rename_i hr;cases h1;by_cases hy:ys.length=0
    ·have ay:=Km hy;subst ay;obtain⟨v',w',h2,h3⟩:=Zk3 (ty:=o.type) (ad:=ad) (ex:=ax) h hb ht hi hd ai;exact al (by rw[aa];exact h2) h3
    ·obtain⟨v',w',h2,h3⟩:=ZdP (ty:=o.type) (ad:=ad) (n:=0) (c:=0) (xs:=[]) (ex:=true) (os:=[]) h hb ht hi hz ap ae hd ai ak rfl X1 (.inl rfl) (Kh 0) (by omega) (by simpa using hr.1) (by simpa using hr.2);simp only[K4,Bool.true_and] at h3;exact al (by rw[aa];exact h2) h3
   ·cases h1
  ·rename_i id am;rw[am] at aa;obtain⟨ad,n,c,sz,hg,aa⟩:=aa;split at h1
   ·cases h1
   ·unfold Zg2 at h1;split at h1
    ·rename_i ar xs ex hl;split at h1
     ·rename_i hr;obtain⟨rfl,aj,an⟩:=hr;cases h1;obtain⟨au,n',c',ab,hn,_⟩:=h.objs id _ hl;rw[hg] at ab;cases ab;obtain⟨v',w',h2,h3⟩:=ZoO (ty:=o.type) h hb ht hi hz ap ae hd hl hg (Kh n) ai ak (by rw[hn];exact aj) (by rw[hn];exact an);refine al (by rw[aa];exact h2) ?_;rw[KQ (by omega)] at h3;exact h3
     ·cases h1
    ·cases h1
  ·rename_i id off n am;rw[am] at aa;obtain⟨a0,m,c,sz,av,hg,az,a1,aa,a2,ha1⟩:=aa;split at h1
   ·split at h1
    ·cases h1
    ·unfold Zdm at h1;split at h1
     ·rename_i ar xs ex hl;split at h1
      ·rename_i hr;obtain⟨rfl,aj,an⟩:=hr;cases h1;obtain⟨au,n',c',ab,hn,_⟩:=h.objs id _ hl;rw[hg] at ab;cases ab;obtain⟨v',w',h2,h3⟩:=Zq3 (ty:=o.type) (n:=n) h hb ht hi hz ap ae hd hl hg az a1 ha1 ai ak aj an;exact al (by rw[aa];exact h2) h3
      ·cases h1
     ·cases h1
   ·rename_i ao;simp only[Decidable.not_not] at ao;subst ao;have:=a2 rfl;subst this;split at h1
    ·unfold Zdl at h1;split at h1
     ·rename_i ar xs ex hl;split at h1
      ·rename_i hr;obtain⟨rfl,a3,aj⟩:=hr;cases h1;obtain⟨au,n',c',ab,hn,_⟩:=h.objs id _ hl;rw[hg] at ab;cases ab;obtain⟨v',w',h2,h3⟩:=Zq4 (ty:=o.type) (n:=n) h hb ht hi hd hl hg ai ak a3 aj;exact al (by rw[aa];exact h2) h3
      ·cases h1
     ·cases h1
    ·unfold Zdk at h1;split at h1
     ·rename_i ar xs ex hl;split at h1
      ·rename_i hr;obtain⟨rfl,aj,an⟩:=hr;cases h1;obtain⟨au,n',c',ab,hn,_⟩:=h.objs id _ hl;rw[hg] at ab;cases ab;obtain⟨v',w',h2,h3⟩:=ZoO (ty:=o.type) (n:=n) h hb ht hi hz ap ae hd hl hg (by omega) ai ak aj an;exact al (by rw[aa];exact h2) h3
      ·cases h1
     ·cases h1
  ·cases h1
 ·cases h1
end
end Go.Abs

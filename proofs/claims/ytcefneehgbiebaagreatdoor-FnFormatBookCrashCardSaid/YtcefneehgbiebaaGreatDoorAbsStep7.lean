/- Own text. -/
import Derived.Test.YtcefneehgbiebaaGreatDoorAbsStep5
set_option linter.unusedVariables false
set_option linter.unusedSimpArgs false
namespace Go.Abs
open Go
section
variable {P:Program} {nt:Nat} {U:Nat→Prop} {F A I:Nat→Prop} {Γ:Gh} {sl:Sl} {hp:Hp} {a:Act} {w:World}
theorem Xp.out {U:Nat→Prop} {base k:Nat} (h:Xp U base) (hk:U k):k<base∨base+64≤k:=by
 rcases KZ k base with h1 | h1
 ·exact .inl h1
 ·rcases KZ k (base+64) with h2 | h2
  ·exact absurd hk (h k h1 h2)
  ·exact .inr h2
theorem ZwS {U:Nat→Prop} {base k:Nat} (h:¬ZaV U base k):(k<base∨base+64≤k)∧¬U k:=by
 refine⟨?_,fun hu=>h (.inl hu)⟩;rcases KZ k base with h1 | h1
 ·exact .inl h1
 ·rcases KZ k (base+64) with h2 | h2
  ·exact absurd (.inr ⟨h1,h2⟩) h
  ·exact .inr h2
theorem ZcV {g:Nat} {cur:Array Value} {S:Nat→Prop} (h:¬S g):ZU S S w (w.setRow g cur):=
 ⟨fun _ h=>h,fun b hb=>setRow_other w g b cur fun e=>h (e ▸ hb)⟩
theorem post_eq {U' : Nat→Prop} {sl' : Sl} {hp' aa : Hp} {a' : Act} {w' : World} (h:Jt nt F A I Γ w U' sl' hp' a' w') (e:hp'=aa):Jt nt F A I Γ w U' sl' aa a' w':=e ▸ h
theorem ZlX:∀ {xs:List AV} {ds:List D},Zwv xs=some ds→xs=ds.map AV.d∧∀ d∈ds,d.plain=true
 | [],ds,h=>by simp only[Zwv] at h;cases h;exact⟨rfl,by simp⟩
 | x :: xs,ds,h=>by
  simp only[Zwv] at h;obtain⟨d,h1,h⟩:=Za h;obtain⟨aa,h2,h⟩:=Za h;cases h;obtain⟨h3,h4⟩:=ZlX h2;unfold ZuR at h1;split at h1
  ·split at h1
   ·cases h1;rename_i hp';refine⟨by rw[h3];rfl,fun d' hd=>?_⟩;rcases Ke.1 hd with rfl | hd
    ·exact hp'
    ·exact h4 d' hd
   ·cases h1
  ·cases h1
theorem Znl:∀ ds:List D,Yy (ds.map AV.d)=true
 | []=>rfl
 | d :: ds=>by simp only[Kk,Yy,Znl ds,LV];rfl
theorem ZDN {xs:List AV} {ds:List D} (h:Zwv xs=some ds):Yy xs=true:=by
 rw[(ZlX h).1];exact Znl ds
theorem datL_rep {w' : World} {S:Nat→Prop} {xs:List AV} {ds:List D} {vs:List Value} (h:Zwv xs=some ds) (hr:Zu (XZ Γ w I) xs vs):Xy w' S ds vs:=by
 obtain⟨h1,h2⟩:=ZlX h;subst h1;clear h
 induction ds generalizing vs with
 | nil=>cases vs with
  | nil=>simp[Xy]
  | cons _ _=>exact hr.elim
 | cons d ds ih=>cases vs with
  | nil=>exact hr.elim
  | cons v vs=>
   refine⟨v,vs,rfl,hr.1.1,Zj2 (h2 d (by simp)) hr.1.2,ih (fun d' hd=>h2 d' (KB _ hd)) hr.2⟩
theorem Zjx:∀ {xs:List AV} {q:List D×Bool×List Nat},WP hp xs=some q→Yy xs=true
 | [],q,h=>rfl
 | x :: xs,q,h=>by
  simp only[WP] at h;obtain⟨q1,h1,h⟩:=Za h;obtain⟨q2,h2,h⟩:=Za h;simp only[Yy,Zjx h2,LV];cases x<;>first | rfl | cases h1
theorem Zua:∀ {xs:List AV} {q:List D×Bool×List Nat},WP hp xs=some q→q.1.length=xs.length
 | [],q,h=>by simp only[WP] at h;cases h;rfl
 | x :: xs,q,h=>by
  simp only[WP] at h;obtain⟨q1,h1,h⟩:=Za h;obtain⟨q2,h2,h⟩:=Za h;split at h
  ·cases h;simp[Zua h2]
  ·cases h
theorem Zub:∀ {xs:List AV} {vs:List Value} {q:List D×Bool×List Nat},WP hp xs=some q→Zu (XZ Γ w I) xs vs→Zu (VI Γ w I) xs vs
 | [],[],q,h,hr=>trivial
 | [],_ :: _,q,h,hr=>hr.elim
 | _ :: _,[],q,h,hr=>hr.elim
 | x :: xs,v :: vs,q,h,hr=>by
  simp only[WP] at h;obtain⟨q1,h1,h⟩:=Za h;obtain⟨q2,h2,h⟩:=Za h;refine⟨?_,Zub h2 hr.2⟩;cases x<;>first | exact hr.1 | cases h1
theorem ZBL (h:Sim nt F A I Γ U sl hp a w) {o:Oper} {t:TypeId} {x y:Operand} {x' y' : Opd} (ho:o.op=.store t x y) (hi:(P.info? t).isSome=true) (hx:Z6 x=some x') (hy:Z6 y=some y') {slc:List (Option Nat)}
  {base:Nat} (hb:Xp U base) (hd:Xb nt o.dst=true) {ce:Zd} (bg:Q0 base (base+64) ce.eff.adds=true)
  (hv:ZhZ (Zbm hp slc (P.cellsOf t) base (evO sl y').cells (evO sl x'))=some ce):ZfZ P nt F A I Γ U sl hp a w o base ce:=by
 obtain⟨i,hi⟩:=K7.1 hi;unfold ZhZ at hv;obtain⟨ef,h1,hv⟩:=Za hv;cases hv;have a9:=h.slOK.ev hx;have a':=h.slOK.ev hy;have ah:∀ (b off:Nat) (cur:Array Value) (e:TypeId),a.eval x=.pointer (some ⟨b,off,none⟩)→w.heap[b]?=some (.cells cur e (0,0))→(a.eval y).cells.size=P.cellsOf t→off+(a.eval y).cells.size≤cur.size →
   (∀ u∈(a.eval y).cells.toList,u.oneCell'=true)→ZrM P o a w undef (w.setRow b (Qf cur.toList off (a.eval y).cells.toList).toArray):=by
  intro b off cur e e1 e2 e3 e4 e5;refine .inr ⟨?_,rfl⟩;simp only[execOp,ho,e1,Instr.storeAt,Instr.sureAddr,Sem.run_bind,Sem.run_pure,Result.andThen_ok,Zvc hi e3 e2 e4 e5]
 unfold Zbm at h1;split at h1
 ·
  rename_i id off az;rw[az] at a9;obtain⟨⟨b,e⟩,ag,a0⟩:=a9;unfold ZfK at h1;split at h1
  ·rename_i cs hl;obtain⟨b',cur,e',an,hw,hI,hF,hc,_⟩:=h.objs id _ hl;rw[ag] at an;cases an;split at h1
   ·rename_i ab;obtain⟨c1,c2,c3,c4⟩:=ab;have aw:=Rep.cells (Zph c3) a';have aj:(a.eval y).cells.size=P.cellsOf t:=by rw[← c1,aw.length];simp
    have bt:cs.length=cur.size:=by rw[hc.length];simp
    have hg:=ah b off cur e a0 hw aj (by omega) (ZlV c3 aw);have ax:ZU I I w (w.setRow b (Qf cur.toList off (a.eval y).cells.toList).toArray):=ZcV hI;have aa:(w.setRow b (Qf cur.toList off (a.eval y).cells.toList).toArray).heap[b]?=some (.cells (Qf cur.toList off (a.eval y).cells.toList).toArray e (0,0)):=setRow_heap w b cur _ e _ hw;split at h1
    ·cases h1;obtain⟨Γ',g1,g2,g3,g5⟩:=ZBJ (w.setRow b (Qf cur.toList off (a.eval y).cells.toList).toArray) I F A (base+64) slc (evO sl y').cells (a.eval y).cells.toList base Γ bg (fun k hk a1=>h.names k (hb k hk a1)) (aw.mono fun _ _ h=>h.mono (Xa.refl Γ) ax);refine⟨_,_,hg,?_⟩;rw[XA];refine h.turn hb hl (by rw[ag];rfl) hI hF g1 (fun k hk=>g2 k (hb.out hk)) g3 (fun k hk=>by rw[g2 k (ZwS hk).1];exact h.names k (ZwS hk).2) ?_ trivial hd (hbuf:=fun b hb=>(ZwP (ZcU c4 (by rw[Zj1];exact Zb3 c3)) hb).elim);exact⟨b,_,e,g1 _ _ ag,aa,hI,hF,by simpa using ZlW (hc.mono fun _ _ h=>h.mono g1 ax) g5 off,Zbs (ZcU c4 (by rw[Zj1];exact Zb3 c3))⟩
    ·cases h1;refine⟨_,_,hg,?_⟩;rw[XA];refine h.turn hb hl (by rw[ag];rfl) hI hF (adds:=[]) (Xa.refl Γ) (fun _ _=>rfl) (fun k o hk=>by simp at hk) (fun k hk=>h.names k (fun hu=>hk (.inl hu))) ?_ trivial hd (hbuf:=fun b hb=>(ZwP (ZcU c4 (Zb3 c3)) hb).elim);exact⟨b,_,e,ag,aa,hI,hF,by simpa using ZlW (hc.mono fun _ _ h=>h.mono (Xa.refl Γ) ax) (aw.mono fun _ _ h=>h.mono (Xa.refl Γ) ax) off,Zbs (ZcU c4 (Zb3 c3))⟩
   ·cases h1
  ·cases h1
 ·
  rename_i id sz j off az;unfold ZdI at h1;split at h1
  ·rename_i bu xs ex hl;split at h1
   ·rename_i bh;subst bh;obtain⟨el,ba,h1⟩:=Za h1;obtain⟨q,ao,h1⟩:=Za h1;unfold ZfL at h1;split at h1
    ·rename_i ab;obtain⟨c1,c2,c3,c4,c5⟩:=ab;cases h1;have h':=h.freeze q.2.2;have bb : lkp (Ql q.2.2 hp) id=some (.row sz xs ex false):=by
      rw[Qe,hl];simp only[KJ,c5,Ka,Kq]
     have ap:=h'.slOK.ev hx;have bi:=h'.slOK.ev hy;rw[az] at ap;obtain⟨b,n,c,ag,hj,a0⟩:=ap;obtain⟨ad,n',c',an,hn,bc⟩:=h'.objs id _ bb;rw[ag] at an;cases an;rcases bc with bc | ⟨g,cur,e,bj,bd,hw,bk,bl,be,a2,aq,bf,a3⟩
     ·omega
     ·cases bj;simp only[Ka,Kq] at aq;have ak:=Rep.cells (Zph (Zjx ao)) a';have aj:(a.eval y).cells.size=P.cellsOf t:=by
       have:=Zua ao;have h2:=ak.length;simp at h2;omega
      have bm:q.1.length=(a.eval y).cells.toList.length:=by simp;omega
      have bv:n=xs.length:=hn;have bw:j*sz+sz≤cur.size:=by
       rw[be,← Nat.succ_mul];exact KD _ (by omega)
      have hg:=ah b (j*sz+off) cur e a0 hw aj (by omega) (ZlV (Zjx ao) ak);have bn:(Qf cur.toList (j*sz+off) (a.eval y).cells.toList).length=cur.size:=by rw[Ze6];simp;simp;omega
      have aa:(w.setRow b (Qf cur.toList (j*sz+off) (a.eval y).cells.toList).toArray).heap[b]?=some (.cells (Qf cur.toList (j*sz+off) (a.eval y).cells.toList).toArray e (0,0)):=setRow_heap w b cur _ e _ hw;refine⟨_,_,hg,Jt.of_freeze h q.2.2 ?_⟩;rw[XA];have ar:∀ e' : Bool,¬(if e' then fun b=>XC Γ w hp I q.2.2 b∧A b else XC Γ w hp I q.2.2) b:=fun e'=>by cases e' <;> simp<;>(try exact aq);exact fun hI=>absurd hI aq
      have a4:∀ e' : Bool,(e'=true→(ex&&q.2.1)=true∨True)→∀ x,(if ex then fun b=>XC Γ w hp I q.2.2 b∧A b else XC Γ w hp I q.2.2) x→(if (ex&&q.2.1) then fun b=>XC Γ w hp I q.2.2 b∧A b else XC Γ w hp I q.2.2) x:=fun _ _ x hx=>by
       cases ex<;>cases ay:q.2.1<;>simp[ay] at hx ⊢
       ·exact hx
       ·exact hx
       ·exact hx.1
       ·exact hx
      have au:∀ x,(if q.2.1 then fun b=>XC Γ w hp I q.2.2 b∧A b else XC Γ w hp I q.2.2) x→(if (ex&&q.2.1) then fun b=>XC Γ w hp I q.2.2 b∧A b else XC Γ w hp I q.2.2) x:=fun x hx=>by
       cases ex<;>cases ay:q.2.1<;>simp[ay] at hx ⊢
       ·exact hx
       ·exact hx.1
       ·exact hx
       ·exact hx
      have ae:ZU (if ex then fun b=>XC Γ w hp I q.2.2 b∧A b else XC Γ w hp I q.2.2) (if (ex&&q.2.1) then fun b=>XC Γ w hp I q.2.2 b∧A b else XC Γ w hp I q.2.2) w (w.setRow b (Qf cur.toList (j*sz+off) (a.eval y).cells.toList).toArray):=
       ⟨a4 true (fun _=>.inr trivial),fun x hx=>setRow_other w b x _ fun e'=>ar ex (e' ▸ hx)⟩
      have av:ZU (if q.2.1 then fun b=>XC Γ w hp I q.2.2 b∧A b else XC Γ w hp I q.2.2) (if (ex&&q.2.1) then fun b=>XC Γ w hp I q.2.2 b∧A b else XC Γ w hp I q.2.2) w (w.setRow b (Qf cur.toList (j*sz+off) (a.eval y).cells.toList).toArray):=
       ⟨au,fun x hx=>setRow_other w b x _ fun e'=>ar q.2.1 (e' ▸ hx)⟩
      have al:Xy w (if q.2.1 then fun b=>XC Γ w hp I q.2.2 b∧A b else XC Γ w hp I q.2.2) q.1 (a.eval y).cells.toList:=
       (Zr8 h.hpOK h.own (Zub ao ak) ao).froze fun S S' hs hq=>hq.mono ⟨hs,fun _ _=>rfl⟩
      refine h'.turn hb bb (by rw[ag];simp[ZA,KE bd]) aq bf (adds:=[]) (Xa.refl Γ) (fun _ _=>rfl) (fun k o hk=>by simp at hk) (fun k hk=>h.names k (fun hu=>hk (.inl hu))) ?_ trivial hd;refine⟨_,n,c,ag,by simp[hn],.inr ⟨b,_,e,rfl,bd,aa,bk,bl,by simp[bn,be],a2,by simpa using aq,bf,?_⟩⟩;rw[Ye] at a3 ⊢;have ai:∀ p,(w.setRow b (Qf cur.toList (j*sz+off) (a.eval y).cells.toList).toArray).cell? ⟨b,p,none⟩=(Qf cur.toList (j*sz+off) (a.eval y).cells.toList)[p]?:=fun p=>by
       rw[cell_of_row _ _ _ _ _ _ aa];simp
      have af:∀ p,w.cell? ⟨b,p,none⟩=cur.toList[p]?:=fun p=>by rw[cell_of_row _ _ _ _ _ _ hw];simp
      intro k z hz;by_cases a5:k=j
      ·subst a5;have bo : k<xs.length:=(Kb.1 ba).1;rw[List.getElem?_set_self bo] at hz;cases hz;obtain⟨vs,v1,v2,v3⟩:=a3 k el ba;refine⟨Qf vs off (a.eval y).cells.toList,by rw[Ze6];exact v1;omega,?_,?_⟩
       ·intro p u hu;rw[Zbv _ _ _ _ (by omega)] at hu;rw[ai,Zbv _ _ _ _ (by simp;omega)];split at hu
        ·rename_i bp;rw[Kh (by omega)];have:0+k*sz+p-(k*sz+off)=p-off:=by omega
         rw[this];exact hu
        ·rename_i bp;rw[Kd (by omega),← af];exact v2 p u hu
       ·have am:=al.mono av;generalize ay:q.1=ds at am c3 bm;cases el with
        | agg cs=>
         simp only[ZgK,ZT] at v3 ⊢;exact Xu.2 (ZlW (Xu.1 (v3.mono ae)) (Xu.1 am) off)
        | sl zs=>cases c1
        | _=>
         simp only[D.cells,List.length_singleton] at c2;have bq:vs.length=1:=by omega
         obtain⟨v0,rfl⟩:=List.length_eq_one_iff.1 bq;have br:=v3.mono ae;cases ds with
         | nil=>
          simp only[Xy] at am;simp only[ZgK,List.headD_nil];rw[am];simp only[Qf,KU,KL,Nat.add_zero,LX];exact br
         | cons d ds=>
          simp only[Ko] at c3;have a6:ds=[]:=Kr (by omega);subst a6;have a7:off=0:=by omega
          subst a7;simp only[Xy] at am;obtain⟨v,r,e1,e2,e3,rfl⟩:=am;simp only[ZgK,List.headD_cons];have bs:Qf [v0] 0 (a.eval y).cells.toList=(a.eval y).cells.toList:=by rw[e1];simp[Qf]
          rw[bs];have a8:∀ l,l=[v]→ZT (w.setRow b (Qf cur.toList (k*sz+0) (a.eval y).cells.toList).toArray) (if (ex&&q.2.1) then fun b=>XC Γ w hp I q.2.2 b∧A b else XC Γ w hp I q.2.2) d l:=fun l hl=>hl ▸ e3;exact a8 _ e1
      ·rw[List.getElem?_set_ne (Ne.symm a5)] at hz;obtain⟨vs,v1,v2,v3⟩:=a3 k z hz;refine⟨vs,v1,?_,v3.mono ae⟩;intro p u hu;have bx:p<sz:=by have:=(Kb.1 hu).1;omega
       rw[ai,Zbv _ _ _ _ (by simp;omega),Kd,← af]
       ·exact v2 p u hu
       ·intro hh;simp at hh;rcases LC a5 with a1 | a1
        ·have:(k+1)*sz≤j*sz:=KD _ (by omega);rw[KG] at this;omega
        ·have:(j+1)*sz≤k*sz:=KD _ (by omega);rw[KG] at this;omega
    ·cases h1
   ·cases h1
  ·cases h1
 ·cases h1
end
end Go.Abs
set_option linter.unusedVariables false
set_option linter.unusedSimpArgs false
namespace Go.Abs
open Go
section
variable {P:Program} {nt:Nat} {U:Nat→Prop} {F A I:Nat→Prop} {Γ:Gh} {sl:Sl} {hp:Hp} {a:Act} {w:World}
structure Src (P:Program) (w:World) (u:TypeId) (sz:Nat) (x:Value) (m:Nat) (news:List Value):Prop where
 type:∃ d,P.underlying u=some d∧∀ k,d≠.int k
 len:(Builtin.lenOf x).run P w=.ok m w
 cells:(Builtin.firstCells sz m x).run P w=.ok news.toArray w
 cells' : (Builtin.firstCells sz m x).run P w.drew=.ok news.toArray w.drew
 one:∀ v∈news,v.oneCell'=true
 length:news.length=m*sz
theorem Zet {t u ty e:TypeId} {i:TypeInfo} (ht:P.underlying t=some (.slice e)) (hi:P.info? e=some i) {x:Value} {m:Nat} {news:List Value} (hs:Src P w u i.size x m news)
  {g n c:Nat} {cur:Array Value} {e' : TypeId} (hg:w.heap[g]?=some (.cells cur e' (0,0))) (aa:n+m≤c) (ab:n*i.size+news.length≤cur.size) :
  (Builtin.append_ #[t,u] ty #[.slice (some ⟨g,0,none⟩) n c,x]).run P w=.ok (.slice (some ⟨g,0,none⟩) (n+m) c) (w.setRow g (cur.toList.take (n*i.size)++news++cur.toList.drop (n*i.size+news.length)).toArray):=by
 obtain⟨d,hd,ad⟩:=hs.type;have ae:=run_storeCells_at P g (n*i.size) e' news 0 cur w hg (by simpa using ab) hs.one;simp only[Nat.add_zero] at ae;have hz:(match d with | .int _=>true | _=>false)=false:=by cases d<;>first | rfl | exact absurd rfl (ad _)
 simp only[Builtin.append_,sizeOf,typeInfo];simp[run_underlying ht,run_underlying hd,hi];cases d<;>first | exact absurd rfl (ad _) | skip
 all_goals simp[hs.len,aa,hs.cells,Addr.add_lit,ae]
theorem Zjy {t u ty e:TypeId} {i:TypeInfo} (ht:P.underlying t=some (.slice e)) (hi:P.info? e=some i) {x:Value} {news:List Value} (hs:Src P w u i.size x 0 news) {ad:Option Addr} {n c:Nat} (aa:n≤c) :
  (Builtin.append_ #[t,u] ty #[.slice ad n c,x]).run P w=.ok (.slice ad n c) w:=by
 obtain⟨d,hd,ab⟩:=hs.type;have hn:news=[]:=Kr (by rw[hs.length];simp);have hc:=hs.cells;rw[hn] at hc;simp only[Builtin.append_,sizeOf,typeInfo];simp[run_underlying ht,run_underlying hd,hi];cases d<;>first | exact absurd rfl (ab _) | skip
 all_goals
  simp[hs.len,aa,hc];cases ad<;>simp[storeCells]
theorem Zjz {t u ty e:TypeId} {i:TypeInfo} {z:Value} (ht:P.underlying t=some (.slice e)) (hi:P.info? e=some i) (hz:i.zero=some z) {x:Value} {m:Nat} {news:List Value} (hs:Src P w u i.size x m news)
  {ad:Option Addr} {n c:Nat} {aa:List Value} (ho:(Builtin.firstCells i.size n (.slice ad n c)).run P w.drew=.ok aa.toArray w.drew) (af:c<n+m) (ai:((n+m:Nat):Int)≤9223372036854775807)
  (ag:Builtin.nextslicecap (n+m) c*i.bytes≤281474976710656) :
  (Builtin.append_ #[t,u] ty #[.slice ad n c,x]).run P w=.ok (.slice (some ⟨w.heap.size,0,none⟩) (n+m) (grownCap w (n+m) c e))
   (w.drew.alloc (.cells ((aa++news).toArray++Builtin.zeroCells z.cells (grownCap w (n+m) c e-(n+m))) e)):=by
 obtain⟨d,hd,ah⟩:=hs.type;have hn:¬(n+m≤c):=by omega
 have ab : ¬(9223372036854775807<((n:Int)+(m:Int))):=by omega
 have ae : ¬(281474976710656<Builtin.nextslicecap (n+m) c*i.bytes):=by omega
 simp only[Builtin.append_,sizeOf,typeInfo,zeroValue];simp[run_underlying ht,run_underlying hd,hi,hz];cases d<;>first | exact absurd rfl (ah _) | skip
 all_goals
  simp[hs.len,hn,ab,ae,Question.forced,ho,hs.cells',newRow,grownCap];congr 2
  apply Array.ext';simp
theorem drew_cell (w:World) (a:Addr):w.drew.cell? a=w.cell? a:=rfl
theorem QG.drew {b o:Nat} {vs:List Value} (h:QG w b o vs):QG w.drew b o vs:=h
theorem YB {sz n c:Nat} {ad:Option Addr} {news:List Value} (hl:news.length=n*sz) (h:n=0∨∃ b o,ad=some ⟨b,o,none⟩∧QG w b o news) :
  (Builtin.firstCells sz n (.slice ad n c)).run P w=.ok news.toArray w:=by
 rcases h with h | ⟨b,o,rfl,h⟩
 ·subst h;have hn:news=[]:=Kr (by simpa using hl);subst hn;cases ad<;>simp[Builtin.firstCells,loadCells,loadCellsFrom]
 ·exact run_firstCells_some (P:=P) w sz n ⟨b,o,none⟩ n c news hl fun j u hu=>by rw[Jo];exact h j u hu
theorem Znm {S:Nat→Prop} {b sz:Nat} {xs:List D} {o:Nat} (h:J2 w S b sz xs o) (off n:Nat):J2 w S b sz ((xs.drop off).take n) (o+off*sz):=by
 rw[Ye] at h ⊢;intro i x hx;rw[Lf] at hx;split at hx
 ·rw[Ll] at hx;obtain⟨vs,h1,h2,h3⟩:=h _ x hx;exact⟨vs,h1,by rw[KG,← Lr] at h2;exact h2,h3⟩
 ·cases hx
theorem Un {S:Nat→Prop} {sz:Nat}:Z2 w S sz [] []:=trivial
theorem VV {w' : World} {S S' : Nat→Prop} {sz:Nat}:∀ {xs:List D} {cs:List (List Value)},QN xs→Z2 w S sz xs cs→Z2 w' S' sz xs cs
 | [],[],_,_=>trivial
 | [],_ :: _,_,h=>h.elim
 | _ :: _,[],_,h=>h.elim
 | x :: xs,c :: cs,hf,h=>⟨⟨h.1.1,Zr4 (hf x (by simp)) h.1.2⟩,VV (fun y hy=>hf y (by simp[hy])) h.2⟩
theorem Zsb {S:Nat→Prop} {sz:Nat} {xs:List D} {cs:List (List Value)} (h:Z2 w S sz xs cs):∀ v∈cs.flatten,v.oneCell'=true:=by
 intro v hv;obtain⟨c,hc,hv⟩:=List.mem_flatten.1 hv;obtain⟨i,hi⟩:=K0 hc;obtain⟨d,_,hd⟩:=Zu.get' h i c hi;obtain⟨j,hj⟩:=K0 hv;obtain⟨d',aa,h1,h2⟩:=(Xu.1 hd.2.cells).get' j v hj;exact Zt9 (Γ:=fun _=>none) (w:=w) (I:=S) (x:=.d d') rfl ⟨h1,h2⟩
def inS (I A:Nat→Prop) (ex:Bool):Nat→Prop:=if ex then fun b=>I b∧A b else I
theorem Zvd {ex:Bool}:∀ b,inS I A ex b→I b:=by
 intro b h;unfold inS at h;cases ex<;>simp at h
 ·exact h
 ·exact h.1
theorem Zj3 {ex aa : Bool}:∀ b,inS I A ex b→inS I A (ex&&aa) b:=by
 intro b h;unfold inS at h ⊢;cases ex<;>cases aa <;> simp at h ⊢
 ·exact h
 ·exact h
 ·exact h.1
 ·exact h
theorem Zbw {S S' : Nat→Prop} {sz:Nat} (h:∀ b,S b→S' b) {xs:List D} {cs:List (List Value)} (hc:Z2 w S sz xs cs):Z2 w S' sz xs cs:=hc.mono ⟨h,fun _ _=>rfl⟩
theorem ZCN {S:Nat→Prop} {b o sz:Nat} {xs:List D} (h:J2 w S b sz xs o):∃ cs,Z2 w S sz xs cs∧QG w b o cs.flatten:=Q3 h
theorem Zsc {e u:TypeId} {str:Bool} (h:Zo9 P e u=some str):(str=true∧P.underlying u=some .string)∨(str=false∧P.underlying u=some (.slice e)):=by
 unfold Zo9 at h;split at h
 ·rename_i e' he;split at h
  ·rename_i aa;cases h;subst aa;exact .inr ⟨rfl,Q6 he⟩
  ·cases h
 ·split at h
  ·rename_i ab;cases h;exact .inl ⟨rfl,JY ab⟩
  ·cases h
theorem UO {u e:TypeId} (hu:P.underlying u=some (.slice e)) {S:Nat→Prop} {sz n c:Nat} {ad:Option Addr} {ys:List D} (hn:n=ys.length) {cs:List (List Value)} (hc:Z2 w S sz ys cs)
  (h:n=0∨∃ b o,ad=some ⟨b,o,none⟩∧QG w b o cs.flatten):Src P w u sz (.slice ad n c) ys.length cs.flatten:=by
 subst hn;have hl:=hc.length_flatten;exact⟨⟨_,hu,fun k=>by simp⟩,by simp[Builtin.lenOf],YB hl h,YB hl (h.imp id fun ⟨b,o,h1,h2⟩=>⟨b,o,h1,h2.drew⟩),Zsb hc,hl⟩
theorem Znn {S:Nat→Prop}:∀ (s:List UInt8),Z2 w S 1 (s.map fun b=>.int .u8 b.toNat) (s.map fun b=>[.int .u8 b.toNat])
 | []=>trivial
 | b :: s=>⟨⟨rfl,by simp[ZT]⟩,Znn s⟩
theorem ZBM (ho:Zbl Γ w I F A hp) {e u:TypeId} {str flat:Bool} (al:Zo9 P e u=some str) {sz:Nat} {x:AV} {xv:Value} (hx:Rep Γ w I x xv) {q:List D×Bool}
  (hq:(if str then Zrw x else ZfM hp flat x)=some q) (ae:uni sz q.1) (aa:flat=true→QN q.1) :
  ∃ cs,Src P w u sz xv q.1.length cs.flatten∧Z2 w (inS I A q.2) sz q.1 cs:=by
 rcases Zsc al with ⟨rfl,hu⟩ | ⟨rfl,hu⟩
 ·simp only[Km] at hq;unfold Zrw at hq;split at hq
  ·cases hq;obtain⟨t,rfl,rfl⟩:=ZgU hx;have af:t.data.toList=[]∨sz=1:=by
    cases ht:t.data.toList with
    | nil=>exact .inl rfl
    | cons b l=>right;have:=ae (.int .u8 b.toNat) (by simp[ht]);simpa [D.cells] using this.symm
   refine⟨t.data.toList.map fun b=>[.int .u8 b.toNat],?_,?_⟩
   ·have au:(t.data.toList.map fun b=>[Value.int .u8 b.toNat]).flatten=t.data.toList.map fun b=>Value.int .u8 b.toNat:=by
     induction t.data.toList with
     | nil=>rfl
     | cons b l ih=>simp[ih]
    have ab:t.data.toList.length=t.size:=rfl;have ao:∀ w:World,(Builtin.firstCells sz t.size (.string t)).run P w=.ok (t.data.map fun b=>Value.int .u8 b.toNat) w:=by
     intro w;have hx:t.extract 0 t.size=t:=by apply ByteArray.ext;rw[ByteArray.data_extract];exact Array.extract_size
     show (pure ((t.extract 0 t.size).data.map fun b=>Value.int .u8 b.toNat):Sem (Array Value)).run P w=_;rw[hx];rfl
    have ag:(t.data.toList.map fun b=>Value.int .u8 b.toNat).toArray=t.data.map fun b=>Value.int .u8 b.toNat:=by
     apply Array.ext';simp
    rw[au];simp only[KR,ab];refine⟨⟨_,hu,fun k=>by simp⟩,by simp[Builtin.lenOf],by rw[ao,ag],by rw[ao,ag],?_,?_⟩
    ·intro v hv;obtain⟨b,_,rfl⟩:=La.1 hv;rfl
    ·rcases af with h0 | h1
     ·have:t.size=0:=by rw[← ab,h0];rfl
      simp[h0,this]
     ·subst h1;simp[ab]
   ·rcases af with h0 | h1
    ·rw[h0];exact trivial
    ·subst h1;exact Znn _
  ·cases hq
 ·simp only[Ka,Kq] at hq;unfold ZfM at hq;split at hq
  ·cases hq;obtain⟨ad,rfl⟩:=hx;exact⟨[],UO hu rfl (Un (S:=I)) (.inl rfl),trivial⟩
  ·rename_i ys;cases hq;have h1:=QH.1 hx;simp only[XL,ZT] at h1;obtain⟨ad,c,hv,hc,h1⟩:=h1;simp at hv;subst hv;have hS:∀ {cs},Z2 w I sz ys cs→Z2 w (inS I A flat) sz ys cs:=by
    intro cs ap;cases flat
    ·exact ap
    ·exact VV (aa rfl) ap
   rcases h1 with rfl | ⟨b,o,am,rfl,hI,h0,hr⟩
   ·exact⟨[],UO hu rfl (Un (S:=I)) (.inl rfl),trivial⟩
   ·cases ys with
    | nil=>exact⟨[],UO hu rfl (Un (S:=I)) (.inl rfl),trivial⟩
    | cons y ys=>
     obtain⟨cs,h2,h3⟩:=Q3 hr;have af:am=sz:=by
      obtain⟨vs,h4,h5,h6⟩:=Ye.1 hr 0 y (by simp);rw[← h4,h6.length];exact ae y (by simp)
     subst af;exact⟨cs,UO hu rfl h2 (.inr ⟨b,o,rfl,h3⟩),hS h2⟩
  ·rename_i id;unfold ZuS at hq;split at hq
   ·rename_i ai ys ex fz hl;cases hq;obtain⟨ad,n,c,h1,h2,h3⟩:=ho id _ hl;obtain⟨a3,n',c',am,h4,rfl⟩:=hx;rw[h1] at h4;cases h4;rcases h3 with h3 | ⟨g,cur,e',rfl,hc,hw,h4,h5,h6,h7,h8,aw,h9⟩
    ·have hy:ys=[]:=Kr (by omega);subst hy;exact⟨[],UO hu h2 (Un (S:=I)) (.inl (by simpa using h2)),trivial⟩
    ·cases ys with
     | nil=>exact⟨[],UO hu h2 (Un (S:=I)) (.inl (by simpa using h2)),trivial⟩
     | cons y ys=>
      obtain⟨cs,ah,aq⟩:=Q3 h9;have af:ai=sz:=by
       obtain⟨vs,ar,ax,aj⟩:=Ye.1 h9 0 y (by simp);rw[← ar,aj.length];exact ae y (by simp)
      subst af;refine⟨cs,UO hu h2 ah (.inr ⟨g,0,rfl,aq⟩),?_⟩;cases ex
      ·cases flat
       ·exact ah
       ·exact VV (aa rfl) ah
      ·exact ah
   ·cases hq
  ·rename_i id off n;unfold ZpZ at hq;split at hq
   ·rename_i ai ys ex fz hl;cases hq;obtain⟨ad,m,c,h1,h2,h3⟩:=ho id _ hl;obtain⟨a0,m',c',am,av,h4,h5,h6,rfl,h7,h8⟩:=hx;rw[h1] at h4;cases h4;have an:n=((ys.drop off).take n).length:=by simp;omega
    by_cases ay:n=0
    ·subst ay;simp only[List.take_zero];exact⟨[],UO hu rfl (Un (S:=I)) (.inl rfl),trivial⟩
    ·rcases h3 with h3 | ⟨g,cur,e',rfl,hc,hw,h9,ah,aq,ar,ax,aw,aj⟩
     ·omega
     ·obtain⟨cs,ak,az⟩:=Q3 (Znm aj off n);have af:ai=sz:=by
       obtain⟨y,hy⟩:∃ y,((ys.drop off).take n)[0]?=some y:=⟨_,Ks (by omega)⟩
       obtain⟨vs,a1,a4,a2⟩:=Ye.1 (Znm aj off n) 0 y hy;rw[← a1,a2.length];exact ae y (Kc hy)
      subst af;rcases h8 with h8 | h8
      ·subst h8;refine⟨cs,UO hu an ak (.inr ⟨g,off*ai,by simp[Jo],by simpa using az⟩),?_⟩;cases ex
       ·cases flat
        ·exact ak
        ·exact VV (aa rfl) ak
       ·exact ak
      ·omega
   ·cases hq
  ·cases hq
end
end Go.Abs

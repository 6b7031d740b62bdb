import Derived.Laws.StructEq
import Derived.Test.YtfnegoimdljanaaGreatDoorAbsTreeOp2
set_option linter.unusedSimpArgs false
set_option linter.unusedVariables false
namespace Go.Abs
open Go
section
variable {P:Program} {w:World} {I:Nat→Prop}
def Zyr (u v:Value) (kd:Nat) (r:Bool):Prop:=
 (kd = 0 ∧ ∃ k a b, u = .int k a ∧ v = .int k b ∧ r = decide (a = b)) ∨ (kd = 1 ∧ ∃ a b, u = .bool a ∧ v = .bool b ∧ r = decide (a = b)) ∨
   (kd=2∧∃ a b:ByteArray,u=.string a∧v=.string b∧r=decide (a.data.toList=b.data.toList))
def ZtY (X Y:Array Value) (o kd:Nat) (r:Bool):Prop:=∃ u v,X[o]?=some u∧Y[o]?=some v∧Zyr u v kd r
theorem ZwW:∀ {ks:List Nat} {cs ds:List D} {R:Bool} {xs ys:List Value},Jv ks cs ds=some R→Q4 w I cs xs→Q4 w I ds ys →
  ∃ rs:List Bool,rs.length=ks.length∧R=rs.all id∧∀ (o kd:Nat),ks[o]?=some kd→∃ u v r,xs[o]?=some u∧ys[o]?=some v∧rs[o]?=some r∧Zyr u v kd r:=by
 intro ks
 induction ks with
 | nil=>
  intro cs ds R xs ys h hx hy;cases cs with
  | nil=>
   cases ds with
   | nil=>simp only[Jv] at h;cases h;exact⟨[],rfl,rfl,fun o kd hk=>by simp at hk⟩
   | cons d ds=>simp[Jv] at h
  | cons c cs=>simp[Jv] at h
 | cons kd ks ih=>
  intro cs ds R xs ys h hx hy;cases cs with
  | nil=>simp[Jv] at h
  | cons c cs=>
  cases ds with
  | nil=>simp[Jv] at h
  | cons d ds=>
  simp only[Q4] at hx hy;obtain⟨u,ag,rfl,_,hu,ah⟩:=hx;obtain⟨v,ai,rfl,_,hv,aj⟩:=hy;have ab:∀ (r0:Bool) (R0:Bool),Jv ks cs ds=some R0→R=(r0&&R0)→Zyr u v kd r0 →
    ∃ rs:List Bool,rs.length=(kd :: ks).length∧R=rs.all id∧∀ (o aa : Nat),(kd :: ks)[o]?=some aa→∃ u' v' r,(u :: ag)[o]?=some u'∧(v :: ai)[o]?=some v'∧rs[o]?=some r∧Zyr u' v' aa r:=by
   intro r0 R0 h0 hR hc;obtain⟨rs,h1,h2,h3⟩:=ih h0 ah aj;refine⟨r0 :: rs,by simp[h1],by rw[hR,h2];simp,fun o aa ho=>?_⟩;cases o with
   | zero=>simp at ho;subst ho;exact⟨u,v,r0,by simp,by simp,by simp,hc⟩
   | succ o=>
    simp at ho;obtain⟨u',v',r,g1,g2,g3,g4⟩:=h3 o aa ho;exact⟨u',v',r,by simpa using g1,by simpa using g2,by simpa using g3,g4⟩
  unfold Jv at h;split at h
  ·rename_i h1 _ _;cases h1
  ·rename_i ad k a ae k' b af e1 e2 e3;cases e1;cases e2;cases e3;split at h
   ·rename_i hk;subst hk;obtain⟨R0,h0,h⟩:=Za h;cases h;simp only[ZP] at hu hv;simp at hu hv;exact ab _ R0 h0 rfl (.inl ⟨rfl,k,a,b,hu,hv,rfl⟩)
   ·cases h
  ·rename_i ad a ae b af e1 e2 e3;cases e1;cases e2;cases e3;obtain⟨R0,h0,h⟩:=Za h;cases h;simp only[ZP] at hu hv;simp at hu hv;exact ab _ R0 h0 rfl (.inr (.inl ⟨rfl,a,b,hu,hv,rfl⟩))
  ·rename_i ad a ae b af e1 e2 e3;cases e1;cases e2;cases e3;obtain⟨R0,h0,h⟩:=Za h;cases h;simp only[ZP] at hu hv;obtain⟨ta,hu,rfl⟩:=hu;obtain⟨tb,hv,rfl⟩:=hv;simp at hu hv;exact ab _ R0 h0 rfl (.inr (.inr ⟨rfl,ta,tb,hu,hv,rfl⟩))
  ·cases h
def ZiI (P:Program) (t:TypeId) (off:Nat) (X:Array Value) (x:Value):Prop:=
 if XL P t=true then x=.agg (X.extract off (off+P.cellsOf t)) else X[off]?=some x
theorem Zys {t ft:TypeId} {off fo:Nat} {X:Array Value} {n:Nat} {ls:List (Nat×Nat)} {ab : Nat} (hl:ZbN P n ft ab=some ls) (ad:fo+P.cellsOf ft≤P.cellsOf t)
  (hc:∀ p∈ls,∃ u,X[p.1]?=some u) (ho:ab=off+fo):∃ xf,(part ft (X.extract off (off+P.cellsOf t)) fo).run P w=.ok xf w∧ZiI P ft (off+fo) X xf:=by
 subst ho;cases n with
 | zero=>simp[ZbN] at hl
 | succ n=>
 have aa:∀ kd,P.cellsOf ft=1→XL P ft=false→Zem P ft=some false→ls=[(off+fo,kd)]→∃ xf,(part ft (X.extract off (off+P.cellsOf t)) fo).run P w=.ok xf w∧ZiI P ft (off+fo) X xf:=by
  intro kd h1 h2 h3 h4;subst h4;obtain⟨u,hu⟩:=hc (off+fo,kd) (by simp)
  change X[off+fo]?=some u at hu
  refine⟨u,?_,by simp[ZiI,h2,hu]⟩;have ae:=(KO.1 hu).1;have e:(X.extract off (off+P.cellsOf t))[fo]?=some u:=by
   rw[Array.getElem?_extract,Kj o_,hu]
  simp[part,Vf h3,e]
 unfold ZbN at hl;split at hl
 ·rename_i k hk;split at hl
  ·cases hl;exact aa 0 (by assumption) (by simp[XL,hk]) (by simp[Zem,hk]) rfl
  ·cases hl
 ·rename_i hk;split at hl
  ·cases hl;exact aa 1 (by assumption) (by simp[XL,hk]) (by simp[Zem,hk]) rfl
  ·cases hl
 ·rename_i hk;split at hl
  ·cases hl;exact aa 2 (by assumption) (by simp[XL,hk]) (by simp[Zem,hk]) rfl
  ·cases hl
 ·rename_i fs hk;have hg:Zem P ft=some true:=by simp[Zem,hk]
  obtain⟨i,hi⟩:=Zid hg;refine⟨.agg ((X.extract off (off+P.cellsOf t)).extract fo (fo+P.cellsOf ft)),by simp[part,Vf hg,QW hi w],?_⟩;simp only[ZiI,XL,hk,Kl];congr 1
  rw[Array.extract_extract];congr 1
  omega
 ·cases hl
theorem Zpc {X Y:Array Value} {rs:List Bool}:∀ (m:Nat) {t:TypeId} {off:Nat} {ls:List (Nat×Nat)},ZbN P m t off=some ls→(∀ p∈ls,ZtY X Y p.1 p.2 (rs.getD p.1 false)) →
  ∀ (d:Nat) (x y:Value),ZiI P t off X x→ZiI P t off Y y→(Op.equalIn (d+m) t x y).run P w=.ok (ls.all fun p=>rs.getD p.1 false) w
 | 0,t,off,ls,h,_,_,_,_,_,_=>by simp[ZbN] at h
 | m+1,t,off,ls,h,hc,d,x,y,hx,hy=>by
  have aa:XL P t=false→X[off]?=some x∧Y[off]?=some y:=fun hs=>by simp[ZiI,hs] at hx hy;exact⟨hx,hy⟩
  have h0:=h;unfold ZbN at h;split at h
  ·rename_i k hk;split at h
   ·cases h;obtain⟨e1,e2⟩:=aa (by simp[XL,hk]);obtain⟨u,v,g1,g2,g3⟩:=hc (off,0) (by simp);simp only at g1 g2;rw[e1] at g1;rw[e2] at g2;cases g1;cases g2;rcases g3 with ⟨_,k',a,b,rfl,rfl,hr⟩ | ⟨h,_⟩ | ⟨h,_⟩
    ·rw[← KS,run_equalIn_int w (d+m) t k' k a b hk];simp only[LC,List.all_nil,L6,hr];congr 1
    ·simp at h
    ·simp at h
   ·cases h
  ·rename_i hk;split at h
   ·cases h;obtain⟨e1,e2⟩:=aa (by simp[XL,hk]);obtain⟨u,v,g1,g2,g3⟩:=hc (off,1) (by simp);simp only at g1 g2;rw[e1] at g1;rw[e2] at g2;cases g1;cases g2;rcases g3 with ⟨h,_⟩ | ⟨_,a,b,rfl,rfl,hr⟩ | ⟨h,_⟩
    ·simp at h
    ·rw[← KS,run_equalIn_bool' w (d+m) t a b hk];simp only[LC,List.all_nil,L6,hr];cases a<;>cases b<;>rfl
    ·simp at h
   ·cases h
  ·rename_i hk;split at h
   ·cases h;obtain⟨e1,e2⟩:=aa (by simp[XL,hk]);obtain⟨u,v,g1,g2,g3⟩:=hc (off,2) (by simp);simp only at g1 g2;rw[e1] at g1;rw[e2] at g2;cases g1;cases g2;rcases g3 with ⟨h,_⟩ | ⟨h,_⟩ | ⟨_,a,b,rfl,rfl,hr⟩
    ·simp at h
    ·simp at h
    ·rw[← KS,run_equalIn_string w (d+m) t a b hk];simp only[LC,List.all_nil,L6,hr];rw[ByteArray.toList_eq,ByteArray.toList_eq];congr 1
     by_cases h:a.data.toList=b.data.toList
     ·simp[h]
     ·simp[h];exact fun e=>h (by rw[e])
   ·cases h
  ·rename_i fs hk;split at h
   ·cases h
   rename_i hp;obtain⟨lss,hm,h⟩:=Za h;cases h;have hs:XL P t=true:=by simp[XL,hk]
   simp only[ZiI,hs,Kl] at hx hy;subst hx;subst hy;have ad:P.fieldsOf t=fs:=by simp[Program.fieldsOf,hk]
   rw[← KS,run_equalIn_agg w (d+m) t _ _ (by rw[ad];exact hk) (by simpa using hp),ad];have ae:∀ (l:List Field) (lss:List (List (Nat×Nat))),QF (fun f:Field=>if f.name = "_"∨P.cellsOf t<f.offset+P.cellsOf f.type then none else ZbN P m f.type (off+f.offset)) l=some lss →
     (∀ p∈lss.flatten,ZtY X Y p.1 p.2 (rs.getD p.1 false))→(Op.eqFields (d+m) (X.extract off (off+P.cellsOf t)) (Y.extract off (off+P.cellsOf t)) l).run P w=.ok (lss.flatten.all fun p=>rs.getD p.1 false) w:=by
    intro l
    induction l with
    | nil=>intro lss hm _;simp only[QF] at hm;cases hm;rfl
    | cons f l ihl=>
     intro lss hm hc;simp only[QF] at hm;obtain⟨l1,g1,hm⟩:=Za hm;obtain⟨l2,g2,hm⟩:=Za hm;cases hm;split at g1
     ·cases g1
     rename_i hf;simp only[not_or,Nat.not_lt] at hf;have ab:∀ p∈l1,ZtY X Y p.1 p.2 (rs.getD p.1 false):=fun p hp=>hc p (by simp[hp]);obtain⟨xf,p1,p2⟩:=Zys (w:=w) (t:=t) (off:=off) (fo:=f.offset) (X:=X) g1 hf.2 (fun p hp=>by obtain⟨u,v,e,_⟩:=ab p hp;exact⟨u,e⟩) rfl;obtain⟨yf,q1,q2⟩:=Zys (w:=w) (t:=t) (off:=off) (fo:=f.offset) (X:=Y) g1 hf.2 (fun p hp=>by obtain⟨u,v,_,e,_⟩:=ab p hp;exact⟨v,e⟩) rfl;have e1:=Zpc m g1 ab d xf yf p2 q2;simp only[Op.eqFields,ne_eq,hf.1,not_false_eq_true,Kl,Sem.run_bind,p1,q1,Result.andThen_ok,e1];cases hr:(l1.all fun p=>rs.getD p.1 false) with
     | false=>simp only[Kay,Kl,Sem.run_pure,Lc,List.all_append,hr,Bool.false_and]
     | true=>
      simp only[Bool.not_true,Ka,Km];rw[ihl l2 g2 (fun p hp=>hc p (by simp only[Lc,Kh];exact .inr hp))];simp only[Lc,List.all_append,hr,Kaf]
   exact ae fs.toList lss hm hc
  ·cases h
theorem ZAI:∀ {ks:List Nat} {cs ds:List D} {R:Bool},Jv ks cs ds=some R→cs.length=ks.length∧ds.length=ks.length:=by
 intro ks
 induction ks with
 | nil=>
  intro cs ds R h;cases cs with
  | nil=>cases ds with
   | nil=>exact⟨rfl,rfl⟩
   | cons d ds=>simp[Jv] at h
  | cons c cs=>simp[Jv] at h
 | cons kd ks ih=>
  intro cs ds R h;cases cs with
  | nil=>simp[Jv] at h
  | cons c cs=>
  cases ds with
  | nil=>simp[Jv] at h
  | cons d ds=>
  unfold Jv at h;split at h
  ·rename_i h1 _ _;cases h1
  ·rename_i aa k a ab k' b ad e1 e2 e3;cases e1;cases e2;cases e3;split at h
   ·obtain⟨R0,h0,_⟩:=Za h;have:=ih h0;simp[this.1,this.2]
   ·cases h
  ·rename_i aa a ab b ad e1 e2 e3;cases e1;cases e2;cases e3;obtain⟨R0,h0,_⟩:=Za h;have:=ih h0;simp[this.1,this.2]
  ·rename_i aa a ab b ad e1 e2 e3;cases e1;cases e2;cases e3;obtain⟨R0,h0,_⟩:=Za h;have:=ih h0;simp[this.1,this.2]
  ·cases h
theorem Zsp:∀ (rs:List Bool),((List.range rs.length).all fun i=>rs.getD i false)=rs.all id
 | []=>rfl
 | r :: rs=>by
  rw[Kn,List.range_succ_eq_map,LC,List.all_map];simp only[LC,id_eq,List.getD_cons_zero];congr 1
  rw[← Zsp rs];rfl
theorem ZAJ {t:TypeId} {ks:List Nat} (hk:ZvM P t=some ks) {cs ds:List D} {R:Bool} {X Y:Array Value} (h:Jv ks cs ds=some R) (hX:Q4 w I cs X.toList) (hY:Q4 w I ds Y.toList) :
  (Op.equalIn 10000 t (.agg X) (.agg Y)).run P w=.ok R w∧P.eqGuardType P.depth t=false:=by
 unfold ZvM at hk;obtain⟨ls,h1,hk⟩:=Za hk;split at hk
 ·rename_i hc;obtain⟨c1,c2,c3⟩:=hc;cases hk;obtain⟨rs,r1,r2,r3⟩:=ZwW h hX hY;have ab:ls.length=P.cellsOf t:=by rw[← KB (f:=(·.1)),c1,List.length_range]
  have ad:(ls.map (·.2)).length=P.cellsOf t:=by rw[KB,ab]
  have ae:∀ (i:Nat) (p:Nat×Nat),ls[i]?=some p→p.1=i:=by
   intro i p hp;have h2:(ls.map (·.1))[i]?=some p.1:=by simp[hp]
   rw[c1] at h2;have ah:=(Kc.1 h2).1;rw[List.getElem?_range (by simpa using ah)] at h2;simpa using h2.symm
  have aa:∀ p∈ls,ZtY X Y p.1 p.2 (rs.getD p.1 false):=by
   intro p hp;obtain⟨i,hi⟩:=LA hp;have e:=ae i p hi;obtain⟨u,v,r,g1,g2,g3,g4⟩:=r3 i p.2 (by simp[hi]);refine⟨u,v,by rw[e];simpa using g1,by rw[e];simpa using g2,?_⟩;rw[e,List.getD_eq_getElem?_getD,g3];exact g4
  have ai:X.size=cs.length:=by have:=hX.length;simpa using this.symm
  have aj:Y.size=ds.length:=by have:=hY.length;simpa using this.symm
  have hb:=ZAI h;have ag:∀ Z:Array Value,Z.size=P.cellsOf t→ZiI P t 0 Z (.agg Z):=by
   intro Z hZ;simp only[ZiI,c2,Kl,K8,← hZ];simp
  have af:=Zpc (P:=P) (w:=w) (rs:=rs) 5 h1 aa 9995 (.agg X) (.agg Y) (ag X (by rw[ai,hb.1,ad])) (ag Y (by rw[aj,hb.2,ad]));refine⟨?_,c3⟩;rw[af,r2,← Zsp rs,r1,ad,← c1,List.all_map];rfl
 ·cases hk
theorem Zu8 {o:Oper} {op:BinOp} {t aa : TypeId} {x y:Operand} {x' y' : Opd} {ks:List Nat} {neg:Bool} {Γ:Gh} {a:Act} {sl:Sl} (ho:o.op=.binOp op t x y aa) (ab:op=(if neg then .neq else .eql)) (hs:Za2 Γ w I sl a) (hx:ZW x=some x') (hy:ZW y=some y') (hk:ZvM P t=some ks) {ce:Ze}
  (hv:Zum neg ks (evO sl x') (evO sl y')=some ce):X7 P Γ I o a w ce:=by
 have h1:=hs.ev hx;have h2:=hs.ev hy;unfold Zum at hv;split at hv
 ·rename_i cs ds hc hd;rw[hc] at h1;rw[hd] at h2;obtain⟨R,h3,hv⟩:=Za hv;obtain⟨X,e1,r1⟩:=ZpI h1;obtain⟨Y,e2,r2⟩:=ZpI h2;obtain⟨g1,g2⟩:=ZAJ hk h3 r1 r2;have hg:(eqGuard op t x y (.agg X) (.agg Y)).run P w=.ok () w:=run_eqGuard_agg w op t x y X Y g2;have hb:(binOp op t (.agg X) (.agg Y)).run P w=.ok (.bool (ZpT neg R)) w:=by
   subst ab;cases neg
   ·simp only[Ka,Km,run_eql_struct,g1,Result.andThen_ok,ZpT]
   ·simp only[Kl,run_neq_struct,g1,Result.andThen_ok,ZpT]
  exact⟨_,_,.inl (by simp[execOp,ho,e1,e2,hg,hb]),Qr hv,Qi.2 (Zbn _)⟩
 ·cases hv
end
end Go.Abs
namespace Go.Abs
open Go
theorem ZcR (hp:Hp):∀ ids:List Nat,(Zdr hp ids).length=ids.length
 | []=>rfl
 | _ :: ids=>congrArg (·+1) (ZcR hp ids)
theorem Zsq {ids:List Nat} (h:ids.Nodup) {i j id:Nat} (hi:ids[i]?=some id) (hj:ids[j]?=some id):i=j:=
 (Zh2 h hi).symm.trans (Zh2 h hj)
theorem ZD:∀ (l:Hp) (hp:Hp) (id:Nat),(∀ o,(id,o)∉l)→lkp (Zi hp l) id=lkp hp id
 | [],hp,id,_=>rfl
 | (k,x) :: r,hp,id,h=>by
  simp only[Zi];rw[ZD r _ id fun o ho=>h o (Kv _ ho),Qg,Ke];intro e;subst e;exact h x (Lh ..)
section
variable {P:Program} {nt:Nat} {U:Nat→Prop} {F A I:Nat→Prop} {Γ:Gh} {sl:Sl} {hp:Hp} {a:Act} {w:World}
theorem Zyt {Γ' : Gh} {w' : World} {I' : Nat→Prop} {g:Nat→Nat} (hk:ZO I I' w w'):∀ {xs:List AV} {vs:List Value},J1 Γ Γ' g (xs.flatMap Zx)→Zy (Rep Γ w I) xs vs→Zy (Rep Γ' w' I') (xs.map (ren g)) vs
 | [],[],_,_=>trivial
 | [],_ :: _,_,h=>h.elim
 | _ :: _,[],_,h=>h.elim
 | x :: xs,v :: vs,hg,h=>⟨ZoP (fun id aa=>hg id (by simp only[KQ,Kh];exact .inl aa)) hk h.1,Zyt hk (fun id aa=>hg id (by simp only[KQ,Kh];exact .inr aa)) h.2⟩
theorem Zjx {ids:List Nat} (aa:∀ id∈ids,∃ o,lkp hp id=some o) {k:Nat} {o:Zk} (h:lkp (VR 0 ((Zdr hp ids).map (Zal ids))) k=some o) :
  ∃ id o0,ids[k]?=some id∧lkp hp id=some o0∧o=Zal ids o0:=by
 rw[WG] at h;simp only[Kaj,Kl,Nat.sub_zero,Ld,Zo6,Option.map_map] at h;cases hk:ids[k]? with
 | none=>rw[hk] at h;cases h
 | some id=>
  rw[hk] at h;simp only[K4,Option.some.injEq,Function.comp_apply] at h;obtain⟨o0,ab⟩:=aa id (Kb hk);rw[ab] at h;exact⟨id,o0,rfl,ab,h.symm⟩
theorem ZAK (h:Sim nt F A I Γ U sl hp a w) {ids ab:List Nat} (aj:ids.Nodup) (aa:∀ id∈ids,∃ o,lkp hp id=some o) (ad:¬ab.any ids.contains=true)
  {as1:List AV} {vs:List Value} (ak:Zy (Rep Γ w (Zg2 Γ w hp I ab)) as1 vs) (ae:∀ id∈as1.flatMap Zx,id∈ids) :
  Pre (Zzi Γ w hp ids w.heap.size) (calA Γ w hp ids w.heap.size I A) (Zg2 Γ w hp I ab) (Zgv ids Γ) ((Zdr hp ids).map (Zal ids)) (as1.map (ren (VI ids))) vs w where
 args:=Zyt (ZO.refl _ w) (Zgw ae) ak
 objs:=fun k o hk=>by
  obtain⟨id,o0,h1,h2,rfl⟩:=Zjx aa hk;refine Zu6 h1 (h.objs id o0 h2) (fun b hb=>.inl hb) (fun b hb=>.inr ⟨id,Kb h1,o0,h2,hb⟩) (fun b hb ha=>.inr ⟨hb,ha⟩) fun b hb ag=>?_;rcases ag with ag | ⟨af,ah,o',al,_,am⟩
  ·exact ag
  ·have:=h.inj id af o0 _ b h2 al hb am;subst this;exact absurd (LM.2 ⟨id,ah,by simpa using Kb h1⟩) ad
 inj:=fun i j o o' b hi hj an ao=>by
  obtain⟨id,o0,h1,h2,rfl⟩:=Zjx aa hi;obtain⟨af,o1,h3,h4,rfl⟩:=Zjx aa hj;have bk:∀ (k id:Nat) (o0:Zk),ids[k]?=some id→Blk (Zgv ids Γ) w k (Zal ids o0) b→Blk Γ w id o0 b:=by
   intro k id o0 hk hb;rcases hb with hb | hb | hb
   ·rw[Y3 hk] at hb;unfold Zal at hb;rw[Zme,ZjE] at hb;exact .inl hb
   ·cases o0 with
    | box cs=>exact False.elim hb
    | row sz xs ex fz=>exact False.elim hb
    | gone=>exact False.elim hb
    | tree sz ns xs lk=>
     obtain⟨g,p,h5,h6⟩:=hb;rw[Y3 hk] at h5;rw[Uv,Uw] at h6;exact .inr (.inl ⟨g,p,h5,h6⟩)
   ·cases o0 with
    | box cs=>exact .inr (.inr ((Buf.unmap (Uh _) (Buf.unmap (Zbo _) hb)).ren (Y3 hk).symm))
    | row sz xs ex fz=>exact False.elim hb
    | gone=>exact False.elim hb
    | tree sz ns xs lk=>exact False.elim hb
  have:=h.inj id af o0 o1 b h2 h4 (bk i id o0 h1 an) (bk j af o1 h3 ao);subst this;exact Zsq aj h1 h3
 bound:=fun b hb=>by
  rcases hb with hb | ⟨id,ai,o,hl,_,hb⟩
  ·exact h.bound b hb
  ·exact h.blk_lt hl hb
 fresh:=fun b hb=>.inl hb
 own:=fun b hb=>.inl hb
 names:=fun id ai=>by
  simp only[KB,ZcR] at ai;simp only[Zgv,KZ ai]
 glob:=h.glob.mono ⟨fun b hb=>.inl hb,fun _ _=>rfl⟩
theorem ZCj {C:Orc} {M:Zq} (hC:QJ P C) (h:Sim nt F A I Γ U sl hp a w) {o:Oper} {fo:Operand} {as1:Array Operand} {ay:Array TypeId} {f' : Opd} {ys:List Opd}
  (ho:o.op=.call { callee:=.value fo,args:=as1,argTypes:=ay }) (hf:ZW fo=some f') (az:QF ZW as1.toList=some ys) {base:Nat} (hb:Xa U base) (hd:QP nt o.dst=true) {ce:Ze}
  (a0:QX base (base+64) ce.eff.adds=true) (hv:Zdu C M hp base (evL sl ys) (evO sl f')=some ce):Zu4 P nt F A I Γ U sl hp a w o base ce:=by
 have aw:=h.slOK.ev hf;unfold Zdu at hv;split at hv
 ·rename_i g ag hq;rw[hq] at aw;obtain⟨us,e1,a1⟩:=aw;unfold ZcX at hv;obtain⟨an,ao,hv⟩:=Za hv;unfold ZeV at hv;split at hv
  ·rename_i ah;obtain⟨ai,ab,_⟩:=ah;obtain⟨⟨r,out⟩,a2,hv⟩:=Za hv;obtain⟨ax,_,aj⟩:=UA hp (XN hp) (an.flatMap Zx) [] Lw;have aa : ∀ id∈Q6 hp (XN hp) (an.flatMap Zx) [],∃ o,lkp hp id=some o:=fun id ap=>(aj id ap).resolve_left (by simp);have aq:Zy (Rep Γ w I) (evL sl ys++ag) (as1.toList.map a.eval++us.toList):=(h.slOK.evL az).append (a1.mono fun _ _ h=>h.rep2.rep);have ak:=Zyq h.hpOK (I':=Zg2 Γ w hp I (Yx (evL sl ys++ag) an)) (fun b hb=>.inl hb) (M g) 0 aq ao (ZwT h.hpOK _);have ar:=ZAK h ax aa ab ak (fun id ap=>by have:=KW.1 ai id ap;simpa using this);obtain⟨⟨fn,a3,al,ad⟩,ae⟩:=hC _ _ _ _ _ a2
   have af:=ae _ _ _ _ _ _ ar;have au:(execOp a.eval o).run P w=.ok (.enter g (as1.toList.map a.eval++us.toList).toArray) w:=by
    have av:(as1.toList.map a.eval++us.toList).toArray=as1.map a.eval++us:=by apply Array.ext';simp
    rw[av];have a4 : ¬fn.name = "runtime.NumGoroutine":=by simpa using al
    have a5 : ¬fn.body=none:=fun e=>by rw[e] at ad;cases ad
    simp[execOp,ho,resolve,Deferred.ofValue,e1,invoke,callFunc,a3,a4,a5]
   intro K Q hK;unfold Oper.wp;rw[au,Oper.upon_enter];refine af.mono fun e w' he=>?_;obtain⟨v,I',Γ',rfl,am⟩:=he;exact hK v w' (Zzj h hb ax aa ab am hv a0 hd)
  ·cases hv
 ·cases hv
theorem ZCk {C:Orc} {M:Zq} (hC:QJ P C) (h:Sim nt F A I Γ U sl hp a w) {o:Oper} {c:COp} (hc:cOp P o.type o.op=some c) {base:Nat} (hb:Xa U base) (hd:QP nt o.dst=true) {ce:Ze}
  (ag:QX base (base+64) ce.eff.adds=true) (hv:vop C M sl hp base c=some ce):Zu4 P nt F A I Γ U sl hp a w o base ce:=by
 have hs:=h.slOK;have hh:=h.hpOK;cases hop:o.op with
 | move x=>
  rw[hop] at hc;simp only[cOp] at hc;obtain⟨y,h1,hc⟩:=Za hc;cases hc;exact((Zmu (.inl hop) hs h1 hv).opOK h hb hd).opWp
 | assign x=>
  rw[hop] at hc;simp only[cOp] at hc;obtain⟨y,h1,hc⟩:=Za hc;cases hc;exact(Zz5 h hop h1 hb hd ag hv).opWp
 | pick x y z=>
  rw[hop] at hc;simp only[cOp] at hc;obtain⟨x',h1,hc⟩:=Za hc;obtain⟨y',h2,hc⟩:=Za hc;obtain⟨z',h3,hc⟩:=Za hc;cases hc;exact((Zz1 hop hs h1 h2 h3 hv).opOK h hb hd).opWp
 | alloc t=>
  rw[hop] at hc;simp only[cOp] at hc;obtain⟨z,h1,hc⟩:=Za hc;cases hc;exact(ZBt h hop h1 hb hd ag hv).opWp
 | box t x=>
  rw[hop] at hc;simp only[cOp] at hc;obtain⟨y,h1,hc⟩:=Za hc;cases hc;exact(op_box h hop h1 hb hd ag hv).opWp
 | build t ps=>
  rw[hop] at hc;simp only[cOp] at hc;obtain⟨z,h1,hc⟩:=Za hc;obtain⟨qs,h2,hc⟩:=Za hc;split at hc
  ·rename_i hf;cases hc;exact((ZxL hop h1 hf hs h2 hv).opOK h hb hd).opWp
  ·cases hc
 | buildSlice t n ps=>
  rw[hop] at hc;simp only[cOp] at hc;obtain⟨e,h1,hc⟩:=Za hc;obtain⟨ys,h2,hc⟩:=Za hc;split at hc
  ·rename_i hf;cases hc;exact(ZxM h hop h1 h2 hf.1 hf.2.1 hf.2.2 hb hd hv).opWp
  ·cases hc
 | load t x=>
  rw[hop] at hc;simp only[cOp] at hc;obtain⟨g,h1,hc⟩:=Za hc;obtain⟨y,h2,hc⟩:=Za hc;cases hc;exact((Zz2 hop hs hh h1 h2 hv).opOK h hb hd).opWp
 | store t x y=>
  rw[hop] at hc;simp only[cOp] at hc;obtain⟨x',h1,hc⟩:=Za hc;obtain⟨y',h2,hc⟩:=Za hc;split at hc
  ·rename_i hf;cases hc;exact(ZBq h hop hf h1 h2 hb hd ag hv).opWp
  ·cases hc
 | nilCheck x=>
  rw[hop] at hc;simp only[cOp] at hc;obtain⟨y,h1,hc⟩:=Za hc;cases hc;exact((ZrS hop hs h1 hv).opOK h hb hd).opWp
 | binOp op t x y ty' =>
  rw[hop] at hc;simp only[cOp] at hc;obtain⟨x',h1,hc⟩:=Za hc;obtain⟨y',h2,hc⟩:=Za hc;cases hc;have plain:vop C M sl hp base (.bin op (Zii P t) x' y')=some ce→Zu4 P nt F A I Γ U sl hp a w o base ce:=fun hv=>((ZBm hop hs h1 h2 hv).opOK h hb hd).opWp;cases op with
  | eql=>
   simp only[Zxl] at hv;cases hk:ZvM P t with
   | some ks=>rw[hk] at hv;exact((Zu8 (neg:=false) hop rfl hs h1 h2 hk hv).opOK h hb hd).opWp
   | none=>rw[hk] at hv;exact plain hv
  | neq=>
   simp only[Zxl] at hv;cases hk:ZvM P t with
   | some ks=>rw[hk] at hv;exact((Zu8 (neg:=true) hop rfl hs h1 h2 hk hv).opOK h hb hd).opWp
   | none=>rw[hk] at hv;exact plain hv
  | _=>exact plain hv
 | unOp op t x=>
  rw[hop] at hc;simp only[cOp] at hc;obtain⟨x',h1,hc⟩:=Za hc;cases hc;exact((ZCK hop hs h1 hv).opOK h hb hd).opWp
 | convert s d x=>
  rw[hop] at hc;simp only[cOp] at hc;obtain⟨x',h1,hc⟩:=Za hc;exact((Zz3 hop hs h1 hc hv).opOK h hb hd).opWp
 | makeFunc fn fs cs=>
  rw[hop] at hc;cases fn<;>simp only[cOp] at hc<;>try (cases hc;done)
  split at hc
  ·rename_i he;obtain⟨ys,h1,hc⟩:=Za hc;cases hc;exact((ZCR hop he hs h1 hv).opOK h hb hd).opWp
  ·cases hc
 | makeSlice t l cc=>
  rw[hop] at hc;simp only[cOp] at hc;obtain⟨e,h1,hc⟩:=Za hc;obtain⟨l',h2,hc⟩:=Za hc;obtain⟨c',h3,hc⟩:=Za hc;obtain⟨z,h4,hc⟩:=Za hc;obtain⟨d,h5,hc⟩:=Za hc;split at hc
  ·rename_i hf;cases hc;simp only[vop] at hv;obtain⟨n,h6,hv⟩:=Za hv;obtain⟨m,h7,hv⟩:=Za hv;exact(ZCQ h hop h1 h2 h3 h4 h5 hf hb hd h6 h7 hv).opWp
  ·cases hc
 | slice t x lo hi mx=>
  rw[hop] at hc;have pure:∀ {r:AV} {u:Value},(Instr.sliceAt t (a.eval x) (lo.map a.eval) (hi.map a.eval) (mx.map a.eval)).run P w=.ok u w→Rep Γ w I r u→ce=ceV r→Zu4 P nt F A I Γ U sl hp a w o base ce:=by
   intro r u h1 h2 h3;exact(X7.opOK h hb hd (P:=P) (o:=o) (ce:=ce) ⟨u,r,.inl (by simp[execOp,hop,h1]),h3,h2⟩).opWp
  cases mx with
  | none=>
   simp only[cOp] at hc;obtain⟨x',h1,hc⟩:=Za hc;obtain⟨ak,h2,hc⟩:=Za hc;obtain⟨aj,h3,hc⟩:=Za hc;unfold Zxm at hc;split at hc
   ·rename_i e he;split at hc
    ·rename_i ab;cases hc;obtain⟨r,h4,h5⟩:=opt1_some hv;obtain⟨u,h6,h7⟩:=Zz0 (P:=P) he (K9.1 ab) hh (hs.evM h2) (hs.evM h3) (hs.ev h1) h4;exact pure h6 h7 h5
    ·cases hc
   ·split at hc
    ·rename_i ah;cases hc;obtain⟨r,h4,h5⟩:=opt1_some hv;obtain⟨u,h6,h7⟩:=ZxG (P:=P) ah (hs.evM h2) (hs.evM h3) (hs.ev h1) h4;exact pure h6 h7 h5
    ·cases hc
  | some m=>
   cases lo with
   | some l=>cases hi with
    | none=>simp only[cOp] at hc;cases hc
    | some hi=>
     simp only[cOp] at hc;obtain⟨e,he,hc⟩:=Za hc;split at hc
     ·rename_i ab;obtain⟨x',h1,hc⟩:=Za hc;obtain⟨ak,h0,hc⟩:=Za hc;obtain⟨aj,h2,hc⟩:=Za hc;obtain⟨m',h3,hc⟩:=Za hc;cases hc;obtain⟨r,h4,h5⟩:=opt1_some hv;obtain⟨u,h6,h7⟩:=ZxF (P:=P) he (K9.1 ab) hh (hs.ev h1) (hs.ev h0) (hs.ev h2) (hs.ev h3) h4;exact pure h6 h7 h5
     ·cases hc
   | none=>cases hi with
    | none=>simp only[cOp] at hc;cases hc
    | some hi=>
     simp only[cOp] at hc;obtain⟨e,he,hc⟩:=Za hc;split at hc
     ·rename_i ab;obtain⟨x',h1,hc⟩:=Za hc;obtain⟨aj,h2,hc⟩:=Za hc;obtain⟨m',h3,hc⟩:=Za hc;cases hc;obtain⟨r,h4,h5⟩:=opt1_some hv;obtain⟨u,h6,h7⟩:=ZxE (P:=P) he (K9.1 ab) hh (hs.ev h1) (hs.ev h2) (hs.ev h3) h4;exact pure h6 h7 h5
     ·cases hc
 | fieldAddr s x f=>
  rw[hop] at hc;simp only[cOp] at hc;obtain⟨q,h1,hc⟩:=Za hc;obtain⟨x',h2,hc⟩:=Za hc;cases hc;exact((ZxH hop hs h1 h2 hv).opOK h hb hd).opWp
 | field t x f=>
  rw[hop] at hc;simp only[cOp] at hc;obtain⟨q,h1,hc⟩:=Za hc;obtain⟨g,h2,hc⟩:=Za hc;obtain⟨x',h3,hc⟩:=Za hc;cases hc;exact((Zz4 hop hs h1 h2 h3 hv).opOK h hb hd).opWp
 | indexAddr t x i=>
  rw[hop] at hc;simp only[cOp] at hc;obtain⟨x',h1,hc⟩:=Za hc;obtain⟨i',h2,hc⟩:=Za hc;unfold ZpV at hc;split at hc
  ·rename_i e he;split at hc
   ·rename_i ab;cases hc;simp only[vop] at hv;obtain⟨n,h3,hv⟩:=Za hv;unfold ZiV at hv;split at hv
    ·rename_i h0;obtain⟨r,h4,h5⟩:=opt1_some hv;obtain⟨u,h6,h7⟩:=ZzK (P:=P) he (K9.1 ab) hh (hs.ev h1) (hs.ev h2) h3 h0 h4;exact(X7.opOK h hb hd (P:=P) (o:=o) (ce:=ce) ⟨u,r,.inl (by simp[execOp,hop,h6]),h5,h7⟩).opWp
    ·cases hv
   ·cases hc
  ·obtain⟨q,h3,hc⟩:=Za hc;split at hc
   ·rename_i ab;cases hc;simp only[vop] at hv;obtain⟨n,h4,hv⟩:=Za hv;obtain⟨u,r,h5,h6,h7⟩:=ZzJ (P:=P) h3 (K9.1 ab) (hs.ev h1) (hs.ev h2) h4 hv;exact(X7.opOK h hb hd (P:=P) (o:=o) (ce:=ce) ⟨u,r,.inl (by simp[execOp,hop,h5]),h6,h7⟩).opWp
   ·cases hc
 | index t x i=>
  rw[hop] at hc;simp only[cOp] at hc;obtain⟨x',h1,hc⟩:=Za hc;obtain⟨i',h2,hc⟩:=Za hc;exact((ZxI hop hs h1 h2 hc hv).opOK h hb hd).opWp
 | extract x i=>
  rw[hop] at hc;simp only[cOp] at hc;obtain⟨x',h1,hc⟩:=Za hc;cases hc;exact((ZBn hop hs h1 hv).opOK h hb hd).opWp
 | call cl=>
  obtain⟨callee,args,af⟩:=cl;cases callee with
  | value fo=>
   rw[hop] at hc;simp only[cOp] at hc;obtain⟨f',h1,hc⟩:=Za hc;obtain⟨ys,h2,hc⟩:=Za hc;cases hc;exact ZCj hC h hop h1 h2 hb hd ag hv
  | builtin bi=>
   rw[hop] at hc;simp only[cOp] at hc;have ad:∀ {r:AV} {u:Value},(∀ cs,(builtin bi af o.type cs (args.map a.eval)).run P w=.ok (.value u) w)→Rep Γ w I r u→ce=ceV r→Zu4 P nt F A I Γ U sl hp a w o base ce:=by
    intro r u h1 h2 h3;exact(X7.opOK h hb hd (P:=P) (o:=o) (ce:=ce) ⟨u,r,.inl (by simp only[execOp,hop,resolve,invoke,Sem.run_bind,Sem.run_pure,Result.andThen_ok,h1]),h3,h2⟩).opWp
   unfold ZbO at hc;split at hc
   ·rename_i x t aa ae;have e1:args = #[x]:=by apply Array.ext';simpa using aa
    have e2:af = #[t]:=by apply Array.ext';simpa using ae
    subst e1;subst e2;obtain⟨x',h1,hc⟩:=Za hc;unfold cLen at hc;split at hc
    ·rename_i e he;cases hc;simp only[vop] at hv;obtain⟨n,h2,hv⟩:=Za hv;refine ad (u:=.int .i64 n) ?_ (ZbC _ _) (Qr hv);have:=ZCJ (P:=P) (ty:=o.type) he hh (hs.ev h1) h2;simp[builtin,this]
    ·split at hc
     ·rename_i ah;cases hc;simp only[vop] at hv;obtain⟨n,h2,hv⟩:=Za hv;refine ad (u:=.int .i64 n) ?_ (ZbC _ _) (Qr hv);have:=ZBj (P:=P) (w:=w) (ty:=o.type) ah (hs.ev h1) h2;simp[builtin,this]
     ·cases hc
   ·rename_i s x t u aa ae;have e1:args = #[s,x]:=by apply Array.ext';simpa using aa
    have e2:af = #[t,u]:=by apply Array.ext';simpa using ae
    subst e1;subst e2;obtain⟨e,h1,hc⟩:=Za hc;obtain⟨str,h2,hc⟩:=Za hc;obtain⟨s',h3,hc⟩:=Za hc;obtain⟨x',h4,hc⟩:=Za hc;split at hc
    ·rename_i ai;cases hc;exact(ZxQ h hop h1 h2 ai h3 h4 hb hd hv).opWp
    ·cases hc
   ·rename_i x y aa;have e1:args = #[x,y]:=by apply Array.ext';simpa using aa
    subst e1;obtain⟨x',h1,hc⟩:=Za hc;obtain⟨y',h2,hc⟩:=Za hc;cases hc;obtain⟨z,r,h3,h4,h5⟩:=(Zqj (P:=P) (hs.ev h1) (hs.ev h2) af o.type).1 hv;exact ad (u:=z) (by simp[builtin,h3]) h5 h4
   ·rename_i x y aa;have e1:args = #[x,y]:=by apply Array.ext';simpa using aa
    subst e1;obtain⟨x',h1,hc⟩:=Za hc;obtain⟨y',h2,hc⟩:=Za hc;cases hc;obtain⟨z,r,h3,h4,h5⟩:=(Zqj (P:=P) (hs.ev h1) (hs.ev h2) af o.type).2 hv;exact ad (u:=z) (by simp[builtin,h3]) h5 h4
   ·rename_i x t aa ae;have e1:args = #[x]:=by apply Array.ext';simpa using aa
    have e2:af = #[t]:=by apply Array.ext';simpa using ae
    subst e1;subst e2;obtain⟨e,h1,hc⟩:=Za hc;obtain⟨x',h2,hc⟩:=Za hc;obtain⟨z,h3,hc⟩:=Za hc;obtain⟨d,h4,hc⟩:=Za hc;split at hc
    ·rename_i ai;cases hc;exact(ZBv h hop h1 h2 h3 h4 ai hb hd hv).opWp
    ·cases hc
   ·cases hc
  | invoke r m=>rw[hop] at hc;simp only[cOp] at hc;cases hc
 | _=>rw[hop] at hc;simp only[cOp] at hc;cases hc
theorem ZwX {C:Orc} {M:Zq} (hC:QJ P C) (h:Sim nt F A I Γ U sl hp a w) {o:Oper} {c:COp} (hc:VK (cOp P o.type o.op)=c) {base:Nat} (hb:Xa U base) (hd:QP nt o.dst=true) {ce:Ze}
  (aa:QX base (base+64) ce.eff.adds=true) (hv:vop C M sl hp base c=some ce):Zu4 P nt F A I Γ U sl hp a w o base ce:=by
 cases hq:cOp P o.type o.op with
 | none=>rw[hq] at hc;simp only[VK] at hc;subst hc;simp only[vop] at hv;cases hv
 | some c'=>rw[hq] at hc;simp only[VK] at hc;subst hc;exact ZCk hC h hq hb hd aa hv
def isBA:COp→Bool
 | .buildSl _ _=>true
 | .append _ _ _ _ _ _=>true
 | .assign _ _=>true
 | .make _ _ _ _ _=>true
 | _=>false
def NB (x:Option COp):Prop:=∀ c,isBA c=true→x≠some c
theorem NB.bnd {α:Type} {y:Option α} {f:α→Option COp} (h:∀ a,NB (f a)):NB (bnd y f):=by
 intro c hc e;obtain⟨a,_,e⟩:=Za e;exact h a c hc e
theorem NB.ite {c:Prop} [Decidable c] {x y:Option COp} (hx:NB x) (hy:NB y):NB (if c then x else y):=by
 split<;>assumption
theorem NB.none:NB none:=fun _ _ e=>by cases e
theorem NB.some {c:COp} (h:isBA c=false):NB (some c):=fun c' hc e=>by cases e;rw[h] at hc;cases hc
def VT:Op→Bool
 | .buildSlice _ _ _=>true
 | .call { callee:=.builtin .append,args:=_,argTypes:=_ }=>true
 | .assign _=>true
 | .makeSlice _ _ _=>true
 | _=>false
theorem Zki {ty:TypeId} {op:Op} (h:VT op=false):NB (cOp P ty op):=by
 unfold cOp;split<;>try (simp[VT] at h;done)
 all_goals (try unfold ZpV);(try unfold Zun);(try unfold ZyK);(try unfold Zxm);(try unfold ZbO)
 all_goals repeat' first | exact NB.none | exact NB.some rfl | refine NB.bnd fun _=>?_ | refine NB.ite ?_ ?_ | split
 all_goals first
  | (unfold cLen;split<;>repeat' first | exact NB.none | exact NB.some rfl | refine NB.ite ?_ ?_)
  | (unfold Zxl;split<;>(try unfold ZvN)<;>(try split)<;>exact NB.some rfl)
  | exact absurd h (by simp[VT])
  | skip
theorem ZCl {C:Orc} {M:Zq} (hC:QJ P C) (h:Sim nt F A I Γ U sl hp a w) {o:Oper} {c:COp} (hc:VK (cOp P o.type o.op)=Ze8 c) {base:Nat} (hb:Xa U base) (hd:QP nt o.dst=true) {ce:Ze}
  (al:QX base (base+64) ce.eff.adds=true) (hv:vop C M sl hp base c=some ce):Zu4 P nt F A I Γ U sl hp a w o base ce:=by
 by_cases ah:∃ s b f x y,c=.appT s b f x y
 ·obtain⟨s,b,f,x,y,rfl⟩:=ah;simp only[Ze8] at hc;simp only[vop] at hv;cases hq:cOp P o.type o.op with
  | none=>rw[hq] at hc;simp[VK] at hc
  | some c' =>
   rw[hq] at hc;simp only[VK] at hc;subst hc;cases hop:VT o.op with
   | false=>exact(Zki hop _ rfl hq).elim
   | true=>
    unfold VT at hop;split at hop
    ·rename_i aa;rw[aa] at hq;simp only[cOp] at hq;obtain⟨_,_,hq⟩:=Za hq;obtain⟨_,_,hq⟩:=Za hq;split at hq<;>cases hq
    ·rename_i as1 ae aa;rw[aa] at hq;simp only[cOp] at hq;unfold ZbO at hq;split at hq
     ·rename_i hb _ _;cases hb
     ·rename_i s' x' t u _ ab af;have e1:as1 = #[s',x']:=by apply Array.ext';simpa using ab
      have e2:ae = #[t,u]:=by apply Array.ext';simpa using af
      subst e1;subst e2;obtain⟨e,h1,hq⟩:=Za hq;obtain⟨str,h2,hq⟩:=Za hq;obtain⟨s2,h3,hq⟩:=Za hq;obtain⟨x2,h4,hq⟩:=Za hq;split at hq
      ·rename_i ag;cases hq;exact(ZyW h aa h1 h2 ag h3 h4 hb hd hv).opWp
      ·cases hq
     ·rename_i hb _;cases hb
     ·rename_i hb _;cases hb
     ·rename_i hb _ _;cases hb
     ·cases hq
    ·rename_i aa;rw[aa] at hq;simp only[cOp] at hq;obtain⟨_,_,hq⟩:=Za hq;cases hq
    ·rename_i aa;rw[aa] at hq;simp only[cOp] at hq;obtain⟨_,_,hq⟩:=Za hq;obtain⟨_,_,hq⟩:=Za hq;obtain⟨_,_,hq⟩:=Za hq;obtain⟨_,_,hq⟩:=Za hq;obtain⟨_,_,hq⟩:=Za hq;split at hq<;>cases hq
    ·cases hop
 by_cases ai:∃ s n y,c=.asgT s n y
 ·obtain⟨s,n,y,rfl⟩:=ai;simp only[Ze8] at hc;simp only[vop] at hv;cases hq:cOp P o.type o.op with
  | none=>rw[hq] at hc;simp[VK] at hc
  | some c' =>
   rw[hq] at hc;simp only[VK] at hc;subst hc;cases hop:VT o.op with
   | false=>exact(Zki hop _ rfl hq).elim
   | true=>
    unfold VT at hop;split at hop
    ·rename_i aa;rw[aa] at hq;simp only[cOp] at hq;obtain⟨_,_,hq⟩:=Za hq;obtain⟨_,_,hq⟩:=Za hq;split at hq<;>cases hq
    ·rename_i as1 ae aa;rw[aa] at hq;simp only[cOp] at hq;unfold ZbO at hq;split at hq
     ·rename_i hb _ _;cases hb
     ·obtain⟨_,_,hq⟩:=Za hq;obtain⟨_,_,hq⟩:=Za hq;obtain⟨_,_,hq⟩:=Za hq;obtain⟨_,_,hq⟩:=Za hq;split at hq<;>cases hq
     ·rename_i hb _;cases hb
     ·rename_i hb _;cases hb
     ·rename_i hb _ _;cases hb
     ·cases hq
    ·rename_i aa;rw[aa] at hq;simp only[cOp] at hq;obtain⟨z,h1,hq⟩:=Za hq;simp only[Option.some.injEq,COp.assign.injEq] at hq;obtain⟨_,rfl⟩:=hq;exact(ZCU h aa h1 hb hd hv).opWp
    ·rename_i aa;rw[aa] at hq;simp only[cOp] at hq;obtain⟨_,_,hq⟩:=Za hq;obtain⟨_,_,hq⟩:=Za hq;obtain⟨_,_,hq⟩:=Za hq;obtain⟨_,_,hq⟩:=Za hq;obtain⟨_,_,hq⟩:=Za hq;split at hq<;>cases hq
    ·cases hop
 by_cases aj:∃ s n ys,c=.buildT s n ys
 ·obtain⟨s,n,ys,rfl⟩:=aj;simp only[Ze8] at hc;simp only[vop] at hv;cases hq:cOp P o.type o.op with
  | none=>rw[hq] at hc;simp[VK] at hc
  | some c' =>
   rw[hq] at hc;simp only[VK] at hc;subst hc;cases hop:VT o.op with
   | false=>exact(Zki hop _ rfl hq).elim
   | true=>
    unfold VT at hop;split at hop
    ·rename_i aa;rw[aa] at hq;simp only[cOp] at hq;obtain⟨e,h1,hq⟩:=Za hq;obtain⟨xs,h2,hq⟩:=Za hq;split at hq
     ·rename_i ad;obtain⟨c1,c2,c3⟩:=ad;cases hq;exact(ZAd h aa h1 h2 c1 c2 c3 hb hd hv).opWp
     ·cases hq
    ·rename_i as1 ae aa;rw[aa] at hq;simp only[cOp] at hq;unfold ZbO at hq;split at hq
     ·rename_i hb _ _;cases hb
     ·obtain⟨_,_,hq⟩:=Za hq;obtain⟨_,_,hq⟩:=Za hq;obtain⟨_,_,hq⟩:=Za hq;obtain⟨_,_,hq⟩:=Za hq;split at hq<;>cases hq
     ·rename_i hb _;cases hb
     ·rename_i hb _;cases hb
     ·rename_i hb _ _;cases hb
     ·cases hq
    ·rename_i aa;rw[aa] at hq;simp only[cOp] at hq;obtain⟨_,_,hq⟩:=Za hq;cases hq
    ·rename_i aa;rw[aa] at hq;simp only[cOp] at hq;obtain⟨_,_,hq⟩:=Za hq;obtain⟨_,_,hq⟩:=Za hq;obtain⟨_,_,hq⟩:=Za hq;obtain⟨_,_,hq⟩:=Za hq;obtain⟨_,_,hq⟩:=Za hq;split at hq<;>cases hq
    ·cases hop
 by_cases ak:∃ s b n z l k,c=.makeT s b n z l k
 ·obtain⟨s,b,n,z,l,k,rfl⟩:=ak;simp only[Ze8] at hc;simp only[vop] at hv;cases hq:cOp P o.type o.op with
  | none=>rw[hq] at hc;simp[VK] at hc
  | some c' =>
   rw[hq] at hc;simp only[VK] at hc;subst hc;cases hop:VT o.op with
   | false=>exact(Zki hop _ rfl hq).elim
   | true=>
    unfold VT at hop;split at hop
    ·rename_i aa;rw[aa] at hq;simp only[cOp] at hq;obtain⟨_,_,hq⟩:=Za hq;obtain⟨_,_,hq⟩:=Za hq;split at hq<;>cases hq
    ·rename_i as1 ae aa;rw[aa] at hq;simp only[cOp] at hq;unfold ZbO at hq;split at hq
     ·rename_i hb _ _;cases hb
     ·obtain⟨_,_,hq⟩:=Za hq;obtain⟨_,_,hq⟩:=Za hq;obtain⟨_,_,hq⟩:=Za hq;obtain⟨_,_,hq⟩:=Za hq;split at hq<;>cases hq
     ·rename_i hb _;cases hb
     ·rename_i hb _;cases hb
     ·rename_i hb _ _;cases hb
     ·cases hq
    ·rename_i aa;rw[aa] at hq;simp only[cOp] at hq;obtain⟨_,_,hq⟩:=Za hq;cases hq
    ·rename_i aa;rw[aa] at hq;simp only[cOp] at hq;obtain⟨e,h1,hq⟩:=Za hq;obtain⟨l',h2,hq⟩:=Za hq;obtain⟨c',h3,hq⟩:=Za hq;obtain⟨z',h4,hq⟩:=Za hq;obtain⟨d',h5,hq⟩:=Za hq;split at hq
     ·rename_i ag;cases hq;obtain⟨x,h6,hv⟩:=Za hv;obtain⟨y,h7,hv⟩:=Za hv;exact(ZBw h aa h1 h2 h3 h4 h5 ag hb hd h6 h7 hv).opWp
     ·cases hq
    ·cases hop
 have:Ze8 c=c:=by cases c<;>first | rfl | exact absurd ⟨_,_,_,rfl⟩ aj | exact absurd ⟨_,_,_,_,_,rfl⟩ ah | exact absurd ⟨_,_,_,rfl⟩ ai | exact absurd ⟨_,_,_,_,_,_,rfl⟩ ak
 rw[this] at hc;exact ZwX hC h hc hb hd al hv
end
end Go.Abs

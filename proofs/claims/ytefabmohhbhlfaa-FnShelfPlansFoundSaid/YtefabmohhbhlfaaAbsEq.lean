/- Own text. -/
import Derived.Test.YtefabmohhbhlfaaAbsPure
import Derived.Laws.StructEq
set_option linter.unusedVariables false
set_option linter.unusedSimpArgs false
namespace Go.Abs
open Go
section
variable {P:Program} {w:World} {I:Nat→Prop}
def Zoo (u v:Value) (kd:Nat) (r:Bool):Prop:=
 (kd = 0 ∧ ∃ k a b, u = .int k a ∧ v = .int k b ∧ r = decide (a = b)) ∨ (kd = 1 ∧ ∃ a b, u = .bool a ∧ v = .bool b ∧ r = decide (a = b)) ∨
   (kd=2∧∃ a b:ByteArray,u=.string a∧v=.string b∧r=decide (a.data.toList=b.data.toList))
def ZkC (X Y:Array Value) (o kd:Nat) (r:Bool):Prop:=∃ u v,X[o]?=some u∧Y[o]?=some v∧Zoo u v kd r
theorem Znh:∀ {ks:List Nat} {cs ds:List D} {R:Bool} {xs ys:List Value},Ws ks cs ds=some R→Qu w I cs xs→Qu w I ds ys →
  ∃ rs:List Bool,rs.length=ks.length∧R=rs.all id∧∀ (o kd:Nat),ks[o]?=some kd→∃ u v r,xs[o]?=some u∧ys[o]?=some v∧rs[o]?=some r∧Zoo u v kd r:=by
 intro ks
 induction ks with
 | nil=>
  intro cs ds R xs ys h hx hy;cases cs with
  | nil=>
   cases ds with
   | nil=>simp only[Ws] at h;cases h;exact⟨[],rfl,rfl,fun o kd hk=>by simp at hk⟩
   | cons d ds=>simp[Ws] at h
  | cons c cs=>simp[Ws] at h
 | cons kd ks ih=>
  intro cs ds R xs ys h hx hy;cases cs with
  | nil=>simp[Ws] at h
  | cons c cs=>
  cases ds with
  | nil=>simp[Ws] at h
  | cons d ds=>
  simp only[Qu] at hx hy;obtain⟨u,ag,rfl,_,hu,ah⟩:=hx;obtain⟨v,ai,rfl,_,hv,aj⟩:=hy;have ab:∀ (r0:Bool) (R0:Bool),Ws ks cs ds=some R0→R=(r0&&R0)→Zoo u v kd r0 →
    ∃ rs:List Bool,rs.length=(kd :: ks).length∧R=rs.all id∧∀ (o aa : Nat),(kd :: ks)[o]?=some aa→∃ u' v' r,(u :: ag)[o]?=some u'∧(v :: ai)[o]?=some v'∧rs[o]?=some r∧Zoo u' v' aa r:=by
   intro r0 R0 h0 hR hc;obtain⟨rs,h1,h2,h3⟩:=ih h0 ah aj;refine⟨r0 :: rs,by simp[h1],by rw[hR,h2];simp,fun o aa ho=>?_⟩;cases o with
   | zero=>simp at ho;subst ho;exact⟨u,v,r0,by simp,by simp,by simp,hc⟩
   | succ o=>
    simp at ho;obtain⟨u',v',r,g1,g2,g3,g4⟩:=h3 o aa ho;exact⟨u',v',r,by simpa using g1,by simpa using g2,by simpa using g3,g4⟩
  unfold Ws at h;split at h
  ·rename_i h1 _ _;cases h1
  ·rename_i ad k a ae k' b af e1 e2 e3;cases e1;cases e2;cases e3;split at h
   ·rename_i hk;subst hk;obtain⟨R0,h0,h⟩:=Za h;cases h;simp only[ZH] at hu hv;simp at hu hv;exact ab _ R0 h0 rfl (.inl ⟨rfl,k,a,b,hu,hv,rfl⟩)
   ·cases h
  ·rename_i ad a ae b af e1 e2 e3;cases e1;cases e2;cases e3;obtain⟨R0,h0,h⟩:=Za h;cases h;simp only[ZH] at hu hv;simp at hu hv;exact ab _ R0 h0 rfl (.inr (.inl ⟨rfl,a,b,hu,hv,rfl⟩))
  ·rename_i ad a ae b af e1 e2 e3;cases e1;cases e2;cases e3;obtain⟨R0,h0,h⟩:=Za h;cases h;simp only[ZH] at hu hv;obtain⟨ta,hu,rfl⟩:=hu;obtain⟨tb,hv,rfl⟩:=hv;simp at hu hv;exact ab _ R0 h0 rfl (.inr (.inr ⟨rfl,ta,tb,hu,hv,rfl⟩))
  ·cases h
def Zcq (P:Program) (t:TypeId) (off:Nat) (X:Array Value) (x:Value):Prop:=
 if QW P t=true then x=.agg (X.extract off (off+P.cellsOf t)) else X[off]?=some x
theorem Zop {t ft:TypeId} {off fo:Nat} {X:Array Value} {n:Nat} {ls:List (Nat×Nat)} {ab : Nat} (hl:UR P n ft ab=some ls) (ad:fo+P.cellsOf ft≤P.cellsOf t)
  (hc:∀ p∈ls,∃ u,X[p.1]?=some u) (ho:ab=off+fo):∃ xf,(part ft (X.extract off (off+P.cellsOf t)) fo).run P w=.ok xf w∧Zcq P ft (off+fo) X xf:=by
 subst ho;cases n with
 | zero=>simp[UR] at hl
 | succ n=>
 have aa:∀ kd,P.cellsOf ft=1→QW P ft=false→JZ P ft=some false→ls=[(off+fo,kd)]→∃ xf,(part ft (X.extract off (off+P.cellsOf t)) fo).run P w=.ok xf w∧Zcq P ft (off+fo) X xf:=by
  intro kd h1 h2 h3 h4;subst h4;obtain⟨u,hu⟩:=hc (off+fo,kd) (by simp)
  change X[off+fo]?=some u at hu
  refine⟨u,?_,by simp[Zcq,h2,hu]⟩;have ae:=(KF.1 hu).1;have e:(X.extract off (off+P.cellsOf t))[fo]?=some u:=by
   rw[Array.getElem?_extract,Ko (by omega),hu]
  simp[part,X5 h3,e]
 unfold UR at hl;split at hl
 ·rename_i k hk;split at hl
  ·cases hl;exact aa 0 (by assumption) (by simp[QW,hk]) (by simp[JZ,hk]) rfl
  ·cases hl
 ·rename_i hk;split at hl
  ·cases hl;exact aa 1 (by assumption) (by simp[QW,hk]) (by simp[JZ,hk]) rfl
  ·cases hl
 ·rename_i hk;split at hl
  ·cases hl;exact aa 2 (by assumption) (by simp[QW,hk]) (by simp[JZ,hk]) rfl
  ·cases hl
 ·rename_i fs hk;have hg:JZ P ft=some true:=by simp[JZ,hk]
  obtain⟨i,hi⟩:=ZbW hg;refine⟨.agg ((X.extract off (off+P.cellsOf t)).extract fo (fo+P.cellsOf ft)),by simp[part,X5 hg,Qq hi w],?_⟩;simp only[Zcq,QW,hk,Kk];congr 1
  rw[Array.extract_extract];congr 1
  omega
 ·cases hl
theorem ZgR {X Y:Array Value} {rs:List Bool}:∀ (m:Nat) {t:TypeId} {off:Nat} {ls:List (Nat×Nat)},UR P m t off=some ls→(∀ p∈ls,ZkC X Y p.1 p.2 (rs.getD p.1 false)) →
  ∀ (d:Nat) (x y:Value),Zcq P t off X x→Zcq P t off Y y→(Op.equalIn (d+m) t x y).run P w=.ok (ls.all fun p=>rs.getD p.1 false) w
 | 0,t,off,ls,h,_,_,_,_,_,_=>by simp[UR] at h
 | m+1,t,off,ls,h,hc,d,x,y,hx,hy=>by
  have aa:QW P t=false→X[off]?=some x∧Y[off]?=some y:=fun hs=>by simp[Zcq,hs] at hx hy;exact⟨hx,hy⟩
  have h0:=h;unfold UR at h;split at h
  ·rename_i k hk;split at h
   ·cases h;obtain⟨e1,e2⟩:=aa (by simp[QW,hk]);obtain⟨u,v,g1,g2,g3⟩:=hc (off,0) (by simp);simp only at g1 g2;rw[e1] at g1;rw[e2] at g2;cases g1;cases g2;rcases g3 with ⟨_,k',a,b,rfl,rfl,hr⟩ | ⟨h,_⟩ | ⟨h,_⟩
    ·rw[← KI,run_equalIn_int w (d+m) t k' k a b hk];simp only[Lt,List.all_nil,LF,hr];congr 1
    ·simp at h
    ·simp at h
   ·cases h
  ·rename_i hk;split at h
   ·cases h;obtain⟨e1,e2⟩:=aa (by simp[QW,hk]);obtain⟨u,v,g1,g2,g3⟩:=hc (off,1) (by simp);simp only at g1 g2;rw[e1] at g1;rw[e2] at g2;cases g1;cases g2;rcases g3 with ⟨h,_⟩ | ⟨_,a,b,rfl,rfl,hr⟩ | ⟨h,_⟩
    ·simp at h
    ·rw[← KI,run_equalIn_bool' w (d+m) t a b hk];simp only[Lt,List.all_nil,LF,hr];cases a<;>cases b<;>rfl
    ·simp at h
   ·cases h
  ·rename_i hk;split at h
   ·cases h;obtain⟨e1,e2⟩:=aa (by simp[QW,hk]);obtain⟨u,v,g1,g2,g3⟩:=hc (off,2) (by simp);simp only at g1 g2;rw[e1] at g1;rw[e2] at g2;cases g1;cases g2;rcases g3 with ⟨h,_⟩ | ⟨h,_⟩ | ⟨_,a,b,rfl,rfl,hr⟩
    ·simp at h
    ·simp at h
    ·rw[← KI,run_equalIn_string w (d+m) t a b hk];simp only[Lt,List.all_nil,LF,hr];rw[ByteArray.toList_eq,ByteArray.toList_eq];congr 1
     by_cases h:a.data.toList=b.data.toList
     ·simp[h]
     ·simp[h];exact fun e=>h (by rw[e])
   ·cases h
  ·rename_i fs hk;split at h
   ·cases h
   rename_i hp;obtain⟨lss,hm,h⟩:=Za h;cases h;have hs:QW P t=true:=by simp[QW,hk]
   simp only[Zcq,hs,Kk] at hx hy;subst hx;subst hy;have ad:P.fieldsOf t=fs:=by simp[Program.fieldsOf,hk]
   rw[← KI,run_equalIn_agg w (d+m) t _ _ (by rw[ad];exact hk) (by simpa using hp),ad];have ae:∀ (l:List Field) (lss:List (List (Nat×Nat))),Qb (fun f:Field=>if f.name = "_"∨P.cellsOf t<f.offset+P.cellsOf f.type then none else UR P m f.type (off+f.offset)) l=some lss →
     (∀ p∈lss.flatten,ZkC X Y p.1 p.2 (rs.getD p.1 false))→(Op.eqFields (d+m) (X.extract off (off+P.cellsOf t)) (Y.extract off (off+P.cellsOf t)) l).run P w=.ok (lss.flatten.all fun p=>rs.getD p.1 false) w:=by
    intro l
    induction l with
    | nil=>intro lss hm _;simp only[Qb] at hm;cases hm;rfl
    | cons f l ihl=>
     intro lss hm hc;simp only[Qb] at hm;obtain⟨l1,g1,hm⟩:=Za hm;obtain⟨l2,g2,hm⟩:=Za hm;cases hm;split at g1
     ·cases g1
     rename_i hf;simp only[not_or,Nat.not_lt] at hf;have ab:∀ p∈l1,ZkC X Y p.1 p.2 (rs.getD p.1 false):=fun p hp=>hc p (by simp[hp]);obtain⟨xf,p1,p2⟩:=Zop (w:=w) (t:=t) (off:=off) (fo:=f.offset) (X:=X) g1 hf.2 (fun p hp=>by obtain⟨u,v,e,_⟩:=ab p hp;exact⟨u,e⟩) rfl;obtain⟨yf,q1,q2⟩:=Zop (w:=w) (t:=t) (off:=off) (fo:=f.offset) (X:=Y) g1 hf.2 (fun p hp=>by obtain⟨u,v,_,e,_⟩:=ab p hp;exact⟨v,e⟩) rfl;have e1:=ZgR m g1 ab d xf yf p2 q2;simp only[Op.eqFields,ne_eq,hf.1,not_false_eq_true,Kk,Sem.run_bind,p1,q1,Result.andThen_ok,e1];cases hr:(l1.all fun p=>rs.getD p.1 false) with
     | false=>simp only[Bool.not_false,Kk,Sem.run_pure,KA,List.all_append,hr,Bool.false_and]
     | true=>
      simp only[Bool.not_true,Ka,Ki];rw[ihl l2 g2 (fun p hp=>hc p (by simp only[KA,Kd];exact .inr hp))];simp only[KA,List.all_append,hr,Bool.true_and]
   exact ae fs.toList lss hm hc
  ·cases h
theorem Zqy:∀ {ks:List Nat} {cs ds:List D} {R:Bool},Ws ks cs ds=some R→cs.length=ks.length∧ds.length=ks.length:=by
 intro ks
 induction ks with
 | nil=>
  intro cs ds R h;cases cs with
  | nil=>cases ds with
   | nil=>exact⟨rfl,rfl⟩
   | cons d ds=>simp[Ws] at h
  | cons c cs=>simp[Ws] at h
 | cons kd ks ih=>
  intro cs ds R h;cases cs with
  | nil=>simp[Ws] at h
  | cons c cs=>
  cases ds with
  | nil=>simp[Ws] at h
  | cons d ds=>
  unfold Ws at h;split at h
  ·rename_i h1 _ _;cases h1
  ·rename_i aa k a ab k' b ad e1 e2 e3;cases e1;cases e2;cases e3;split at h
   ·obtain⟨R0,h0,_⟩:=Za h;have:=ih h0;simp[this.1,this.2]
   ·cases h
  ·rename_i aa a ab b ad e1 e2 e3;cases e1;cases e2;cases e3;obtain⟨R0,h0,_⟩:=Za h;have:=ih h0;simp[this.1,this.2]
  ·rename_i aa a ab b ad e1 e2 e3;cases e1;cases e2;cases e3;obtain⟨R0,h0,_⟩:=Za h;have:=ih h0;simp[this.1,this.2]
  ·cases h
theorem Zjw:∀ (rs:List Bool),((List.range rs.length).all fun i=>rs.getD i false)=rs.all id
 | []=>rfl
 | r :: rs=>by
  rw[Kg,List.range_succ_eq_map,Lt,List.all_map];simp only[Lt,id_eq,List.getD_cons_zero];congr 1
  rw[← Zjw rs];rfl
theorem Zqz {t:TypeId} {ks:List Nat} (hk:Zl6 P t=some ks) {cs ds:List D} {R:Bool} {X Y:Array Value} (h:Ws ks cs ds=some R) (hX:Qu w I cs X.toList) (hY:Qu w I ds Y.toList) :
  (Op.equalIn 10000 t (.agg X) (.agg Y)).run P w=.ok R w∧P.eqGuardType P.depth t=false:=by
 unfold Zl6 at hk;obtain⟨ls,h1,hk⟩:=Za hk;split at hk
 ·rename_i hc;obtain⟨c1,c2,c3⟩:=hc;cases hk;obtain⟨rs,r1,r2,r3⟩:=Znh h hX hY;have ab:ls.length=P.cellsOf t:=by rw[← Kw (f:=(·.1)),c1,List.length_range]
  have ad:(ls.map (·.2)).length=P.cellsOf t:=by rw[Kw,ab]
  have ae:∀ (i:Nat) (p:Nat×Nat),ls[i]?=some p→p.1=i:=by
   intro i p hp;have h2:(ls.map (·.1))[i]?=some p.1:=by simp[hp]
   rw[c1] at h2;have ah:=(Kc.1 h2).1;rw[List.getElem?_range (by simpa using ah)] at h2;simpa using h2.symm
  have aa:∀ p∈ls,ZkC X Y p.1 p.2 (rs.getD p.1 false):=by
   intro p hp;obtain⟨i,hi⟩:=LL hp;have e:=ae i p hi;obtain⟨u,v,r,g1,g2,g3,g4⟩:=r3 i p.2 (by simp[hi]);refine⟨u,v,by rw[e];simpa using g1,by rw[e];simpa using g2,?_⟩;rw[e,Lu,g3];exact g4
  have ai:X.size=cs.length:=by have:=hX.length;simpa using this.symm
  have aj:Y.size=ds.length:=by have:=hY.length;simpa using this.symm
  have hb:=Zqy h;have ag:∀ Z:Array Value,Z.size=P.cellsOf t→Zcq P t 0 Z (.agg Z):=by
   intro Z hZ;simp only[Zcq,c2,Kk,Lo,← hZ];simp
  have af:=ZgR (P:=P) (w:=w) (rs:=rs) 5 h1 aa 9995 (.agg X) (.agg Y) (ag X (by rw[ai,hb.1,ad])) (ag Y (by rw[aj,hb.2,ad]));refine⟨?_,c3⟩;rw[af,r2,← Zjw rs,r1,ad,← c1,List.all_map];rfl
 ·cases hk
theorem ZlT {o:Oper} {op:BinOp} {t aa : TypeId} {x y:Operand} {x' y' : Opd} {ks:List Nat} {neg:Bool} {Γ:Gh} {a:Act} {sl:Sl} (ho:o.op=.binOp op t x y aa) (ab:op=(if neg then .neq else .eql)) (hs:Up Γ w I sl a) (hx:ZJ x=some x') (hy:ZJ y=some y') (hk:Zl6 P t=some ks) {ce:Zb}
  (hv:ZkJ neg ks (evO sl x') (evO sl y')=some ce):Q9 P Γ I o a w ce:=by
 have h1:=hs.ev hx;have h2:=hs.ev hy;unfold ZkJ at hv;split at hv
 ·rename_i cs ds hc hd;rw[hc] at h1;rw[hd] at h2;obtain⟨R,h3,hv⟩:=Za hv;obtain⟨X,e1,r1⟩:=ZgW h1;obtain⟨Y,e2,r2⟩:=ZgW h2;obtain⟨g1,g2⟩:=Zqz hk h3 r1 r2;have hg:(eqGuard op t x y (.agg X) (.agg Y)).run P w=.ok () w:=run_eqGuard_agg w op t x y X Y g2;have hb:(binOp op t (.agg X) (.agg Y)).run P w=.ok (.bool (Zg5 neg R)) w:=by
   subst ab;cases neg
   ·simp only[Ka,Ki,run_eql_struct,g1,Result.andThen_ok,Zg5]
   ·simp only[Kk,run_neq_struct,g1,Result.andThen_ok,Zg5]
  exact⟨_,_,.inl (by simp[execOp,ho,e1,e2,hg,hb]),Z4 hv,QE.2 (UA _)⟩
 ·cases hv
end
end Go.Abs

/- The abstract semantics and the model: structs side by side. Own text. -/
import Derived.Test.YtkdjbefmiiibpaaGreatDoorAbsPure
import Derived.Laws.StructEq
set_option linter.unusedVariables false
set_option linter.unusedSimpArgs false
namespace Go.Abs
open Go
section
variable {P:Program} {w:World} {I:Nat→Prop}
def ZxW (u v:Value) (kd:Nat) (r:Bool):Prop:=
 (kd = 0 ∧ ∃ k a b, u = .int k a ∧ v = .int k b ∧ r = decide (a = b)) ∨ (kd = 1 ∧ ∃ a b, u = .bool a ∧ v = .bool b ∧ r = decide (a = b)) ∨
   (kd=2∧∃ a b:ByteArray,u=.string a∧v=.string b∧r=decide (a.data.toList=b.data.toList))
def Zs4 (X Y:Array Value) (o kd:Nat) (r:Bool):Prop:=∃ u v,X[o]?=some u∧Y[o]?=some v∧ZxW u v kd r
theorem Zwx:∀ {ks:List Nat} {cs ds:List D} {R:Bool} {xs ys:List Value},Zbx ks cs ds=some R→Yj w I cs xs→Yj w I ds ys →
  ∃ rs:List Bool,rs.length=ks.length∧R=rs.all id∧∀ (o kd:Nat),ks[o]?=some kd→∃ u v r,xs[o]?=some u∧ys[o]?=some v∧rs[o]?=some r∧ZxW u v kd r:=by
 intro ks
 induction ks with
 | nil=>
  intro cs ds R xs ys h hx hy
  cases cs with
  | nil=>
   cases ds with
   | nil=>simp only[Zbx] at h;cases h;exact⟨[],rfl,rfl,fun o kd hk=>by simp at hk⟩
   | cons d ds=>simp[Zbx] at h
  | cons c cs=>simp[Zbx] at h
 | cons kd ks ih=>
  intro cs ds R xs ys h hx hy
  cases cs with
  | nil=>simp[Zbx] at h
  | cons c cs=>
  cases ds with
  | nil=>simp[Zbx] at h
  | cons d ds=>
  simp only[Yj] at hx hy
  obtain⟨u,xs',rfl,_,hu,hx'⟩:=hx
  obtain⟨v,ys',rfl,_,hv,hy'⟩:=hy
  have fin:∀ (r0:Bool) (R0:Bool),Zbx ks cs ds=some R0→R=(r0&&R0)→ZxW u v kd r0 →
    ∃ rs:List Bool,rs.length=(kd :: ks).length∧R=rs.all id∧∀ (o kd' : Nat),(kd :: ks)[o]?=some kd'→∃ u' v' r,(u :: xs')[o]?=some u'∧(v :: ys')[o]?=some v'∧rs[o]?=some r∧ZxW u' v' kd' r:=by
   intro r0 R0 h0 hR hc
   obtain⟨rs,h1,h2,h3⟩:=ih h0 hx' hy'
   refine⟨r0 :: rs,by simp[h1],by rw[hR,h2];simp,fun o kd' ho=>?_⟩
   cases o with
   | zero=>simp at ho;subst ho;exact⟨u,v,r0,by simp,by simp,by simp,hc⟩
   | succ o=>
    simp at ho
    obtain⟨u',v',r,g1,g2,g3,g4⟩:=h3 o kd' ho
    exact⟨u',v',r,by simpa using g1,by simpa using g2,by simpa using g3,g4⟩
  unfold Zbx at h
  split at h
  ·rename_i h1 _ _;cases h1
  ·rename_i ks' k a cs' k' b ds' e1 e2 e3
   cases e1;cases e2;cases e3
   split at h
   ·rename_i hk;subst hk
    obtain⟨R0,h0,h⟩:=Za h
    cases h
    simp only[Z2] at hu hv
    simp at hu hv
    exact fin _ R0 h0 rfl (.inl ⟨rfl,k,a,b,hu,hv,rfl⟩)
   ·cases h
  ·rename_i ks' a cs' b ds' e1 e2 e3
   cases e1;cases e2;cases e3
   obtain⟨R0,h0,h⟩:=Za h
   cases h
   simp only[Z2] at hu hv
   simp at hu hv
   exact fin _ R0 h0 rfl (.inr (.inl ⟨rfl,a,b,hu,hv,rfl⟩))
  ·rename_i ks' a cs' b ds' e1 e2 e3
   cases e1;cases e2;cases e3
   obtain⟨R0,h0,h⟩:=Za h
   cases h
   simp only[Z2] at hu hv
   obtain⟨ta,hu,rfl⟩:=hu
   obtain⟨tb,hv,rfl⟩:=hv
   simp at hu hv
   exact fin _ R0 h0 rfl (.inr (.inr ⟨rfl,ta,tb,hu,hv,rfl⟩))
  ·cases h
def Zkc (P:Program) (t:TypeId) (off:Nat) (X:Array Value) (x:Value):Prop:=
 if YP P t=true then x=.agg (X.extract off (off+P.cellsOf t)) else X[off]?=some x
theorem ZxX {t ft:TypeId} {off fo:Nat} {X:Array Value} {n:Nat} {ls:List (Nat×Nat)} {off' : Nat} (hl:Zd9 P n ft off'=some ls) (hfit:fo+P.cellsOf ft≤P.cellsOf t)
  (hc:∀ p∈ls,∃ u,X[p.1]?=some u) (ho:off'=off+fo):∃ xf,(part ft (X.extract off (off+P.cellsOf t)) fo).run P w=.ok xf w∧Zkc P ft (off+fo) X xf:=by
 subst ho
 cases n with
 | zero=>simp[Zd9] at hl
 | succ n=>
 have leaf:∀ kd,P.cellsOf ft=1→YP P ft=false→ZgC P ft=some false→ls=[(off+fo,kd)]→∃ xf,(part ft (X.extract off (off+P.cellsOf t)) fo).run P w=.ok xf w∧Zkc P ft (off+fo) X xf:=by
  intro kd h1 h2 h3 h4
  subst h4
  obtain⟨u,hu⟩:=hc (off+fo,kd) (by simp)
  change X[off+fo]?=some u at hu
  refine⟨u,?_,by simp[Zkc,h2,hu]⟩
  have hlt:=(Array.getElem?_eq_some_iff.1 hu).1
  have e:(X.extract off (off+P.cellsOf t))[fo]?=some u:=by
   rw[Array.getElem?_extract,if_pos (by omega),hu]
  simp[part,W0 h3,e]
 unfold Zd9 at hl
 split at hl
 ·rename_i k hk
  split at hl
  ·cases hl;exact leaf 0 (by assumption) (by simp[YP,hk]) (by simp[ZgC,hk]) rfl
  ·cases hl
 ·rename_i hk
  split at hl
  ·cases hl;exact leaf 1 (by assumption) (by simp[YP,hk]) (by simp[ZgC,hk]) rfl
  ·cases hl
 ·rename_i hk
  split at hl
  ·cases hl;exact leaf 2 (by assumption) (by simp[YP,hk]) (by simp[ZgC,hk]) rfl
  ·cases hl
 ·rename_i fs hk
  have hg:ZgC P ft=some true:=by simp[ZgC,hk]
  obtain⟨i,hi⟩:=Zjy hg
  refine⟨.agg ((X.extract off (off+P.cellsOf t)).extract fo (fo+P.cellsOf ft)),by simp[part,W0 hg,Xu hi w],?_⟩
  simp only[Zkc,YP,hk,if_true]
  congr 1
  rw[Array.extract_extract]
  congr 1
  omega
 ·cases hl
theorem Zo8 {X Y:Array Value} {rs:List Bool}:∀ (m:Nat) {t:TypeId} {off:Nat} {ls:List (Nat×Nat)},Zd9 P m t off=some ls→(∀ p∈ls,Zs4 X Y p.1 p.2 (rs.getD p.1 false)) →
  ∀ (d:Nat) (x y:Value),Zkc P t off X x→Zkc P t off Y y→(Op.equalIn (d+m) t x y).run P w=.ok (ls.all fun p=>rs.getD p.1 false) w
 | 0,t,off,ls,h,_,_,_,_,_,_=>by simp[Zd9] at h
 | m+1,t,off,ls,h,hc,d,x,y,hx,hy=>by
  have leafX:YP P t=false→X[off]?=some x∧Y[off]?=some y:=fun hs=>by simp[Zkc,hs] at hx hy;exact⟨hx,hy⟩
  have h0:=h
  unfold Zd9 at h
  split at h
  ·rename_i k hk
   split at h
   ·cases h
    obtain⟨e1,e2⟩:=leafX (by simp[YP,hk])
    obtain⟨u,v,g1,g2,g3⟩:=hc (off,0) (by simp)
    simp only at g1 g2
    rw[e1] at g1;rw[e2] at g2;cases g1;cases g2
    rcases g3 with ⟨_,k',a,b,rfl,rfl,hr⟩ | ⟨h,_⟩ | ⟨h,_⟩
    ·rw[← Nat.add_assoc,run_equalIn_int w (d+m) t k' k a b hk]
     simp only[List.all_cons,List.all_nil,Bool.and_true,hr]
     congr 1
    ·simp at h
    ·simp at h
   ·cases h
  ·rename_i hk
   split at h
   ·cases h
    obtain⟨e1,e2⟩:=leafX (by simp[YP,hk])
    obtain⟨u,v,g1,g2,g3⟩:=hc (off,1) (by simp)
    simp only at g1 g2
    rw[e1] at g1;rw[e2] at g2;cases g1;cases g2
    rcases g3 with ⟨h,_⟩ | ⟨_,a,b,rfl,rfl,hr⟩ | ⟨h,_⟩
    ·simp at h
    ·rw[← Nat.add_assoc,run_equalIn_bool' w (d+m) t a b hk]
     simp only[List.all_cons,List.all_nil,Bool.and_true,hr]
     cases a<;>cases b<;>rfl
    ·simp at h
   ·cases h
  ·rename_i hk
   split at h
   ·cases h
    obtain⟨e1,e2⟩:=leafX (by simp[YP,hk])
    obtain⟨u,v,g1,g2,g3⟩:=hc (off,2) (by simp)
    simp only at g1 g2
    rw[e1] at g1;rw[e2] at g2;cases g1;cases g2
    rcases g3 with ⟨h,_⟩ | ⟨h,_⟩ | ⟨_,a,b,rfl,rfl,hr⟩
    ·simp at h
    ·simp at h
    ·rw[← Nat.add_assoc,run_equalIn_string w (d+m) t a b hk]
     simp only[List.all_cons,List.all_nil,Bool.and_true,hr]
     rw[ByteArray.toList_eq,ByteArray.toList_eq]
     congr 1
     by_cases h:a.data.toList=b.data.toList
     ·simp[h]
     ·simp[h]
      exact fun e=>h (by rw[e])
   ·cases h
  ·rename_i fs hk
   split at h
   ·cases h
   rename_i hp
   obtain⟨lss,hm,h⟩:=Za h
   cases h
   have hs:YP P t=true:=by simp[YP,hk]
   simp only[Zkc,hs,if_true] at hx hy
   subst hx;subst hy
   have hfo:P.fieldsOf t=fs:=by simp[Program.fieldsOf,hk]
   rw[← Nat.add_assoc,run_equalIn_agg w (d+m) t _ _ (by rw[hfo];exact hk) (by simpa using hp),hfo]
   have key:∀ (l:List Field) (lss:List (List (Nat×Nat))),Q6 (fun f:Field=>if f.name = "_"∨P.cellsOf t<f.offset+P.cellsOf f.type then none else Zd9 P m f.type (off+f.offset)) l=some lss →
     (∀ p∈lss.flatten,Zs4 X Y p.1 p.2 (rs.getD p.1 false))→(Op.eqFields (d+m) (X.extract off (off+P.cellsOf t)) (Y.extract off (off+P.cellsOf t)) l).run P w=.ok (lss.flatten.all fun p=>rs.getD p.1 false) w:=by
    intro l
    induction l with
    | nil=>intro lss hm _;simp only[Q6] at hm;cases hm;rfl
    | cons f l ihl=>
     intro lss hm hc
     simp only[Q6] at hm
     obtain⟨l1,g1,hm⟩:=Za hm
     obtain⟨l2,g2,hm⟩:=Za hm
     cases hm
     split at g1
     ·cases g1
     rename_i hf
     simp only[not_or,Nat.not_lt] at hf
     have hc1:∀ p∈l1,Zs4 X Y p.1 p.2 (rs.getD p.1 false):=fun p hp=>hc p (by simp[hp])
     obtain⟨xf,p1,p2⟩:=ZxX (w:=w) (t:=t) (off:=off) (fo:=f.offset) (X:=X) g1 hf.2 (fun p hp=>by obtain⟨u,v,e,_⟩:=hc1 p hp;exact⟨u,e⟩) rfl
     obtain⟨yf,q1,q2⟩:=ZxX (w:=w) (t:=t) (off:=off) (fo:=f.offset) (X:=Y) g1 hf.2 (fun p hp=>by obtain⟨u,v,_,e,_⟩:=hc1 p hp;exact⟨v,e⟩) rfl
     have e1:=Zo8 m g1 hc1 d xf yf p2 q2
     simp only[Op.eqFields,ne_eq,hf.1,not_false_eq_true,if_true,Sem.run_bind,p1,q1,Result.andThen_ok,e1]
     cases hr:(l1.all fun p=>rs.getD p.1 false) with
     | false=>simp only[Bool.not_false,if_true,Sem.run_pure,List.flatten_cons,List.all_append,hr,Bool.false_and]
     | true=>
      simp only[Bool.not_true,Bool.false_eq_true,if_false]
      rw[ihl l2 g2 (fun p hp=>hc p (by simp only[List.flatten_cons,List.mem_append];exact .inr hp))]
      simp only[List.flatten_cons,List.all_append,hr,Bool.true_and]
   exact key fs.toList lss hm hc
  ·cases h
theorem ZAK:∀ {ks:List Nat} {cs ds:List D} {R:Bool},Zbx ks cs ds=some R→cs.length=ks.length∧ds.length=ks.length:=by
 intro ks
 induction ks with
 | nil=>
  intro cs ds R h
  cases cs with
  | nil=>cases ds with
   | nil=>exact⟨rfl,rfl⟩
   | cons d ds=>simp[Zbx] at h
  | cons c cs=>simp[Zbx] at h
 | cons kd ks ih=>
  intro cs ds R h
  cases cs with
  | nil=>simp[Zbx] at h
  | cons c cs=>
  cases ds with
  | nil=>simp[Zbx] at h
  | cons d ds=>
  unfold Zbx at h
  split at h
  ·rename_i h1 _ _;cases h1
  ·rename_i ks' k a cs' k' b ds' e1 e2 e3
   cases e1;cases e2;cases e3
   split at h
   ·obtain⟨R0,h0,_⟩:=Za h
    have:=ih h0
    simp[this.1,this.2]
   ·cases h
  ·rename_i ks' a cs' b ds' e1 e2 e3
   cases e1;cases e2;cases e3
   obtain⟨R0,h0,_⟩:=Za h
   have:=ih h0
   simp[this.1,this.2]
  ·rename_i ks' a cs' b ds' e1 e2 e3
   cases e1;cases e2;cases e3
   obtain⟨R0,h0,_⟩:=Za h
   have:=ih h0
   simp[this.1,this.2]
  ·cases h
theorem ZrV:∀ (rs:List Bool),((List.range rs.length).all fun i=>rs.getD i false)=rs.all id
 | []=>rfl
 | r :: rs=>by
  rw[List.length_cons,List.range_succ_eq_map,List.all_cons,List.all_map]
  simp only[List.all_cons,id_eq,List.getD_cons_zero]
  congr 1
  rw[← ZrV rs]
  rfl
theorem ZAL {t:TypeId} {ks:List Nat} (hk:ZuQ P t=some ks) {cs ds:List D} {R:Bool} {X Y:Array Value} (h:Zbx ks cs ds=some R) (hX:Yj w I cs X.toList) (hY:Yj w I ds Y.toList) :
  (Op.equalIn 10000 t (.agg X) (.agg Y)).run P w=.ok R w∧P.eqGuardType P.depth t=false:=by
 unfold ZuQ at hk
 obtain⟨ls,h1,hk⟩:=Za hk
 split at hk
 ·rename_i hc
  obtain⟨c1,c2,c3⟩:=hc
  cases hk
  obtain⟨rs,r1,r2,r3⟩:=Zwx h hX hY
  have hlen:ls.length=P.cellsOf t:=by rw[← List.length_map (f:=(·.1)),c1,List.length_range]
  have hks:(ls.map (·.2)).length=P.cellsOf t:=by rw[List.length_map,hlen]
  have hfst:∀ (i:Nat) (p:Nat×Nat),ls[i]?=some p→p.1=i:=by
   intro i p hp
   have h2:(ls.map (·.1))[i]?=some p.1:=by simp[hp]
   rw[c1] at h2
   have hlt:=(List.getElem?_eq_some_iff.1 h2).1
   rw[List.getElem?_range (by simpa using hlt)] at h2
   simpa using h2.symm
  have hcell:∀ p∈ls,Zs4 X Y p.1 p.2 (rs.getD p.1 false):=by
   intro p hp
   obtain⟨i,hi⟩:=List.getElem?_of_mem hp
   have e:=hfst i p hi
   obtain⟨u,v,r,g1,g2,g3,g4⟩:=r3 i p.2 (by simp[hi])
   refine⟨u,v,by rw[e];simpa using g1,by rw[e];simpa using g2,?_⟩
   rw[e,List.getD_eq_getElem?_getD,g3]
   exact g4
  have hXs:X.size=cs.length:=by have:=hX.length;simpa using this.symm
  have hYs:Y.size=ds.length:=by have:=hY.length;simpa using this.symm
  have hb:=ZAK h
  have hva:∀ Z:Array Value,Z.size=P.cellsOf t→Zkc P t 0 Z (.agg Z):=by
   intro Z hZ
   simp only[Zkc,c2,if_true,Nat.zero_add,← hZ]
   simp
  have hrun:=Zo8 (P:=P) (w:=w) (rs:=rs) 5 h1 hcell 9995 (.agg X) (.agg Y) (hva X (by rw[hXs,hb.1,hks])) (hva Y (by rw[hYs,hb.2,hks]))
  refine⟨?_,c3⟩
  rw[hrun,r2,← ZrV rs,r1,hks,← c1,List.all_map]
  rfl
 ·cases hk
theorem ZuE {o:Oper} {op:BinOp} {t ty' : TypeId} {x y:Operand} {x' y' : Opd} {ks:List Nat} {neg:Bool} {Γ:Gh} {a:Act} {sl:Sl} (ho:o.op=.binOp op t x y ty') (hop:op=(if neg then .neq else .eql)) (hs:Zdx Γ w I sl a) (hx:Qd x=some x') (hy:Qd y=some y') (hk:ZuQ P t=some ks) {ce:Zc}
  (hv:ZqU neg ks (evO sl x') (evO sl y')=some ce):Vk P Γ I o a w ce:=by
 have h1:=hs.ev hx
 have h2:=hs.ev hy
 unfold ZqU at hv
 split at hv
 ·rename_i cs ds hc hd
  rw[hc] at h1;rw[hd] at h2
  obtain⟨R,h3,hv⟩:=Za hv
  obtain⟨X,e1,r1⟩:=Zpc h1
  obtain⟨Y,e2,r2⟩:=Zpc h2
  obtain⟨g1,g2⟩:=ZAL hk h3 r1 r2
  have hg:(eqGuard op t x y (.agg X) (.agg Y)).run P w=.ok () w:=run_eqGuard_agg w op t x y X Y g2
  have hb:(binOp op t (.agg X) (.agg Y)).run P w=.ok (.bool (Zph neg R)) w:=by
   subst hop
   cases neg
   ·simp only[Bool.false_eq_true,if_false,run_eql_struct,g1,Result.andThen_ok,Zph]
   ·simp only[if_true,run_neq_struct,g1,Result.andThen_ok,Zph]
  exact⟨_,_,.inl (by simp[execOp,ho,e1,e2,hg,hb]),QP hv,Q5.2 (ZdO _)⟩
 ·cases hv
end
end Go.Abs

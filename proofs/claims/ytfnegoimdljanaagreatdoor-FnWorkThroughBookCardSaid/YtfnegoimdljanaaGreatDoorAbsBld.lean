import Derived.Shelf.Strings.Builder1
set_option linter.unusedSimpArgs false
set_option linter.unusedVariables false
namespace Go.Abs
open Go Go.Shelf Go.RowKit Go.Proofs
variable {P:Program} {ρ:Ren}
def ZwS (w:World) (v v' : Value):Prop:=∀ g,v'.ownBlock=some g→v.ownBlock=some g∨w.heap.size≤g
theorem ZAB (w:World) (t u ty e:TypeId) (i:TypeInfo) (ht:P.underlying t=some (.slice e)) (hu:P.underlying u=some .string) (hi:P.info? e=some i) (hz:i.zero=some (.int .u8 0))
  (aa:i.size=1) (af:i.bytes=1) (v:Value) (n:Nat) (xs:List Value) (ab:w.ownsRow 0 e 1 v n xs) (s:ByteArray) (ag:n+s.size≤maxLen) (hb:n+s.size≤140737488355328) :
  ∃ v' w',(Builtin.append_ #[t,u] ty #[v,.string s]).run P w=.ok v' w'∧w'.ownsRow 0 e 1 v' (n+s.size) (xs++Lib.strCells s)∧w.grownBy w' v.ownBlock∧ZwS w v v':=by
 obtain⟨v',w',hr,h1,h2,_⟩:=Lib.run_append_own_string w 0 t u ty e i ht hu hi hz aa af v n xs ab s ag hb (Nat.zero_le _);refine⟨v',w',hr,h1,h2,fun g hg=>?_⟩;have aj:xs.length=n:=by simpa using ab.1
 rcases ab.2 with ⟨rfl,rfl⟩ | ⟨g0,ah,cur,rfl,_,ak,an,ao,ap,ai⟩
 ·obtain rfl:=List.eq_nil_of_length_eq_zero aj;obtain⟨v2,w2,ad,k1,_⟩:=Lib.run_append_own_string w w.heap.size t u ty e i ht hu hi hz aa af _ _ _ (World.ownsRow_nil w w.heap.size e 1) s ag hb (Nat.le_refl _);rw[hr] at ad;cases ad;rcases k1.2 with ⟨rfl,_⟩ | ⟨g',c',al,rfl,am,_⟩
  ·cases hg
  ·simp only[Value.ownBlock,Option.some.injEq] at hg;subst hg;exact .inr am
 ·by_cases ae:n+s.size≤ah
  ·have ad:=Lib.run_append_room_string (P:=P) w t u ty e i ht hu hi aa g0 n ah cur ak s ae (by omega);rw[hr] at ad;cases ad;simp only[Value.ownBlock,Option.some.injEq] at hg;subst hg;exact .inl rfl
  ·have ad:=Lib.run_append_grow_string (P:=P) w t u ty e i (.int .u8 0) ht hu hi hz ⟨g0,0,none⟩ n ah xs (by rw[aa];omega) (ab.cells (g:=g0) rfl) s (by omega) (by unfold maxLen at ag;omega) (by rw[af];exact growslice_fits (by omega) (by omega));rw[hr] at ad;cases ad;simp only[Value.ownBlock,Option.some.injEq] at hg;subst hg;exact .inr (Nat.le_refl _)
theorem Zzd (w:World) (t ty e:TypeId) (i:TypeInfo) (ht:P.underlying t=some (.slice e)) (hi:P.info? e=some i) (hz:i.zero=some (.int .u8 0))
  (aa:i.size=1) (ah:i.bytes=1) (v:Value) (n:Nat) (xs:List Value) (ab:w.ownsRow 0 e 1 v n xs) (ad:Addr) (c:Nat) (x:Value) (af:w.cell? (ad.add 0)=some x) (h1:x.oneCell'=true)
  (ai:n+1≤maxLen) (hb:n+1≤140737488355328) :
  ∃ v' w',(Builtin.append_ #[t,t] ty #[v,.slice (some ad) 1 c]).run P w=.ok v' w'∧w'.ownsRow 0 e 1 v' (n+1) (xs++[x])∧w.grownBy w' v.ownBlock∧ZwS w v v':=by
 have hn:∀ (j:Nat) u,[x][j]?=some u→w.cell? (ad.add j)=some u:=by
  intro j u hj
  match j,hj with
  | 0,hj=>simp at hj;subst hj;exact af
 have aj : ∀ u∈[x],u.oneCell'=true:=by intro u hu;simp at hu;subst hu;exact h1
 have al:(Value.int .u8 0).cells.size=1:=rfl;obtain⟨v',w',hr,k1,k2,_⟩:=run_append_own w 0 t ty e i (.int .u8 0) 1 1 ht hi hz aa ah al (by decide) v n xs ab ad 1 c [x] rfl hn aj ai (by omega) (Nat.zero_le _);refine⟨v',w',hr,k1,k2,fun g hg=>?_⟩;have an:xs.length=n:=by simpa using ab.1
 rcases ab.2 with ⟨rfl,rfl⟩ | ⟨g0,ak,cur,rfl,_,ao,ar,au,av,am⟩
 ·obtain rfl:=List.eq_nil_of_length_eq_zero an;obtain⟨v2,w2,ae,m1,_⟩:=run_append_own w w.heap.size t ty e i (.int .u8 0) 1 1 ht hi hz aa ah al (by decide) _ _ _ (World.ownsRow_nil w w.heap.size e 1) ad 1 c [x] rfl hn aj ai (by omega) (Nat.le_refl _);rw[hr] at ae;cases ae;rcases m1.2 with ⟨rfl,_⟩ | ⟨g',c',ap,rfl,aq,_⟩
  ·cases hg
  ·simp only[Value.ownBlock,Option.some.injEq] at hg;subst hg;exact .inr aq
 ·by_cases ag:n+1≤ak
  ·have ae:=run_append_room (P:=P) w t ty e i ht hi g0 n ak cur ao ad 1 c [x] (by rw[aa];rfl) hn aj ag (by rw[aa];simp;omega);rw[hr] at ae;cases ae;simp only[Value.ownBlock,Option.some.injEq] at hg;subst hg;exact .inl rfl
  ·have ae:=run_append_grow (P:=P) w t ty e i (.int .u8 0) ht hi hz ⟨g0,0,none⟩ n ak xs (by rw[aa];omega) (ab.cells (g:=g0) rfl) ad 1 c [x] (by rw[aa];rfl) hn (by omega) (by unfold maxLen at ai;omega) (by rw[ah];exact growslice_fits (by omega) (by omega));rw[hr] at ae;cases ae;simp only[Value.ownBlock,Option.some.injEq] at hg;subst hg;exact .inr (Nat.le_refl _)
theorem Zoa {w:World} {ops:Array Oper} {aa:List Oper} {o:Oper} {a:Act} {Q:Exit→Act→World→Prop} (ae:o.guard=none) (sl x:Operand) (t u:TypeId)
  (ho:o.op=.call { callee:=.builtin .append,args := #[sl,x],argTypes := #[t,u] }) (e:TypeId) (i:TypeInfo) (ht:P.underlying t=some (.slice e)) (hu:P.underlying u=some .string) (hi:P.info? e=some i) (hz:i.zero=some (.int .u8 0))
  (ab:i.size=1) (af:i.bytes=1) (v:Value) (n:Nat) (xs:List Value) (hs:a.eval sl=v) (ad:w.ownsRow 0 e 1 v n xs) (s:ByteArray) (hx:a.eval x=.string s) (ag:n+s.size≤maxLen) (hb:n+s.size≤140737488355328)
  (h:∀ v' w',w'.ownsRow 0 e 1 v' (n+s.size) (xs++Lib.strCells s)→w.grownBy w' v.ownBlock→ZwS w v v'→wpList P ops Q aa (a.put o.dst v') w'):wpList P ops Q (o :: aa) a w:=by
 refine wpList_plain ae fun K hK=>?_;obtain⟨v',w',hr,h2,h3,h4⟩:=ZAB (P:=P) w t u o.type e i ht hu hi hz ab af v n xs ad s ag hb;unfold Oper.wp execOp;simp only[ho,resolve,invoke,builtin,Sem.run_bind,Sem.run_pure,Result.andThen_ok,List.map_toArray,List.map_cons,List.map_nil,hs,hx,hr];exact hK _ _ (h v' w' h2 h3 h4)
theorem Zl2 {w:World} {ops:Array Oper} {aa:List Oper} {o:Oper} {a:Act} {Q:Exit→Act→World→Prop} (ag:o.guard=none) (sl x:Operand) (t:TypeId)
  (ho:o.op=.call { callee:=.builtin .append,args := #[sl,x],argTypes := #[t,t] }) (e:TypeId) (i:TypeInfo) (ht:P.underlying t=some (.slice e)) (hi:P.info? e=some i) (hz:i.zero=some (.int .u8 0))
  (ab:i.size=1) (ah:i.bytes=1) (v:Value) (n:Nat) (xs:List Value) (hs:a.eval sl=v) (af:w.ownsRow 0 e 1 v n xs) (ad:Addr) (c:Nat) (y:Value) (hx:a.eval x=.slice (some ad) 1 c) (ae:w.cell? (ad.add 0)=some y) (h1:y.oneCell'=true)
  (ai:n+1≤maxLen) (hb:n+1≤140737488355328)
  (h:∀ v' w',w'.ownsRow 0 e 1 v' (n+1) (xs++[y])→w.grownBy w' v.ownBlock→ZwS w v v'→wpList P ops Q aa (a.put o.dst v') w'):wpList P ops Q (o :: aa) a w:=by
 refine wpList_plain ag fun K hK=>?_;obtain⟨v',w',hr,h2,h3,h4⟩:=Zzd (P:=P) w t o.type e i ht hi hz ab ah v n xs af ad c y ae h1 ai hb;unfold Oper.wp execOp;simp only[ho,resolve,invoke,builtin,Sem.run_bind,Sem.run_pure,Result.andThen_ok,List.map_toArray,List.map_cons,List.map_nil,hs,hx,hr];exact hK _ _ (h v' w' h2 h3 h4)
structure But (b:Nat) (v:Value) (w w' : World):Prop where
 os:w'.os=w.os
 tape:w'.tape=w.tape
 output:w'.output=w.output
 size:w.heap.size≤w'.heap.size
 block:∀ k,k<w.heap.size→k≠b→v.ownBlock≠some k→w'.heap[k]?=w.heap[k]?
theorem ZCf (w:World) (b j:Nat) (x v:Value):But b v w (w.setCell ⟨b,j,none⟩ x):=
 ⟨rfl,rfl,rfl,by simp[World.setCell],fun k _ h _=>Below.heap_setCell _ _ _ _ h⟩
theorem But.trans {b:Nat} {v v' : Value} {w w1 w2:World} (h:But b v w w1) (k:But b v' w1 w2) (hn:∀ g,g<w.heap.size→v'.ownBlock=some g→v.ownBlock=some g):But b v w w2:=
 ⟨k.os.trans h.os,k.tape.trans h.tape,k.output.trans h.output,Nat.le_trans h.size k.size,fun i hi h1 h2=>(k.block i (Nat.lt_of_lt_of_le hi h.size) h1 fun e=>h2 (hn i hi e)).trans (h.block i hi h1 h2)⟩
theorem Zsl {w:World} {b:Nat} {p v x:Value} {T:TypeId} (hb:w.heap[b]?=some (.cells #[p,v] T (0,0))) :
  (w.setCell ⟨b,0,none⟩ x).heap[b]?=some (.cells #[x,v] T (0,0))∧(w.setCell ⟨b,1,none⟩ x).heap[b]?=some (.cells #[p,x] T (0,0)):=by
 constructor<;>simp[World.setCell,Array.getElem?_modify,hb]
theorem Zym {w:World} {e:TypeId} {n b j:Nat} {v x:Value} {xs:List Value} (h:w.ownsRow 0 e 1 v n xs) (aa:v.ownBlock≠some b):(w.setCell ⟨b,j,none⟩ x).ownsRow 0 e 1 v n xs:=
 h.kept (row:=some b) ⟨rfl,rfl,rfl,by simp[World.setCell],fun k _ hk=>Below.heap_setCell _ _ _ _ (fun e=>hk (by simp[e]))⟩ (Or.inr aa)
theorem Zsm (L:Lays.n240 P ρ) (X:Builder.X72 P ρ) (b:Nat) (p v:Value) (w:World) (hp:p=.pointer none∨p=.pointer (some ⟨b,0,none⟩)) (hb:w.heap[b]?=some (.cells #[p,v] (ρ.t 72) (0,0))) :
  Calls P (ρ.f 240) #[.pointer (some ⟨b,0,none⟩)] w fun e w'=>e=.returned (.tuple #[])∧(w'=w∧p=.pointer (some ⟨b,0,none⟩)∨w'=w.setCell ⟨b,0,none⟩ (.pointer (some ⟨b,0,none⟩))):=by
 have c0:w.cell? ⟨b,0,none⟩=some p:=by rw[Lib.cell_of_heap hb];rfl
 rcases hp with rfl | rfl
 ·exact(Any.Builder_copyCheck_fresh L X b w c0 (by simp[World.shape?,hb]) (Lib.frozen_of_heap hb 0)).mono fun e w' h=>⟨h.1,.inr h.2⟩
 ·exact(Any.Builder_copyCheck_used L X b w c0).mono fun e w' h=>⟨h.1,.inl ⟨h.2,rfl⟩⟩
def ZtW (T te b:Nat) (v:Value) (ys:List Value) (w w' : World):Prop:=
 ∃ v',w'.heap[b]?=some (.cells #[.pointer (some ⟨b,0,none⟩),v'] T (0,0))∧w'.ownsRow 0 te 1 v' ys.length ys∧ZwS w v v'∧v'.ownBlock≠some b∧But b v w w'
theorem ZAC {w w1:World} {b:Nat} {p v:Value} {e:TypeId} {n:Nat} {xs:List Value} (h:w1=w∧p=.pointer (some ⟨b,0,none⟩)∨w1=w.setCell ⟨b,0,none⟩ (.pointer (some ⟨b,0,none⟩))) {T:TypeId} (hb:w.heap[b]?=some (.cells #[p,v] T (0,0))) (aa:w.ownsRow 0 e 1 v n xs) (ab:v.ownBlock≠some b) :
  w1.heap[b]?=some (.cells #[.pointer (some ⟨b,0,none⟩),v] T (0,0))∧w1.ownsRow 0 e 1 v n xs∧But b v w w1:=by
 rcases h with ⟨rfl,rfl⟩ | rfl
 ·exact⟨hb,aa,⟨rfl,rfl,rfl,Nat.le_refl _,fun _ _ _ _=>rfl⟩⟩
 ·exact⟨(Zsl hb).1,Zym aa ab,ZCf ..⟩
theorem Zyn {w w1 w2:World} {b:Nat} {v v' : Value} {e T:TypeId} {ys:List Value} (h1:w1.heap[b]?=some (.cells #[.pointer (some ⟨b,0,none⟩),v] T (0,0))) (ad:But b v w w1) (ag:v.ownBlock≠some b)
  (af:w2.ownsRow 0 e 1 v' ys.length ys) (ab:w1.grownBy w2 v.ownBlock) (aa:ZwS w1 v v'):w2.heap[b]?=some (.cells #[.pointer (some ⟨b,0,none⟩),v] T (0,0))∧ZtW T e b v ys w (w2.setCell ⟨b,1,none⟩ v'):=by
 have ah:b<w1.heap.size:=(Array.getElem?_eq_some_iff.1 h1).1;have hb2:w2.heap[b]?=some (.cells #[.pointer (some ⟨b,0,none⟩),v] T (0,0)):=by rw[ab.block b ah (fun e=>ag e.symm)];exact h1
 have ae : v'.ownBlock≠some b:=fun e=>(aa b e).elim ag fun h=>by omega
 refine⟨hb2,v',(Zsl hb2).2,Zym af ae,fun g hg=>(aa g hg).imp (fun h=>h) fun h=>Nat.le_trans ad.size h,ae,?_⟩;refine But.trans (v':=v) ad ?_ fun g _ h=>h;exact⟨ab.os,ab.tape,ab.output,by simpa [World.setCell] using ab.size,fun k hk h2 h3=>(Below.heap_setCell _ _ _ _ h2).trans (ab.block k hk fun e=>h3 e.symm)⟩
theorem Zo4 {w:World} {e:TypeId} {v:Value} {n:Nat} {xs:List Value} (h:w.ownsRow 0 e 1 v n xs):∃ ao m aa,v=.slice ao m aa:=by
 rcases h.2 with ⟨rfl,_⟩ | ⟨g,aa,cur,rfl,_⟩<;>exact⟨_,_,_,rfl⟩
set_option maxHeartbeats 2000000 in
set_option maxRecDepth 100000 in
theorem ZCg (L:Lays.n166 P ρ) (X:Builder.Extra P ρ) (b:Nat) (p v:Value) (xs:List Value) (s:ByteArray) (w:World) (hp:p=.pointer none∨p=.pointer (some ⟨b,0,none⟩)) (hb:w.heap[b]?=some (.cells #[p,v] (ρ.t 72) (0,0)))
  (af:w.ownsRow 0 (ρ.t 5) 1 v xs.length xs) (aj:v.ownBlock≠some b) (ak:xs.length+s.size≤140737488355328) :
  Calls P (ρ.f 166) #[.pointer (some ⟨b,0,none⟩),.string s] w fun e w'=>e=.returned (.tuple #[.int .i64 s.size,.nilIface])∧ZtW (ρ.t 72) (ρ.t 5) b v (xs++Lib.strCells s) w w':=by
 obtain⟨i0,hi,al,am,an⟩:=info_parts X.infoByte;have mixed:=L.mixed;have t72:=L.t72;have a72:=L.a72;have z72:=L.z72;have v72:=L.v72;have ar:=run_underlying L.t72;have t70:=L.t70;have a70:=L.a70;have z70:=L.z70;have v70:=L.v70;have au:=run_underlying L.t70;have t37:=L.t37;have a37:=L.a37;have z37:=L.z37;have v37:=L.v37;have av:=run_underlying L.t37;have t3:=L.t3;have a3:=L.a3;have z3:=L.z3;have v3:=L.v3;have u3:=run_underlying L.t3;have t9:=L.t9;have a9:=L.a9;have z9:=L.z9;have v9:=L.v9;have u9:=run_underlying L.t9;have t4:=L.t4;have a4:=L.a4;have z4:=L.z4;have v4:=L.v4;have u4:=run_underlying L.t4
 have t164:=L.t164;have a164:=L.a164;have z164:=L.z164;have v164:=L.v164;have ap:=run_underlying L.t164;have t5:=X.t5;have a5:=X.a5;have z5:=X.z5;have v5:=X.v5;have u5:=run_underlying X.t5;have aq:∀ args w,(callFunc (ρ.f 240) args).run P w=.ok (.enter (ρ.f 240) args) w:=enters_of L.f240 (by kernel_rfl) rfl
 go_enter L.f166,Body.n166_ntmps ρ
 go_wp2_with (go_at_fn (ρ.f 240);refine(Zsm { L with } X.toX72 b p v _ hp hb).mono ?_)
 rintro e w1 ⟨rfl,hw1⟩
 obtain⟨ag,ab,ah⟩:=ZAC hw1 hb af aj;clear hw1;have c0:w1.cell? ⟨b,0,none⟩=some (.pointer (some ⟨b,0,none⟩)):=by rw[Lib.cell_of_heap ag];rfl
 have c1:w1.cell? ⟨b,1,none⟩=some v:=by rw[Lib.cell_of_heap ag];rfl
 go_wp2_with (at_builtin;refine Zoa rfl _ _ (ρ.t 37) (ρ.t 9) rfl (ρ.t 5) i0 L.t37 L.t9 hi al am an _ _ _ rfl ab s rfl ?c3 ?c4 ?_)
 case c3=>unfold maxLen;omega
 case c4=>omega
 intro v' w2 aa ad ae;obtain⟨hb2,ai⟩:=Zyn (ys:=xs++Lib.strCells s) ag ah aj (by simpa [Lib.strCells_length] using aa) ad ae;have d0:w2.cell? ⟨b,0,none⟩=some (.pointer (some ⟨b,0,none⟩)):=by rw[Lib.cell_of_heap hb2];rfl
 have d1:w2.cell? ⟨b,1,none⟩=some v:=by rw[Lib.cell_of_heap hb2];rfl
 have f1:w2.frozen? ⟨b,1,none⟩=false:=Lib.frozen_of_heap hb2 1;obtain⟨ao,n',aw,rfl⟩:=Zo4 aa
 go_wp2
 go_ret2
 exact⟨rfl,ai⟩
set_option maxHeartbeats 2000000 in
set_option maxRecDepth 100000 in
theorem ZAD (L:Lays.n167 P ρ) (X:Builder.Extra P ρ) (b:Nat) (p v:Value) (xs:List Value) (c:Int) (w:World) (hp:p=.pointer none∨p=.pointer (some ⟨b,0,none⟩)) (hb:w.heap[b]?=some (.cells #[p,v] (ρ.t 72) (0,0)))
  (ah:w.ownsRow 0 (ρ.t 5) 1 v xs.length xs) (al:v.ownBlock≠some b) (am:xs.length+1≤140737488355328) :
  Calls P (ρ.f 167) #[.pointer (some ⟨b,0,none⟩),.int .u8 c] w fun e w'=>e=.returned .nilIface∧ZtW (ρ.t 72) (ρ.t 5) b v (xs++[.int .u8 c]) w w':=by
 obtain⟨i0,hi,an,ao,ap⟩:=info_parts X.infoByte;have mixed:=L.mixed;have t72:=L.t72;have a72:=L.a72;have z72:=L.z72;have v72:=L.v72;have av:=run_underlying L.t72;have t70:=L.t70;have a70:=L.a70;have z70:=L.z70;have v70:=L.v70;have aw:=run_underlying L.t70;have t5:=L.t5;have a5:=L.a5;have z5:=L.z5;have v5:=L.v5;have u5:=run_underlying L.t5;have t37:=L.t37;have a37:=L.a37;have z37:=L.z37;have v37:=L.v37;have ax:=run_underlying L.t37;have t9:=L.t9;have a9:=L.a9;have z9:=L.z9;have v9:=L.v9;have u9:=run_underlying L.t9;have t4:=L.t4;have a4:=L.a4;have z4:=L.z4;have v4:=L.v4;have u4:=run_underlying L.t4
 have t164:=L.t164;have a164:=L.a164;have z164:=L.z164;have v164:=L.v164;have aq:=run_underlying L.t164;have ar:∀ args w,(callFunc (ρ.f 240) args).run P w=.ok (.enter (ρ.f 240) args) w:=enters_of L.f240 (by kernel_rfl) rfl
 go_enter L.f167,Body.n167_ntmps ρ
 go_wp2_with (go_at_fn (ρ.f 240);refine(Zsm { L with } X.toX72 b p v _ hp hb).mono ?_)
 rintro e w1 ⟨rfl,hw1⟩
 obtain⟨af,ad,ai⟩:=ZAC hw1 hb ah al;clear hw1;have c0:w1.cell? ⟨b,0,none⟩=some (.pointer (some ⟨b,0,none⟩)):=by rw[Lib.cell_of_heap af];rfl
 have c1:w1.cell? ⟨b,1,none⟩=some v:=by rw[Lib.cell_of_heap af];rfl
 go_wp2_with (at_builtin;refine Zl2 rfl _ _ (ρ.t 37) rfl (ρ.t 5) i0 L.t37 hi an ao ap _ _ _ rfl (ad.alloc _) ⟨w1.heap.size,0,none⟩ 1 (.int .u8 c) rfl ?c1 rfl ?c3 ?c4 ?_)
 case c1=>simp[Addr.add]
 case c3=>unfold maxLen;omega
 case c4=>omega
 intro v' w2 ab aa ae;have ay:b<w1.heap.size:=(Array.getElem?_eq_some_iff.1 af).1;have au:w1.grownBy w2 v.ownBlock:=⟨aa.os,aa.tape,aa.output,Nat.le_trans (by simp) aa.size,fun k hk aj=>(aa.block k (Nat.lt_of_lt_of_le hk (by simp)) aj).trans (Lib.alloc_old w1 _ k hk)⟩
 obtain⟨hb2,ak⟩:=Zyn (ys:=xs++[.int .u8 c]) af ai al (by simpa using ab) au (fun g hg=>(ae g hg).imp (fun h=>h) fun h=>Nat.le_trans (by simp) h);have d0:w2.cell? ⟨b,0,none⟩=some (.pointer (some ⟨b,0,none⟩)):=by rw[Lib.cell_of_heap hb2];rfl
 have d1:w2.cell? ⟨b,1,none⟩=some v:=by rw[Lib.cell_of_heap hb2];rfl
 have f1:w2.frozen? ⟨b,1,none⟩=false:=Lib.frozen_of_heap hb2 1;obtain⟨g,ag,rfl⟩:∃ g ag,v'=.slice (some ⟨g,0,none⟩) (xs.length+1) ag:=by
  rcases ab.2 with ⟨_,h0⟩ | ⟨g,ag,cur,hv,_⟩
  ·omega
  ·exact⟨g,ag,hv⟩
 go_wp2
 go_ret
 exact⟨rfl,ak⟩
theorem ZAE (L:Lays.n169 P ρ) (X:Builder.Extra P ρ) (b:Nat) (p:Value) (w:World) (hb:w.heap[b]?=some (.cells #[p,.slice none 0 0] (ρ.t 72) (0,0))) :
  Calls P (ρ.f 169) #[.pointer (some ⟨b,0,none⟩)] w fun e w'=>e=.returned (.string ⟨#[]⟩)∧w'=w.drew:=by
 have ab:=Any.unsafeString_none L X;have c1:w.drew.cell? ⟨b,1,none⟩=some (.slice none 0 0):=by
  have:w.drew.heap[b]?=some (.cells #[p,.slice none 0 0] (ρ.t 72) (0,0)):=hb;rw[Lib.cell_of_heap this];rfl
 have ad:(Builtin.unsafeSliceData_ #[(ρ.t 37)] (ρ.t 127) #[.slice none 0 0]).run P w.drew=.ok (.pointer none) w.drew:=rfl;have mixed:=L.mixed;have t72:=L.t72;have a72:=L.a72;have z72:=L.z72;have v72:=L.v72;have ae:=run_underlying L.t72;have t70:=L.t70;have a70:=L.a70;have z70:=L.z70;have v70:=L.v70;have af:=run_underlying L.t70;have t37:=L.t37;have a37:=L.a37;have z37:=L.z37;have v37:=L.v37;have ag:=run_underlying L.t37;have t127:=L.t127;have a127:=L.a127;have z127:=L.z127;have v127:=L.v127;have aa:=run_underlying L.t127;have t3:=L.t3;have a3:=L.a3;have z3:=L.z3;have v3:=L.v3;have u3:=run_underlying L.t3
 have t9:=L.t9;have a9:=L.a9;have z9:=L.z9;have v9:=L.v9;have u9:=run_underlying L.t9;have t5:=X.t5;have a5:=X.a5;have z5:=X.z5;have v5:=X.v5;have u5:=run_underlying X.t5
 go_enter L.f169,Body.n169_ntmps ρ
 go_wp2
 go_region_o
 all_goals (go_wp2;go_ret;exact⟨rfl,rfl⟩)
theorem ZAF (L:Lays.n169 P ρ) (X:Builder.Extra P ρ) (b g aa:Nat) (p:Value) (cur:Array Value) (l:List UInt8) (w:World) (hb:w.heap[b]?=some (.cells #[p,.slice (some ⟨g,0,none⟩) l.length aa] (ρ.t 72) (0,0)))
  (hg:w.heap[g]?=some (.cells cur (ρ.t 5) (0,0))) (h0:l≠[]) (ag:l.length≤aa) (ab:aa≤maxLen) (ad:cur.size=aa) (hl:∀ (j:Nat) x,l[j]?=some x→w.cell? ⟨g,j,none⟩=some (.int .u8 x.toNat)) :
  Calls P (ρ.f 169) #[.pointer (some ⟨b,0,none⟩)] w fun e w'=>e=.returned (.string ⟨l.toArray⟩)∧w'=w.drew.freeze ⟨g,0,none⟩ l.length:=by
 have ah:l.length≠0:=by simpa using h0
 have c1:w.drew.cell? ⟨b,1,none⟩=some (.slice (some ⟨g,0,none⟩) l.length aa):=by
  have:w.drew.heap[b]?=some (.cells #[p,.slice (some ⟨g,0,none⟩) l.length aa] (ρ.t 72) (0,0)):=hb;rw[Lib.cell_of_heap this];rfl
 have ai:(Builtin.unsafeSliceData_ #[(ρ.t 37)] (ρ.t 127) #[.slice (some ⟨g,0,none⟩) l.length aa]).run P w.drew=.ok (.pointer (some ⟨g,0,none⟩)) w.drew:=
  Lib.run_unsafeSliceData_row _ _ _ _ _ _ (by omega)
 have aj:(Builtin.unsafeString_ #[(ρ.t 127),(ρ.t 3)] (ρ.t 9) #[.pointer (some ⟨g,0,none⟩),.int .i64 l.length]).run P w.drew=.ok (.string ⟨l.toArray⟩) (w.drew.freeze ⟨g,0,none⟩ l.length):=by
  refine Lib.run_unsafeString_row w.drew (ρ.t 127) (ρ.t 3) (ρ.t 9) (ρ.t 5) L.t127 X.cellsByte g cur.size (by have ae : w.drew.heap[g]?=some (.cells cur (ρ.t 5) (0,0)):=hg;simp[World.shape?,ae]) l h0 (by omega) (by unfold maxLen at ab;omega) ?_;intro j x hx;have:=hl j x hx;rw[Addr.add_lit,Nat.zero_add];exact this
 clear hl ad hg;have mixed:=L.mixed;have t72:=L.t72;have a72:=L.a72;have z72:=L.z72;have v72:=L.v72;have ak:=run_underlying L.t72;have t70:=L.t70;have a70:=L.a70;have z70:=L.z70;have v70:=L.v70;have al:=run_underlying L.t70;have t37:=L.t37;have a37:=L.a37;have z37:=L.z37;have v37:=L.v37;have am:=run_underlying L.t37;have t127:=L.t127;have a127:=L.a127;have z127:=L.z127;have v127:=L.v127;have af:=run_underlying L.t127;have t3:=L.t3;have a3:=L.a3;have z3:=L.z3;have v3:=L.v3;have u3:=run_underlying L.t3;have t9:=L.t9;have a9:=L.a9;have z9:=L.z9;have v9:=L.v9;have u9:=run_underlying L.t9;have t5:=X.t5;have a5:=X.a5;have z5:=X.z5;have v5:=X.v5;have u5:=run_underlying X.t5
 go_enter L.f169,Body.n169_ntmps ρ
 go_wp2
 go_region_o
 all_goals (go_wp2;go_ret;exact⟨rfl,rfl⟩)
end Go.Abs

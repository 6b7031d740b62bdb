/- Own text. -/
import Derived.Test.YtnachaiejoflhaaAbsCall
set_option linter.unusedVariables false
set_option linter.unusedSimpArgs false
namespace Go.Abs
open Go
structure Pre (F A I:Nat→Prop) (Γ:Gh) (h:List Zk) (as:List AV) (args:List Value) (w:World):Prop where
 args:Zp (Rep Γ w I) as args
 objs:WK Γ w I F A (YF 0 h)
 inj:∀ i j o o' b,lkp (YF 0 h) i=some o→lkp (YF 0 h) j=some o'→Blk Γ w i o b→Blk Γ w j o' b→i=j
 bound:∀ b,I b→b<w.heap.size
 fresh:∀ b,w.heap.size≤b→F b
 own:∀ b,F b→A b
 names:∀ id,h.length≤id→Γ id=none
 glob:Zd4 I w
structure Back (F A I:Nat→Prop) (Γ:Gh) (w:World) (hs:List Zk) (res:AV) (I' : Nat→Prop) (Γ' : Gh) (v:Value) (w' : World):Prop where
 heads:ZZ Γ Γ'
 keeps:ZH I I' w w'
 sub:∀ b,I' b→I b∨F b
 fr:Fr F w w'
 res:Rep Γ' w' I' res v
 objs:WK Γ' w' I' F A (YF 0 hs)
 inj:∀ i j o o' b,lkp (YF 0 hs) i=some o→lkp (YF 0 hs) j=some o'→Blk Γ' w' i o b→Blk Γ' w' j o' b→i=j
 bound:∀ b,I' b→b<w'.heap.size
 names:∀ id,hs.length≤id→Γ' id=none
def Enters (P:Program) (f:FuncId):Prop:=∃ fn,P.funcs[f]?=some fn∧(fn.name == "runtime.NumGoroutine")=false∧fn.body.isNone=false
def Zhl (P:Program) (f:FuncId) (as:List AV) (h:List Zk) (res:AV) (hs:List Zk):Prop:=
 Enters P f∧∀ (F A I:Nat→Prop) (Γ:Gh) (args:List Value) (w:World),Pre F A I Γ h as args w→Calls P f args.toArray w fun e w'=>∃ v I' Γ',e=.returned v∧Back F A I Γ w hs res I' Γ' v w'
def Qb (P:Program) (C:Orc):Prop:=∀ f as h res hs,C f as h=some (res,hs)→Zhl P f as h res hs
section
variable {P:Program} {nt:Nat} {U:Nat→Prop} {F A I:Nat→Prop} {Γ:Gh} {sl:Sl} {hp:Hp} {a:Act} {w:World}
def ZmE (P:Program) (nt:Nat) (F A I:Nat→Prop) (Γ:Gh) (U:Nat→Prop) (sl:Sl) (hp:Hp) (a:Act) (w:World) (o:Oper) (base:Nat) (ce:Zb):Prop:=
 ∀ (K:Act→World→Prop) (Q:Exit→Act→World→Prop),(∀ u w',Y9 nt F A I Γ w (WA U base) (ce.on o.dst sl hp).1 (ce.on o.dst sl hp).2 (a.put o.dst u) w'→K (a.put o.dst u) w')→o.wp P a w K Q
theorem J9.opWp {o:Oper} {base:Nat} {ce:Zb} (h:J9 P nt F A I Γ U sl hp a w o base ce):ZmE P nt F A I Γ U sl hp a w o base ce:=by
 intro K Q hK;obtain⟨u,w',h1,h2⟩:=h;exact h1.wp (hK u w' h2)
def Zjl (Γ:Gh) (w:World) (hp:Hp) (I' : Nat→Prop) (ids:List Nat):Prop:=∀ id∈ids,∀ o b,lkp hp id=some o→Zcc (some o)=true→Blk Γ w id o b→I' b
theorem Zjl.sub {I' : Nat→Prop} {ids aa : List Nat} (h:Zjl Γ w hp I' ids) (hs:∀ id∈aa,id∈ids):Zjl Γ w hp I' aa:=fun id ab=>h id (hs id ab)
theorem Zoo (h:WK Γ w I F A hp) (ids:List Nat):Zjl Γ w hp (Zcs Γ w hp I ids) ids:=by
 intro id aa o b hl hr hb;cases o with
 | box cs=>cases hr
 | gone=>exact hb.isGone.elim
 | tree sz ns xs lk=>exact .inr ⟨id,aa,_,hl,rfl,hb⟩
 | row sz xs ex fz=>
  cases fz with
  | false=>exact .inr ⟨id,aa,_,hl,rfl,hb⟩
  | true=>
   have hb:=hb.row;obtain⟨ad,n,c,h1,h2,h3⟩:=h id _ hl;rw[h1] at hb;obtain⟨ae,rfl,rfl,hc⟩:=ZkV hb;rcases h3 with h3 | ⟨g,cur,e,hg,h4,h5,h6,h7,h8,h9,ab,af⟩
   ·exact absurd h3.2 hc
   ·cases hg;exact .inl (by simpa using ab)
theorem ZmF (h:WK Γ w I F A hp) {I' : Nat→Prop} (hI:∀ b,I b→I' b) {id:Nat} (aa:Zjl Γ w hp I' [id]) {xs:List D} (he:YS (lkp hp id)=some xs) :
  ∃ ad n c sz,Γ id=some (.row ad n c sz)∧n=xs.length∧n≤c∧((n=0∧c=0)∨∃ g,ad=some ⟨g,0,none⟩∧I' g∧0<sz∧Y8 w I' g sz xs 0):=by
 unfold YS at he;split at he
 ·rename_i sz af ex fz hl;cases he;obtain⟨ad,n,c,h1,h2,h3⟩:=h id _ hl;refine⟨ad,n,c,sz,h1,h2,?_⟩;rcases h3 with h3 | ⟨g,cur,e,rfl,hc,hw,h4,h5,h6,h7,h8,hF,h9⟩
  ·exact⟨by omega,.inl h3⟩
  ·refine⟨h4,.inr ⟨g,rfl,aa id (by simp) _ g hl rfl (.inl (by rw[h1];simp[Zt,Kr hc])),h7,?_⟩⟩;cases ex
   ·exact h9.mono' (WT hI) rfl
   ·exact h9.mono' ⟨fun b hb=>hI b hb.1,fun _ _=>rfl⟩ rfl
 ·rename_i sz ns af hl;cases he;obtain⟨ad,n,c,h1,⟨h2,h3⟩,_⟩:=h id _ hl;refine⟨ad,n,c,sz,h1,h2,?_⟩;rcases h3 with h3 | ⟨g,cur,e,B,rfl,hc,hw,h4,h5,h6,ab,h8,h9,ag⟩
  ·exact⟨by omega,.inl ⟨h3.1,h3.2.1⟩⟩
  ·have ae:Zt (Γ id)=some g:=by rw[h1];simp[Zt,Kr hc]
   exact⟨h4,.inr ⟨g,rfl,aa id (by simp) _ g hl rfl (.inl ae),ab,h8.rep fun b hb=>aa id (by simp) _ b hl rfl (.inr (.inl ⟨g,B,ae,h8,hb⟩))⟩⟩
 ·cases he
theorem Zlj (h:WK Γ w I F A hp) {I' : Nat→Prop} (hI:∀ b,I b→I' b) {x:AV} {v:Value} (hx:Rep Γ w I x v) (aa:Zjl Γ w hp I' (JC x)) {d:D} (hd:Zdn hp x=some d):QF w I' d v:=by
 unfold Zdn at hd;split at hd
 ·cases hd;exact(QL.1 hx).mono (WT hI)
 ·cases hd;obtain⟨ad,rfl⟩:=hx;exact⟨ad,0,rfl,by simp,.inl rfl⟩
 ·rename_i id;obtain⟨xs,h1,hd⟩:=Za hd;cases hd;obtain⟨ad,n,c,sz,h2,h3,h4,h5⟩:=ZmF h hI aa h1;obtain⟨aj,n',c',af,h6,rfl⟩:=hx;rw[h2] at h6;cases h6;refine⟨ad,c,by rw[h3],by omega,?_⟩;rcases h5 with h5 | ⟨g,rfl,h7,h8,h9⟩
  ·exact .inl (Kh (by omega))
  ·exact .inr ⟨g,0,sz,rfl,h7,h8,h9⟩
 ·rename_i id off n;obtain⟨xs,h1,hd⟩:=Za hd;cases hd;obtain⟨ad,m,c,sz,h2,h3,h4,h5⟩:=ZmF h hI aa h1;obtain⟨a0,m',c',af,av,h6,h7,h8,rfl,h9,ab⟩:=hx;rw[h2] at h6;cases h6;have ae:n=((xs.drop off).take n).length:=by simp;omega
  refine⟨av,c-off,by rw[← ae],by omega,?_⟩;by_cases hn:n=0
  ·exact .inl (Kh (by omega))
  ·rcases h5 with h5 | ⟨g,rfl,ag,ah,ai⟩
   ·omega
   ·rcases ab with ab | ab
    ·subst ab;exact .inr ⟨g,off*sz,sz,by simp[Vb],ag,ah,by simpa using Ze8 ai off n⟩
    ·omega
 ·cases hd
theorem ZpA (h:WK Γ w I F A hp) {I' : Nat→Prop} (hI:∀ b,I b→I' b):∀ {xs:List AV} {vs:List Value} {ds:List D},Zp (XB Γ w I) xs vs→Zjl Γ w hp I' (xs.flatMap JC)→Qa (Zdn hp) xs=some ds→Wy D.one ds=true→Qf w I' ds vs
 | [],[],ds,_,_,hd,_=>by simp only[Qa] at hd;cases hd;simp[Qf]
 | [],_ :: _,_,h,_,_,_=>h.elim
 | _ :: _,[],_,h,_,_,_=>h.elim
 | x :: xs,v :: vs,ds,hr,hl,hd,h1=>by
  simp only[Qa] at hd;obtain⟨d,h2,hd⟩:=Za hd;obtain⟨ab,h3,hd⟩:=Za hd;cases hd;simp only[Wy,Kb] at h1;refine⟨v,vs,rfl,h1.1,(QF.one h1.1).1 (Zlj h hI hr.1.rep2.rep (hl.sub fun id aa=>by simp only[Kv,Kd];exact .inl aa) h2),ZpA h hI hr.2 (hl.sub fun id aa=>by simp only[Kv,Kd];exact .inr aa) h3 h1.2⟩
theorem Zop (h:WK Γ w I F A hp) {I' : Nat→Prop} (hI:∀ b,I b→I' b) {x:AV} {v:Value} (hx:Rep Γ w I x v) (aa:Zjl Γ w hp I' (ZaM x)) {d:D} (hd:toD hp x=some d):QF w I' d v:=by
 unfold toD at hd;split at hd
 ·rename_i cs;obtain⟨ds,h1,hd⟩:=Za hd;split at hd
  ·rename_i h2;cases hd;obtain⟨vs,rfl,h3⟩:=hx;exact⟨vs,rfl,ZpA h hI h3 aa h1 h2⟩
  ·cases hd
 ·rename_i ab;refine Zlj h hI hx ?_ hd;cases x<;>first | exact aa | (exact absurd rfl (ab _))
def ZpB (x y:AV):List Nat:=match y with
 | .d _=>ZaM x
 | _=>[]
theorem Zs2 (h:WK Γ w I F A hp) {I' : Nat→Prop} (hI:∀ b,I b→I' b) {m:Bool} {x y:AV} {v:Value} (hx:Rep Γ w I x v) (ha:JB hp m x=some y) (aa:Zjl Γ w hp I' (ZpB x y)):Rep Γ w I' y v:=by
 have keep:Rep Γ w I' x v:=hx.mono (ZZ.refl Γ) (WT hI);unfold JB at ha;split at ha
 ·cases ha;exact keep
 ·cases ha;exact keep
 ·cases ha;exact keep
 ·cases ha;exact keep
 ·cases ha;exact keep
 ·rename_i id;cases m
  ·simp only[ZaX,asD] at ha;obtain⟨d,h1,ha⟩:=Za ha;cases ha;exact QL.2 (Zlj h hI hx aa h1)
  ·simp only[ZaX] at ha;cases ha;exact keep
 ·cases m
  ·simp only[Zcb] at ha;cases ha;exact QL.2 (Zop h hI hx aa rfl)
  ·simp only[Zcb] at ha;cases ha;exact keep
 ·cases ha;exact keep
 ·cases m
  ·simp only[ZaY,asD] at ha;obtain⟨d,h1,ha⟩:=Za ha;cases ha;exact QL.2 (Zop h hI hx aa h1)
  ·simp only[ZaY] at ha;split at ha
   ·cases ha
   ·cases ha;exact keep
 ·obtain⟨d,h1,ha⟩:=Za ha;cases ha;exact QL.2 (Zop h hI hx aa h1)
theorem Zga (x y:AV) (xs ys:List AV):Xw (x :: xs) (y :: ys)=ZpB x y++Xw xs ys:=by
 cases y<;>simp[Xw,ZpB]
theorem ZpC (h:WK Γ w I F A hp) {I' : Nat→Prop} (hI:∀ b,I b→I' b) (m:Nat→Bool):∀ {xs ys:List AV} {vs:List Value} (i:Nat),Zp (Rep Γ w I) xs vs→args hp m i xs=some ys→Zjl Γ w hp I' (Xw xs ys)→Zp (Rep Γ w I') ys vs
 | [],ys,[],i,_,ha,_=>by simp only[args] at ha;cases ha;exact trivial
 | [],_,_ :: _,_,h,_,_=>h.elim
 | _ :: _,_,[],_,h,_,_=>h.elim
 | x :: xs,ys,v :: vs,i,hr,ha,hl=>by
  simp only[args] at ha;obtain⟨y,h1,ha⟩:=Za ha;obtain⟨ab,h2,ha⟩:=Za ha;cases ha;rw[Zga] at hl;exact⟨Zs2 h hI hr.1 h1 (hl.sub fun id aa=>by simp[aa]),ZpC h hI m (i+1) hr.2 h2 (hl.sub fun id aa=>by simp[aa])⟩
def ZaP (ids:List Nat) (Γ:Gh):Gh:=fun k=>match ids[k]? with
 | some id=>Γ id
 | none=>none
theorem XN {ids:List Nat} {k id:Nat} (h:ids[k]?=some id):ZaP ids Γ k=Γ id:=by simp[ZaP,h]
theorem ZbV {ids l:List Nat} (h:∀ id∈l,id∈ids):WY Γ (ZaP ids Γ) (Yl ids) l:=by
 intro id aa r hr;rw[XN (Zeu (h id aa)).2];exact hr
theorem Zgb {S S' : Nat→Prop} {b sz:Nat} {ys:List D} (hf:Wy D.flat ys=true) {o:Nat} (h:Y8 w S b sz ys o):Y8 w S' b sz ys o:=by
 rw[Q3] at h ⊢;intro i x hx;obtain⟨vs,h1,h2,h3⟩:=h i x hx;refine⟨vs,h1,h2,?_⟩;have aa : x.flat=true:=by
  clear h h1 h2 h3
  induction ys generalizing i with
  | nil=>simp at hx
  | cons y ys ih=>
   simp only[Wy,Kb] at hf;cases i with
   | zero=>simp at hx;subst hx;exact hf.1
   | succ i=>simp at hx;exact ih hf.2 i hx
 have one:∀ {y:D} {v:Value},y.plain=true→ZF w S y [v]→ZF w S' y [v]:=by
  intro y v hy hv;cases y<;>first | (simpa [ZF] using hv) | (simp[D.plain] at hy)
 have all:∀ (ds:List D) (us:List Value),Wy D.plain ds=true→Qf w S ds us→Qf w S' ds us:=by
  intro ds
  induction ds with
  | nil=>intro us _ h;simpa [Qf] using h
  | cons d ds ih=>
   intro us hp h;simp only[Wy,Kb] at hp;obtain⟨v,r,h1,h2,h3,h4⟩:=h;exact⟨v,r,h1,h2,one hp.1 h3,ih r hp.2 h4⟩
 have:=all x.cells vs aa h3.cells;exact Zju (Qs.1 this)
theorem ZeT.give {I' F' A' : Nat→Prop} {ad:Option Addr} {n c sz:Nat} {ys:List D} (h:ZeT w I F A ad n c sz ys true false) (hf:Wy D.flat ys=true)
  (hb:∀ b,Zt (some (.row ad n c sz))=some b→F b→F' b∧(I' b→I b)):ZeT w I' F' A' ad n c sz ys true false:=by
 obtain⟨h2,h3⟩:=h;refine⟨h2,?_⟩;rcases h3 with h3 | ⟨g,cur,e,rfl,hc,hw,h4,h5,h6,h7,h8,aa,h9⟩
 ·exact .inl h3
 ·obtain⟨ab,ae⟩:=hb g (by simp[Zt,Kr hc]) aa;exact .inr ⟨g,cur,e,rfl,hc,hw,h4,h5,h6,h7,by simp at h8 ⊢;exact fun hi=>h8 (ae hi),ab,Zgb hf h9⟩
theorem ZmG {ids:List Nat} {id k:Nat} (hk:ids[k]?=some id) {o:Zk} (ho:Xz Γ w I F A id o) {I' F' A' : Nat→Prop} (hI:∀ b,I b→I' b) (hF:∀ b,Blk Γ w id o b→F' b) (hA:∀ b,I b→A b→A' b)
  (hn:∀ b,Blk Γ w id o b→I' b→I b):Xz (ZaP ids Γ) w I' F' A' k (W6 ids o):=by
 cases o with
 | gone=>
  obtain⟨r,hr⟩:=ho;exact⟨r,by rw[XN hk,hr]⟩
 | tree sz ns xs lk=>
  obtain⟨ad,n,c,h1,h2,h3⟩:=ho;refine⟨ad,n,c,by rw[XN hk,h1],?_,Xj.lose (Xj.kill (Γ':=Γ) h3 (fun _ _ _ h=>h) fun _ _=>rfl)⟩;rw[VQ,VR];refine h2.mono fun b hb=>?_;rw[← h1] at hb;have ab : Blk Γ w id (.tree sz ns xs lk) b:=hb.elim .inl fun h=>.inr (.inl h);exact⟨rfl,hn b ab,fun _=>hF b ab⟩
 | box cs=>
  obtain⟨b,cur,e,h1,h2,h3,h4,h5,af⟩:=ho;have hb:Blk Γ w id (.box cs) b:=.inl (by rw[h1];rfl);refine⟨b,cur,e,by rw[XN hk,h1],h2,fun hi=>h3 (hn b hb hi),hF b hb,?_,((af.mono fun x te l u v g hc hv hg=>have hB:=Or.inr (Or.inr (Zpi h1 h2 hc hv hg));⟨rfl,hn g hB,fun _=>hF g hB⟩).map (VF _)).map (UQ _)⟩;have h6:Zp (QV Γ w I) (cs.map (ZG ((VX (.box cs)).filter fun i=>!ids.contains i))) cur.toList:=h5.map_left fun _ _ h=>Zfo h;refine Zaq (ZbV fun ae aa=>?_) (WT hI) h6;obtain⟨y,hy,aa⟩:=Kk.1 aa;obtain⟨x,hx,rfl⟩:=K4.1 hy;obtain⟨h7,h8⟩:=ZdO _ x ae aa;have h9:ae∈VX (.box cs):=Kk.2 ⟨x,hx,h7⟩
  simp only[List.mem_filter,KH,KC,KL,not_and,Decidable.not_not] at h8;exact h8 h9
 | row sz xs ex fz=>
  obtain⟨ad,n,c,h1,h2,h3⟩:=ho;refine⟨ad,n,c,by rw[XN hk,h1],h2,?_⟩;rcases h3 with h3 | ⟨g,cur,e,rfl,hc,hw,h4,h5,h6,h7,h8,ag,h9⟩
  ·exact .inl h3
  ·have hb:Blk Γ w id (.row sz xs ex fz) g:=.inl (by rw[h1];simp[Zt,Kr hc]);refine .inr ⟨g,cur,e,rfl,hc,hw,h4,h5,h6,h7,?_,hF g hb,?_⟩
   ·cases fz
    ·simp at h8 ⊢;exact fun hi=>h8 (hn g hb hi)
    ·simp at h8 ⊢;exact hI g h8
   ·cases ex
    ·exact h9.mono' (WT hI) rfl
    ·simp only[Kj] at h9 ⊢;exact h9.mono' ⟨fun b hb=>⟨hI b hb.1,hA b hb.1 hb.2⟩,fun _ _=>rfl⟩ rfl
end
end Go.Abs

/- Own text. -/
import Derived.Test.YtnachaiejoflhaaAbsCall
set_option linter.unusedVariables false
set_option linter.unusedSimpArgs false
namespace Go.Abs
open Go
structure Pre (F A I:Nat→Prop) (Γ:Gh) (h:List Zj) (as:List AV) (args:List Value) (w:World):Prop where
 args:Zp (Rep Γ w I) as args
 objs:Wo Γ w I F A (Yw 0 h)
 inj:∀ i j o o' b,lkp (Yw 0 h) i=some o→lkp (Yw 0 h) j=some o'→Blk Γ w i o b→Blk Γ w j o' b→i=j
 bound:∀ b,I b→b<w.heap.size
 fresh:∀ b,w.heap.size≤b→F b
 own:∀ b,F b→A b
 names:∀ id,h.length≤id→Γ id=none
 glob:Zdl I w
structure Back (F A I:Nat→Prop) (Γ:Gh) (w:World) (hs:List Zj) (res:AV) (I' : Nat→Prop) (Γ' : Gh) (v:Value) (w' : World):Prop where
 heads:ZX Γ Γ'
 keeps:ZE I I' w w'
 sub:∀ b,I' b→I b∨F b
 fr:Fr F w w'
 res:Rep Γ' w' I' res v
 objs:Wo Γ' w' I' F A (Yw 0 hs)
 inj:∀ i j o o' b,lkp (Yw 0 hs) i=some o→lkp (Yw 0 hs) j=some o'→Blk Γ' w' i o b→Blk Γ' w' j o' b→i=j
 bound:∀ b,I' b→b<w'.heap.size
 names:∀ id,hs.length≤id→Γ' id=none
def Enters (P:Program) (f:FuncId):Prop:=∃ fn,P.funcs[f]?=some fn∧(fn.name == "runtime.NumGoroutine")=false∧fn.body.isNone=false
def ZgC (P:Program) (f:FuncId) (as:List AV) (h:List Zj) (res:AV) (hs:List Zj):Prop:=
 Enters P f∧∀ (F A I:Nat→Prop) (Γ:Gh) (args:List Value) (w:World),Pre F A I Γ h as args w→Calls P f args.toArray w fun e w'=>∃ v I' Γ',e=.returned v∧Back F A I Γ w hs res I' Γ' v w'
def Qe (P:Program) (C:Orc):Prop:=∀ f as h res hs,C f as h=some (res,hs)→ZgC P f as h res hs
section
variable {P:Program} {nt:Nat} {U:Nat→Prop} {F A I:Nat→Prop} {Γ:Gh} {sl:Sl} {hp:Hp} {a:Act} {w:World}
def Zlq (P:Program) (nt:Nat) (F A I:Nat→Prop) (Γ:Gh) (U:Nat→Prop) (sl:Sl) (hp:Hp) (a:Act) (w:World) (o:Oper) (base:Nat) (ce:Zb):Prop:=
 ∀ (K:Act→World→Prop) (Q:Exit→Act→World→Prop),(∀ u w',Y1 nt F A I Γ w (Wf U base) (ce.on o.dst sl hp).1 (ce.on o.dst sl hp).2 (a.put o.dst u) w'→K (a.put o.dst u) w')→o.wp P a w K Q
theorem J9.opWp {o:Oper} {base:Nat} {ce:Zb} (h:J9 P nt F A I Γ U sl hp a w o base ce):Zlq P nt F A I Γ U sl hp a w o base ce:=by
 intro K Q hK;obtain⟨u,w',h1,h2⟩:=h;exact h1.wp (hK u w' h2)
def Zim (Γ:Gh) (w:World) (hp:Hp) (I' : Nat→Prop) (ids:List Nat):Prop:=∀ id∈ids,∀ o b,lkp hp id=some o→ZbE (some o)=true→Blk Γ w id o b→I' b
theorem Zim.sub {I' : Nat→Prop} {ids aa : List Nat} (h:Zim Γ w hp I' ids) (hs:∀ id∈aa,id∈ids):Zim Γ w hp I' aa:=fun id ab=>h id (hs id ab)
theorem Zm4 (h:Wo Γ w I F A hp) (ids:List Nat):Zim Γ w hp (ZbX Γ w hp I ids) ids:=by
 intro id aa o b hl hr hb;cases o with
 | box cs=>cases hr
 | gone=>exact hb.isGone.elim
 | tree sz ns xs lk=>exact .inr ⟨id,aa,_,hl,rfl,hb⟩
 | row sz xs ex fz=>
  cases fz with
  | false=>exact .inr ⟨id,aa,_,hl,rfl,hb⟩
  | true=>
   have hb:=hb.row;obtain⟨ad,n,c,h1,h2,h3⟩:=h id _ hl;rw[h1] at hb;obtain⟨ae,rfl,rfl,hc⟩:=ZjQ hb;rcases h3 with h3 | ⟨g,cur,e,hg,h4,h5,h6,h7,h8,h9,ab,af⟩
   ·exact absurd h3.2 hc
   ·cases hg;exact .inl (by simpa using ab)
theorem Zlr (h:Wo Γ w I F A hp) {I' : Nat→Prop} (hI:∀ b,I b→I' b) {id:Nat} (aa:Zim Γ w hp I' [id]) {xs:List D} (he:YI (lkp hp id)=some xs) :
  ∃ ad n c sz,Γ id=some (.row ad n c sz)∧n=xs.length∧n≤c∧((n=0∧c=0)∨∃ g,ad=some ⟨g,0,none⟩∧I' g∧0<sz∧Y0 w I' g sz xs 0):=by
 unfold YI at he;split at he
 ·rename_i sz af ex fz hl;cases he;obtain⟨ad,n,c,h1,h2,h3⟩:=h id _ hl;refine⟨ad,n,c,sz,h1,h2,?_⟩;rcases h3 with h3 | ⟨g,cur,e,rfl,hc,hw,h4,h5,h6,h7,h8,hF,h9⟩
  ·exact⟨by omega,.inl h3⟩
  ·refine⟨h4,.inr ⟨g,rfl,aa id (by simp) _ g hl rfl (.inl (by rw[h1];simp[Zr,Kq hc])),h7,?_⟩⟩;cases ex
   ·exact h9.mono' (Wz hI) rfl
   ·exact h9.mono' ⟨fun b hb=>hI b hb.1,fun _ _=>rfl⟩ rfl
 ·rename_i sz ns af hl;cases he;obtain⟨ad,n,c,h1,⟨h2,h3⟩,_⟩:=h id _ hl;refine⟨ad,n,c,sz,h1,h2,?_⟩;rcases h3 with h3 | ⟨g,cur,e,B,rfl,hc,hw,h4,h5,h6,ab,h8,h9,ag⟩
  ·exact⟨by omega,.inl ⟨h3.1,h3.2.1⟩⟩
  ·have ae:Zr (Γ id)=some g:=by rw[h1];simp[Zr,Kq hc]
   exact⟨h4,.inr ⟨g,rfl,aa id (by simp) _ g hl rfl (.inl ae),ab,h8.rep fun b hb=>aa id (by simp) _ b hl rfl (.inr (.inl ⟨g,B,ae,h8,hb⟩))⟩⟩
 ·cases he
theorem Zkb (h:Wo Γ w I F A hp) {I' : Nat→Prop} (hI:∀ b,I b→I' b) {x:AV} {v:Value} (hx:Rep Γ w I x v) (aa:Zim Γ w hp I' (Jb x)) {d:D} (hd:ZcF hp x=some d):QF w I' d v:=by
 unfold ZcF at hd;split at hd
 ·cases hd;exact(QM.1 hx).mono (Wz hI)
 ·cases hd;obtain⟨ad,rfl⟩:=hx;exact⟨ad,0,rfl,by simp,.inl rfl⟩
 ·rename_i id;obtain⟨xs,h1,hd⟩:=Za hd;cases hd;obtain⟨ad,n,c,sz,h2,h3,h4,h5⟩:=Zlr h hI aa h1;obtain⟨aj,n',c',af,h6,rfl⟩:=hx;rw[h2] at h6;cases h6;refine⟨ad,c,by rw[h3],by omega,?_⟩;rcases h5 with h5 | ⟨g,rfl,h7,h8,h9⟩
  ·exact .inl (Kh (by omega))
  ·exact .inr ⟨g,0,sz,rfl,h7,h8,h9⟩
 ·rename_i id off n;obtain⟨xs,h1,hd⟩:=Za hd;cases hd;obtain⟨ad,m,c,sz,h2,h3,h4,h5⟩:=Zlr h hI aa h1;obtain⟨a0,m',c',af,av,h6,h7,h8,rfl,h9,ab⟩:=hx;rw[h2] at h6;cases h6;have ae:n=((xs.drop off).take n).length:=by simp;omega
  refine⟨av,c-off,by rw[← ae],by omega,?_⟩;by_cases hn:n=0
  ·exact .inl (Kh (by omega))
  ·rcases h5 with h5 | ⟨g,rfl,ag,ah,ai⟩
   ·omega
   ·rcases ab with ab | ab
    ·subst ab;exact .inr ⟨g,off*sz,sz,by simp[Y3],ag,ah,by simpa using Zep ai off n⟩
    ·omega
 ·cases hd
theorem Zof (h:Wo Γ w I F A hp) {I' : Nat→Prop} (hI:∀ b,I b→I' b):∀ {xs:List AV} {vs:List Value} {ds:List D},Zp (Xu Γ w I) xs vs→Zim Γ w hp I' (xs.flatMap Jb)→Qd (ZcF hp) xs=some ds→WM D.one ds=true→Qi w I' ds vs
 | [],[],ds,_,_,hd,_=>by simp only[Qd] at hd;cases hd;simp[Qi]
 | [],_ :: _,_,h,_,_,_=>h.elim
 | _ :: _,[],_,h,_,_,_=>h.elim
 | x :: xs,v :: vs,ds,hr,hl,hd,h1=>by
  simp only[Qd] at hd;obtain⟨d,h2,hd⟩:=Za hd;obtain⟨ab,h3,hd⟩:=Za hd;cases hd;simp only[WM,Kb] at h1;refine⟨v,vs,rfl,h1.1,(QF.one h1.1).1 (Zkb h hI hr.1.rep2.rep (hl.sub fun id aa=>by simp only[Kv,Kc];exact .inl aa) h2),Zof h hI hr.2 (hl.sub fun id aa=>by simp only[Kv,Kc];exact .inr aa) h3 h1.2⟩
theorem Zm5 (h:Wo Γ w I F A hp) {I' : Nat→Prop} (hI:∀ b,I b→I' b) {x:AV} {v:Value} (hx:Rep Γ w I x v) (aa:Zim Γ w hp I' (Zah x)) {d:D} (hd:toD hp x=some d):QF w I' d v:=by
 unfold toD at hd;split at hd
 ·rename_i cs;obtain⟨ds,h1,hd⟩:=Za hd;split at hd
  ·rename_i h2;cases hd;obtain⟨vs,rfl,h3⟩:=hx;exact⟨vs,rfl,Zof h hI h3 aa h1 h2⟩
  ·cases hd
 ·rename_i ab;refine Zkb h hI hx ?_ hd;cases x<;>first | exact aa | (exact absurd rfl (ab _))
def Zog (x y:AV):List Nat:=match y with
 | .d _=>Zah x
 | _=>[]
theorem ZrN (h:Wo Γ w I F A hp) {I' : Nat→Prop} (hI:∀ b,I b→I' b) {m:Bool} {x y:AV} {v:Value} (hx:Rep Γ w I x v) (ha:Ja hp m x=some y) (aa:Zim Γ w hp I' (Zog x y)):Rep Γ w I' y v:=by
 have keep:Rep Γ w I' x v:=hx.mono (ZX.refl Γ) (Wz hI);unfold Ja at ha;split at ha
 ·cases ha;exact keep
 ·cases ha;exact keep
 ·cases ha;exact keep
 ·cases ha;exact keep
 ·cases ha;exact keep
 ·rename_i id;cases m
  ·simp only[Zas,asD] at ha;obtain⟨d,h1,ha⟩:=Za ha;cases ha;exact QM.2 (Zkb h hI hx aa h1)
  ·simp only[Zas] at ha;cases ha;exact keep
 ·cases m
  ·simp only[ZbD] at ha;cases ha;exact QM.2 (Zm5 h hI hx aa rfl)
  ·simp only[ZbD] at ha;cases ha;exact keep
 ·cases ha;exact keep
 ·cases m
  ·simp only[Zat,asD] at ha;obtain⟨d,h1,ha⟩:=Za ha;cases ha;exact QM.2 (Zm5 h hI hx aa h1)
  ·simp only[Zat] at ha;split at ha
   ·cases ha
   ·cases ha;exact keep
 ·obtain⟨d,h1,ha⟩:=Za ha;cases ha;exact QM.2 (Zm5 h hI hx aa h1)
theorem Zfp (x y:AV) (xs ys:List AV):Xo (x :: xs) (y :: ys)=Zog x y++Xo xs ys:=by
 cases y<;>simp[Xo,Zog]
theorem Zoh (h:Wo Γ w I F A hp) {I' : Nat→Prop} (hI:∀ b,I b→I' b) (m:Nat→Bool):∀ {xs ys:List AV} {vs:List Value} (i:Nat),Zp (Rep Γ w I) xs vs→args hp m i xs=some ys→Zim Γ w hp I' (Xo xs ys)→Zp (Rep Γ w I') ys vs
 | [],ys,[],i,_,ha,_=>by simp only[args] at ha;cases ha;exact trivial
 | [],_,_ :: _,_,h,_,_=>h.elim
 | _ :: _,_,[],_,h,_,_=>h.elim
 | x :: xs,ys,v :: vs,i,hr,ha,hl=>by
  simp only[args] at ha;obtain⟨y,h1,ha⟩:=Za ha;obtain⟨ab,h2,ha⟩:=Za ha;cases ha;rw[Zfp] at hl;exact⟨ZrN h hI hr.1 h1 (hl.sub fun id aa=>by simp[aa]),Zoh h hI m (i+1) hr.2 h2 (hl.sub fun id aa=>by simp[aa])⟩
def Zak (ids:List Nat) (Γ:Gh):Gh:=fun k=>match ids[k]? with
 | some id=>Γ id
 | none=>none
theorem XM {ids:List Nat} {k id:Nat} (h:ids[k]?=some id):Zak ids Γ k=Γ id:=by simp[Zak,h]
theorem Zbn {ids l:List Nat} (h:∀ id∈l,id∈ids):WE Γ (Zak ids Γ) (Ye ids) l:=by
 intro id aa r hr;rw[XM (ZdM (h id aa)).2];exact hr
theorem Zfq {S S' : Nat→Prop} {b sz:Nat} {ys:List D} (hf:WM D.flat ys=true) {o:Nat} (h:Y0 w S b sz ys o):Y0 w S' b sz ys o:=by
 rw[Q2] at h ⊢;intro i x hx;obtain⟨vs,h1,h2,h3⟩:=h i x hx;refine⟨vs,h1,h2,?_⟩;have aa : x.flat=true:=by
  clear h h1 h2 h3
  induction ys generalizing i with
  | nil=>simp at hx
  | cons y ys ih=>
   simp only[WM,Kb] at hf;cases i with
   | zero=>simp at hx;subst hx;exact hf.1
   | succ i=>simp at hx;exact ih hf.2 i hx
 have one:∀ {y:D} {v:Value},y.plain=true→ZC w S y [v]→ZC w S' y [v]:=by
  intro y v hy hv;cases y<;>first | (simpa [ZC] using hv) | (simp[D.plain] at hy)
 have all:∀ (ds:List D) (us:List Value),WM D.plain ds=true→Qi w S ds us→Qi w S' ds us:=by
  intro ds
  induction ds with
  | nil=>intro us _ h;simpa [Qi] using h
  | cons d ds ih=>
   intro us hp h;simp only[WM,Kb] at hp;obtain⟨v,r,h1,h2,h3,h4⟩:=h;exact⟨v,r,h1,h2,one hp.1 h3,ih r hp.2 h4⟩
 have:=all x.cells vs aa h3.cells;exact Zix (Qt.1 this)
theorem Zea.give {I' F' A' : Nat→Prop} {ad:Option Addr} {n c sz:Nat} {ys:List D} (h:Zea w I F A ad n c sz ys true false) (hf:WM D.flat ys=true)
  (hb:∀ b,Zr (some (.row ad n c sz))=some b→F b→F' b∧(I' b→I b)):Zea w I' F' A' ad n c sz ys true false:=by
 obtain⟨h2,h3⟩:=h;refine⟨h2,?_⟩;rcases h3 with h3 | ⟨g,cur,e,rfl,hc,hw,h4,h5,h6,h7,h8,aa,h9⟩
 ·exact .inl h3
 ·obtain⟨ab,ae⟩:=hb g (by simp[Zr,Kq hc]) aa;exact .inr ⟨g,cur,e,rfl,hc,hw,h4,h5,h6,h7,by simp at h8 ⊢;exact fun hi=>h8 (ae hi),ab,Zfq hf h9⟩
theorem Zls {ids:List Nat} {id k:Nat} (hk:ids[k]?=some id) {o:Zj} (ho:Xr Γ w I F A id o) {I' F' A' : Nat→Prop} (hI:∀ b,I b→I' b) (hF:∀ b,Blk Γ w id o b→F' b) (hA:∀ b,I b→A b→A' b)
  (hn:∀ b,Blk Γ w id o b→I' b→I b):Xr (Zak ids Γ) w I' F' A' k (WO ids o):=by
 cases o with
 | gone=>
  obtain⟨r,hr⟩:=ho;exact⟨r,by rw[XM hk,hr]⟩
 | tree sz ns xs lk=>
  obtain⟨ad,n,c,h1,h2,h3⟩:=ho;refine⟨ad,n,c,by rw[XM hk,h1],?_,Xf.lose (Xf.kill (Γ':=Γ) h3 (fun _ _ _ h=>h) fun _ _=>rfl)⟩;rw[Vy,Vz];refine h2.mono fun b hb=>?_;rw[← h1] at hb;have ab : Blk Γ w id (.tree sz ns xs lk) b:=hb.elim .inl fun h=>.inr (.inl h);exact⟨rfl,hn b ab,fun _=>hF b ab⟩
 | box cs=>
  obtain⟨b,cur,e,h1,h2,h3,h4,h5,af⟩:=ho;have hb:Blk Γ w id (.box cs) b:=.inl (by rw[h1];rfl);refine⟨b,cur,e,by rw[XM hk,h1],h2,fun hi=>h3 (hn b hb hi),hF b hb,?_,((af.mono fun x te l u v g hc hv hg=>have hB:=Or.inr (Or.inr (Zn0 h1 h2 hc hv hg));⟨rfl,hn g hB,fun _=>hF g hB⟩).map (Vp _)).map (Us _)⟩;have h6:Zp (QV Γ w I) (cs.map (ZD ((VG (.box cs)).filter fun i=>!ids.contains i))) cur.toList:=h5.map_left fun _ _ h=>ZeD h;refine JS (Zbn fun ae aa=>?_) (Wz hI) h6;obtain⟨y,hy,aa⟩:=Kk.1 aa;obtain⟨x,hx,rfl⟩:=KX.1 hy;obtain⟨h7,h8⟩:=Zc4 _ x ae aa;have h9:ae∈VG (.box cs):=Kk.2 ⟨x,hx,h7⟩
  simp only[List.mem_filter,KF,KC,KL,not_and,Decidable.not_not] at h8;exact h8 h9
 | row sz xs ex fz=>
  obtain⟨ad,n,c,h1,h2,h3⟩:=ho;refine⟨ad,n,c,by rw[XM hk,h1],h2,?_⟩;rcases h3 with h3 | ⟨g,cur,e,rfl,hc,hw,h4,h5,h6,h7,h8,ag,h9⟩
  ·exact .inl h3
  ·have hb:Blk Γ w id (.row sz xs ex fz) g:=.inl (by rw[h1];simp[Zr,Kq hc]);refine .inr ⟨g,cur,e,rfl,hc,hw,h4,h5,h6,h7,?_,hF g hb,?_⟩
   ·cases fz
    ·simp at h8 ⊢;exact fun hi=>h8 (hn g hb hi)
    ·simp at h8 ⊢;exact hI g h8
   ·cases ex
    ·exact h9.mono' (Wz hI) rfl
    ·simp only[Kj] at h9 ⊢;exact h9.mono' ⟨fun b hb=>⟨hI b hb.1,hA b hb.1 hb.2⟩,fun _ _=>rfl⟩ rfl
end
end Go.Abs

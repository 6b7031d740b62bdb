/- The abstract semantics: numbers as texts,words joined,bytes sought: told by what they do. Own text. -/
import Derived.Test.YtkdjbefmiiibpaaGreatDoorAbsDel
import Derived.Test.YtkdjbefmiiibpaaGreatDoorAbsBld
import Derived.Shelf.Strconv.Itoa3
import Derived.Shelf.Strings.OnBuilder
import Derived.Shelf.Strings.Search2
import Derived.Shelf.Strings.Count
set_option linter.unusedSimpArgs false
set_option linter.unusedVariables false
namespace Go.Abs
open Go Go.Shelf Go.Proofs Go.Abs.E Go.Abs.L
variable {P:Program} {ρ:Ren}
def ZcT:Nat:=140737488355328
def Zva (T te:Nat):List AV→List Zo→Option (AV×List Zo)
 | [.ptr 0 0,.d (.str s)],[.box [.bnil 0 e,.bbuf t l]]=>if e=T∧t=te∧0<l.length+s.length∧l.length+s.length≤ZcT then some (.tup [.d (.int .i64 s.length),.nili],[.box [.bnil 0 e,.bbuf t (l++s)]]) else none
 | _,_=>none
def ZnL (T te:Nat):List AV→List Zo→Option (AV×List Zo)
 | [.ptr 0 0,.d (.int .u8 c)],[.box [.bnil 0 e,.bbuf t l]]=>if e=T∧t=te∧l.length+1≤ZcT∧0≤c∧c<256 then some (.nili,[.box [.bnil 0 e,.bbuf t (l++[UInt8.ofNat c.toNat])]]) else none
 | _,_=>none
def ZnM (T te:Nat):List AV→List Zo→Option (AV×List Zo)
 | [.ptr 0 0],[.box [.bnil 0 e,.bbuf t l]]=>if e=T∧t=te then some (.d (.str l),[.box [.bnil 0 e,.junk]]) else none
 | _,_=>none
theorem ZpW {F A I:Nat→Prop} {Γ:Gh} {e:Nat} {y:AV} {avs:List AV} {args:List Value} {w:World} (hp:Pre F A I Γ [.box [.bnil 0 e,y]] (.ptr 0 0 :: avs) args w) :
  ∃ b p v rest,args=.pointer (some ⟨b,0,none⟩) :: rest∧Zz (Rep Γ w I) avs rest∧Γ 0=some (.box (b,e))∧w.heap[b]?=some (.cells #[p,v] e (0,0))∧(p=.pointer none∨p=.pointer (some ⟨b,0,none⟩))∧YA Γ w I y v∧¬I b∧F b∧Zdp w I F b [.bnil 0 e,y] [p,v]:=by
 obtain⟨b,cur,e',h1,h2,h3,h4,h5,h6⟩:=hp.objs 0 _ rfl
 match args,hp.args with
 | a :: rest,ha=>
  obtain⟨b',hb',ha'⟩:=ha.1
  rw[h1] at hb'
  cases hb'
  match hc:cur.toList,h5,h6 with
  | [p,v],h5,h6=>
   obtain⟨b2,hb2,hp2⟩:=h5.1
   rw[h1] at hb2
   cases hb2
   have hcur:cur = #[p,v]:=by rw[← Array.toArray_toList (xs:=cur),hc]
   subst hcur
   exact⟨b,p,v,rest,by rw[ha'],ha.2,h1,h2,hp2,h5.2.1,h3,h4,h6⟩
  | [],h5,_=>exact h5.elim
  | [_],h5,_=>exact h5.2.elim
  | _ :: _ :: _ :: _,h5,_=>exact h5.2.2.elim
theorem Ztw {o:Zo} {id:Nat} {o' : Zo} (h:lkp (W5 0 [o]) id=some o'):id=0∧o'=o:=by
 rw[Wi] at h
 simp only[Nat.zero_le,if_true,Nat.sub_zero] at h
 match id,h with
 | 0,h=>simp at h;exact⟨rfl,h.symm⟩
 | n+1,h=>simp at h
theorem ZjN {F A I:Nat→Prop} {Γ:Gh} {e:Nat} {y y' : AV} {avs:List AV} {args:List Value} {w w' : World} (hp:Pre F A I Γ [.box [.bnil 0 e,y]] (.ptr 0 0 :: avs) args w) {b:Nat} {p v v' : Value} {r:AV} {u:Value}
  (h0:Γ 0=some (.box (b,e))) (hF:F b) (hI:¬I b) (hb:w'.heap[b]?=some (.cells #[p,v'] e (0,0))) (hpp:p=.pointer none∨p=.pointer (some ⟨b,0,none⟩)) (hbut:But b v w w') (hv:∀ g,v.ownBlock=some g→g<w.heap.size→F g∧¬I g)
  (hy:YA Γ w' I y' v') (hbuf:Zdp w' I F b [.bnil 0 e,y'] [p,v']) (hr:Rep Γ w' I r u):ZyL F A I Γ w [.box [.bnil 0 e,y']] r I Γ u w' where
 boxes:=fun _ _ h=>h
 keeps:=⟨fun _ h=>h,fun k hk=>hbut.block k (hp.bound k hk) (fun e=>hI (e ▸ hk)) fun e=>(hv k e (hp.bound k hk)).2 hk⟩
 sub:=fun _ h=>.inl h
 fr:=⟨hbut.os,hbut.tape,hbut.output,hbut.size,fun k hk hf=>hbut.block k hk (fun e=>hf (e ▸ hF)) fun e=>hf (hv k e hk).1⟩
 res:=hr
 objs:=fun id o hl=>by
  obtain⟨rfl,rfl⟩:=Ztw hl
  exact⟨b,#[p,v'],e,h0,hb,hI,hF,⟨⟨b,h0,hpp⟩,hy,trivial⟩,hbuf⟩
 inj:=fun i j o o' _ hi hj _ _=>by rw[(Ztw hi).1,(Ztw hj).1]
 bound:=fun k hk=>Nat.lt_of_lt_of_le (hp.bound k hk) hbut.size
 names:=fun id hid=>hp.names id hid
theorem Zsr {F I:Nat→Prop} {w w' : World} {b te:Nat} {v v' : Value} {l:List UInt8} (hown:w'.ownsRow 0 te 1 v' (l.map fun x=>Value.int .u8 x.toNat).length (l.map fun x=>Value.int .u8 x.toNat)) (h0:0<l.length) (hne:v'.ownBlock≠some b)
  (hnear:Zv4 w v v') (hv:∀ g,v.ownBlock=some g→g<w.heap.size→F g∧¬I g) (hfresh:∀ g,w.heap.size≤g→F g∧¬I g):ZmL w' I F b te l v':=by
 rcases hown.2 with ⟨_,h⟩ | ⟨g,cap,cur,rfl,_,h1,h2,h3,h4,h5⟩
 ·simp at h;subst h;simp at h0
 ·have hg:F g∧¬I g:=by
   rcases Nat.lt_or_ge g w.heap.size with hl | hl
   ·rcases hnear g rfl with h | h
    ·exact hv g h hl
    ·exact hfresh g h
   ·exact hfresh g hl
  simp only[List.length_map] at h2 h5 ⊢
  refine .inr ⟨g,cap,cur,by simp,h0,h1,h2,h3,by omega,by simpa using h5,hg.2,hg.1,fun e=>hne (by simp[Value.ownBlock,e])⟩
theorem Zyh {F I:Nat→Prop} {w:World} {b te:Nat} {l:List UInt8} {v:Value} (h:ZmL w I F b te l v):w.ownsRow 0 te 1 v (l.map fun x=>Value.int .u8 x.toNat).length (l.map fun x=>Value.int .u8 x.toNat)∧v.ownBlock≠some b∧(∀ g,v.ownBlock=some g→g<w.heap.size→F g∧¬I g):=by
 rcases h with ⟨rfl,rfl⟩ | ⟨g,cap,cur,rfl,h1,h2,h3,h4,h5,h6,h7,h8,h9⟩
 ·exact⟨World.ownsRow_nil w 0 te 1,by simp[Value.ownBlock],fun g hg=>by cases hg⟩
 refine⟨⟨by simp,.inr ⟨g,cap,cur,by simp,Nat.zero_le _,h2,by simpa using h3,h4,by omega,by simpa using h6⟩⟩,fun e=>h9 (by simpa [Value.ownBlock] using e),fun g' hg' _=>?_⟩
 simp only[Value.ownBlock,Option.some.injEq] at hg'
 subst hg'
 exact⟨h8,h7⟩
theorem ZDg {Γ:Gh} {w:World} {I:Nat→Prop} {s:List UInt8} {rest:List Value} (h:Zz (Rep Γ w I) [.d (.str s)] rest):∃ t:ByteArray,rest=[.string t]∧t.data.toList=s∧t.size=s.length:=by
 match rest,h with
 | [x],h=>
  have h1:=Q5.1 h.1
  simp only[Yq,Z2] at h1
  obtain⟨t,h2,h3⟩:=h1
  simp only[List.cons.injEq,and_true] at h2
  exact⟨t,by rw[h2],h3,by rw[← h3,Array.length_toList];rfl⟩
theorem Ztx (L:Lays.n166 P ρ) (X:Builder.Extra P ρ) (hE:Zio P (ρ.f 166)):QS P (ρ.f 166) (Zva (ρ.t 72) (ρ.t 5)):=by
 intro avs h r hs hp
 unfold Zva at hp
 split at hp
 ·rename_i s e te l
  split at hp
  ·rename_i hc
   obtain⟨rfl,rfl,c1,c2⟩:=hc
   cases hp
   refine⟨⟨hE,fun F A I Γ args w hpre=>?_⟩,fun k cs hk=>?_⟩
   ·obtain⟨b,p,v,rest,rfl,hrest,h0,hb,hpp,hy,hI,hF,hbf⟩:=ZpW hpre
    obtain⟨t,rfl,ht,hsz⟩:=ZDg hrest
    obtain⟨g1,g2,g3⟩:=Zyh (show ZmL w I F b (ρ.t 5) l v from hbf)
    refine(ZCB L X b p v _ t w hpp hb g1 g2 (by unfold ZcT at c2;simp;omega)).mono fun e' w' ⟨he,hpost⟩=>?_
    obtain⟨v',k1,k2,k3,k4,k5⟩:=hpost
    have ek:(l.map fun x=>Value.int .u8 x.toNat)++Lib.strCells t=(l++s).map fun x=>Value.int .u8 x.toNat:=by rw[List.map_append,Lib.strCells,ht]
    rw[ek] at k2
    have hbuf:=Zsr k2 (by simp;omega) k4 k3 g3 (fun g hg=>⟨hpre.fresh g hg,fun hi=>by have:=hpre.bound g hi;omega⟩)
    obtain⟨ao,m,cap,hv'⟩:=ZoF k2
    exact⟨_,I,Γ,he,ZjN hpre h0 hF hI k1 (.inr rfl) k5 g3 ⟨ao,m,cap,hv'⟩ hbuf ⟨_,rfl,Zpy.2 (by rw[hsz];exact rfl),rfl,trivial⟩⟩
   ·match k,hk with
    | 0,hk=>exact⟨_,rfl⟩
    | _+1,hk=>simp at hk
  ·cases hp
 ·cases hp
theorem u8_of {c:Int} (h0:0≤c) (h1:c<256):((UInt8.ofNat c.toNat).toNat:Int)=c:=by
 rw[UInt8.toNat_ofNat'];omega
theorem ZpX (L:Lays.n167 P ρ) (X:Builder.Extra P ρ) (hE:Zio P (ρ.f 167)):QS P (ρ.f 167) (ZnL (ρ.t 72) (ρ.t 5)):=by
 intro avs h r hs hp
 unfold ZnL at hp
 split at hp
 ·rename_i c e te l
  split at hp
  ·rename_i hc
   obtain⟨rfl,rfl,c2,c3,c4⟩:=hc
   cases hp
   refine⟨⟨hE,fun F A I Γ args w hpre=>?_⟩,fun k cs hk=>?_⟩
   ·obtain⟨b,p,v,rest,rfl,hrest,h0,hb,hpp,hy,hI,hF,hbf⟩:=ZpW hpre
    obtain rfl:rest=[.int .u8 c]:=by
     match rest,hrest with
     | [x],hr=>have h1:=Q5.1 hr.1;simpa [Yq,Z2] using h1
    obtain⟨g1,g2,g3⟩:=Zyh (show ZmL w I F b (ρ.t 5) l v from hbf)
    refine(ZAl L X b p v _ c w hpp hb g1 g2 (by unfold ZcT at c2;simp;omega)).mono fun e' w' ⟨he,hpost⟩=>?_
    obtain⟨v',k1,k2,k3,k4,k5⟩:=hpost
    have ek:(l.map fun x=>Value.int .u8 x.toNat)++[.int .u8 c]=(l++[UInt8.ofNat c.toNat]).map fun x=>Value.int .u8 x.toNat:=by
     rw[List.map_append];simp only[List.map_cons,List.map_nil];rw[u8_of c3 c4]
    rw[ek] at k2
    have hbuf:=Zsr k2 (by simp) k4 k3 g3 (fun g hg=>⟨hpre.fresh g hg,fun hi=>by have:=hpre.bound g hi;omega⟩)
    obtain⟨ao,m,cap,hv'⟩:=ZoF k2
    exact⟨_,I,Γ,he,ZjN hpre h0 hF hI k1 (.inr rfl) k5 g3 ⟨ao,m,cap,hv'⟩ hbuf rfl⟩
   ·match k,hk with
    | 0,hk=>exact⟨_,rfl⟩
    | _+1,hk=>simp at hk
  ·cases hp
 ·cases hp
theorem ZlU (w:World) (g n k:Nat) (h:k≠g):(w.freeze ⟨g,0,none⟩ n).heap[k]?=w.heap[k]?:=by
 unfold World.freeze
 split
 ·rfl
 ·simp only[Array.getElem?_modify]
  rw[if_neg (fun e=>h e.symm)]
theorem Zvb (w:World) (g n:Nat):(w.freeze ⟨g,0,none⟩ n).os=w.os∧(w.freeze ⟨g,0,none⟩ n).tape=w.tape∧(w.freeze ⟨g,0,none⟩ n).output=w.output∧(w.freeze ⟨g,0,none⟩ n).heap.size=w.heap.size:=by
 unfold World.freeze
 split
 ·exact⟨rfl,rfl,rfl,rfl⟩
 ·exact⟨rfl,rfl,rfl,by simp⟩
theorem ZpY (L:Lays.n169 P ρ) (X:Builder.Extra P ρ) (hE:Zio P (ρ.f 169)):QS P (ρ.f 169) (ZnM (ρ.t 72) (ρ.t 5)):=by
 intro avs h r hs hp
 unfold ZnM at hp
 split at hp
 ·rename_i e te l
  split at hp
  ·rename_i hc
   obtain⟨rfl,rfl⟩:=hc
   cases hp
   refine⟨⟨hE,fun F A I Γ args w hpre=>?_⟩,fun k cs hk=>?_⟩
   ·obtain⟨b,p,v,rest,rfl,hrest,h0,hb,hpp,hy,hI,hF,hbf⟩:=ZpW hpre
    obtain rfl:rest=[]:=by
     match rest,hrest with
     | [],_=>rfl
    rcases (show ZmL w I F b (ρ.t 5) l v from hbf) with ⟨rfl,rfl⟩ | ⟨g,cap,cur,rfl,k1,k2,k3,k4,k5,k6,k7,k8,k9⟩
    ·refine(ZAm L X b p w hb).mono fun e' w' ⟨he,hw⟩=>?_
     subst hw
     have hbut:But b (.slice none 0 0) w w.drew:=⟨rfl,rfl,rfl,Nat.le_refl _,fun _ _ _ _=>rfl⟩
     exact⟨_,I,Γ,he,ZjN hpre h0 hF hI hb hpp hbut (fun g hg=>by cases hg) trivial (ZbP rfl) (Q5.2 ⟨_,rfl,rfl⟩)⟩
    refine(ZAn L X b g cap p cur l w hb k2 (fun h=>by subst h;simp at k1) k3 k4 k5 (fun j x hx=>?_)).mono fun e' w' ⟨he,hw⟩=>?_
    ·have hj:j<l.length:=(List.getElem?_eq_some_iff.1 hx).1
     have h1:(cur.toList.take l.length)[j]?=some (.int .u8 x.toNat):=by rw[k6,List.getElem?_map,hx];rfl
     rw[List.getElem?_take,if_pos hj,Array.getElem?_toList] at h1
     simp[World.cell?,k2,h1]
    ·obtain⟨f1,f2,f3,f4⟩:=Zvb w.drew g l.length
     have hbut:But b (.slice (some ⟨g,0,none⟩) l.length cap) w w':=by
      subst hw
      exact⟨f1,f2,f3,Nat.le_of_eq f4.symm,fun k _ _ hk=>ZlU w.drew g l.length k fun e=>hk (by simp[Value.ownBlock,e])⟩
     have hb' : w'.heap[b]?=some (.cells #[p,.slice (some ⟨g,0,none⟩) l.length cap] (ρ.t 72) (0,0)):=by
      subst hw
      exact(ZlU w.drew g l.length b (fun e=>k9 e.symm)).trans hb
     exact⟨_,I,Γ,he,ZjN hpre h0 hF hI hb' hpp hbut (fun g' hg' _=>by simp only[Value.ownBlock,Option.some.injEq] at hg';subst hg';exact⟨k8,k7⟩) trivial (ZbP rfl) (Q5.2 ⟨_,rfl,by simp⟩)⟩
   ·match k,hk with
    | 0,hk=>exact⟨_,rfl⟩
    | _+1,hk=>simp at hk
  ·cases hp
 ·cases hp
end Go.Abs
set_option linter.unusedSimpArgs false
set_option linter.unusedVariables false
namespace Go.Abs
open Go Go.Shelf Go.Proofs Go.Abs.E Go.Abs.L
variable {P:Program} {ρ:Ren}
theorem ZjO {F A I:Nat→Prop} {Γ:Gh} {avs:List AV} {args:List Value} {w w' : World} {r:AV} {v:Value} (hp:Pre F A I Γ [] avs args w) (hfr:Fr (fun _=>False) w w') (hres:Rep Γ w' I r v):ZyL F A I Γ w [] r I Γ v w' where
 boxes:=fun id b h=>h
 keeps:=⟨fun b h=>h,fun b h=>hfr.block b (hp.bound b h) (fun h=>h)⟩
 sub:=fun b h=>.inl h
 fr:=⟨hfr.os,hfr.tape,hfr.output,hfr.size,fun k hk _=>hfr.block k hk (fun h=>h)⟩
 res:=hres
 objs:=fun id o hl=>by cases hl
 inj:=fun i j o o' b hi=>by cases hi
 bound:=fun b h=>Nat.lt_of_lt_of_le (hp.bound b h) hfr.size
 names:=fun id hid=>hp.names id hid
def ZnN:List AV→List Zo→Option (AV×List Zo)
 | [.d (.int .i64 n)],[]=>if 0≤n∧n≤9223372036854775807 then some (.d (.str (Lib.decDigits n.toNat)),[]) else none
 | _,_=>none
theorem Zty (L:Proofs.LaysM.n171 P ρ) (hE:Zio P (ρ.f 171)) (hg:P.globalNamed "internal/strconv.uint64pow10"=some 1):QS P (ρ.f 171) ZnN:=by
 intro avs h r hs hp
 unfold ZnN at hp
 split at hp
 ·rename_i n
  split at hp
  ·rename_i hc
   cases hp
   refine⟨⟨hE,fun F A I Γ args w hpre=>?_⟩,fun k cs hk=>by simp at hk⟩
   have ha:=hpre.args
   have ht:Lib.TabIs P w "internal/strconv.uint64pow10" .u64 Lib.pow10Tab:=by
    obtain⟨_,e,fr,h1⟩:=hpre.glob (1,ZmK.toArray) (List.mem_cons_self ..)
    unfold Lib.TabIs World.var?
    rw[hg]
    simp only[Option.bind_some,h1]
    simp[ZmK,Lib.pow10Tab]
   match args,ha with
   | [v],ha=>
    have hv:v=.int .i64 n:=by
     have:=Q5.1 ha.1
     simpa [Yq,Z2] using this
    subst hv
    refine(Proofs.Any.strconv_Itoa L n (by omega) hc.2 w ht).mono fun e w' he=>?_
    obtain⟨rfl,k,os,rfl⟩:=he
    refine⟨_,I,Γ,rfl,ZjO hpre ⟨rfl,rfl,rfl,by simp,fun k hk _=>?_⟩ (Q5.2 ?_)⟩
    ·simp[Sort.grow,World.drewN,hk,Array.getElem?_append]
    ·refine⟨_,rfl,?_⟩
     unfold Lib.itoa
     rw[if_neg (by omega)]
  ·cases hp
 ·cases hp
theorem Zvc {Γ:Gh} {w:World} {I:Nat→Prop} {s t:List UInt8} {args:List Value} (h:Zz (Rep Γ w I) [.d (.str s),.d (.str t)] args):∃ a b:ByteArray,args=[.string a,.string b]∧a.data.toList=s∧b.data.toList=t:=by
 match args,h with
 | [x,y],h=>
  have h1:=Q5.1 h.1
  have h2:=Q5.1 h.2.1
  simp only[Yq,Z2] at h1 h2
  obtain⟨a,e1,h1⟩:=h1
  obtain⟨b,e2,h2⟩:=h2
  simp only[List.cons.injEq,and_true] at e1 e2
  exact⟨a,b,by rw[e1,e2],h1,h2⟩
def Zvd:List AV→List Zo→Option (AV×List Zo)
 | [.d (.str s),.d (.str [c])],[]=>some (.d (.int .i64 (Lib.indexByte s c)),[])
 | _,_=>none
def Zve:List AV→List Zo→Option (AV×List Zo)
 | [.d (.str s),.d (.str [c])],[]=>some (.d (.int .i64 (Lib.countByte s c)),[])
 | _,_=>none
theorem Ztz (L:Lays.n219 P ρ) (hE:Zio P (ρ.f 219)):QS P (ρ.f 219) Zvd:=by
 intro avs h r hs hp
 unfold Zvd at hp
 split at hp
 ·rename_i s c
  cases hp
  refine⟨⟨hE,fun F A I Γ args w hpre=>?_⟩,fun k cs hk=>by simp at hk⟩
  obtain⟨a,b,rfl,rfl,hb⟩:=Zvc hpre.args
  obtain rfl:b=⟨#[c]⟩:=by
   obtain⟨d⟩:=b
   congr 1
   exact Array.toList_inj.1 hb
  refine(Any.stringslite_Index_one L a c w).mono fun e w' he=>?_
  obtain⟨rfl,rfl⟩:=he
  exact⟨_,I,Γ,rfl,ZjO hpre (Fr.refl _ _) (Q5.2 rfl)⟩
 ·cases hp
theorem ZtA (L:Lays.n138 P ρ) (hE:Zio P (ρ.f 138)):QS P (ρ.f 138) Zve:=by
 intro avs h r hs hp
 unfold Zve at hp
 split at hp
 ·rename_i s c
  cases hp
  refine⟨⟨hE,fun F A I Γ args w hpre=>?_⟩,fun k cs hk=>by simp at hk⟩
  obtain⟨a,b,rfl,rfl,hb⟩:=Zvc hpre.args
  obtain rfl:b=⟨#[c]⟩:=by
   obtain⟨d⟩:=b
   congr 1
   exact Array.toList_inj.1 hb
  refine(Any.strings_Count_one L a c w).mono fun e w' he=>?_
  obtain⟨rfl,rfl⟩:=he
  exact⟨_,I,Γ,rfl,ZjO hpre (Fr.refl _ _) (Q5.2 rfl)⟩
 ·cases hp
def ZiU:List D→Option (List (List UInt8))
 | []=>some []
 | .str s :: r=>bnd (ZiU r) fun q=>some (s :: q)
 | _ :: _=>none
def ZnO:List AV→List Zo→Option (AV×List Zo)
 | [.d (.sl xs),.d (.str sep)],[]=>bnd (ZiU xs) fun ws=>if 0<ws.length∧ws.length≤ZcT∧(Lib.join ws sep).length≤ZcT then some (.d (.str (Lib.join ws sep)),[]) else none
 | _,_=>none
theorem Zyi {w:World} {S:Nat→Prop} {b sz:Nat}:∀ {xs:List D} {ws:List (List UInt8)} {o:Nat},ZiU xs=some ws→ZaS w S b sz xs o→(∃ ts:List ByteArray,ts.map (·.data.toList)=ws∧ts.length=xs.length∧(xs≠[]→sz=1)∧∀ (j:Nat) t,ts[j]?=some t→w.cell? ⟨b,o+j*sz,none⟩=some (.string t))
 | [],ws,o,h,_=>by
  cases h
  exact⟨[],rfl,rfl,fun h=>absurd rfl h,fun j t h=>by simp at h⟩
 | .str s :: xs,ws,o,h,hr=>by
  simp only[ZiU] at h
  obtain⟨q,h1,h⟩:=Za h
  cases h
  obtain⟨⟨vs,v1,v2,v3⟩,hr'⟩:=hr
  simp only[Z2] at v3
  obtain⟨t,rfl,ht⟩:=v3
  obtain⟨ts,k1,k2,k3,k4⟩:=Zyi h1 hr'
  refine⟨t :: ts,by simp[k1,ht],by simp[k2],fun _=>v1.symm,fun j u hu=>?_⟩
  cases j with
  | zero=>
   simp at hu
   subst hu
   simpa using v2 0 _ rfl
  | succ j=>
   simp at hu
   have:=k4 j u hu
   have e:o+(j+1)*sz=o+sz+j*sz:=by rw[Nat.add_mul];omega
   rw[e];exact this
 | .int _ _ :: _,_,_,h,_=>by cases h
 | .bool _ :: _,_,_,h,_=>by cases h
 | .sl _ :: _,_,_,h,_=>by cases h
 | .agg _ :: _,_,_,h,_=>by cases h
theorem ZpZ:∀ {xs:List D} {ws:List (List UInt8)},ZiU xs=some ws→ws.length=xs.length
 | [],_,h=>by cases h;rfl
 | .str s :: xs,ws,h=>by
  simp only[ZiU] at h
  obtain⟨q,h1,h⟩:=Za h
  cases h
  simp[ZpZ h1]
 | .int _ _ :: _,_,h=>by cases h
 | .bool _ :: _,_,h=>by cases h
 | .sl _ :: _,_,h=>by cases h
 | .agg _ :: _,_,h=>by cases h
theorem Zp0 (L:Lays.n156 P ρ) (X:Builder.Extra P ρ) (hE:Zio P (ρ.f 156)):QS P (ρ.f 156) ZnO:=by
 intro avs h r hs hp
 unfold ZnO at hp
 split at hp
 ·rename_i xs sep
  obtain⟨ws,h1,hp⟩:=Za hp
  split at hp
  ·rename_i hc
   obtain⟨c1,c2,c3⟩:=hc
   cases hp
   refine⟨⟨hE,fun F A I Γ args w hpre=>?_⟩,fun k cs hk=>by simp at hk⟩
   match args,hpre.args with
   | [x,y],ha=>
    have r1:=Q5.1 ha.1
    have r2:=Q5.1 ha.2.1
    simp only[Yq,Z2] at r1 r2
    obtain⟨b,e2,hsep⟩:=r2
    obtain⟨a,c,e1,hlc,hr⟩:=r1
    simp only[List.cons.injEq,and_true] at e1 e2
    subst e1;subst e2
    have hl:=ZpZ h1
    rcases hr with hr | ⟨bk,o,sz,rfl,hI,hsz,hr⟩
    ·rw[hr] at hl;rw[hl] at c1;exact absurd c1 (by simp)
    ·obtain⟨ts,k1,k2,k3,k4⟩:=Zyi h1 hr
     obtain rfl:sz=1:=k3 (by intro e;rw[e] at hl;rw[hl] at c1;exact absurd c1 (by simp))
     have hj:Lib.join (ts.map (·.data.toList)) b.data.toList=Lib.join ws sep:=by rw[k1,hsep]
     rw[← k2]
     refine(Any.strings_Join L X bk o c ts b w (fun j t ht=>by simpa using k4 j t ht) (hpre.bound _ hI) (by unfold ZcT at c2;omega) (by omega) (by rw[hj];unfold ZcT at c3;omega)).mono fun e w' he=>?_
     obtain⟨rfl,hb⟩:=he
     exact⟨_,I,Γ,rfl,ZjO hpre ⟨hb.os,hb.tape,hb.output,hb.size,fun k hk _=>hb.block k hk⟩ (Q5.2 ⟨_,rfl,by rw[hj]⟩)⟩
  ·cases hp
 ·cases hp
end Go.Abs

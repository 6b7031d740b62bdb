import Derived.Test.YtfnegoimdljanaaGreatDoorAbsDel
import Derived.Test.YtfnegoimdljanaaGreatDoorAbsBld
import Derived.Shelf.Strconv.Itoa3
import Derived.Shelf.Strings.OnBuilder
import Derived.Shelf.Strings.Search2
import Derived.Shelf.Strings.Count
set_option linter.unusedSimpArgs false
set_option linter.unusedVariables false
namespace Go.Abs
open Go Go.Shelf Go.Proofs Go.Abs.E Go.Abs.L
variable {P:Program} {ρ:Ren}
def ZaD:Nat:=140737488355328
def ZAe (T te:Nat):List AV→List Zk→Option (AV×List Zk)
 | [.ptr 0 0,.d (.str s)],[.box [.bnil 0 e,.bbuf t l]]=>if e=T∧t=te∧0<l.length+s.length∧l.length+s.length≤ZaD then some (.tup [.d (.int .i64 s.length),.nili],[.box [.bnil 0 e,.bbuf t (l++s)]]) else none
 | _,_=>none
def Ztg (T te:Nat):List AV→List Zk→Option (AV×List Zk)
 | [.ptr 0 0,.d (.int .u8 c)],[.box [.bnil 0 e,.bbuf t l]]=>if e=T∧t=te∧l.length+1≤ZaD∧0≤c∧c<256 then some (.nili,[.box [.bnil 0 e,.bbuf t (l++[UInt8.ofNat c.toNat])]]) else none
 | _,_=>none
def Zth (T te:Nat):List AV→List Zk→Option (AV×List Zk)
 | [.ptr 0 0],[.box [.bnil 0 e,.bbuf t l]]=>if e=T∧t=te then some (.d (.str l),[.box [.bnil 0 e,.junk]]) else none
 | _,_=>none
theorem Zqx {F A I:Nat→Prop} {Γ:Gh} {e:Nat} {y:AV} {ab:List AV} {args:List Value} {w:World} (hp:Pre F A I Γ [.box [.bnil 0 e,y]] (.ptr 0 0 :: ab) args w) :
  ∃ b p v rest,args=.pointer (some ⟨b,0,none⟩) :: rest∧Zy (Rep Γ w I) ab rest∧Γ 0=some (.box (b,e))∧w.heap[b]?=some (.cells #[p,v] e (0,0))∧(p=.pointer none∨p=.pointer (some ⟨b,0,none⟩))∧Xw Γ w I y v∧¬I b∧F b∧ZaT w I F b [.bnil 0 e,y] [p,v]:=by
 obtain⟨b,cur,e',h1,h2,h3,h4,h5,h6⟩:=hp.objs 0 _ rfl
 match args,hp.args with
 | a :: rest,ha=>
  obtain⟨b',ad,ae⟩:=ha.1;rw[h1] at ad;cases ad
  match hc:cur.toList,h5,h6 with
  | [p,v],h5,h6=>
   obtain⟨b2,hb2,af⟩:=h5.1;rw[h1] at hb2;cases hb2;have aa:cur = #[p,v]:=by rw[← Array.toArray_toList (xs:=cur),hc]
   subst aa;exact⟨b,p,v,rest,by rw[ae],ha.2,h1,h2,af,h5.2.1,h3,h4,h6⟩
  | [],h5,_=>exact h5.elim
  | [_],h5,_=>exact h5.2.elim
  | _ :: _ :: _ :: _,h5,_=>exact h5.2.2.elim
theorem ZuG {o:Zk} {id:Nat} {o' : Zk} (h:lkp (VR 0 [o]) id=some o'):id=0∧o'=o:=by
 rw[WG] at h;simp only[Kaj,Kl,Nat.sub_zero] at h
 match id,h with
 | 0,h=>simp at h;exact⟨rfl,h.symm⟩
 | n+1,h=>simp at h
theorem Zip {F A I:Nat→Prop} {Γ:Gh} {e:Nat} {y y' : AV} {ab:List AV} {args:List Value} {w w' : World} (hp:Pre F A I Γ [.box [.bnil 0 e,y]] (.ptr 0 0 :: ab) args w) {b:Nat} {p v v' : Value} {r:AV} {u:Value}
  (h0:Γ 0=some (.box (b,e))) (hF:F b) (hI:¬I b) (hb:w'.heap[b]?=some (.cells #[p,v'] e (0,0))) (ad:p=.pointer none∨p=.pointer (some ⟨b,0,none⟩)) (aa:But b v w w') (hv:∀ g,v.ownBlock=some g→g<w.heap.size→F g∧¬I g)
  (hy:Xw Γ w' I y' v') (hbuf:ZaT w' I F b [.bnil 0 e,y'] [p,v']) (hr:Rep Γ w' I r u):Zzf F A I Γ w [.box [.bnil 0 e,y']] r I Γ u w' where
 heads:=Qa.refl Γ
 keeps:=⟨fun _ h=>h,fun k hk=>aa.block k (hp.bound k hk) (fun e=>hI (e ▸ hk)) fun e=>(hv k e (hp.bound k hk)).2 hk⟩
 sub:=fun _ h=>.inl h
 fr:=⟨aa.os,aa.tape,aa.output,aa.size,fun k hk hf=>aa.block k hk (fun e=>hf (e ▸ hF)) fun e=>hf (hv k e hk).1⟩
 res:=hr
 objs:=fun id o hl=>by
  obtain⟨rfl,rfl⟩:=ZuG hl;exact⟨b,#[p,v'],e,h0,hb,hI,hF,⟨⟨b,h0,ad⟩,hy,trivial⟩,hbuf⟩
 inj:=fun i j o o' _ hi hj _ _=>by rw[(ZuG hi).1,(ZuG hj).1]
 bound:=fun k hk=>LZ (hp.bound k hk) aa.size
 names:=fun id ae=>hp.names id ae
theorem Zti {F I:Nat→Prop} {w w' : World} {b te:Nat} {v v' : Value} {l:List UInt8} (ad:w'.ownsRow 0 te 1 v' (l.map fun x=>Value.int .u8 x.toNat).length (l.map fun x=>Value.int .u8 x.toNat)) (h0:0<l.length) (ae:v'.ownBlock≠some b)
  (ab:ZwS w v v') (hv:∀ g,v.ownBlock=some g→g<w.heap.size→F g∧¬I g) (aa:∀ g,w.heap.size≤g→F g∧¬I g):Zmd w' I F b te l v':=by
 rcases ad.2 with ⟨_,h⟩ | ⟨g,af,cur,rfl,_,h1,h2,h3,h4,h5⟩
 ·simp at h;subst h;simp at h0
 ·have hg:F g∧¬I g:=by
   rcases K7 g w.heap.size with hl | hl
   ·rcases ab g rfl with h | h
    ·exact hv g h hl
    ·exact aa g h
   ·exact aa g hl
  simp only[KB] at h2 h5 ⊢;refine .inr ⟨g,af,cur,by simp,h0,h1,h2,h3,o_,by simpa using h5,hg.2,hg.1,fun e=>ae (by simp[Value.ownBlock,e])⟩
theorem ZyX {F I:Nat→Prop} {w:World} {b te:Nat} {l:List UInt8} {v:Value} (h:Zmd w I F b te l v):w.ownsRow 0 te 1 v (l.map fun x=>Value.int .u8 x.toNat).length (l.map fun x=>Value.int .u8 x.toNat)∧v.ownBlock≠some b∧(∀ g,v.ownBlock=some g→g<w.heap.size→F g∧¬I g):=by
 rcases h with ⟨rfl,rfl⟩ | ⟨g,ab,cur,rfl,h1,h2,h3,h4,h5,h6,h7,h8,h9⟩
 ·exact⟨World.ownsRow_nil w 0 te 1,by simp[Value.ownBlock],fun g hg=>by cases hg⟩
 refine⟨⟨by simp,.inr ⟨g,ab,cur,by simp,Kaj _,h2,by simpa using h3,h4,o_,by simpa using h6⟩⟩,fun e=>h9 (by simpa [Value.ownBlock] using e),fun g' aa _=>?_⟩;simp only[Value.ownBlock,Option.some.injEq] at aa;subst aa;exact⟨h8,h7⟩
theorem ZCV {Γ:Gh} {w:World} {I:Nat→Prop} {s:List UInt8} {aa:List Value} (h:Zy (Rep Γ w I) [.d (.str s)] aa):∃ t:ByteArray,aa=[.string t]∧t.data.toList=s∧t.size=s.length:=by
 match aa,h with
 | [x],h=>
  have h1:=Qi.1 h.1;simp only[Xo,ZP] at h1;obtain⟨t,h2,h3⟩:=h1;simp only[List.cons.injEq,and_true] at h2;exact⟨t,by rw[h2],h3,by rw[← h3,K5];rfl⟩
theorem ZCW (L:Lays.n166 P ρ) (X:Builder.Extra P ρ) (hE:Zgu P (ρ.f 166)):YK P (ρ.f 166) (ZAe (ρ.t 72) (ρ.t 5)):=by
 intro ak h r hs hp;unfold ZAe at hp;split at hp
 ·rename_i s e te l;split at hp
  ·rename_i hc;obtain⟨rfl,rfl,c1,c2⟩:=hc;cases hp;refine⟨hE,fun F A I Γ args w aa=>?_⟩
   ·obtain⟨b,p,v,ae,rfl,ab,h0,hb,af,hy,hI,hF,ag⟩:=Zqx aa;obtain⟨t,rfl,ht,ah⟩:=ZCV ab;obtain⟨g1,g2,g3⟩:=ZyX (show Zmd w I F b (ρ.t 5) l v from ag);refine(ZCg L X b p v _ t w af hb g1 g2 (by unfold ZaD at c2;simp;omega)).mono fun e' w' ⟨he,ad⟩=>?_;obtain⟨v',k1,k2,k3,k4,k5⟩:=ad;have ek:(l.map fun x=>Value.int .u8 x.toNat)++Lib.strCells t=(l++s).map fun x=>Value.int .u8 x.toNat:=by rw[KJ,Lib.strCells,ht]
    rw[ek] at k2;have hbuf:=Zti k2 (by simp;omega) k4 k3 g3 (fun g hg=>⟨aa.fresh g hg,fun hi=>by have:=aa.bound g hi;omega⟩);obtain⟨ao,m,ai,aj⟩:=Zo4 k2;exact⟨_,I,Γ,he,Zip aa h0 hF hI k1 (.inr rfl) k5 g3 ⟨ao,m,ai,aj⟩ hbuf ⟨_,rfl,ZpH.2 (by rw[ah];exact rfl),rfl,trivial⟩⟩
  ·cases hp
 ·cases hp
theorem u8_of {c:Int} (h0:0≤c) (h1:c<256):((UInt8.ofNat c.toNat).toNat:Int)=c:=by
 rw[UInt8.toNat_ofNat'];omega
theorem ZBz (L:Lays.n167 P ρ) (X:Builder.Extra P ρ) (hE:Zgu P (ρ.f 167)):YK P (ρ.f 167) (Ztg (ρ.t 72) (ρ.t 5)):=by
 intro aj h r hs hp;unfold Ztg at hp;split at hp
 ·rename_i c e te l;split at hp
  ·rename_i hc;obtain⟨rfl,rfl,c2,c3,c4⟩:=hc;cases hp;refine⟨hE,fun F A I Γ args w aa=>?_⟩
   ·obtain⟨b,p,v,ab,rfl,ad,h0,hb,af,hy,hI,hF,ag⟩:=Zqx aa;obtain rfl:ab=[.int .u8 c]:=by
     match ab,ad with
     | [x],hr=>have h1:=Qi.1 hr.1;simpa [Xo,ZP] using h1
    obtain⟨g1,g2,g3⟩:=ZyX (show Zmd w I F b (ρ.t 5) l v from ag);refine(ZAD L X b p v _ c w af hb g1 g2 (by unfold ZaD at c2;simp;omega)).mono fun e' w' ⟨he,ae⟩=>?_;obtain⟨v',k1,k2,k3,k4,k5⟩:=ae;have ek:(l.map fun x=>Value.int .u8 x.toNat)++[.int .u8 c]=(l++[UInt8.ofNat c.toNat]).map fun x=>Value.int .u8 x.toNat:=by
     rw[KJ];simp only[Kk,Kt];rw[u8_of c3 c4]
    rw[ek] at k2;have hbuf:=Zti k2 (by simp) k4 k3 g3 (fun g hg=>⟨aa.fresh g hg,fun hi=>by have:=aa.bound g hi;omega⟩);obtain⟨ao,m,ah,ai⟩:=Zo4 k2;exact⟨_,I,Γ,he,Zip aa h0 hF hI k1 (.inr rfl) k5 g3 ⟨ao,m,ah,ai⟩ hbuf rfl⟩
  ·cases hp
 ·cases hp
theorem Zk2 (w:World) (g n k:Nat) (h:k≠g):(w.freeze ⟨g,0,none⟩ n).heap[k]?=w.heap[k]?:=by
 unfold World.freeze;split
 ·rfl
 ·simp only[L0];rw[Ke (fun e=>h e.symm)]
theorem Zv6 (w:World) (g n:Nat):(w.freeze ⟨g,0,none⟩ n).os=w.os∧(w.freeze ⟨g,0,none⟩ n).tape=w.tape∧(w.freeze ⟨g,0,none⟩ n).output=w.output∧(w.freeze ⟨g,0,none⟩ n).heap.size=w.heap.size:=by
 unfold World.freeze;split
 ·exact⟨rfl,rfl,rfl,rfl⟩
 ·exact⟨rfl,rfl,rfl,by simp⟩
theorem ZBA (L:Lays.n169 P ρ) (X:Builder.Extra P ρ) (hE:Zgu P (ρ.f 169)):YK P (ρ.f 169) (Zth (ρ.t 72) (ρ.t 5)):=by
 intro ak h r hs hp;unfold Zth at hp;split at hp
 ·rename_i e te l;split at hp
  ·rename_i hc;obtain⟨rfl,rfl⟩:=hc;cases hp;refine⟨hE,fun F A I Γ args w aa=>?_⟩
   ·obtain⟨b,p,v,ad,rfl,ae,h0,hb,ag,hy,hI,hF,ai⟩:=Zqx aa;obtain rfl:ad=[]:=by
     match ad,ae with
     | [],_=>rfl
    rcases (show Zmd w I F b (ρ.t 5) l v from ai) with ⟨rfl,rfl⟩ | ⟨g,af,cur,rfl,k1,k2,k3,k4,k5,k6,k7,k8,k9⟩
    ·refine(ZAE L X b p w hb).mono fun e' w' ⟨he,hw⟩=>?_;subst hw;have ab:But b (.slice none 0 0) w w.drew:=⟨rfl,rfl,rfl,Kp _,fun _ _ _ _=>rfl⟩
     exact⟨_,I,Γ,he,Zip aa h0 hF hI hb ag ab (fun g hg=>by cases hg) trivial (JM rfl) (Qi.2 ⟨_,rfl,rfl⟩)⟩
    refine(ZAF L X b g af p cur l w hb k2 (fun h=>by subst h;simp at k1) k3 k4 k5 (fun j x hx=>?_)).mono fun e' w' ⟨he,hw⟩=>?_
    ·have hj:j<l.length:=(Kc.1 hx).1;have h1:(cur.toList.take l.length)[j]?=some (.int .u8 x.toNat):=by rw[k6,Ld,hx];rfl
     rw[Lp,Kj hj,LJ] at h1;simp[World.cell?,k2,h1]
    ·obtain⟨f1,f2,f3,f4⟩:=Zv6 w.drew g l.length;have ab:But b (.slice (some ⟨g,0,none⟩) l.length af) w w':=by
      subst hw;exact⟨f1,f2,f3,Nat.le_of_eq f4.symm,fun k _ _ hk=>Zk2 w.drew g l.length k fun e=>hk (by simp[Value.ownBlock,e])⟩
     have aj : w'.heap[b]?=some (.cells #[p,.slice (some ⟨g,0,none⟩) l.length af] (ρ.t 72) (0,0)):=by
      subst hw;exact(Zk2 w.drew g l.length b (fun e=>k9 e.symm)).trans hb
     exact⟨_,I,Γ,he,Zip aa h0 hF hI aj ag ab (fun g' ah _=>by simp only[Value.ownBlock,Option.some.injEq] at ah;subst ah;exact⟨k8,k7⟩) trivial (JM rfl) (Qi.2 ⟨_,rfl,by simp⟩)⟩
  ·cases hp
 ·cases hp
end Go.Abs
namespace Go.Abs
open Go Go.Shelf Go.Proofs Go.Abs.E Go.Abs.L
variable {P:Program} {ρ:Ren}
theorem Ziq {F A I:Nat→Prop} {Γ:Gh} {ad:List AV} {args:List Value} {w w' : World} {r:AV} {v:Value} (hp:Pre F A I Γ [] ad args w) (aa:Fr (fun _=>False) w w') (ab:Rep Γ w' I r v):Zzf F A I Γ w [] r I Γ v w' where
 heads:=Qa.refl Γ
 keeps:=⟨fun b h=>h,fun b h=>aa.block b (hp.bound b h) (fun h=>h)⟩
 sub:=fun b h=>.inl h
 fr:=⟨aa.os,aa.tape,aa.output,aa.size,fun k hk _=>aa.block k hk (fun h=>h)⟩
 res:=ab
 objs:=fun id o hl=>by cases hl
 inj:=fun i j o o' b hi=>by cases hi
 bound:=fun b h=>LZ (hp.bound b h) aa.size
 names:=fun id ae=>hp.names id ae
def Ztj:List AV→List Zk→Option (AV×List Zk)
 | [.d (.int .i64 n)],[]=>if 0≤n∧n≤9223372036854775807 then some (.d (.str (Lib.decDigits n.toNat)),[]) else none
 | _,_=>none
theorem ZCX (L:Proofs.LaysM.n171 P ρ) (hE:Zgu P (ρ.f 171)) (hg:P.globalNamed "internal/strconv.uint64pow10"=some 1):YK P (ρ.f 171) Ztj:=by
 intro ab h r hs hp;unfold Ztj at hp;split at hp
 ·rename_i n;split at hp
  ·rename_i hc;cases hp;refine⟨hE,fun F A I Γ args w aa=>?_⟩;have ha:=aa.args;have ht:Lib.TabIs P w "internal/strconv.uint64pow10" .u64 Lib.pow10Tab:=by
    obtain⟨_,e,fr,h1⟩:=aa.glob (1,Zui.toArray) (Lh ..);unfold Lib.TabIs World.var?;rw[hg];simp only[KN,h1];simp[Zui,Lib.pow10Tab]
   match args,ha with
   | [v],ha=>
    have hv:v=.int .i64 n:=by
     have:=Qi.1 ha.1;simpa [Xo,ZP] using this
    subst hv;refine(Proofs.Any.strconv_Itoa L n o_ hc.2 w ht).mono fun e w' he=>?_;obtain⟨rfl,k,os,rfl⟩:=he;refine⟨_,I,Γ,rfl,Ziq aa ⟨rfl,rfl,rfl,by simp,fun k hk _=>?_⟩ (Qi.2 ?_)⟩
    ·simp[Sort.grow,World.drewN,hk,Array.getElem?_append]
    ·refine⟨_,rfl,?_⟩;unfold Lib.itoa;rw[Ke o_]
  ·cases hp
 ·cases hp
theorem Zv7 {Γ:Gh} {w:World} {I:Nat→Prop} {s t:List UInt8} {args:List Value} (h:Zy (Rep Γ w I) [.d (.str s),.d (.str t)] args):∃ a b:ByteArray,args=[.string a,.string b]∧a.data.toList=s∧b.data.toList=t:=by
 match args,h with
 | [x,y],h=>
  have h1:=Qi.1 h.1;have h2:=Qi.1 h.2.1;simp only[Xo,ZP] at h1 h2;obtain⟨a,e1,h1⟩:=h1;obtain⟨b,e2,h2⟩:=h2;simp only[List.cons.injEq,and_true] at e1 e2;exact⟨a,b,by rw[e1,e2],h1,h2⟩
def ZAf:List AV→List Zk→Option (AV×List Zk)
 | [.d (.str s),.d (.str [c])],[]=>some (.d (.int .i64 (Lib.indexByte s c)),[])
 | _,_=>none
def ZAg:List AV→List Zk→Option (AV×List Zk)
 | [.d (.str s),.d (.str [c])],[]=>some (.d (.int .i64 (Lib.countByte s c)),[])
 | _,_=>none
theorem ZCY (L:Lays.n219 P ρ) (hE:Zgu P (ρ.f 219)):YK P (ρ.f 219) ZAf:=by
 intro ab h r hs hp;unfold ZAf at hp;split at hp
 ·rename_i s c;cases hp;refine⟨hE,fun F A I Γ args w aa=>?_⟩;obtain⟨a,b,rfl,rfl,hb⟩:=Zv7 aa.args;obtain rfl:b=⟨#[c]⟩:=by
   obtain⟨d⟩:=b;congr 1
   exact Array.toList_inj.1 hb
  refine(Any.stringslite_Index_one L a c w).mono fun e w' he=>?_;obtain⟨rfl,rfl⟩:=he;exact⟨_,I,Γ,rfl,Ziq aa (Fr.refl _ _) (Qi.2 rfl)⟩
 ·cases hp
theorem ZCZ (L:Lays.n138 P ρ) (hE:Zgu P (ρ.f 138)):YK P (ρ.f 138) ZAg:=by
 intro ab h r hs hp;unfold ZAg at hp;split at hp
 ·rename_i s c;cases hp;refine⟨hE,fun F A I Γ args w aa=>?_⟩;obtain⟨a,b,rfl,rfl,hb⟩:=Zv7 aa.args;obtain rfl:b=⟨#[c]⟩:=by
   obtain⟨d⟩:=b;congr 1
   exact Array.toList_inj.1 hb
  refine(Any.strings_Count_one L a c w).mono fun e w' he=>?_;obtain⟨rfl,rfl⟩:=he;exact⟨_,I,Γ,rfl,Ziq aa (Fr.refl _ _) (Qi.2 rfl)⟩
 ·cases hp
def Zg7:List D→Option (List (List UInt8))
 | []=>some []
 | .str s :: r=>bnd (Zg7 r) fun q=>some (s :: q)
 | _ :: _=>none
def Ztk:List AV→List Zk→Option (AV×List Zk)
 | [.d (.sl xs),.d (.str sep)],[]=>bnd (Zg7 xs) fun ws=>if 0<ws.length∧ws.length≤ZaD∧(Lib.join ws sep).length≤ZaD then some (.d (.str (Lib.join ws sep)),[]) else none
 | _,_=>none
theorem ZyY {w:World} {S:Nat→Prop} {b sz:Nat}:∀ {xs:List D} {ws:List (List UInt8)} {o:Nat},Zg7 xs=some ws→Wj w S b sz xs o→(∃ ts:List ByteArray,ts.map (·.data.toList)=ws∧ts.length=xs.length∧(xs≠[]→sz=1)∧∀ (j:Nat) t,ts[j]?=some t→w.cell? ⟨b,o+j*sz,none⟩=some (.string t))
 | [],ws,o,h,_=>by
  cases h;exact⟨[],rfl,rfl,fun h=>absurd rfl h,fun j t h=>by simp at h⟩
 | .str s :: xs,ws,o,h,hr=>by
  simp only[Zg7] at h;obtain⟨q,h1,h⟩:=Za h;cases h;obtain⟨⟨vs,v1,v2,v3⟩,aa⟩:=hr;simp only[ZP] at v3;obtain⟨t,rfl,ht⟩:=v3;obtain⟨ts,k1,k2,k3,k4⟩:=ZyY h1 aa;refine⟨t :: ts,by simp[k1,ht],by simp[k2],fun _=>v1.symm,fun j u hu=>?_⟩;cases j with
  | zero=>
   simp at hu;subst hu;simpa using v2 0 _ rfl
  | succ j=>
   simp at hu;have:=k4 j u hu;have e:o+(j+1)*sz=o+sz+j*sz:=by rw[KR];omega
   rw[e];exact this
 | .int _ _ :: _,_,_,h,_=>by cases h
 | .bool _ :: _,_,_,h,_=>by cases h
 | .sl _ :: _,_,_,h,_=>by cases h
 | .agg _ :: _,_,_,h,_=>by cases h
theorem Zqy:∀ {xs:List D} {ws:List (List UInt8)},Zg7 xs=some ws→ws.length=xs.length
 | [],_,h=>by cases h;rfl
 | .str s :: xs,ws,h=>by
  simp only[Zg7] at h;obtain⟨q,h1,h⟩:=Za h;cases h;simp[Zqy h1]
 | .int _ _ :: _,_,h=>by cases h
 | .bool _ :: _,_,h=>by cases h
 | .sl _ :: _,_,h=>by cases h
 | .agg _ :: _,_,h=>by cases h
theorem ZBB (L:Lays.n156 P ρ) (X:Builder.Extra P ρ) (hE:Zgu P (ρ.f 156)):YK P (ρ.f 156) Ztk:=by
 intro ae h r hs hp;unfold Ztk at hp;split at hp
 ·rename_i xs ad;obtain⟨ws,h1,hp⟩:=Za hp;split at hp
  ·rename_i hc;obtain⟨c1,c2,c3⟩:=hc;cases hp;refine⟨hE,fun F A I Γ args w aa=>?_⟩
   match args,aa.args with
   | [x,y],ha=>
    have r1:=Qi.1 ha.1;have r2:=Qi.1 ha.2.1;simp only[Xo,ZP] at r1 r2;obtain⟨b,e2,ab⟩:=r2;obtain⟨a,c,e1,af,hr⟩:=r1;simp only[List.cons.injEq,and_true] at e1 e2;subst e1;subst e2;have hl:=Zqy h1;rcases hr with hr | ⟨bk,o,sz,rfl,hI,ag,hr⟩
    ·rw[hr] at hl;rw[hl] at c1;exact absurd c1 (by simp)
    ·obtain⟨ts,k1,k2,k3,k4⟩:=ZyY h1 hr;obtain rfl:sz=1:=k3 (by intro e;rw[e] at hl;rw[hl] at c1;exact absurd c1 (by simp));have hj:Lib.join (ts.map (·.data.toList)) b.data.toList=Lib.join ws ad:=by rw[k1,ab]
     rw[← k2];refine(Any.strings_Join L X bk o c ts b w (fun j t ht=>by simpa using k4 j t ht) (aa.bound _ hI) (by unfold ZaD at c2;omega) o_ (by rw[hj];unfold ZaD at c3;omega)).mono fun e w' he=>?_;obtain⟨rfl,hb⟩:=he;exact⟨_,I,Γ,rfl,Ziq aa ⟨hb.os,hb.tape,hb.output,hb.size,fun k hk _=>hb.block k hk⟩ (Qi.2 ⟨_,rfl,by rw[hj]⟩)⟩
  ·cases hp
 ·cases hp
end Go.Abs

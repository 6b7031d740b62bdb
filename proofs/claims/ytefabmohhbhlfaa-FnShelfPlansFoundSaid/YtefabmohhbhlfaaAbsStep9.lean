/- Own text. -/
import Derived.Test.YtefabmohhbhlfaaAbsStep8
set_option linter.unusedVariables false
set_option linter.unusedSimpArgs false
namespace Go.Abs
open Go
theorem ZdQ {α:Type} (zc:List α):∀ (n i j:Nat),i<n→j<zc.length→((List.replicate n zc).flatten)[i*zc.length+j]?=zc[j]?
 | 0,i,j,h,_=>by omega
 | n+1,0,j,_,hj=>by rw[LC,KA,Nat.zero_mul,Lo,Kr hj]
 | n+1,i+1,j,h,hj=>by
  have e:(i+1)*zc.length+j=zc.length+(i*zc.length+j):=by rw[KG];omega
  rw[LC,KA,e,Kp (by omega),Lc];exact ZdQ zc n i j (by omega) hj
theorem Zk4 {α:Type} (zc:List α) (n:Nat):((List.replicate n zc).flatten).length=n*zc.length:=by simp
section
variable {P:Program} {nt:Nat} {U:Nat→Prop} {F A I:Nat→Prop} {Γ:Gh} {sl:Sl} {hp:Hp} {a:Act} {w:World}
theorem Zq5 (h:Sim nt F A I Γ U sl hp a w) {o:Oper} {t e:TypeId} {x:Operand} {x' : Opd} {z:Value} {d:D} (ho:o.op=.call { callee:=.builtin .clear,args := #[x],argTypes := #[t] }) (he:Q8 P t=some e) (hx:ZJ x=some x')
  (hz:W2 P e=some z) (an:evD z=some d) (a6:Ve P e=true) {base:Nat} (hb:Qx U base) (hd:Qm nt o.dst=true) {ce:Zb} (hv:Za2 (Zan hp (P.cellsOf e) d (evO sl x'))=some ce):JJ P nt F A I Γ U sl hp a w o base ce:=by
 obtain⟨i,z',hi,a7,bh,a8,ao,ap⟩:=XS a6;obtain⟨i',aw,ag⟩:=Zal hz;rw[hi] at aw;cases aw;rw[a7] at ag;cases ag;unfold Za2 at hv;obtain⟨ef,h1,hv⟩:=Za hv;cases hv;have ax:=h.slOK.ev hx;unfold Zan at h1;split at h1
 ·rename_i id off n a9;rw[a9] at ax;obtain⟨a0,m,c,sz,av,hb1,h2,h3,hb2,h4,h5⟩:=ax;unfold Zdn at h1;split at h1
  ·rename_i bi xs ex hl;split at h1
   ·rename_i hc;obtain⟨c1,c2,c3⟩:=hc;cases h1;obtain⟨ad,n',c',ay,hn,az⟩:=h.objs id _ hl;rw[hb1] at ay;cases ay;generalize P.cellsOf e=pe at *;subst c1;have run:∀ w' : World,(Builtin.clear_ #[t] o.type #[a.eval x]).run P w=.ok (.tuple #[]) w'→Zhh P o a w (.tuple #[]) w':=fun w' hr=>.inl (by
     simp only[execOp,ho,resolve,invoke,Sem.run_bind,Sem.run_pure,Result.andThen_ok];simp[builtin,hr])
    cases n with
    | zero=>
     refine⟨_,w,run w ?_,?_⟩
     ·rw[hb2];cases av<;>simp[Builtin.clear_,run_underlying (Qp he)]
     ·rw[QB];have ah:∀ k o',lkp (Zd (Zd (ZP (Z2 [] hp) []) [(id,.row sz (xs.take off++List.replicate 0 d++xs.drop (off+0)) ex false)]) []) k=some o'→lkp hp k=some o':=by
       intro k o' hk;simp only[Zd,ZP,Z2,ZW] at hk;split at hk
       ·rename_i e1;subst e1;simp at hk;rw[hl,← hk]
       ·exact hk
      exact(h.sub ah).pure (fun id hu=>.inl hu) ⟨#[],rfl,trivial⟩ hd
    | succ n=>
     rcases az with az | ⟨g,q0,cur,e',a',a1,hw,ba,bb,am,ai,aj,a2,a3⟩
     ·omega
     ·subst a';obtain⟨am,bc⟩:=am;have bd:av=some ⟨g,q0+off*sz,none⟩:=by
       rcases h5 with h5 | h5
       ·rw[h5];simp[YH]
       ·omega
      subst bd;simp only[Ka,Ki] at aj;have ak:z.cells.toList.length=sz:=by rw[← c2];exact(Zge (w:=w) (S:=I) an).length
      have be:=WI (w:=w) (S:=I) ak (Zge an) (n+1);have a4:((List.replicate (n+1) z.cells.toList).flatten).length=(n+1)*sz:=by rw[Zk4,ak]
      have aq:=ZhL be;have bf:q0+off*sz+(n+1)*sz≤cur.size:=by
       rw[am,KI,← KG];exact LR (KC _ (by omega)) _
      have ar:=run_storeCells_at P g (q0+off*sz) e' ((List.replicate (n+1) z.cells.toList).flatten) 0 cur w hw (by rw[a4];simpa using bf) aq;have aa:(Builtin.zeroCells z.cells (n+1)).toList=(List.replicate (n+1) z.cells.toList).flatten:=WH z.cells (n+1);have al:cur.toList.take (q0+off*sz+0)++(List.replicate (n+1) z.cells.toList).flatten++cur.toList.drop (q0+off*sz+0+((List.replicate (n+1) z.cells.toList).flatten).length)=Zn cur.toList (q0+off*sz) ((List.replicate (n+1) z.cells.toList).flatten):=rfl;rw[al] at ar;generalize hZ:(List.replicate (n+1) z.cells.toList).flatten=Z at ar a4 aa al;refine⟨_,w.setRow g (Zn cur.toList (q0+off*sz) Z).toArray,run _ ?_,?_⟩
      ·rw[hb2];simp[Builtin.clear_,run_underlying (Qp he),JX hz,aa,ar]
      ·rw[QB];have bg:¬(if ex then fun b=>I b∧A b else I) g:=by cases ex<;>simp<;>first | exact aj | exact fun hI=>absurd hI aj
       have au:(Zn cur.toList (q0+off*sz) Z).length=cur.size:=by rw[Ye];simp;simp;omega
       have ab:(w.setRow g (Zn cur.toList (q0+off*sz) Z).toArray).heap[g]?=some (.cells (Zn cur.toList (q0+off*sz) Z).toArray e' (0,0)):=setRow_heap w g cur _ e' _ hw;refine h.turn hb hl (by rw[hb1];simp[Zp,Ku a1]) aj a2 (adds:=[]) (ZY.refl Γ) (fun _ _=>rfl) (fun k o hk=>by simp at hk) (fun k hk=>h.names k (fun hu=>hk (.inl hu))) ?_ ⟨#[],rfl,trivial⟩ hd;refine⟨_,m,c,hb1,by simp;omega,.inr ⟨g,q0,_,e',rfl,a1,ab,ba,bb,⟨by simp[au,am],bc⟩,ai,by simpa using aj,a2,?_⟩⟩;have keep:ZB (if ex then fun b=>I b∧A b else I) (if ex then fun b=>I b∧A b else I) w (w.setRow g (Zn cur.toList (q0+off*sz) Z).toArray):=Wh bg
       have ae:∀ p,(w.setRow g (Zn cur.toList (q0+off*sz) Z).toArray).cell? ⟨g,p,none⟩=(Zn cur.toList (q0+off*sz) Z)[p]?:=fun p=>by
        rw[cell_of_row _ _ _ _ _ _ ab];simp
       have af:∀ p,w.cell? ⟨g,p,none⟩=cur.toList[p]?:=fun p=>by rw[cell_of_row _ _ _ _ _ _ hw];simp
       rw[Xf] at a3 ⊢;have e3:xs.take off++List.replicate (n+1) d++xs.drop (off+(n+1))=Zn xs off (List.replicate (n+1) d):=by simp[Zn]
       intro k y hk;rw[e3,Z5 _ _ _ _ (by simp;omega)] at hk;simp only[List.length_replicate] at hk;split at hk
       ·rename_i a5;have hy:y=d:=by
         have:=Ke hk;exact(List.mem_replicate.1 this).2
        subst hy;refine⟨z.cells.toList,ak,fun p u hu=>?_,Zge an⟩;have hp:p<sz:=by rw[← ak];exact(Kc.1 hu).1
        have e4:q0+k*sz+p=q0+off*sz+((k-off)*sz+p):=by
         have:k=off+(k-off):=by omega
         rw[this,KG];simp;omega
        have e5:(k-off)*sz+p<(n+1)*sz:=by
         have:(k-off+1)*sz≤(n+1)*sz:=KC _ (by omega);rw[KG] at this;omega
        rw[ae,e4,Z5 _ _ _ _ (by simp;omega),Ko (by omega),Lc,← hZ];have:=ZdQ z.cells.toList (n+1) (k-off) p (by omega) (by omega);rw[ak] at this;rw[this];exact hu
       ·rename_i a5;obtain⟨vs,v1,v2,v3⟩:=a3 k y hk;refine⟨vs,v1,fun p u hu=>?_,v3.mono keep⟩;have hp:p<sz:=by rw[← v1];exact(Kc.1 hu).1
        have e6:¬(q0+off*sz≤q0+k*sz+p∧q0+k*sz+p<q0+off*sz+Z.length):=by
         rintro ⟨g1,g2⟩
         have g2:k*sz+p<off*sz+(n+1)*sz:=by omega
         rw[← KG] at g2;have g3:k<off+(n+1):=by
          rcases KZ k (off+(n+1)) with h | h
          ·exact h
          ·have:=KC sz h;omega
         have g4:off≤k:=by
          rcases KZ k off with h | h
          ·have:=KC sz (show k+1≤off from h);rw[KG] at this;omega
          ·exact h
         exact a5 ⟨g4,g3⟩
        rw[ae,Z5 _ _ _ _ (by simp;omega),Kn e6,← af];exact v2 p u hu
   ·cases h1
  ·cases h1
 ·cases h1
end
end Go.Abs

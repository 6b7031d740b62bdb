/- Own text. -/
import Derived.Test.YtnachaiejoflhaaAbsStep8
set_option linter.unusedVariables false
set_option linter.unusedSimpArgs false
namespace Go.Abs
open Go
theorem Zdh {α:Type} (zc:List α):∀ (n i j:Nat),i<n→j<zc.length→((List.replicate n zc).flatten)[i*zc.length+j]?=zc[j]?
 | 0,i,j,h,_=>by omega
 | n+1,0,j,_,hj=>by rw[Ln,KP,Nat.zero_mul,Nat.zero_add,KE hj]
 | n+1,i+1,j,h,hj=>by
  have e:(i+1)*zc.length+j=zc.length+(i*zc.length+j):=by rw[KA];omega
  rw[Ln,KP,e,Ks (by omega),Lh];exact Zdh zc n i j (by omega) hj
theorem ZjS {α:Type} (zc:List α) (n:Nat):((List.replicate n zc).flatten).length=n*zc.length:=by simp
section
variable {P:Program} {nt:Nat} {U:Nat→Prop} {F A I:Nat→Prop} {Γ:Gh} {sl:Sl} {hp:Hp} {a:Act} {w:World}
theorem ZpK (h:Sim nt F A I Γ U sl hp a w) {o:Oper} {t e:TypeId} {x:Operand} {x' : Opd} {z:Value} {d:D} (ho:o.op=.call { callee:=.builtin .clear,args := #[x],argTypes := #[t] }) (he:Q2 P t=some e) (hx:ZC x=some x')
  (hz:Wc P e=some z) (am:evD z=some d) (a6:YD P e=true) {base:Nat} (hb:Qz U base) (hd:Qk nt o.dst=true) {ce:Zb} (hv:Zak (JC hp (P.cellsOf e) d (evO sl x'))=some ce):Jg P nt F A I Γ U sl hp a w o base ce:=by
 obtain⟨i,z',hi,a7,bg,a8,an,ao⟩:=XB a6;obtain⟨i',aw,ag⟩:=JA hz;rw[hi] at aw;cases aw;rw[a7] at ag;cases ag;unfold Zak at hv;obtain⟨ef,h1,hv⟩:=Za hv;cases hv;have ax:=h.slOK.ev hx;unfold JC at h1;split at h1
 ·rename_i id off n a9;rw[a9] at ax;obtain⟨a0,m,c,sz,av,hb1,h2,h3,hb2,h4,h5⟩:=ax;unfold ZcS at h1;split at h1
  ·rename_i bh xs ex hl;split at h1
   ·rename_i hc;obtain⟨c1,c2,c3⟩:=hc;cases h1;obtain⟨ad,n',c',ay,hn,az⟩:=h.objs id _ hl;rw[hb1] at ay;cases ay;generalize P.cellsOf e=pe at *;subst c1;have run:∀ w' : World,(Builtin.clear_ #[t] o.type #[a.eval x]).run P w=.ok (.tuple #[]) w'→Zgl P o a w (.tuple #[]) w':=fun w' hr=>.inl (by
     simp only[execOp,ho,resolve,invoke,Sem.run_bind,Sem.run_pure,Result.andThen_ok];simp[builtin,hr])
    cases n with
    | zero=>
     refine⟨_,w,run w ?_,?_⟩
     ·rw[hb2];cases av<;>simp[Builtin.clear_,run_underlying (Ql he)]
     ·rw[Qy];have ah:∀ k o',lkp (Zd (Zd (ZN (ZQ [] hp) []) [(id,.row sz (xs.take off++List.replicate 0 d++xs.drop (off+0)) ex false)]) []) k=some o'→lkp hp k=some o':=by
       intro k o' hk;simp only[Zd,ZN,ZQ,ZZ] at hk;split at hk
       ·rename_i e1;subst e1;simp at hk;rw[hl,← hk]
       ·exact hk
      exact(h.sub ah).pure (fun id hu=>.inl hu) ⟨#[],rfl,trivial⟩ hd
    | succ n=>
     rcases az with az | ⟨g,cur,e',a',a1,hw,ba,bb,a2,ai,aj,a3,a4⟩
     ·omega
     ·subst a';have bc:av=some ⟨g,off*sz,none⟩:=by
       rcases h5 with h5 | h5
       ·rw[h5];simp[YH]
       ·omega
      subst bc;simp only[Ka,Kg] at aj;have ak:z.cells.toList.length=sz:=by rw[← c2];exact(Zfk (w:=w) (S:=I) am).length
      have bd:=VV (w:=w) (S:=I) ak (Zfk am) (n+1);have ap:((List.replicate (n+1) z.cells.toList).flatten).length=(n+1)*sz:=by rw[ZjS,ak]
      have aq:=ZgJ bd;have be:off*sz+(n+1)*sz≤cur.size:=by
       rw[a2,← KA];exact Kv _ (by omega)
      have ar:=run_storeCells_at P g (off*sz) e' ((List.replicate (n+1) z.cells.toList).flatten) 0 cur w hw (by rw[ap];simpa using be) aq;have aa:(Builtin.zeroCells z.cells (n+1)).toList=(List.replicate (n+1) z.cells.toList).flatten:=VU z.cells (n+1);have al:cur.toList.take (off*sz+0)++(List.replicate (n+1) z.cells.toList).flatten++cur.toList.drop (off*sz+0+((List.replicate (n+1) z.cells.toList).flatten).length)=Zk cur.toList (off*sz) ((List.replicate (n+1) z.cells.toList).flatten):=rfl;rw[al] at ar;generalize hZ:(List.replicate (n+1) z.cells.toList).flatten=Z at ar ap aa al;refine⟨_,w.setRow g (Zk cur.toList (off*sz) Z).toArray,run _ ?_,?_⟩
      ·rw[hb2];simp[Builtin.clear_,run_underlying (Ql he),U8 hz,aa,ar]
      ·rw[Qy];have bf:¬(if ex then fun b=>I b∧A b else I) g:=by cases ex<;>simp<;>first | exact aj | exact fun hI=>absurd hI aj
       have au:(Zk cur.toList (off*sz) Z).length=cur.size:=by rw[XO];simp;simp;omega
       have ab:(w.setRow g (Zk cur.toList (off*sz) Z).toArray).heap[g]?=some (.cells (Zk cur.toList (off*sz) Z).toArray e' (0,0)):=setRow_heap w g cur _ e' _ hw;refine h.turn hb hl (by rw[hb1];simp[Zo,Kq a1]) aj a3 (adds:=[]) (ZP.refl Γ) (fun _ _=>rfl) (fun k o hk=>by simp at hk) (fun k hk=>h.names k (fun hu=>hk (.inl hu))) ?_ ⟨#[],rfl,trivial⟩ hd;refine⟨_,m,c,hb1,by simp;omega,.inr ⟨g,_,e',rfl,a1,ab,ba,bb,by simp[au,a2],ai,by simpa using aj,a3,?_⟩⟩;have keep:Zx (if ex then fun b=>I b∧A b else I) (if ex then fun b=>I b∧A b else I) w (w.setRow g (Zk cur.toList (off*sz) Z).toArray):=WI bf
       have ae:∀ p,(w.setRow g (Zk cur.toList (off*sz) Z).toArray).cell? ⟨g,p,none⟩=(Zk cur.toList (off*sz) Z)[p]?:=fun p=>by
        rw[cell_of_row _ _ _ _ _ _ ab];simp
       have af:∀ p,w.cell? ⟨g,p,none⟩=cur.toList[p]?:=fun p=>by rw[cell_of_row _ _ _ _ _ _ hw];simp
       rw[QV] at a4 ⊢;have e3:xs.take off++List.replicate (n+1) d++xs.drop (off+(n+1))=Zk xs off (List.replicate (n+1) d):=by simp[Zk]
       intro k y hk;rw[e3,ZX _ _ _ _ (by simp;omega)] at hk;simp only[List.length_replicate] at hk;split at hk
       ·rename_i a5;have hy:y=d:=by
         have:=Ki hk;exact(List.mem_replicate.1 this).2
        subst hy;refine⟨z.cells.toList,ak,fun p u hu=>?_,Zfk am⟩;have hp:p<sz:=by rw[← ak];exact(Kd.1 hu).1
        have e4:0+k*sz+p=off*sz+((k-off)*sz+p):=by
         have:k=off+(k-off):=by omega
         rw[this,KA];simp;omega
        have e5:(k-off)*sz+p<(n+1)*sz:=by
         have:(k-off+1)*sz≤(n+1)*sz:=Kv _ (by omega);rw[KA] at this;omega
        rw[ae,e4,ZX _ _ _ _ (by simp;omega),Ko (by omega),Lh,← hZ];have:=Zdh z.cells.toList (n+1) (k-off) p (by omega) (by omega);rw[ak] at this;rw[this];exact hu
       ·rename_i a5;obtain⟨vs,v1,v2,v3⟩:=a4 k y hk;refine⟨vs,v1,fun p u hu=>?_,v3.mono keep⟩;have hp:p<sz:=by rw[← v1];exact(Kd.1 hu).1
        have e6:¬(off*sz≤0+k*sz+p∧0+k*sz+p<off*sz+Z.length):=by
         rintro ⟨g1,g2⟩
         rw[ap,← KA] at g2;have g3:k<off+(n+1):=by
          rcases KK k (off+(n+1)) with h | h
          ·exact h
          ·have:=Kv sz h;omega
         have g4:off≤k:=by
          rcases KK k off with h | h
          ·have:=Kv sz (show k+1≤off from h);rw[KA] at this;omega
          ·exact h
         exact a5 ⟨g4,g3⟩
        rw[ae,ZX _ _ _ _ (by simp;omega),Kk e6,← af];exact v2 p u hu
   ·cases h1
  ·cases h1
 ·cases h1
end
end Go.Abs

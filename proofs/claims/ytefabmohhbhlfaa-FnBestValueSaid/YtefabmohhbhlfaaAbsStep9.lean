/- Own text. -/
import Derived.Test.YtefabmohhbhlfaaAbsStep8
set_option linter.unusedVariables false
set_option linter.unusedSimpArgs false
namespace Go.Abs
open Go
theorem Zdj {α:Type} (zc:List α):∀ (n i j:Nat),i<n→j<zc.length→((List.replicate n zc).flatten)[i*zc.length+j]?=zc[j]?
 | 0,i,j,h,_=>by omega
 | n+1,0,j,_,hj=>by rw[Lt,KR,Nat.zero_mul,KP,Kn hj]
 | n+1,i+1,j,h,hj=>by
  have e:(i+1)*zc.length+j=zc.length+(i*zc.length+j):=by rw[KA];omega
  rw[Lt,KR,e,Km (by omega),K6];exact Zdj zc n i j (by omega) hj
theorem Zj7 {α:Type} (zc:List α) (n:Nat):((List.replicate n zc).flatten).length=n*zc.length:=by simp
section
variable {P:Program} {nt:Nat} {U:Nat→Prop} {F A I:Nat→Prop} {Γ:Gh} {sl:Sl} {hp:Hp} {a:Act} {w:World}
theorem Zps (h:Sim nt F A I Γ U sl hp a w) {o:Oper} {t e:TypeId} {x:Operand} {x' : Opd} {z:Value} {d:D} (ho:o.op=.call { callee:=.builtin .clear,args := #[x],argTypes := #[t] }) (he:Q1 P t=some e) (hx:ZI x=some x')
  (hz:WB P e=some z) (an:evD z=some d) (a8:YR P e=true) {base:Nat} (hb:Qw U base) (hd:Qh nt o.dst=true) {ce:Zb} (hv:Zam (JM hp (P.cellsOf e) d (evO sl x'))=some ce):U6 P nt F A I Γ U sl hp a w o base ce:=by
 obtain⟨i,z',hi,a9,bj,a',ao,ap⟩:=Xz a8;obtain⟨i',ax,ag⟩:=JK hz;rw[hi] at ax;cases ax;rw[a9] at ag;cases ag;unfold Zam at hv;obtain⟨ef,h1,hv⟩:=Za hv;cases hv;have ay:=h.slOK.ev hx;unfold JM at h1;split at h1
 ·rename_i id off n ba;rw[ba] at ay;obtain⟨a0,m,c,sz,av,aq,h2,h3,az,h4,h5⟩:=ay;unfold ZcQ at h1;split at h1
  ·rename_i bk xs ex hl;split at h1
   ·rename_i hc;obtain⟨c1,c2,c3⟩:=hc;cases h1;obtain⟨ad,n',c',a1,hn,a2⟩:=h.objs id _ hl;rw[aq] at a1;cases a1;generalize P.cellsOf e=pe at *;subst c1;have run:∀ w' : World,(Builtin.clear_ #[t] o.type #[a.eval x]).run P w=.ok (.tuple #[]) w'→Zgr P o a w (.tuple #[]) w':=fun w' hr=>.inl (by
     simp only[execOp,ho,resolve,invoke,Sem.run_bind,Sem.run_pure,Result.andThen_ok];simp[builtin,hr])
    cases n with
    | zero=>
     refine⟨_,w,run w ?_,?_⟩
     ·rw[az];cases av<;>simp[Builtin.clear_,run_underlying (Ql he)]
     ·rw[Qz];have ah:∀ k o',lkp (Zd (Zd (ZN (ZW [] hp) []) [(id,.row sz (xs.take off++List.replicate 0 d++xs.drop (off+0)) ex false)]) []) k=some o'→lkp hp k=some o':=by
       intro k o' hk;simp only[Zd,ZN,ZW,ZS] at hk;split at hk
       ·rename_i e1;subst e1;simp at hk;rw[hl,← hk]
       ·exact hk
      exact(h.sub ah).pure (fun id hu=>.inl hu) ⟨#[],rfl,trivial⟩ hd
    | succ n=>
     rcases a2 with a2 | ⟨g,q0,cur,e',bb,a3,hw,bc,bd,am,ai,aj,a4,a5⟩
     ·omega
     ·subst bb;obtain⟨am,be⟩:=am;have bf:av=some ⟨g,q0+off*sz,none⟩:=by
       rcases h5 with h5 | h5
       ·rw[h5];simp[Yq]
       ·omega
      subst bf;simp only[Ka,Kj] at aj;have ak:z.cells.toList.length=sz:=by rw[← c2];exact(Zfo (w:=w) (S:=I) an).length
      have bg:=Wj (w:=w) (S:=I) ak (Zfo an) (n+1);have a6:((List.replicate (n+1) z.cells.toList).flatten).length=(n+1)*sz:=by rw[Zj7,ak]
      have ar:=ZgV bg;have bh:q0+off*sz+(n+1)*sz≤cur.size:=by
       rw[am,KD,← KA];exact LP (Ky _ (by omega)) _
      have au:=run_storeCells_at P g (q0+off*sz) e' ((List.replicate (n+1) z.cells.toList).flatten) 0 cur w hw (by rw[a6];simpa using bh) ar;have aa:(Builtin.zeroCells z.cells (n+1)).toList=(List.replicate (n+1) z.cells.toList).flatten:=Wi z.cells (n+1);have al:cur.toList.take (q0+off*sz+0)++(List.replicate (n+1) z.cells.toList).flatten++cur.toList.drop (q0+off*sz+0+((List.replicate (n+1) z.cells.toList).flatten).length)=Zk cur.toList (q0+off*sz) ((List.replicate (n+1) z.cells.toList).flatten):=rfl;rw[al] at au;generalize hZ:(List.replicate (n+1) z.cells.toList).flatten=Z at au a6 aa al;refine⟨_,w.setRow g (Zk cur.toList (q0+off*sz) Z).toArray,run _ ?_,?_⟩
      ·rw[az];simp[Builtin.clear_,run_underlying (Ql he),Jn hz,aa,au]
      ·rw[Qz];have bi:¬(if ex then fun b=>I b∧A b else I) g:=by cases ex<;>simp<;>first | exact aj | exact fun hI=>absurd hI aj
       have aw:(Zk cur.toList (q0+off*sz) Z).length=cur.size:=by rw[XV];simp;simp;omega
       have ab:(w.setRow g (Zk cur.toList (q0+off*sz) Z).toArray).heap[g]?=some (.cells (Zk cur.toList (q0+off*sz) Z).toArray e' (0,0)):=setRow_heap w g cur _ e' _ hw;refine h.turn hb hl (by rw[aq];simp[Zo,Ku a3]) aj a4 (adds:=[]) (ZU.refl Γ) (fun _ _=>rfl) (fun k o hk=>by simp at hk) (fun k hk=>h.names k (fun hu=>hk (.inl hu))) ?_ ⟨#[],rfl,trivial⟩ hd;refine⟨_,m,c,aq,by simp;omega,.inr ⟨g,q0,_,e',rfl,a3,ab,bc,bd,⟨by simp[aw,am],be⟩,ai,by simpa using aj,a4,?_⟩⟩;have keep:ZB (if ex then fun b=>I b∧A b else I) (if ex then fun b=>I b∧A b else I) w (w.setRow g (Zk cur.toList (q0+off*sz) Z).toArray):=VQ bi
       have ae:∀ p,(w.setRow g (Zk cur.toList (q0+off*sz) Z).toArray).cell? ⟨g,p,none⟩=(Zk cur.toList (q0+off*sz) Z)[p]?:=fun p=>by
        rw[cell_of_row _ _ _ _ _ _ ab];simp
       have af:∀ p,w.cell? ⟨g,p,none⟩=cur.toList[p]?:=fun p=>by rw[cell_of_row _ _ _ _ _ _ hw];simp
       rw[Q8] at a5 ⊢;have e3:xs.take off++List.replicate (n+1) d++xs.drop (off+(n+1))=Zk xs off (List.replicate (n+1) d):=by simp[Zk]
       intro k y hk;rw[e3,ZY _ _ _ _ (by simp;omega)] at hk;simp only[List.length_replicate] at hk;split at hk
       ·rename_i a7;have hy:y=d:=by
         have:=Kg hk;exact(List.mem_replicate.1 this).2
        subst hy;refine⟨z.cells.toList,ak,fun p u hu=>?_,Zfo an⟩;have hp:p<sz:=by rw[← ak];exact(Kd.1 hu).1
        have e4:q0+k*sz+p=q0+off*sz+((k-off)*sz+p):=by
         have:k=off+(k-off):=by omega
         rw[this,KA];simp;omega
        have e5:(k-off)*sz+p<(n+1)*sz:=by
         have:(k-off+1)*sz≤(n+1)*sz:=Ky _ (by omega);rw[KA] at this;omega
        rw[ae,e4,ZY _ _ _ _ (by simp;omega),Kt (by omega),K6,← hZ];have:=Zdj z.cells.toList (n+1) (k-off) p (by omega) (by omega);rw[ak] at this;rw[this];exact hu
       ·rename_i a7;obtain⟨vs,v1,v2,v3⟩:=a5 k y hk;refine⟨vs,v1,fun p u hu=>?_,v3.mono keep⟩;have hp:p<sz:=by rw[← v1];exact(Kd.1 hu).1
        have e6:¬(q0+off*sz≤q0+k*sz+p∧q0+k*sz+p<q0+off*sz+Z.length):=by
         rintro ⟨g1,g2⟩
         have g2:k*sz+p<off*sz+(n+1)*sz:=by omega
         rw[← KA] at g2;have g3:k<off+(n+1):=by
          rcases KO k (off+(n+1)) with h | h
          ·exact h
          ·have:=Ky sz h;omega
         have g4:off≤k:=by
          rcases KO k off with h | h
          ·have:=Ky sz (show k+1≤off from h);rw[KA] at this;omega
          ·exact h
         exact a7 ⟨g4,g3⟩
        rw[ae,ZY _ _ _ _ (by simp;omega),Kp e6,← af];exact v2 p u hu
   ·cases h1
  ·cases h1
 ·cases h1
end
end Go.Abs

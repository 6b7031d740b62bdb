/- The abstract semantics and the model: elements are set to zero. Own text. -/
import Derived.Test.YtkdjbefmiiibpaaGreatDoorAbsStep8
set_option linter.unusedVariables false
set_option linter.unusedSimpArgs false
namespace Go.Abs
open Go
theorem ZlT {α:Type} (zc:List α):∀ (n i j:Nat),i<n→j<zc.length→((List.replicate n zc).flatten)[i*zc.length+j]?=zc[j]?
 | 0,i,j,h,_=>by omega
 | n+1,0,j,_,hj=>by rw[List.replicate_succ,List.flatten_cons,Nat.zero_mul,Nat.zero_add,List.getElem?_append_left hj]
 | n+1,i+1,j,h,hj=>by
  have e:(i+1)*zc.length+j=zc.length+(i*zc.length+j):=by rw[Nat.add_mul];omega
  rw[List.replicate_succ,List.flatten_cons,e,List.getElem?_append_right (by omega),Nat.add_sub_cancel_left]
  exact ZlT zc n i j (by omega) hj
theorem Ztv {α:Type} (zc:List α) (n:Nat):((List.replicate n zc).flatten).length=n*zc.length:=by simp
section
variable {P:Program} {nt:Nat} {U:Nat→Prop} {F A I:Nat→Prop} {Γ:Gh} {sl:Sl} {hp:Hp} {a:Act} {w:World}
theorem ZBf (h:Sim nt F A I Γ U sl hp a w) {o:Oper} {t e:TypeId} {x:Operand} {x' : Opd} {z:Value} {d:D} (ho:o.op=.call { callee:=.builtin .clear,args := #[x],argTypes := #[t] }) (he:VD P t=some e) (hx:Qd x=some x')
  (hz:Zdo P e=some z) (hzd:evD z=some d) (hok:Zaq P e=true) {base:Nat} (hb:Yd U base) (hd:XI nt o.dst=true) {ce:Zc} (hv:Zik (Zfz hp (P.cellsOf e) d (evO sl x'))=some ce):ZgL P nt F A I Γ U sl hp a w o base ce:=by
 obtain⟨i,z',hi,hz',hzs,hpos,hcells,hbytes⟩:=WE hok
 obtain⟨i',hi',hz''⟩:=Zky hz
 rw[hi] at hi';cases hi'
 rw[hz'] at hz'';cases hz''
 unfold Zik at hv
 obtain⟨ef,h1,hv⟩:=Za hv
 cases hv
 have hrx:=h.slOK.ev hx
 unfold Zfz at h1
 split at h1
 ·rename_i id off n hx'
  rw[hx'] at hrx
  obtain⟨a0,m,c,sz,av,hb1,h2,h3,hb2,h4,h5⟩:=hrx
  unfold ZiA at h1
  split at h1
  ·rename_i sz' xs ex hl
   split at h1
   ·rename_i hc
    obtain⟨c1,c2,c3⟩:=hc
    cases h1
    obtain⟨ad,n',c',hb',hn,hro⟩:=h.objs id _ hl
    rw[hb1] at hb';cases hb'
    generalize P.cellsOf e=pe at *
    subst c1
    have run:∀ w' : World,(Builtin.clear_ #[t] o.type #[a.eval x]).run P w=.ok (.tuple #[]) w'→Zpw P o a w (.tuple #[]) w':=fun w' hr=>.inl (by
     simp only[execOp,ho,resolve,invoke,Sem.run_bind,Sem.run_pure,Result.andThen_ok]
     simp[builtin,hr])
    cases n with
    | zero=>
     refine⟨_,w,run w ?_,?_⟩
     ·rw[hb2]
      cases av<;>simp[Builtin.clear_,run_underlying (Xt he)]
     ·rw[Yl]
      have hsame:∀ k o',lkp (Zg (Zg (QH (Qu [] hp) []) [(id,.row sz (xs.take off++List.replicate 0 d++xs.drop (off+0)) ex false)]) []) k=some o'→lkp hp k=some o':=by
       intro k o' hk
       simp only[Zg,QH,Qu,Qy] at hk
       split at hk
       ·rename_i e1;subst e1;simp at hk;rw[hl,← hk]
       ·exact hk
      exact(h.sub hsame).pure (fun id hu=>.inl hu) ⟨#[],rfl,trivial⟩ hd
    | succ n=>
     rcases hro with hro | ⟨g,cur,e',hg0,hc0,hw,hnc,hcm,hcs,hpos',hfz,hFg,hrE⟩
     ·omega
     ·subst hg0
      have hav:av=some ⟨g,off*sz,none⟩:=by
       rcases h5 with h5 | h5
       ·rw[h5];simp[JT]
       ·omega
      subst hav
      simp only[Bool.false_eq_true,if_false] at hfz
      have hzc:z.cells.toList.length=sz:=by rw[← c2];exact(Zoy (w:=w) (S:=I) hzd).length
      have hch:=ZbQ (w:=w) (S:=I) hzc (Zoy hzd) (n+1)
      have hzl:((List.replicate (n+1) z.cells.toList).flatten).length=(n+1)*sz:=by rw[Ztv,hzc]
      have hone:=ZpU hch
      have hsz:off*sz+(n+1)*sz≤cur.size:=by
       rw[hcs,← Nat.add_mul]
       exact Nat.mul_le_mul_right _ (by omega)
      have hst:=run_storeCells_at P g (off*sz) e' ((List.replicate (n+1) z.cells.toList).flatten) 0 cur w hw (by rw[hzl];simpa using hsz) hone
      have hzero:(Builtin.zeroCells z.cells (n+1)).toList=(List.replicate (n+1) z.cells.toList).flatten:=ZgM z.cells (n+1)
      have hspl:cur.toList.take (off*sz+0)++(List.replicate (n+1) z.cells.toList).flatten++cur.toList.drop (off*sz+0+((List.replicate (n+1) z.cells.toList).flatten).length)=Qp cur.toList (off*sz) ((List.replicate (n+1) z.cells.toList).flatten):=rfl
      rw[hspl] at hst
      generalize hZ:(List.replicate (n+1) z.cells.toList).flatten=Z at hst hzl hzero hspl
      refine⟨_,w.setRow g (Qp cur.toList (off*sz) Z).toArray,run _ ?_,?_⟩
      ·rw[hb2]
       simp[Builtin.clear_,run_underlying (Xt he),Zgt hz,hzero,hst]
      ·rw[Yl]
       have hnS:¬(if ex then fun b=>I b∧A b else I) g:=by cases ex<;>simp<;>first | exact hfz | exact fun hI=>absurd hI hfz
       have hlen:(Qp cur.toList (off*sz) Z).length=cur.size:=by rw[ZfJ];simp;simp;omega
       have hheap:(w.setRow g (Qp cur.toList (off*sz) Z).toArray).heap[g]?=some (.cells (Qp cur.toList (off*sz) Z).toArray e' (0,0)):=setRow_heap w g cur _ e' _ hw
       refine h.turn hb hl (by rw[hb1];simp[ZG,Nat.ne_of_gt hc0]) hfz hFg (adds:=[]) (XA.refl Γ) (fun _ _=>rfl) (fun k o hk=>by simp at hk) (fun k hk=>h.names k (fun hu=>hk (.inl hu))) ?_ ⟨#[],rfl,trivial⟩ hd
       refine⟨_,m,c,hb1,by simp;omega,.inr ⟨g,_,e',rfl,hc0,hheap,hnc,hcm,by simp[hlen,hcs],hpos',by simpa using hfz,hFg,?_⟩⟩
       have keep:Z3 (if ex then fun b=>I b∧A b else I) (if ex then fun b=>I b∧A b else I) w (w.setRow g (Qp cur.toList (off*sz) Z).toArray):=ZdF hnS
       have hcell:∀ p,(w.setRow g (Qp cur.toList (off*sz) Z).toArray).cell? ⟨g,p,none⟩=(Qp cur.toList (off*sz) Z)[p]?:=fun p=>by
        rw[cell_of_row _ _ _ _ _ _ hheap];simp
       have hcell0:∀ p,w.cell? ⟨g,p,none⟩=cur.toList[p]?:=fun p=>by rw[cell_of_row _ _ _ _ _ _ hw];simp
       rw[YZ] at hrE ⊢
       have e3:xs.take off++List.replicate (n+1) d++xs.drop (off+(n+1))=Qp xs off (List.replicate (n+1) d):=by simp[Qp]
       intro k y hk
       rw[e3,ZbS _ _ _ _ (by simp;omega)] at hk
       simp only[List.length_replicate] at hk
       split at hk
       ·rename_i hko
        have hy:y=d:=by
         have:=List.mem_of_getElem? hk
         exact(List.mem_replicate.1 this).2
        subst hy
        refine⟨z.cells.toList,hzc,fun p u hu=>?_,Zoy hzd⟩
        have hp:p<sz:=by rw[← hzc];exact(List.getElem?_eq_some_iff.1 hu).1
        have e4:0+k*sz+p=off*sz+((k-off)*sz+p):=by
         have:k=off+(k-off):=by omega
         rw[this,Nat.add_mul];simp;omega
        have e5:(k-off)*sz+p<(n+1)*sz:=by
         have:(k-off+1)*sz≤(n+1)*sz:=Nat.mul_le_mul_right _ (by omega)
         rw[Nat.add_mul] at this;omega
        rw[hcell,e4,ZbS _ _ _ _ (by simp;omega),if_pos (by omega),Nat.add_sub_cancel_left,← hZ]
        have:=ZlT z.cells.toList (n+1) (k-off) p (by omega) (by omega)
        rw[hzc] at this
        rw[this];exact hu
       ·rename_i hko
        obtain⟨vs,v1,v2,v3⟩:=hrE k y hk
        refine⟨vs,v1,fun p u hu=>?_,v3.mono keep⟩
        have hp:p<sz:=by rw[← v1];exact(List.getElem?_eq_some_iff.1 hu).1
        have e6:¬(off*sz≤0+k*sz+p∧0+k*sz+p<off*sz+Z.length):=by
         rintro ⟨g1,g2⟩
         rw[hzl,← Nat.add_mul] at g2
         have g3:k<off+(n+1):=by
          rcases Nat.lt_or_ge k (off+(n+1)) with h | h
          ·exact h
          ·have:=Nat.mul_le_mul_right sz h;omega
         have g4:off≤k:=by
          rcases Nat.lt_or_ge k off with h | h
          ·have:=Nat.mul_le_mul_right sz (show k+1≤off from h)
           rw[Nat.add_mul] at this;omega
          ·exact h
         exact hko ⟨g4,g3⟩
        rw[hcell,ZbS _ _ _ _ (by simp;omega),if_neg e6,← hcell0]
        exact v2 p u hu
   ·cases h1
  ·cases h1
 ·cases h1
end
end Go.Abs

/- Own text. -/
import Derived.Test.YtighjmleicikhaaCCodeA
set_option maxRecDepth 20000
namespace Go.Proofs.Ytighjmleicikhaa
open Go Go.Abs Go.Abs.Q
noncomputable section
def tbl:List (Nat×Go.Abs.Fn):=[(QU,.text Qt),(Q5,.text Y9),(Yq,.text Vy),(Q9,.text Vz),(Xz,.text VA),(Z1,.text VC),(X6,.text WG),(XA,.text Uf),(VK,.text JY),(Xh,.text WH),(Y7,.text Jb),(Yr,.text Ug),(Ys,.text VD),(Xi,.text WI),(Qc,.text QZ),(VL,.text JZ),(VM,.text VQ),(Qs,.text XD),(QW,.text VZ),(Yt,.text Uh),(Yu,.text Ui),(VN,.text J0),(QX,.text V0),(Q6,.text Va),(UA,.text ZcO),(YN,.text J1),(ZB,.prim (Zgw)),(QY,.text Yz),(VO,.text J2),(Ye,.text Jc),(YO,.text J3),(Xj,.text WJ),(Y8,.text Jd)]
def Xs:Fns:=fun f=>lkp tbl f
def Ms:Zf:=fun f i=>(f==ZB&&i==0) || (f==ZB&&i==99)
@[go_sem] theorem ms_all:(∀ i:Nat,Ms QU i=false)∧(∀ i:Nat,Ms Q5 i=false)∧(∀ i:Nat,Ms Yq i=false)∧(∀ i:Nat,Ms Q9 i=false)∧(∀ i:Nat,Ms Xz i=false)∧(∀ i:Nat,Ms Z1 i=false)∧(∀ i:Nat,Ms X6 i=false)∧(∀ i:Nat,Ms XA i=false)∧(∀ i:Nat,Ms VK i=false)∧(∀ i:Nat,Ms Xh i=false)∧(∀ i:Nat,Ms Y7 i=false)∧(∀ i:Nat,Ms Yr i=false)∧(∀ i:Nat,Ms Ys i=false)∧(∀ i:Nat,Ms Xi i=false)∧(∀ i:Nat,Ms Qc i=false)∧(∀ i:Nat,Ms VL i=false)∧(∀ i:Nat,Ms VM i=false)∧(∀ i:Nat,Ms Qs i=false)∧(∀ i:Nat,Ms QW i=false)∧(∀ i:Nat,Ms Yt i=false)∧(∀ i:Nat,Ms Yu i=false)∧(∀ i:Nat,Ms VN i=false)∧(∀ i:Nat,Ms QX i=false)∧(∀ i:Nat,Ms Q6 i=false)∧(∀ i:Nat,Ms UA i=false)∧(∀ i:Nat,Ms YN i=false)∧(∀ i:Nat,Ms QY i=false)∧(∀ i:Nat,Ms VO i=false)∧(∀ i:Nat,Ms Ye i=false)∧(∀ i:Nat,Ms YO i=false)∧(∀ i:Nat,Ms Xj i=false)∧(∀ i:Nat,Ms Y8 i=false):=⟨fun _=>rfl,fun _=>rfl,fun _=>rfl,fun _=>rfl,fun _=>rfl,fun _=>rfl,fun _=>rfl,fun _=>rfl,fun _=>rfl,fun _=>rfl,fun _=>rfl,fun _=>rfl,fun _=>rfl,fun _=>rfl,fun _=>rfl,fun _=>rfl,fun _=>rfl,fun _=>rfl,fun _=>rfl,fun _=>rfl,fun _=>rfl,fun _=>rfl,fun _=>rfl,fun _=>rfl,fun _=>rfl,fun _=>rfl,fun _=>rfl,fun _=>rfl,fun _=>rfl,fun _=>rfl,fun _=>rfl,fun _=>rfl⟩
theorem ZdA:Xs ZB=some (.prim (Zgw)):=rfl
@[go_sem] theorem Zmb:Ms ZB 0=true:=rfl
@[go_sem] theorem Zmc:Ms ZB 1=false:=rfl
@[go_sem] theorem Zmd:Ms ZB 2=false:=rfl
@[go_sem] theorem Zme:Ms ZB 3=false:=rfl
@[go_sem] theorem Zmf:Ms ZB 4=false:=rfl
@[go_sem] theorem Zmg:Ms ZB 5=false:=rfl
@[go_sem] theorem Zk2:Ms ZB 99=true:=rfl
end
end Go.Proofs.Ytighjmleicikhaa

/- The functions of this seat,compiled for the abstract semantics. Printed by a program of the prover's. -/
import Derived.Test.YtemkonmgcoceaaaDoorACodeA
set_option maxRecDepth 20000
namespace Go.Proofs.YtemkonmgcoceaaaDoor
open Go Go.Abs Go.Abs.Q
noncomputable section
def tbl:List (Nat×Go.Abs.Fn):=[(Qg,.text Z3),(Qn,.text Z7),(Yy,.text YA),(Xu,.text Q7),(Xx,.text WE),(Q6,.text Zk),(Yz,.text WF),(YL,.text X7),(XO,.text Xi),(Xy,.text VJ),(XP,.text Xj),(YM,.text VK),(X3,.text Vj),(Qx,.text Xk),(XG,.text ZN),(Ul,.text JK),(Wd,.text Ux),(X4,.text Uy),(XQ,.text Qb),(YN,.text VL),(Qv,.text Yc),(X5,.text YQ),(Um,.text JL),(We,.text Uz),(X6,.text UA),(Zx,.prim (ZmP TB 5)),(Zg,.prim (Zhu TB 5)),(ZK,.prim (Zhv TB 5)),(Vt,.text YB),(Xz,.text WG),(XA,.text Zz),(XH,.text QU),(Xa,.text Xb),(XR,.text YC),(ZH,.text Vk),(YO,.text YR),(Wf,.text UB),(Vu,.text WH),(YP,.text VM),(Xh,.text ZU),(Xc,.text Qq),(ZT,.prim (Zhx)),(QX,.prim (Zhy)),(Wg,.text UC),(Vv,.text WI),(Un,.text JM),(QY,.text Zh)]
def Xs:Fns:=fun f=>lkp tbl f
def Ms:Zj:=fun _ _=>false
theorem VH:Xs Qg=some (.text Z3):=rfl
@[go_sem] theorem Zi8 (i:Nat):Ms Qg i=false:=rfl
theorem V7:Xs Qn=some (.text Z7):=rfl
@[go_sem] theorem ZjZ (i:Nat):Ms Qn i=false:=rfl
theorem ZeM:Xs Yy=some (.text YA):=rfl
@[go_sem] theorem ZqR (i:Nat):Ms Yy i=false:=rfl
theorem ZaV:Xs Xu=some (.text Q7):=rfl
@[go_sem] theorem ZoC (i:Nat):Ms Xu i=false:=rfl
theorem Zkc:Xs Xx=some (.text WE):=rfl
@[go_sem] theorem ZqS (i:Nat):Ms Xx i=false:=rfl
theorem ZS:Xs Q6=some (.text Zk):=rfl
@[go_sem] theorem ZoD (i:Nat):Ms Q6 i=false:=rfl
theorem Zkd:Xs Yz=some (.text WF):=rfl
@[go_sem] theorem ZqT (i:Nat):Ms Yz i=false:=rfl
theorem Zde:Xs YL=some (.text X7):=rfl
@[go_sem] theorem ZpX (i:Nat):Ms YL i=false:=rfl
theorem Za9:Xs XO=some (.text Xi):=rfl
@[go_sem] theorem ZoG (i:Nat):Ms XO i=false:=rfl
theorem Zi9:Xs Xy=some (.text VJ):=rfl
@[go_sem] theorem ZpY (i:Nat):Ms Xy i=false:=rfl
theorem Zba:Xs XP=some (.text Xj):=rfl
@[go_sem] theorem ZoH (i:Nat):Ms XP i=false:=rfl
theorem Zja:Xs YM=some (.text VK):=rfl
@[go_sem] theorem ZpZ (i:Nat):Ms YM i=false:=rfl
theorem ZfY:Xs X3=some (.text Vj):=rfl
@[go_sem] theorem Zrl (i:Nat):Ms X3 i=false:=rfl
theorem Zcz:Xs Qx=some (.text Xk):=rfl
@[go_sem] theorem ZlD (i:Nat):Ms Qx i=false:=rfl
theorem Yk:Xs XG=some (.text ZN):=rfl
@[go_sem] theorem ZpQ (i:Nat):Ms XG i=false:=rfl
theorem ZnB:Xs Ul=some (.text JK):=rfl
@[go_sem] theorem m_l_toBox (i:Nat):Ms Ul i=false:=rfl
theorem ZlE:Xs Wd=some (.text Ux):=rfl
@[go_sem] theorem Zrm (i:Nat):Ms Wd i=false:=rfl
theorem ZlF:Xs X4=some (.text Uy):=rfl
@[go_sem] theorem Zrn (i:Nat):Ms X4 i=false:=rfl
theorem VI:Xs XQ=some (.text Qb):=rfl
@[go_sem] theorem ZoI (i:Nat):Ms XQ i=false:=rfl
theorem Zjb:Xs YN=some (.text VL):=rfl
@[go_sem] theorem Zp0 (i:Nat):Ms YN i=false:=rfl
theorem Zfy:Xs Qv=some (.text Yc):=rfl
@[go_sem] theorem ZoE (i:Nat):Ms Qv i=false:=rfl
theorem Zjc:Xs X5=some (.text YQ):=rfl
@[go_sem] theorem Zp1 (i:Nat):Ms X5 i=false:=rfl
theorem ZnC:Xs Um=some (.text JL):=rfl
@[go_sem] theorem m_l_eqBox (i:Nat):Ms Um i=false:=rfl
theorem ZlG:Xs We=some (.text Uz):=rfl
@[go_sem] theorem Zro (i:Nat):Ms We i=false:=rfl
theorem ZlH:Xs X6=some (.text UA):=rfl
@[go_sem] theorem Zrp (i:Nat):Ms X6 i=false:=rfl
theorem WD:Xs Zx=some (.prim (ZmP TB 5)):=rfl
@[go_sem] theorem ZeN (i:Nat):Ms Zx i=false:=rfl
theorem W9:Xs Zg=some (.prim (Zhu TB 5)):=rfl
@[go_sem] theorem ZfG (i:Nat):Ms Zg i=false:=rfl
theorem Jm:Xs ZK=some (.prim (Zhv TB 5)):=rfl
@[go_sem] theorem ZhK (i:Nat):Ms ZK i=false:=rfl
theorem ZeO:Xs Vt=some (.text YB):=rfl
@[go_sem] theorem ZqU (i:Nat):Ms Vt i=false:=rfl
theorem Zke:Xs Xz=some (.text WG):=rfl
@[go_sem] theorem ZqV (i:Nat):Ms Xz i=false:=rfl
theorem QH:Xs XA=some (.text Zz):=rfl
@[go_sem] theorem Zp2 (i:Nat):Ms XA i=false:=rfl
theorem Jn:Xs XH=some (.text QU):=rfl
@[go_sem] theorem ZpR (i:Nat):Ms XH i=false:=rfl
theorem Zal:Xs Xa=some (.text Xb):=rfl
@[go_sem] theorem Zp3 (i:Nat):Ms Xa i=false:=rfl
theorem ZfZ:Xs XR=some (.text YC):=rfl
@[go_sem] theorem ZoJ (i:Nat):Ms XR i=false:=rfl
theorem Zf0:Xs ZH=some (.text Vk):=rfl
@[go_sem] theorem Zrq (i:Nat):Ms ZH i=false:=rfl
theorem Zjd:Xs YO=some (.text YR):=rfl
@[go_sem] theorem Zp4 (i:Nat):Ms YO i=false:=rfl
theorem ZlI:Xs Wf=some (.text UB):=rfl
@[go_sem] theorem Zrr (i:Nat):Ms Wf i=false:=rfl
theorem Zkf:Xs Vu=some (.text WH):=rfl
@[go_sem] theorem ZqW (i:Nat):Ms Vu i=false:=rfl
theorem Zje:Xs YP=some (.text VM):=rfl
@[go_sem] theorem Zp5 (i:Nat):Ms YP i=false:=rfl
theorem Uw:Xs Xh=some (.text ZU):=rfl
@[go_sem] theorem ZoK (i:Nat):Ms Xh i=false:=rfl
theorem Jo:Xs Xc=some (.text Qq):=rfl
@[go_sem] theorem ZpS (i:Nat):Ms Xc i=false:=rfl
theorem Zf1:Xs ZT=some (.prim (Zhx)):=rfl
@[go_sem] theorem ZoL (i:Nat):Ms ZT i=false:=rfl
theorem Zf2:Xs QX=some (.prim (Zhy)):=rfl
@[go_sem] theorem ZoM (i:Nat):Ms QX i=false:=rfl
theorem ZlJ:Xs Wg=some (.text UC):=rfl
@[go_sem] theorem Zrs (i:Nat):Ms Wg i=false:=rfl
theorem Zkg:Xs Vv=some (.text WI):=rfl
@[go_sem] theorem ZqX (i:Nat):Ms Vv i=false:=rfl
theorem ZnD:Xs Un=some (.text JM):=rfl
@[go_sem] theorem m_s_isCut (i:Nat):Ms Un i=false:=rfl
theorem Z5:Xs QY=some (.text Zh):=rfl
@[go_sem] theorem ZoN (i:Nat):Ms QY i=false:=rfl
end
end Go.Proofs.YtemkonmgcoceaaaDoor

/- The functions of this seat,compiled for the abstract semantics. Printed by a program of the prover's. -/
import Derived.Test.YtkdjbefmiiibpaaGreatDoorACodeA
set_option maxRecDepth 20000
namespace Go.Proofs.YtkdjbefmiiibpaaGreatDoor
open Go Go.Abs Go.Abs.Q
noncomputable section
def tbl:List (Nat×Go.Abs.Fn):=[(YT,.text QH),(XD,.text Yi),(Yd,.text Zp),(Ye,.text Yh),(Yw,.text ZW),(XM,.text Qf),(Vn,.text QL),(W5,.text JB),(Xa,.text VV),(VJ,.text Uj),(XN,.text YB),(Wc,.text Qg),(Yo,.text Y9),(VK,.text QS),(Jg,.text Xg),(Yf,.text VX),(Yg,.text VY),(Yt,.text ZL),(Wd,.text Wk),(W6,.text JC),(Y3,.text Zt),(Zx,.text QD),(ZV,.prim (Zwu TB 5)),(Zr,.prim (Zpp TB 5)),(QE,.prim (Zpq TB 5)),(Jh,.text VA),(Qm,.text WI),(VL,.text JD),(XZ,.text Qo),(Yp,.text Q5),(QC,.prim (Zps)),(Yx,.prim (Zpt)),(ZH,.text ZaN),(Yk,.text ZK),(Y4,.text XU),(Yl,.text Yn),(Vo,.text WJ),(Z1,.text U5),(W7,.text Uk),(Qn,.text Z7),(X0,.text QM),(We,.text Qh),(XO,.text YC),(X1,.text Zh),(Yq,.text Va),(Ji,.text ZaO),(W8,.text JE),(Jj,.text ZaP),(X2,.text Zn),(Zag,.text Zdg),(Z2,.prim (Zwv)),(Ym,.text Zq),(YU,.text JF),(YP,.prim (Zww)),(YQ,.text VZ),(Xt,.text Qe),(Yr,.text Xn),(W9,.text Xw),(Wf,.text Xo),(Ua,.text JG),(Wg,.text UB),(Xl,.text UC),(Xu,.text WK),(Qu,.text X3),(Vp,.text WL),(QF,.text QZ),(Qd,.text Xx),(Qc,.text Xi),(VM,.text YW),(Xm,.text UD),(YV,.text WM),(XT,.text UE),(VN,.text JH),(Y5,.text UF),(Zah,.text ZbY),(Ub,.text Qy),(Vz,.text YX),(Uc,.text JI),(Zai,.text ZbZ),(QK,.text WN),(Yy,.text WO),(Ud,.text JJ),(WG,.text ZaQ),(ZbF,.text Zdh),(ZbX,.text Zdi),(Y6,.text Vb),(ZY,.text ZA),(ZZ,.text QT),(Yz,.text WP),(Ue,.text JK),(Uf,.text Xy),(Ug,.text JL),(Y7,.text Q6),(VO,.text JM),(Y8,.text UG),(VQ,.text JN),(Wh,.text UH),(Wi,.text UI),(WH,.text U6),(Jk,.text ZaR),(ZP,.text ZQ),(Uh,.text JO),(Ui,.text JP),(Zaj,.text Zb0),(Wj,.text UJ),(Xv,.text Qa),(YA,.text YD),(Vq,.text WQ)]
def Xs:Fns:=fun f=>lkp tbl f
def Ms:Zo:=fun _ _=>false
theorem Jy:Xs YT=some (.text QH):=rfl
@[go_sem] theorem Zus (i:Nat):Ms YT i=false:=rfl
theorem Zgf:Xs XD=some (.text Yi):=rfl
@[go_sem] theorem ZsD (i:Nat):Ms XD i=false:=rfl
theorem Ql:Xs Yd=some (.text Zp):=rfl
@[go_sem] theorem Zwx (i:Nat):Ms Yd i=false:=rfl
theorem ZeC:Xs Ye=some (.text Yh):=rfl
@[go_sem] theorem Zwy (i:Nat):Ms Ye i=false:=rfl
theorem Yv:Xs Yw=some (.text ZW):=rfl
@[go_sem] theorem Zw0 (i:Nat):Ms Yw i=false:=rfl
theorem ZgO:Xs XM=some (.text Qf):=rfl
@[go_sem] theorem Zs4 (i:Nat):Ms XM i=false:=rfl
theorem Jz:Xs Vn=some (.text QL):=rfl
@[go_sem] theorem Zw1 (i:Nat):Ms Vn i=false:=rfl
theorem ZpK:Xs W5=some (.text JB):=rfl
@[go_sem] theorem ZyV (i:Nat):Ms W5 i=false:=rfl
theorem Zkh:Xs Xa=some (.text VV):=rfl
@[go_sem] theorem Zwz (i:Nat):Ms Xa i=false:=rfl
theorem ZpL:Xs VJ=some (.text Uj):=rfl
@[go_sem] theorem ZyW (i:Nat):Ms VJ i=false:=rfl
theorem ZgP:Xs XN=some (.text YB):=rfl
@[go_sem] theorem Zs5 (i:Nat):Ms XN i=false:=rfl
theorem Wa:Xs Wc=some (.text Qg):=rfl
@[go_sem] theorem Zyl (i:Nat):Ms Wc i=false:=rfl
theorem Zgv:Xs Yo=some (.text Y9):=rfl
@[go_sem] theorem Zym (i:Nat):Ms Yo i=false:=rfl
theorem Zbp:Xs VK=some (.text QS):=rfl
@[go_sem] theorem ZyX (i:Nat):Ms VK i=false:=rfl
theorem ZaL:Xs Jg=some (.text Xg):=rfl
@[go_sem] theorem ZAP (i:Nat):Ms Jg i=false:=rfl
theorem Zki:Xs Yf=some (.text VX):=rfl
@[go_sem] theorem ZwA (i:Nat):Ms Yf i=false:=rfl
theorem Zkj:Xs Yg=some (.text VY):=rfl
@[go_sem] theorem ZwB (i:Nat):Ms Yg i=false:=rfl
theorem XL:Xs Yt=some (.text ZL):=rfl
@[go_sem] theorem Zvs (i:Nat):Ms Yt i=false:=rfl
theorem Znt:Xs Wd=some (.text Wk):=rfl
@[go_sem] theorem Zyn (i:Nat):Ms Wd i=false:=rfl
theorem ZpM:Xs W6=some (.text JC):=rfl
@[go_sem] theorem ZyY (i:Nat):Ms W6 i=false:=rfl
theorem Znu:Xs Y3=some (.text Zt):=rfl
@[go_sem] theorem Zyo (i:Nat):Ms Y3 i=false:=rfl
theorem UW:Xs Zx=some (.text QD):=rfl
@[go_sem] theorem ZwC (i:Nat):Ms Zx i=false:=rfl
theorem ZaM:Xs ZV=some (.prim (Zwu TB 5)):=rfl
@[go_sem] theorem ZjC (i:Nat):Ms ZV i=false:=rfl
theorem Zbq:Xs Zr=some (.prim (Zpp TB 5)):=rfl
@[go_sem] theorem ZkK (i:Nat):Ms Zr i=false:=rfl
theorem ZcN:Xs QE=some (.prim (Zpq TB 5)):=rfl
@[go_sem] theorem Znv (i:Nat):Ms QE i=false:=rfl
theorem Zrm:Xs Jh=some (.text VA):=rfl
@[go_sem] theorem ZAQ (i:Nat):Ms Jh i=false:=rfl
theorem Zlf:Xs Qm=some (.text WI):=rfl
@[go_sem] theorem Zw2 (i:Nat):Ms Qm i=false:=rfl
theorem ZpN:Xs VL=some (.text JD):=rfl
@[go_sem] theorem ZyZ (i:Nat):Ms VL i=false:=rfl
theorem ZbW:Xs XZ=some (.text Qo):=rfl
@[go_sem] theorem Zw3 (i:Nat):Ms XZ i=false:=rfl
theorem ZcO:Xs Yp=some (.text Q5):=rfl
@[go_sem] theorem Zyp (i:Nat):Ms Yp i=false:=rfl
theorem Zlg:Xs QC=some (.prim (Zps)):=rfl
@[go_sem] theorem Zw4 (i:Nat):Ms QC i=false:=rfl
theorem Zlh:Xs Yx=some (.prim (Zpt)):=rfl
@[go_sem] theorem Zw5 (i:Nat):Ms Yx i=false:=rfl
theorem Zrn:Xs ZH=some (.text ZaN):=rfl
@[go_sem] theorem ZAR (i:Nat):Ms ZH i=false:=rfl
theorem Xq:Xs Yk=some (.text ZK):=rfl
@[go_sem] theorem Zy0 (i:Nat):Ms Yk i=false:=rfl
theorem ZcP:Xs Y4=some (.text XU):=rfl
@[go_sem] theorem Zyq (i:Nat):Ms Y4 i=false:=rfl
theorem ZdY:Xs Yl=some (.text Yn):=rfl
@[go_sem] theorem Zy1 (i:Nat):Ms Yl i=false:=rfl
theorem Zli:Xs Vo=some (.text WJ):=rfl
@[go_sem] theorem Zw6 (i:Nat):Ms Vo i=false:=rfl
theorem Zlj:Xs Z1=some (.text U5):=rfl
@[go_sem] theorem ZBl (i:Nat):Ms Z1 i=false:=rfl
theorem ZpO:Xs W7=some (.text Uk):=rfl
@[go_sem] theorem Zy2 (i:Nat):Ms W7 i=false:=rfl
theorem WE:Xs Qn=some (.text Z7):=rfl
@[go_sem] theorem Zlk (i:Nat):Ms Qn i=false:=rfl
theorem JA:Xs X0=some (.text QM):=rfl
@[go_sem] theorem Zw7 (i:Nat):Ms X0 i=false:=rfl
theorem Wb:Xs We=some (.text Qh):=rfl
@[go_sem] theorem Zyr (i:Nat):Ms We i=false:=rfl
theorem ZgQ:Xs XO=some (.text YC):=rfl
@[go_sem] theorem Zs6 (i:Nat):Ms XO i=false:=rfl
theorem ZO:Xs X1=some (.text Zh):=rfl
@[go_sem] theorem Zw8 (i:Nat):Ms X1 i=false:=rfl
theorem Zgw:Xs Yq=some (.text Va):=rfl
@[go_sem] theorem Zys (i:Nat):Ms Yq i=false:=rfl
theorem Zro:Xs Ji=some (.text ZaO):=rfl
@[go_sem] theorem ZAS (i:Nat):Ms Ji i=false:=rfl
theorem ZpP:Xs W8=some (.text JE):=rfl
@[go_sem] theorem Zy3 (i:Nat):Ms W8 i=false:=rfl
theorem Zrp:Xs Jj=some (.text ZaP):=rfl
@[go_sem] theorem ZAT (i:Nat):Ms Jj i=false:=rfl
theorem QB:Xs X2=some (.text Zn):=rfl
@[go_sem] theorem Zw9 (i:Nat):Ms X2 i=false:=rfl
theorem Zvt:Xs Zag=some (.text Zdg):=rfl
@[go_sem] theorem m_s_isCut (i:Nat):Ms Zag i=false:=rfl
theorem Za3:Xs Z2=some (.prim (Zwv)):=rfl
@[go_sem] theorem Zkk (i:Nat):Ms Z2 i=false:=rfl
theorem QR:Xs Ym=some (.text Zq):=rfl
@[go_sem] theorem Zy4 (i:Nat):Ms Ym i=false:=rfl
theorem Zut:Xs YU=some (.text JF):=rfl
@[go_sem] theorem Zuu (i:Nat):Ms YU i=false:=rfl
theorem Zkl:Xs YP=some (.prim (Zww)):=rfl
@[go_sem] theorem ZwD (i:Nat):Ms YP i=false:=rfl
theorem Zkm:Xs YQ=some (.text VZ):=rfl
@[go_sem] theorem ZwE (i:Nat):Ms YQ i=false:=rfl
theorem WF:Xs Xt=some (.text Qe):=rfl
@[go_sem] theorem Zxa (i:Nat):Ms Xt i=false:=rfl
theorem ZcQ:Xs Yr=some (.text Xn):=rfl
@[go_sem] theorem Zyt (i:Nat):Ms Yr i=false:=rfl
theorem Zbr:Xs W9=some (.text Xw):=rfl
@[go_sem] theorem Zy5 (i:Nat):Ms W9 i=false:=rfl
theorem Znw:Xs Wf=some (.text Xo):=rfl
@[go_sem] theorem Zyu (i:Nat):Ms Wf i=false:=rfl
theorem ZpQ:Xs Ua=some (.text JG):=rfl
@[go_sem] theorem Zy6 (i:Nat):Ms Ua i=false:=rfl
theorem Znx:Xs Wg=some (.text UB):=rfl
@[go_sem] theorem Zyv (i:Nat):Ms Wg i=false:=rfl
theorem Zny:Xs Xl=some (.text UC):=rfl
@[go_sem] theorem Zyw (i:Nat):Ms Xl i=false:=rfl
theorem Zll:Xs Xu=some (.text WK):=rfl
@[go_sem] theorem Zxb (i:Nat):Ms Xu i=false:=rfl
theorem Zcu:Xs Qu=some (.text X3):=rfl
@[go_sem] theorem ZAU (i:Nat):Ms Qu i=false:=rfl
theorem Zlm:Xs Vp=some (.text WL):=rfl
@[go_sem] theorem Zxc (i:Nat):Ms Vp i=false:=rfl
theorem Zbg:Xs QF=some (.text QZ):=rfl
@[go_sem] theorem ZsE (i:Nat):Ms QF i=false:=rfl
theorem ZhH:Xs Qd=some (.text Xx):=rfl
@[go_sem] theorem ZhI (i:Nat):Ms Qd i=false:=rfl
theorem Zhn:Xs Qc=some (.text Xi):=rfl
@[go_sem] theorem Zho (i:Nat):Ms Qc i=false:=rfl
theorem ZpR:Xs VM=some (.text YW):=rfl
@[go_sem] theorem Zy7 (i:Nat):Ms VM i=false:=rfl
theorem Znz:Xs Xm=some (.text UD):=rfl
@[go_sem] theorem Zyx (i:Nat):Ms Xm i=false:=rfl
theorem ZjD:Xs YV=some (.text WM):=rfl
@[go_sem] theorem ZAV (i:Nat):Ms YV i=false:=rfl
theorem ZnA:Xs XT=some (.text UE):=rfl
@[go_sem] theorem Zyy (i:Nat):Ms XT i=false:=rfl
theorem ZpS:Xs VN=some (.text JH):=rfl
@[go_sem] theorem Zy8 (i:Nat):Ms VN i=false:=rfl
theorem ZnB:Xs Y5=some (.text UF):=rfl
@[go_sem] theorem Zyz (i:Nat):Ms Y5 i=false:=rfl
theorem Zs7:Xs Zah=some (.text ZbY):=rfl
@[go_sem] theorem ZBm (i:Nat):Ms Zah i=false:=rfl
theorem W4:Xs Ub=some (.text Qy):=rfl
@[go_sem] theorem Zy9 (i:Nat):Ms Ub i=false:=rfl
theorem Ze5:Xs Vz=some (.text YX):=rfl
@[go_sem] theorem ZAW (i:Nat):Ms Vz i=false:=rfl
theorem ZpT:Xs Uc=some (.text JI):=rfl
@[go_sem] theorem Zza (i:Nat):Ms Uc i=false:=rfl
theorem Zs8:Xs Zai=some (.text ZbZ):=rfl
@[go_sem] theorem ZBn (i:Nat):Ms Zai i=false:=rfl
theorem Zln:Xs QK=some (.text WN):=rfl
@[go_sem] theorem Zxd (i:Nat):Ms QK i=false:=rfl
theorem Zlo:Xs Yy=some (.text WO):=rfl
@[go_sem] theorem Zxe (i:Nat):Ms Yy i=false:=rfl
theorem ZpU:Xs Ud=some (.text JJ):=rfl
@[go_sem] theorem Zzb (i:Nat):Ms Ud i=false:=rfl
theorem Zrq:Xs WG=some (.text ZaQ):=rfl
@[go_sem] theorem ZAX (i:Nat):Ms WG i=false:=rfl
theorem Zvu:Xs ZbF=some (.text Zdh):=rfl
@[go_sem] theorem m_s_edges (i:Nat):Ms ZbF i=false:=rfl
theorem Zxf:Xs ZbX=some (.text Zdi):=rfl
@[go_sem] theorem m_s_part (i:Nat):Ms ZbX i=false:=rfl
theorem Zgx:Xs Y6=some (.text Vb):=rfl
@[go_sem] theorem ZyA (i:Nat):Ms Y6 i=false:=rfl
theorem Xr:Xs ZY=some (.text ZA):=rfl
@[go_sem] theorem ZhJ (i:Nat):Ms ZY i=false:=rfl
theorem ZfL:Xs ZZ=some (.text QT):=rfl
@[go_sem] theorem ZfM (i:Nat):Ms ZZ i=false:=rfl
theorem Zlp:Xs Yz=some (.text WP):=rfl
@[go_sem] theorem Zxg (i:Nat):Ms Yz i=false:=rfl
theorem ZpV:Xs Ue=some (.text JK):=rfl
@[go_sem] theorem Zzc (i:Nat):Ms Ue i=false:=rfl
theorem Zbs:Xs Uf=some (.text Xy):=rfl
@[go_sem] theorem Zzd (i:Nat):Ms Uf i=false:=rfl
theorem ZpW:Xs Ug=some (.text JL):=rfl
@[go_sem] theorem Zze (i:Nat):Ms Ug i=false:=rfl
theorem ZaC:Xs Y7=some (.text Q6):=rfl
@[go_sem] theorem ZyB (i:Nat):Ms Y7 i=false:=rfl
theorem ZpX:Xs VO=some (.text JM):=rfl
@[go_sem] theorem Zzf (i:Nat):Ms VO i=false:=rfl
theorem ZnC:Xs Y8=some (.text UG):=rfl
@[go_sem] theorem ZyC (i:Nat):Ms Y8 i=false:=rfl
theorem ZpY:Xs VQ=some (.text JN):=rfl
@[go_sem] theorem Zzg (i:Nat):Ms VQ i=false:=rfl
theorem ZnD:Xs Wh=some (.text UH):=rfl
@[go_sem] theorem ZyD (i:Nat):Ms Wh i=false:=rfl
theorem ZnE:Xs Wi=some (.text UI):=rfl
@[go_sem] theorem ZyE (i:Nat):Ms Wi i=false:=rfl
theorem Zlq:Xs WH=some (.text U6):=rfl
@[go_sem] theorem ZBo (i:Nat):Ms WH i=false:=rfl
theorem Zrr:Xs Jk=some (.text ZaR):=rfl
@[go_sem] theorem ZAY (i:Nat):Ms Jk i=false:=rfl
theorem YS:Xs ZP=some (.text ZQ):=rfl
@[go_sem] theorem ZhK (i:Nat):Ms ZP i=false:=rfl
theorem ZpZ:Xs Uh=some (.text JO):=rfl
@[go_sem] theorem Zzh (i:Nat):Ms Uh i=false:=rfl
theorem Zp0:Xs Ui=some (.text JP):=rfl
@[go_sem] theorem Zzi (i:Nat):Ms Ui i=false:=rfl
theorem Zs9:Xs Zaj=some (.text Zb0):=rfl
@[go_sem] theorem ZBp (i:Nat):Ms Zaj i=false:=rfl
theorem ZnF:Xs Wj=some (.text UJ):=rfl
@[go_sem] theorem ZyF (i:Nat):Ms Wj i=false:=rfl
theorem VI:Xs Xv=some (.text Qa):=rfl
@[go_sem] theorem Zzj (i:Nat):Ms Xv i=false:=rfl
theorem ZdZ:Xs YA=some (.text YD):=rfl
@[go_sem] theorem ZBq (i:Nat):Ms YA i=false:=rfl
theorem Zlr:Xs Vq=some (.text WQ):=rfl
@[go_sem] theorem Zxh (i:Nat):Ms Vq i=false:=rfl
end
end Go.Proofs.YtkdjbefmiiibpaaGreatDoor

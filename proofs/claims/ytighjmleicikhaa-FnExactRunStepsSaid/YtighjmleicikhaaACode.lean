/- Own text. -/
import Derived.Test.YtighjmleicikhaaACodeA
set_option maxRecDepth 20000
namespace Go.Proofs.Ytighjmleicikhaa
open Go Go.Abs Go.Abs.Q
noncomputable section
abbrev Ve:D:=(.agg [(.int .i64 0),(.int .i64 0),(.int .i64 0),(.int .i64 0)])
def tbl:List (Nat×Go.Abs.Fn):=[(Q6,.text QA),(YE,.text VF),(VD,.text WZ),(Um,.text JW),(Yh,.text JX),(Yi,.text Zcy),(Xd,.text Zcz),(Yj,.text ZcA),(Vf,.text ZcB),(Un,.text ZcC),(Yk,.text ZcD),(Uo,.text ZcE),(Qb,.text JY),(Qc,.text JZ),(Qd,.text J0),(Qe,.text J1),(YF,.text J2),(YY,.text XU),(Wx,.text WF),(Wy,.text WG),(XP,.text WO),(XA,.text V8),(Zx,.prim (Zdm 4 32 Ve)),(Xa,.text W0),(YZ,.text XV),(Xe,.text Yn),(Vg,.text Ur),(Yl,.text ZaP),(Xt,.text XK),(Jz,.text Zd9),(YG,.text J3),(Wz,.text UX),(WA,.text UY),(WB,.text ZaQ),(WC,.text ZaR),(JA,.text Zea),(WD,.text ZaS),(WE,.text ZaT),(ZV,.text Jd),(ZI,.text Je),(Y0,.text Jf),(Vn,.text ZaU),(Qx,.text Qf),(Y1,.text Wr),(QE,.text ZaV),(XJ,.text QT),(ZR,.text QU),(ZS,.text Z1),(VE,.text J4),(QS,.text QV),(V7,.text Zeb),(Xf,.text Zw),(Ud,.text Zec),(Up,.text ZcF),(Uq,.text ZcG),(Ym,.text Us),(Y2,.text XW),(Y3,.text Jg),(QI,.text X0),(XB,.text Ut),(Y4,.text Jh)]
def Xs:Fns:=fun f=>lkp tbl f
def Ms:Zg:=fun f i=>(f==ZR&&i==0) || (f==Zx&&i==0) || (f==Qe&&i==0) || (f==Qe&&i==99) || (f==ZV&&i==0) || (f==ZV&&i==99) || (f==Qd&&i==0) || (f==Qd&&i==99) || (f==ZI&&i==0) || (f==ZI&&i==99) || (f==Qc&&i==0) || (f==Qc&&i==99) || (f==Qb&&i==0) || (f==Qb&&i==99) || (f==ZS&&i==0)
@[go_sem] theorem ms_all:(∀ i:Nat,Ms Q6 i=false)∧(∀ i:Nat,Ms YE i=false)∧(∀ i:Nat,Ms VD i=false)∧(∀ i:Nat,Ms Um i=false)∧(∀ i:Nat,Ms Yh i=false)∧(∀ i:Nat,Ms Yi i=false)∧(∀ i:Nat,Ms Xd i=false)∧(∀ i:Nat,Ms Yj i=false)∧(∀ i:Nat,Ms Vf i=false)∧(∀ i:Nat,Ms Un i=false)∧(∀ i:Nat,Ms Yk i=false)∧(∀ i:Nat,Ms Uo i=false)∧(∀ i:Nat,Ms YF i=false)∧(∀ i:Nat,Ms YY i=false)∧(∀ i:Nat,Ms Wx i=false)∧(∀ i:Nat,Ms Wy i=false)∧(∀ i:Nat,Ms XP i=false)∧(∀ i:Nat,Ms XA i=false)∧(∀ i:Nat,Ms Xa i=false)∧(∀ i:Nat,Ms YZ i=false)∧(∀ i:Nat,Ms Xe i=false)∧(∀ i:Nat,Ms Vg i=false)∧(∀ i:Nat,Ms Yl i=false)∧(∀ i:Nat,Ms Xt i=false)∧(∀ i:Nat,Ms Jz i=false)∧(∀ i:Nat,Ms YG i=false)∧(∀ i:Nat,Ms Wz i=false)∧(∀ i:Nat,Ms WA i=false)∧(∀ i:Nat,Ms WB i=false)∧(∀ i:Nat,Ms WC i=false)∧(∀ i:Nat,Ms JA i=false)∧(∀ i:Nat,Ms WD i=false)∧(∀ i:Nat,Ms WE i=false)∧(∀ i:Nat,Ms Y0 i=false)∧(∀ i:Nat,Ms Vn i=false)∧(∀ i:Nat,Ms Qx i=false)∧(∀ i:Nat,Ms Y1 i=false)∧(∀ i:Nat,Ms QE i=false)∧(∀ i:Nat,Ms XJ i=false)∧(∀ i:Nat,Ms VE i=false)∧(∀ i:Nat,Ms QS i=false)∧(∀ i:Nat,Ms V7 i=false)∧(∀ i:Nat,Ms Xf i=false)∧(∀ i:Nat,Ms Ud i=false)∧(∀ i:Nat,Ms Up i=false)∧(∀ i:Nat,Ms Uq i=false)∧(∀ i:Nat,Ms Ym i=false)∧(∀ i:Nat,Ms Y2 i=false)∧(∀ i:Nat,Ms Y3 i=false)∧(∀ i:Nat,Ms QI i=false)∧(∀ i:Nat,Ms XB i=false)∧(∀ i:Nat,Ms Y4 i=false):=⟨fun _=>rfl,fun _=>rfl,fun _=>rfl,fun _=>rfl,fun _=>rfl,fun _=>rfl,fun _=>rfl,fun _=>rfl,fun _=>rfl,fun _=>rfl,fun _=>rfl,fun _=>rfl,fun _=>rfl,fun _=>rfl,fun _=>rfl,fun _=>rfl,fun _=>rfl,fun _=>rfl,fun _=>rfl,fun _=>rfl,fun _=>rfl,fun _=>rfl,fun _=>rfl,fun _=>rfl,fun _=>rfl,fun _=>rfl,fun _=>rfl,fun _=>rfl,fun _=>rfl,fun _=>rfl,fun _=>rfl,fun _=>rfl,fun _=>rfl,fun _=>rfl,fun _=>rfl,fun _=>rfl,fun _=>rfl,fun _=>rfl,fun _=>rfl,fun _=>rfl,fun _=>rfl,fun _=>rfl,fun _=>rfl,fun _=>rfl,fun _=>rfl,fun _=>rfl,fun _=>rfl,fun _=>rfl,fun _=>rfl,fun _=>rfl,fun _=>rfl,fun _=>rfl⟩
@[go_sem] theorem ZqQ:Ms Qb 0=true:=rfl
@[go_sem] theorem ZqR:Ms Qb 1=false:=rfl
@[go_sem] theorem ZqS:Ms Qb 2=false:=rfl
@[go_sem] theorem ZqT:Ms Qb 3=false:=rfl
@[go_sem] theorem ZqU:Ms Qb 4=false:=rfl
@[go_sem] theorem ZqV:Ms Qb 5=false:=rfl
@[go_sem] theorem ZpC:Ms Qb 99=true:=rfl
@[go_sem] theorem ZqW:Ms Qc 0=true:=rfl
@[go_sem] theorem ZqX:Ms Qc 1=false:=rfl
@[go_sem] theorem ZqY:Ms Qc 2=false:=rfl
@[go_sem] theorem ZqZ:Ms Qc 3=false:=rfl
@[go_sem] theorem Zq0:Ms Qc 4=false:=rfl
@[go_sem] theorem Zq1:Ms Qc 5=false:=rfl
@[go_sem] theorem ZpD:Ms Qc 99=true:=rfl
@[go_sem] theorem Zq2:Ms Qd 0=true:=rfl
@[go_sem] theorem Zq3:Ms Qd 1=false:=rfl
@[go_sem] theorem Zq4:Ms Qd 2=false:=rfl
@[go_sem] theorem Zq5:Ms Qd 3=false:=rfl
@[go_sem] theorem Zq6:Ms Qd 4=false:=rfl
@[go_sem] theorem Zq7:Ms Qd 5=false:=rfl
@[go_sem] theorem ZpE:Ms Qd 99=true:=rfl
@[go_sem] theorem Zq8:Ms Qe 0=true:=rfl
@[go_sem] theorem Zq9:Ms Qe 1=false:=rfl
@[go_sem] theorem Zra:Ms Qe 2=false:=rfl
@[go_sem] theorem Zrb:Ms Qe 3=false:=rfl
@[go_sem] theorem Zrc:Ms Qe 4=false:=rfl
@[go_sem] theorem Zrd:Ms Qe 5=false:=rfl
@[go_sem] theorem ZpF:Ms Qe 99=true:=rfl
theorem Zcx:Xs Zx=some (.prim (Zdm 4 32 Ve)):=rfl
@[go_sem] theorem Zmg:Ms Zx 0=true:=rfl
@[go_sem] theorem Zmh:Ms Zx 1=false:=rfl
@[go_sem] theorem Zmi:Ms Zx 2=false:=rfl
@[go_sem] theorem Zmj:Ms Zx 3=false:=rfl
@[go_sem] theorem Zmk:Ms Zx 4=false:=rfl
@[go_sem] theorem Zml:Ms Zx 5=false:=rfl
@[go_sem] theorem ZkW:Ms Zx 99=false:=rfl
@[go_sem] theorem ZpG:Ms ZV 0=true:=rfl
@[go_sem] theorem ZpH:Ms ZV 1=false:=rfl
@[go_sem] theorem ZpI:Ms ZV 2=false:=rfl
@[go_sem] theorem ZpJ:Ms ZV 3=false:=rfl
@[go_sem] theorem ZpK:Ms ZV 4=false:=rfl
@[go_sem] theorem ZpL:Ms ZV 5=false:=rfl
@[go_sem] theorem Zpr:Ms ZV 99=true:=rfl
@[go_sem] theorem ZpM:Ms ZI 0=true:=rfl
@[go_sem] theorem ZpN:Ms ZI 1=false:=rfl
@[go_sem] theorem ZpO:Ms ZI 2=false:=rfl
@[go_sem] theorem ZpP:Ms ZI 3=false:=rfl
@[go_sem] theorem ZpQ:Ms ZI 4=false:=rfl
@[go_sem] theorem ZpR:Ms ZI 5=false:=rfl
@[go_sem] theorem Zps:Ms ZI 99=true:=rfl
@[go_sem] theorem Zre:Ms ZR 0=true:=rfl
@[go_sem] theorem Zrf:Ms ZR 1=false:=rfl
@[go_sem] theorem Zrg:Ms ZR 2=false:=rfl
@[go_sem] theorem Zrh:Ms ZR 3=false:=rfl
@[go_sem] theorem Zri:Ms ZR 4=false:=rfl
@[go_sem] theorem Zrj:Ms ZR 5=false:=rfl
@[go_sem] theorem ZpS:Ms ZR 99=false:=rfl
@[go_sem] theorem Zrk:Ms ZS 0=true:=rfl
@[go_sem] theorem Zrl:Ms ZS 1=false:=rfl
@[go_sem] theorem Zrm:Ms ZS 2=false:=rfl
@[go_sem] theorem Zrn:Ms ZS 3=false:=rfl
@[go_sem] theorem Zro:Ms ZS 4=false:=rfl
@[go_sem] theorem Zrp:Ms ZS 5=false:=rfl
@[go_sem] theorem ZpT:Ms ZS 99=false:=rfl
end
end Go.Proofs.Ytighjmleicikhaa

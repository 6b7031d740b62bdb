/- Own text. -/
import Derived.Test.YtighjmleicikhaaBCodeA
set_option maxRecDepth 20000
namespace Go.Proofs.Ytighjmleicikhaa
open Go Go.Abs Go.Abs.Q
noncomputable section
abbrev VR:D:=(.agg [(.int .i64 0),(.int .i64 0),(.int .i64 0),(.int .i64 0)])
def tbl:List (Nat×Go.Abs.Fn):=[(XE,.text Z8),(Xm,.text Qw),(Vd,.text WC),(Wv,.text UF),(XW,.text WD),(YV,.text Y0),(Jf,.text ZaR),(Uc,.text ZbK),(Ww,.text ZaS),(Wx,.text ZaT),(Vt,.text JQ),(Yj,.text JR),(Vu,.text W3),(Qe,.text Jg),(Zn,.text Xz),(Vv,.text Yl),(Wy,.text ZaU),(Wz,.text XH),(YW,.text Ue),(V3,.text Uf),(Xy,.text Un),(XX,.text WY),(ZA,.prim (Zdi 4 32 VR)),(Xh,.text UG),(Vw,.text Ym),(QZ,.text Y1),(YX,.text Jh),(XF,.text ZbL),(XM,.text X7),(Zaf,.text ZeI),(Xi,.text ZaV),(ZT,.text ZD),(Vx,.text JS),(V4,.text ZbM),(Qs,.text Qg),(XG,.text Vf),(Vy,.text W4),(QI,.text ZbN),(X6,.text QT),(Ve,.text ZaW),(YY,.text Ji),(Ud,.text Xk),(Yk,.text JT),(ZU,.text QU),(ZV,.text Z9),(WA,.text ZaX),(QD,.text QV),(V5,.text ZeJ),(Xu,.text Zy),(V6,.text ZeK),(YZ,.text Jj),(Vz,.text Yn),(VA,.text JU),(WB,.text WE),(QN,.text Ys),(XY,.text Jk),(VC,.text JV)]
def Xs:Fns:=fun f=>lkp tbl f
def Ms:Zg:=fun f i=>(f==ZU&&i==0) || (f==ZA&&i==0) || (f==ZV&&i==0) || (f==ZT&&i==0)
@[go_sem] theorem ms_all:(∀ i:Nat,Ms XE i=false)∧(∀ i:Nat,Ms Xm i=false)∧(∀ i:Nat,Ms Vd i=false)∧(∀ i:Nat,Ms Wv i=false)∧(∀ i:Nat,Ms XW i=false)∧(∀ i:Nat,Ms YV i=false)∧(∀ i:Nat,Ms Jf i=false)∧(∀ i:Nat,Ms Uc i=false)∧(∀ i:Nat,Ms Ww i=false)∧(∀ i:Nat,Ms Wx i=false)∧(∀ i:Nat,Ms Vt i=false)∧(∀ i:Nat,Ms Yj i=false)∧(∀ i:Nat,Ms Vu i=false)∧(∀ i:Nat,Ms Qe i=false)∧(∀ i:Nat,Ms Zn i=false)∧(∀ i:Nat,Ms Vv i=false)∧(∀ i:Nat,Ms Wy i=false)∧(∀ i:Nat,Ms Wz i=false)∧(∀ i:Nat,Ms YW i=false)∧(∀ i:Nat,Ms V3 i=false)∧(∀ i:Nat,Ms Xy i=false)∧(∀ i:Nat,Ms XX i=false)∧(∀ i:Nat,Ms Xh i=false)∧(∀ i:Nat,Ms Vw i=false)∧(∀ i:Nat,Ms QZ i=false)∧(∀ i:Nat,Ms YX i=false)∧(∀ i:Nat,Ms XF i=false)∧(∀ i:Nat,Ms XM i=false)∧(∀ i:Nat,Ms Zaf i=false)∧(∀ i:Nat,Ms Xi i=false)∧(∀ i:Nat,Ms Vx i=false)∧(∀ i:Nat,Ms V4 i=false)∧(∀ i:Nat,Ms Qs i=false)∧(∀ i:Nat,Ms XG i=false)∧(∀ i:Nat,Ms Vy i=false)∧(∀ i:Nat,Ms QI i=false)∧(∀ i:Nat,Ms X6 i=false)∧(∀ i:Nat,Ms Ve i=false)∧(∀ i:Nat,Ms YY i=false)∧(∀ i:Nat,Ms Ud i=false)∧(∀ i:Nat,Ms Yk i=false)∧(∀ i:Nat,Ms WA i=false)∧(∀ i:Nat,Ms QD i=false)∧(∀ i:Nat,Ms V5 i=false)∧(∀ i:Nat,Ms Xu i=false)∧(∀ i:Nat,Ms V6 i=false)∧(∀ i:Nat,Ms YZ i=false)∧(∀ i:Nat,Ms Vz i=false)∧(∀ i:Nat,Ms VA i=false)∧(∀ i:Nat,Ms WB i=false)∧(∀ i:Nat,Ms QN i=false)∧(∀ i:Nat,Ms XY i=false)∧(∀ i:Nat,Ms VC i=false):=⟨fun _=>rfl,fun _=>rfl,fun _=>rfl,fun _=>rfl,fun _=>rfl,fun _=>rfl,fun _=>rfl,fun _=>rfl,fun _=>rfl,fun _=>rfl,fun _=>rfl,fun _=>rfl,fun _=>rfl,fun _=>rfl,fun _=>rfl,fun _=>rfl,fun _=>rfl,fun _=>rfl,fun _=>rfl,fun _=>rfl,fun _=>rfl,fun _=>rfl,fun _=>rfl,fun _=>rfl,fun _=>rfl,fun _=>rfl,fun _=>rfl,fun _=>rfl,fun _=>rfl,fun _=>rfl,fun _=>rfl,fun _=>rfl,fun _=>rfl,fun _=>rfl,fun _=>rfl,fun _=>rfl,fun _=>rfl,fun _=>rfl,fun _=>rfl,fun _=>rfl,fun _=>rfl,fun _=>rfl,fun _=>rfl,fun _=>rfl,fun _=>rfl,fun _=>rfl,fun _=>rfl,fun _=>rfl,fun _=>rfl,fun _=>rfl,fun _=>rfl,fun _=>rfl,fun _=>rfl⟩
theorem Zc8:Xs ZA=some (.prim (Zdi 4 32 VR)):=rfl
@[go_sem] theorem ZlE:Ms ZA 0=true:=rfl
@[go_sem] theorem ZlF:Ms ZA 1=false:=rfl
@[go_sem] theorem ZlG:Ms ZA 2=false:=rfl
@[go_sem] theorem ZlH:Ms ZA 3=false:=rfl
@[go_sem] theorem ZlI:Ms ZA 4=false:=rfl
@[go_sem] theorem ZlJ:Ms ZA 5=false:=rfl
@[go_sem] theorem Zlz:Ms ZA 99=false:=rfl
@[go_sem] theorem ZqY:Ms ZT 0=true:=rfl
@[go_sem] theorem ZqZ:Ms ZT 1=false:=rfl
@[go_sem] theorem Zq0:Ms ZT 2=false:=rfl
@[go_sem] theorem Zq1:Ms ZT 3=false:=rfl
@[go_sem] theorem Zq2:Ms ZT 4=false:=rfl
@[go_sem] theorem Zq3:Ms ZT 5=false:=rfl
@[go_sem] theorem ZpV:Ms ZT 99=false:=rfl
@[go_sem] theorem ZpW:Ms ZU 0=true:=rfl
@[go_sem] theorem ZpX:Ms ZU 1=false:=rfl
@[go_sem] theorem ZpY:Ms ZU 2=false:=rfl
@[go_sem] theorem ZpZ:Ms ZU 3=false:=rfl
@[go_sem] theorem Zp0:Ms ZU 4=false:=rfl
@[go_sem] theorem Zp1:Ms ZU 5=false:=rfl
@[go_sem] theorem ZpQ:Ms ZU 99=false:=rfl
@[go_sem] theorem Zp2:Ms ZV 0=true:=rfl
@[go_sem] theorem Zp3:Ms ZV 1=false:=rfl
@[go_sem] theorem Zp4:Ms ZV 2=false:=rfl
@[go_sem] theorem Zp5:Ms ZV 3=false:=rfl
@[go_sem] theorem Zp6:Ms ZV 4=false:=rfl
@[go_sem] theorem Zp7:Ms ZV 5=false:=rfl
@[go_sem] theorem ZpR:Ms ZV 99=false:=rfl
end
end Go.Proofs.Ytighjmleicikhaa

/- Own text. -/
import Derived.Test.YtbpekaejmjlmfaaGreatACodeA
set_option maxRecDepth 20000
namespace Go.Proofs.YtbpekaejmjlmfaaGreat
open Go Go.Abs Go.Abs.Q
noncomputable section
abbrev JL:D:=(.agg [(.int .i64 0),(.int .i64 0),(.int .i64 0),(.int .i64 0)])
abbrev Zah:D:=(.agg [(.int .i64 0),(.int .i64 0),(.bool false),(.int .i64 0),(.int .i64 0)])
def tbl:List (Nat×Go.Abs.Fn):=[(Yd,.text QL),(Yb,.text UZ),(YJ,.text YP),(YK,.text Wb),(Y6,.text Zeu),(YL,.text Zca),(WV,.text ZbX),(U9,.text Zev),(Ut,.text ZaB),(Wj,.text Zew),(Ja,.text Zex),(Zhn,.text Zpr),(ZbS,.text Zho),(Jb,.text Zey),(WW,.text Zdf),(ZcJ,.text ZlL),(V9,.text Zcb),(Vq,.text Zdg),(Qa,.text Qc),(Jc,.text ZbF),(ZbT,.text JY),(Xf,.text Zdh),(XF,.text Vc),(Uu,.text ZfK),(ZbU,.text Zhp),(Wk,.text Yq),(ZM,.text Zhq),(Uv,.text ZfL),(JT,.text Zhr),(XU,.text Zz),(WX,.text ZaC),(Vr,.text Zdi),(WY,.text Zdj),(XG,.text Zez),(Ye,.text ZfM),(Qk,.text ZX),(VK,.text ZbY),(VL,.text ZbZ),(YM,.text Zcc),(Vs,.text Zbm),(ZR,.prim (Zec 4 32 JL)),(Xg,.text UD),(Vt,.text W8),(Yf,.text UE),(XH,.text Ws),(YS,.text ZaD),(ZF,.text Z5),(Zai,.text ZfN),(ZB,.text YQ),(Xh,.text ZaE),(Yx,.text ZaF),(Jd,.text ZeA),(Je,.text ZeB),(Y7,.text ZeC),(Jf,.text ZeD),(Zc8,.text Vd),(QW,.text Zdk),(Vu,.text Zdl),(Zaj,.text ZfO),(VM,.text Zd6),(Jg,.text ZeE),(XI,.text ZeF),(XV,.text Zdm),(Qb,.text YU),(XW,.text XZ),(Y8,.text Wt),(Zak,.text UF),(WZ,.text Zdn),(Wl,.text Jn),(XX,.text W9),(YN,.text Zcd),(Yy,.text ZQ),(JU,.text ZlM),(Qm,.text XM),(VN,.text Zhs),(Qn,.text Qy),(Zal,.text ZfP),(Wm,.text ZbG),(VR,.text XN),(Uw,.text UG),(JV,.text Zd7),(Vv,.text ZaG),(Zam,.text UH),(Vw,.text Ua),(Vx,.text ZaH),(Jh,.text Zv),(Xi,.text ZaI),(Yn,.text ZeG),(VS,.text ZfQ),(XJ,.text ZeH),(Ji,.text Wu),(XY,.text Zdo),(Ys,.text Yt),(Vy,.text Zdp),(Yo,.text ZeI),(Jj,.text ZeJ),(Jk,.text ZeK),(XK,.text ZeL),(JW,.text Zht),(ZcK,.text Zio),(Zc9,.text Zhu),(Yp,.text QK),(Ux,.text UI),(Uy,.text ZfR),(Wn,.text ZeM),(Zda,.text ZjA),(Zan,.text YV),(W0,.text Zb0),(Zao,.text ZfS),(Zdb,.text ZjB),(W1,.text ZaJ),(Xq,.text WA),(Vz,.text Zdq),(Wo,.text Wv),(Zap,.text VY),(JX,.text Zhv),(VA,.text VD),(W2,.text Zd8),(Zaq,.text Yh),(VT,.text ZfT),(Zdc,.text ZjC),(Uz,.text UJ),(Zar,.text ZfU),(Y9,.text Jo),(Va,.text ZbH),(ZbV,.text Zhw),(Zas,.text ZfV),(Yg,.text ZfW),(VU,.text ZfX),(YT,.text Zcw),(Xr,.text WB),(VC,.text Zdr),(Wp,.text ZeN),(Wa,.text Wc),(Xj,.text Yz),(Zat,.text ZfY),(Zau,.text ZfZ),(JM,.text Zf0),(ZbW,.text Zhx),(Zav,.text Zf1),(Zaw,.text UK),(Zax,.text Zf2),(ZcL,.text ZlN),(Wq,.text Ww),(UA,.text Zf3),(Wr,.text ZeO),(UB,.text Zf4),(Xy,.prim (Zqd 5 40)),(Zay,.text VZ),(YO,.text JB),(ZV,.prim (Zec 5 40 Zah)),(UC,.text Zf5),(VV,.text Zbn),(W3,.text Zds),(Jl,.text ZbI),(Zdd,.text ZjD),(Jm,.text ZeP),(VX,.text QM),(XL,.text XO),(Vb,.text Zbo),(W4,.text Zdt),(Zde,.text ZjE),(W5,.text Zdu),(Zaz,.text Zf6),(W6,.text Zdv),(W7,.text Zf7),(ZaA,.text Zf8)]
def Xs:Fns:=fun f=>lkp tbl f
def Ms:Zp:=fun f i=>(f==Qm&&i==0) || (f==ZV&&i==0) || (f==ZR&&i==0) || (f==Qn&&i==0) || (f==Qk&&i==0)
@[go_sem] theorem ms_all:(∀ i:Nat,Ms Yd i=false)∧(∀ i:Nat,Ms Yb i=false)∧(∀ i:Nat,Ms YJ i=false)∧(∀ i:Nat,Ms YK i=false)∧(∀ i:Nat,Ms Y6 i=false)∧(∀ i:Nat,Ms YL i=false)∧(∀ i:Nat,Ms WV i=false)∧(∀ i:Nat,Ms U9 i=false)∧(∀ i:Nat,Ms Ut i=false)∧(∀ i:Nat,Ms Wj i=false)∧(∀ i:Nat,Ms Ja i=false)∧(∀ i:Nat,Ms Zhn i=false)∧(∀ i:Nat,Ms ZbS i=false)∧(∀ i:Nat,Ms Jb i=false)∧(∀ i:Nat,Ms WW i=false)∧(∀ i:Nat,Ms ZcJ i=false)∧(∀ i:Nat,Ms V9 i=false)∧(∀ i:Nat,Ms Vq i=false)∧(∀ i:Nat,Ms Qa i=false)∧(∀ i:Nat,Ms Jc i=false)∧(∀ i:Nat,Ms ZbT i=false)∧(∀ i:Nat,Ms Xf i=false)∧(∀ i:Nat,Ms XF i=false)∧(∀ i:Nat,Ms Uu i=false)∧(∀ i:Nat,Ms ZbU i=false)∧(∀ i:Nat,Ms Wk i=false)∧(∀ i:Nat,Ms ZM i=false)∧(∀ i:Nat,Ms Uv i=false)∧(∀ i:Nat,Ms JT i=false)∧(∀ i:Nat,Ms XU i=false)∧(∀ i:Nat,Ms WX i=false)∧(∀ i:Nat,Ms Vr i=false)∧(∀ i:Nat,Ms WY i=false)∧(∀ i:Nat,Ms XG i=false)∧(∀ i:Nat,Ms Ye i=false)∧(∀ i:Nat,Ms VK i=false)∧(∀ i:Nat,Ms VL i=false)∧(∀ i:Nat,Ms YM i=false)∧(∀ i:Nat,Ms Vs i=false)∧(∀ i:Nat,Ms Xg i=false)∧(∀ i:Nat,Ms Vt i=false)∧(∀ i:Nat,Ms Yf i=false)∧(∀ i:Nat,Ms XH i=false)∧(∀ i:Nat,Ms YS i=false)∧(∀ i:Nat,Ms ZF i=false)∧(∀ i:Nat,Ms Zai i=false)∧(∀ i:Nat,Ms ZB i=false)∧(∀ i:Nat,Ms Xh i=false)∧(∀ i:Nat,Ms Yx i=false)∧(∀ i:Nat,Ms Jd i=false)∧(∀ i:Nat,Ms Je i=false)∧(∀ i:Nat,Ms Y7 i=false)∧(∀ i:Nat,Ms Jf i=false)∧(∀ i:Nat,Ms Zc8 i=false)∧(∀ i:Nat,Ms QW i=false)∧(∀ i:Nat,Ms Vu i=false)∧(∀ i:Nat,Ms Zaj i=false)∧(∀ i:Nat,Ms VM i=false)∧(∀ i:Nat,Ms Jg i=false)∧(∀ i:Nat,Ms XI i=false)∧(∀ i:Nat,Ms XV i=false)∧(∀ i:Nat,Ms Qb i=false)∧(∀ i:Nat,Ms XW i=false)∧(∀ i:Nat,Ms Y8 i=false)∧(∀ i:Nat,Ms Zak i=false)∧(∀ i:Nat,Ms WZ i=false)∧(∀ i:Nat,Ms Wl i=false)∧(∀ i:Nat,Ms XX i=false)∧(∀ i:Nat,Ms YN i=false)∧(∀ i:Nat,Ms Yy i=false)∧(∀ i:Nat,Ms JU i=false)∧(∀ i:Nat,Ms VN i=false)∧(∀ i:Nat,Ms Zal i=false)∧(∀ i:Nat,Ms Wm i=false)∧(∀ i:Nat,Ms VR i=false)∧(∀ i:Nat,Ms Uw i=false)∧(∀ i:Nat,Ms JV i=false)∧(∀ i:Nat,Ms Vv i=false)∧(∀ i:Nat,Ms Zam i=false)∧(∀ i:Nat,Ms Vw i=false)∧(∀ i:Nat,Ms Vx i=false)∧(∀ i:Nat,Ms Jh i=false)∧(∀ i:Nat,Ms Xi i=false)∧(∀ i:Nat,Ms Yn i=false)∧(∀ i:Nat,Ms VS i=false)∧(∀ i:Nat,Ms XJ i=false)∧(∀ i:Nat,Ms Ji i=false)∧(∀ i:Nat,Ms XY i=false)∧(∀ i:Nat,Ms Ys i=false)∧(∀ i:Nat,Ms Vy i=false)∧(∀ i:Nat,Ms Yo i=false)∧(∀ i:Nat,Ms Jj i=false)∧(∀ i:Nat,Ms Jk i=false)∧(∀ i:Nat,Ms XK i=false)∧(∀ i:Nat,Ms JW i=false)∧(∀ i:Nat,Ms ZcK i=false)∧(∀ i:Nat,Ms Zc9 i=false)∧(∀ i:Nat,Ms Yp i=false)∧(∀ i:Nat,Ms Ux i=false)∧(∀ i:Nat,Ms Uy i=false)∧(∀ i:Nat,Ms Wn i=false)∧(∀ i:Nat,Ms Zda i=false)∧(∀ i:Nat,Ms Zan i=false)∧(∀ i:Nat,Ms W0 i=false)∧(∀ i:Nat,Ms Zao i=false)∧(∀ i:Nat,Ms Zdb i=false)∧(∀ i:Nat,Ms W1 i=false)∧(∀ i:Nat,Ms Xq i=false)∧(∀ i:Nat,Ms Vz i=false)∧(∀ i:Nat,Ms Wo i=false)∧(∀ i:Nat,Ms Zap i=false)∧(∀ i:Nat,Ms JX i=false)∧(∀ i:Nat,Ms VA i=false)∧(∀ i:Nat,Ms W2 i=false)∧(∀ i:Nat,Ms Zaq i=false)∧(∀ i:Nat,Ms VT i=false)∧(∀ i:Nat,Ms Zdc i=false)∧(∀ i:Nat,Ms Uz i=false)∧(∀ i:Nat,Ms Zar i=false)∧(∀ i:Nat,Ms Y9 i=false)∧(∀ i:Nat,Ms Va i=false)∧(∀ i:Nat,Ms ZbV i=false)∧(∀ i:Nat,Ms Zas i=false)∧(∀ i:Nat,Ms Yg i=false)∧(∀ i:Nat,Ms VU i=false)∧(∀ i:Nat,Ms YT i=false)∧(∀ i:Nat,Ms Xr i=false)∧(∀ i:Nat,Ms VC i=false)∧(∀ i:Nat,Ms Wp i=false)∧(∀ i:Nat,Ms Wa i=false)∧(∀ i:Nat,Ms Xj i=false)∧(∀ i:Nat,Ms Zat i=false)∧(∀ i:Nat,Ms Zau i=false)∧(∀ i:Nat,Ms JM i=false)∧(∀ i:Nat,Ms ZbW i=false)∧(∀ i:Nat,Ms Zav i=false)∧(∀ i:Nat,Ms Zaw i=false)∧(∀ i:Nat,Ms Zax i=false)∧(∀ i:Nat,Ms ZcL i=false)∧(∀ i:Nat,Ms Wq i=false)∧(∀ i:Nat,Ms UA i=false)∧(∀ i:Nat,Ms Wr i=false)∧(∀ i:Nat,Ms UB i=false)∧(∀ i:Nat,Ms Xy i=false)∧(∀ i:Nat,Ms Zay i=false)∧(∀ i:Nat,Ms YO i=false)∧(∀ i:Nat,Ms UC i=false)∧(∀ i:Nat,Ms VV i=false)∧(∀ i:Nat,Ms W3 i=false)∧(∀ i:Nat,Ms Jl i=false)∧(∀ i:Nat,Ms Zdd i=false)∧(∀ i:Nat,Ms Jm i=false)∧(∀ i:Nat,Ms VX i=false)∧(∀ i:Nat,Ms XL i=false)∧(∀ i:Nat,Ms Vb i=false)∧(∀ i:Nat,Ms W4 i=false)∧(∀ i:Nat,Ms Zde i=false)∧(∀ i:Nat,Ms W5 i=false)∧(∀ i:Nat,Ms Zaz i=false)∧(∀ i:Nat,Ms W6 i=false)∧(∀ i:Nat,Ms W7 i=false)∧(∀ i:Nat,Ms ZaA i=false):=⟨fun _=>rfl,fun _=>rfl,fun _=>rfl,fun _=>rfl,fun _=>rfl,fun _=>rfl,fun _=>rfl,fun _=>rfl,fun _=>rfl,fun _=>rfl,fun _=>rfl,fun _=>rfl,fun _=>rfl,fun _=>rfl,fun _=>rfl,fun _=>rfl,fun _=>rfl,fun _=>rfl,fun _=>rfl,fun _=>rfl,fun _=>rfl,fun _=>rfl,fun _=>rfl,fun _=>rfl,fun _=>rfl,fun _=>rfl,fun _=>rfl,fun _=>rfl,fun _=>rfl,fun _=>rfl,fun _=>rfl,fun _=>rfl,fun _=>rfl,fun _=>rfl,fun _=>rfl,fun _=>rfl,fun _=>rfl,fun _=>rfl,fun _=>rfl,fun _=>rfl,fun _=>rfl,fun _=>rfl,fun _=>rfl,fun _=>rfl,fun _=>rfl,fun _=>rfl,fun _=>rfl,fun _=>rfl,fun _=>rfl,fun _=>rfl,fun _=>rfl,fun _=>rfl,fun _=>rfl,fun _=>rfl,fun _=>rfl,fun _=>rfl,fun _=>rfl,fun _=>rfl,fun _=>rfl,fun _=>rfl,fun _=>rfl,fun _=>rfl,fun _=>rfl,fun _=>rfl,fun _=>rfl,fun _=>rfl,fun _=>rfl,fun _=>rfl,fun _=>rfl,fun _=>rfl,fun _=>rfl,fun _=>rfl,fun _=>rfl,fun _=>rfl,fun _=>rfl,fun _=>rfl,fun _=>rfl,fun _=>rfl,fun _=>rfl,fun _=>rfl,fun _=>rfl,fun _=>rfl,fun _=>rfl,fun _=>rfl,fun _=>rfl,fun _=>rfl,fun _=>rfl,fun _=>rfl,fun _=>rfl,fun _=>rfl,fun _=>rfl,fun _=>rfl,fun _=>rfl,fun _=>rfl,fun _=>rfl,fun _=>rfl,fun _=>rfl,fun _=>rfl,fun _=>rfl,fun _=>rfl,fun _=>rfl,fun _=>rfl,fun _=>rfl,fun _=>rfl,fun _=>rfl,fun _=>rfl,fun _=>rfl,fun _=>rfl,fun _=>rfl,fun _=>rfl,fun _=>rfl,fun _=>rfl,fun _=>rfl,fun _=>rfl,fun _=>rfl,fun _=>rfl,fun _=>rfl,fun _=>rfl,fun _=>rfl,fun _=>rfl,fun _=>rfl,fun _=>rfl,fun _=>rfl,fun _=>rfl,fun _=>rfl,fun _=>rfl,fun _=>rfl,fun _=>rfl,fun _=>rfl,fun _=>rfl,fun _=>rfl,fun _=>rfl,fun _=>rfl,fun _=>rfl,fun _=>rfl,fun _=>rfl,fun _=>rfl,fun _=>rfl,fun _=>rfl,fun _=>rfl,fun _=>rfl,fun _=>rfl,fun _=>rfl,fun _=>rfl,fun _=>rfl,fun _=>rfl,fun _=>rfl,fun _=>rfl,fun _=>rfl,fun _=>rfl,fun _=>rfl,fun _=>rfl,fun _=>rfl,fun _=>rfl,fun _=>rfl,fun _=>rfl,fun _=>rfl,fun _=>rfl,fun _=>rfl,fun _=>rfl,fun _=>rfl,fun _=>rfl⟩
@[go_sem] theorem ZCE:Ms Qk 0=true:=rfl
@[go_sem] theorem ZCF:Ms Qk 1=false:=rfl
@[go_sem] theorem ZCG:Ms Qk 2=false:=rfl
@[go_sem] theorem ZCH:Ms Qk 3=false:=rfl
@[go_sem] theorem ZCI:Ms Qk 4=false:=rfl
@[go_sem] theorem ZCJ:Ms Qk 5=false:=rfl
@[go_sem] theorem ZCb:Ms Qk 99=false:=rfl
theorem Zjz:Xs ZR=some (.prim (Zec 4 32 JL)):=rfl
@[go_sem] theorem Zxf:Ms ZR 0=true:=rfl
@[go_sem] theorem Zxg:Ms ZR 1=false:=rfl
@[go_sem] theorem Zxh:Ms ZR 2=false:=rfl
@[go_sem] theorem Zxi:Ms ZR 3=false:=rfl
@[go_sem] theorem Zxj:Ms ZR 4=false:=rfl
@[go_sem] theorem Zxk:Ms ZR 5=false:=rfl
@[go_sem] theorem Zv0:Ms ZR 99=false:=rfl
@[go_sem] theorem ZCc:Ms Qm 0=true:=rfl
@[go_sem] theorem ZCd:Ms Qm 1=false:=rfl
@[go_sem] theorem ZCe:Ms Qm 2=false:=rfl
@[go_sem] theorem ZCf:Ms Qm 3=false:=rfl
@[go_sem] theorem ZCg:Ms Qm 4=false:=rfl
@[go_sem] theorem ZCh:Ms Qm 5=false:=rfl
@[go_sem] theorem ZBh:Ms Qm 99=false:=rfl
@[go_sem] theorem ZCi:Ms Qn 0=true:=rfl
@[go_sem] theorem ZCj:Ms Qn 1=false:=rfl
@[go_sem] theorem ZCk:Ms Qn 2=false:=rfl
@[go_sem] theorem ZCl:Ms Qn 3=false:=rfl
@[go_sem] theorem ZCm:Ms Qn 4=false:=rfl
@[go_sem] theorem ZCn:Ms Qn 5=false:=rfl
@[go_sem] theorem ZBi:Ms Qn 99=false:=rfl
theorem ZlK:Xs Xy=some (.prim (Zqd 5 40)):=rfl
theorem Zkw:Xs ZV=some (.prim (Zec 5 40 Zah)):=rfl
@[go_sem] theorem ZxF:Ms ZV 0=true:=rfl
@[go_sem] theorem ZxG:Ms ZV 1=false:=rfl
@[go_sem] theorem ZxH:Ms ZV 2=false:=rfl
@[go_sem] theorem ZxI:Ms ZV 3=false:=rfl
@[go_sem] theorem ZxJ:Ms ZV 4=false:=rfl
@[go_sem] theorem ZxK:Ms ZV 5=false:=rfl
@[go_sem] theorem Zxl:Ms ZV 99=false:=rfl
end
end Go.Proofs.YtbpekaejmjlmfaaGreat

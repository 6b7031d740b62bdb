/- The functions of this seat, compiled for the abstract semantics. Printed by a program of the prover's. -/
import Derived.Test.YtpobhkoombldlaaGreatACodeA
set_option maxRecDepth 20000
namespace Go.Proofs.YtpobhkoombldlaaGreat
open Go Go.Abs Go.Abs.Q
noncomputable section
abbrev Zai : D := (.agg [(.int .i64 0), (.int .i64 0), (.bool false), (.int .i64 0), (.int .i64 0)])
def tbl : List (Nat × Go.Abs.Fn) := [(VE, .text Qi), (Xp, .text ZR), (XN, .text ZA), (QG, .text Qb), (ZY, .text Zv), (X7, .text Xx), (QK, .text Jd), (Xf, .text X1), (V9, .text Wj), (Yz, .text Zfw), (Vl, .text Je), (Vm, .text Jf), (JZ, .text Vb), (Ys, .text X2), (Y3, .text Zal), (Uz, .text QN), (WD, .text WL), (J0, .text V2), (Vn, .text Zu), (Zx, .text QA), (Qh, .text Ud), (UA, .text Zam), (ZD, .text Zs), (Vo, .text Xj), (Xq, .text Zk), (VF, .text VK), (YD, .text Ue), (Xr, .text YM), (X8, .text YN), (XY, .text Jg), (J1, .text ZbH), (Yt, .text Jh), (Xg, .text Ji), (W7, .text Vc), (W8, .text ZbI), (Xt, .text VL), (XZ, .text Q1), (WE, .text Jj), (Wa, .text UT), (Y4, .text Zan), (ZO, .text ZbJ), (UB, .text Zao), (XS, .prim (ZoH 5 40)), (V0, .text Uf), (UC, .text Zap), (Yu, .text Vt), (J2, .text ZbK), (UD, .text Zaq), (Wb, .text Xy), (W9, .text Ug), (YE, .text YO), (UE, .text Xz), (YF, .text XA), (YG, .text YP), (QH, .text Uh), (YH, .text Ui), (UF, .text Zar), (Xu, .text Z9), (Yv, .text Xk), (UG, .text XB), (VG, .text Uj), (Yw, .text Jk), (Y5, .text Zas), (Xb, .text Ya), (Yj, .text Wu), (WF, .text Jl), (Xh, .text Jm), (Xv, .text Uk), (Qq, .text Yb), (Qv, .text ZZ), (WG, .text WM), (Y6, .text Zat), (WH, .text Xl), (UH, .text Zau), (Y7, .text Z0), (Wc, .text Wk), (Y8, .text Ul), (UI, .text QO), (Ua, .text ZbL), (YI, .text Yc), (UJ, .text Qa), (Za9, .text Zde), (Wd, .text XC), (UK, .text Zav), (YJ, .text Um), (X0, .text Jn), (WI, .text Jo), (WJ, .text Jp), (We, .text Vd), (Xi, .text Jq), (Wf, .text Zaw), (Vp, .text Jr), (Zba, .text Zdf), (UM, .text Qw), (V1, .text Ve), (UN, .text Zax), (Zbb, .text Zdg), (VH, .text VM), (QX, .text XO), (YK, .text Un), (Ub, .text ZbM), (ZcV, .text Zfx), (Zdd, .text Zfy), (Vq, .text Vu), (ZcW, .text Zfz), (Y9, .text Wl), (X9, .text Zo), (Yk, .text Yl), (Z3, .prim (Zko 5 40 Zai)), (Wg, .text Zay), (UO, .text Zaz), (UP, .text ZaA), (UQ, .text ZaB), (UR, .text XD), (US, .text ZaC), (Zbc, .text ZfA), (Vr, .text Q3), (Wh, .text ZaD), (Vs, .text Js), (Wi, .text ZaE), (Uc, .text JP), (J3, .text ZbN), (VI, .text Uo), (Zbd, .text Zdh), (Zbe, .text Zdi), (WK, .text Jt), (Va, .text ZL), (Xw, .text Z8), (YL, .text YQ), (VJ, .text Up)]
def Xs : Fns := fun f => lkp tbl f
def Ms : Zq := fun f i => (f == Qv && i == 0) || (f == Z3 && i == 0)
theorem Ux : Xs VE = some (.text Qi) := rfl
@[go_sem] theorem ZvS (i : Nat) : Ms VE i = false := rfl
theorem Yq : Xs Xp = some (.text ZR) := rfl
@[go_sem] theorem Zre (i : Nat) : Ms Xp i = false := rfl
theorem QW : Xs XN = some (.text ZA) := rfl
@[go_sem] theorem Zsj (i : Nat) : Ms XN i = false := rfl
theorem Zjq : Xs QG = some (.text Qb) := rfl
@[go_sem] theorem Zt4 (i : Nat) : Ms QG i = false := rfl
theorem Qy : Xs ZY = some (.text Zv) := rfl
@[go_sem] theorem Zw1 (i : Nat) : Ms ZY i = false := rfl
theorem Zdb : Xs X7 = some (.text Xx) := rfl
@[go_sem] theorem Zw2 (i : Nat) : Ms X7 i = false := rfl
theorem Zpt : Xs QK = some (.text Jd) := rfl
@[go_sem] theorem Zyf (i : Nat) : Ms QK i = false := rfl
theorem Zpu : Xs Xf = some (.text X1) := rfl
@[go_sem] theorem Zyg (i : Nat) : Ms Xf i = false := rfl
theorem Zkf : Xs V9 = some (.text Wj) := rfl
@[go_sem] theorem ZyT (i : Nat) : Ms V9 i = false := rfl
theorem ZvT : Xs Yz = some (.text Zfw) := rfl
@[go_sem] theorem m_l_count (i : Nat) : Ms Yz i = false := rfl
theorem Zpv : Xs Vl = some (.text Je) := rfl
@[go_sem] theorem Zyh (i : Nat) : Ms Vl i = false := rfl
theorem Zpw : Xs Vm = some (.text Jf) := rfl
@[go_sem] theorem Zyi (i : Nat) : Ms Vm i = false := rfl
theorem Zhy : Xs JZ = some (.text Vb) := rfl
@[go_sem] theorem ZBd (i : Nat) : Ms JZ i = false := rfl
theorem Zey : Xs Ys = some (.text X2) := rfl
@[go_sem] theorem Zyj (i : Nat) : Ms Ys i = false := rfl
theorem Zrf : Xs Y3 = some (.text Zal) := rfl
@[go_sem] theorem ZyU (i : Nat) : Ms Y3 i = false := rfl
theorem Zaj : Xs Uz = some (.text QN) := rfl
@[go_sem] theorem ZyV (i : Nat) : Ms Uz i = false := rfl
theorem Zpx : Xs WD = some (.text WL) := rfl
@[go_sem] theorem Zyk (i : Nat) : Ms WD i = false := rfl
theorem ZsH : Xs J0 = some (.text V2) := rfl
@[go_sem] theorem ZBe (i : Nat) : Ms J0 i = false := rfl
theorem Zpy : Xs Vn = some (.text Zu) := rfl
@[go_sem] theorem Zyl (i : Nat) : Ms Vn i = false := rfl
theorem JI : Xs Zx = some (.text QA) := rfl
@[go_sem] theorem ZwQ (i : Nat) : Ms Zx i = false := rfl
theorem ZnD : Xs Qh = some (.text Ud) := rfl
@[go_sem] theorem Zw3 (i : Nat) : Ms Qh i = false := rfl
theorem Zrg : Xs UA = some (.text Zam) := rfl
@[go_sem] theorem ZyW (i : Nat) : Ms UA i = false := rfl
theorem Qg : Xs ZD = some (.text Zs) := rfl
@[go_sem] theorem Zw4 (i : Nat) : Ms ZD i = false := rfl
theorem Zpz : Xs Vo = some (.text Xj) := rfl
@[go_sem] theorem Zym (i : Nat) : Ms Vo i = false := rfl
theorem ZQ : Xs Xq = some (.text Zk) := rfl
@[go_sem] theorem Zw5 (i : Nat) : Ms Xq i = false := rfl
theorem ZnE : Xs VF = some (.text VK) := rfl
@[go_sem] theorem Zw6 (i : Nat) : Ms VF i = false := rfl
theorem ZnF : Xs YD = some (.text Ue) := rfl
@[go_sem] theorem Zw7 (i : Nat) : Ms YD i = false := rfl
theorem Zhz : Xs Xr = some (.text YM) := rfl
@[go_sem] theorem Zw8 (i : Nat) : Ms Xr i = false := rfl
theorem ZhA : Xs X8 = some (.text YN) := rfl
@[go_sem] theorem Zw9 (i : Nat) : Ms X8 i = false := rfl
theorem ZpA : Xs XY = some (.text Jg) := rfl
@[go_sem] theorem Zyn (i : Nat) : Ms XY i = false := rfl
theorem ZsI : Xs J1 = some (.text ZbH) := rfl
@[go_sem] theorem ZBf (i : Nat) : Ms J1 i = false := rfl
theorem ZpB : Xs Yt = some (.text Jh) := rfl
@[go_sem] theorem Zyo (i : Nat) : Ms Yt i = false := rfl
theorem ZpC : Xs Xg = some (.text Ji) := rfl
@[go_sem] theorem Zyp (i : Nat) : Ms Xg i = false := rfl
theorem ZhB : Xs W7 = some (.text Vc) := rfl
@[go_sem] theorem ZBg (i : Nat) : Ms W7 i = false := rfl
theorem ZsJ : Xs W8 = some (.text ZbI) := rfl
@[go_sem] theorem ZBh (i : Nat) : Ms W8 i = false := rfl
theorem ZnG : Xs Xt = some (.text VL) := rfl
@[go_sem] theorem Zxa (i : Nat) : Ms Xt i = false := rfl
theorem Zbz : Xs XZ = some (.text Q1) := rfl
@[go_sem] theorem Zyq (i : Nat) : Ms XZ i = false := rfl
theorem ZpD : Xs WE = some (.text Jj) := rfl
@[go_sem] theorem Zyr (i : Nat) : Ms WE i = false := rfl
theorem Zrh : Xs Wa = some (.text UT) := rfl
@[go_sem] theorem ZyX (i : Nat) : Ms Wa i = false := rfl
theorem Zri : Xs Y4 = some (.text Zan) := rfl
@[go_sem] theorem ZyY (i : Nat) : Ms Y4 i = false := rfl
theorem ZsK : Xs ZO = some (.text ZbJ) := rfl
@[go_sem] theorem ZBi (i : Nat) : Ms ZO i = false := rfl
theorem Zrj : Xs UB = some (.text Zao) := rfl
@[go_sem] theorem ZyZ (i : Nat) : Ms UB i = false := rfl
theorem Zlh : Xs XS = some (.prim (ZoH 5 40)) := rfl
@[go_sem] theorem ZvU (i : Nat) : Ms XS i = false := rfl
theorem ZlW : Xs V0 = some (.text Uf) := rfl
@[go_sem] theorem ZBj (i : Nat) : Ms V0 i = false := rfl
theorem Zrk : Xs UC = some (.text Zap) := rfl
@[go_sem] theorem Zy0 (i : Nat) : Ms UC i = false := rfl
theorem Zi7 : Xs Yu = some (.text Vt) := rfl
@[go_sem] theorem Zys (i : Nat) : Ms Yu i = false := rfl
theorem ZsL : Xs J2 = some (.text ZbK) := rfl
@[go_sem] theorem ZBk (i : Nat) : Ms J2 i = false := rfl
theorem Zrl : Xs UD = some (.text Zaq) := rfl
@[go_sem] theorem Zy1 (i : Nat) : Ms UD i = false := rfl
theorem ZcD : Xs Wb = some (.text Xy) := rfl
@[go_sem] theorem Zy2 (i : Nat) : Ms Wb i = false := rfl
theorem ZlX : Xs W9 = some (.text Ug) := rfl
@[go_sem] theorem ZBl (i : Nat) : Ms W9 i = false := rfl
theorem ZhC : Xs YE = some (.text YO) := rfl
@[go_sem] theorem Zxb (i : Nat) : Ms YE i = false := rfl
theorem ZcE : Xs UE = some (.text Xz) := rfl
@[go_sem] theorem Zy3 (i : Nat) : Ms UE i = false := rfl
theorem Zdc : Xs YF = some (.text XA) := rfl
@[go_sem] theorem Zxc (i : Nat) : Ms YF i = false := rfl
theorem ZhD : Xs YG = some (.text YP) := rfl
@[go_sem] theorem Zxd (i : Nat) : Ms YG i = false := rfl
theorem ZnH : Xs QH = some (.text Uh) := rfl
@[go_sem] theorem Zxe (i : Nat) : Ms QH i = false := rfl
theorem ZnI : Xs YH = some (.text Ui) := rfl
@[go_sem] theorem Zxf (i : Nat) : Ms YH i = false := rfl
theorem Zrm : Xs UF = some (.text Zar) := rfl
@[go_sem] theorem Zy4 (i : Nat) : Ms UF i = false := rfl
theorem W6 : Xs Xu = some (.text Z9) := rfl
@[go_sem] theorem Zxg (i : Nat) : Ms Xu i = false := rfl
theorem Zez : Xs Yv = some (.text Xk) := rfl
@[go_sem] theorem Zyt (i : Nat) : Ms Yv i = false := rfl
theorem ZcF : Xs UG = some (.text XB) := rfl
@[go_sem] theorem Zy5 (i : Nat) : Ms UG i = false := rfl
theorem ZnJ : Xs VG = some (.text Uj) := rfl
@[go_sem] theorem Zxh (i : Nat) : Ms VG i = false := rfl
theorem ZpE : Xs Yw = some (.text Jk) := rfl
@[go_sem] theorem Zyu (i : Nat) : Ms Yw i = false := rfl
theorem Zrn : Xs Y5 = some (.text Zas) := rfl
@[go_sem] theorem Zy6 (i : Nat) : Ms Y5 i = false := rfl
theorem ZhE : Xs Xb = some (.text Ya) := rfl
@[go_sem] theorem ZsM (i : Nat) : Ms Xb i = false := rfl
theorem ZmS : Xs Yj = some (.text Wu) := rfl
@[go_sem] theorem ZwR (i : Nat) : Ms Yj i = false := rfl
theorem ZpF : Xs WF = some (.text Jl) := rfl
@[go_sem] theorem Zyv (i : Nat) : Ms WF i = false := rfl
theorem ZpG : Xs Xh = some (.text Jm) := rfl
@[go_sem] theorem Zyw (i : Nat) : Ms Xh i = false := rfl
theorem ZnK : Xs Xv = some (.text Uk) := rfl
@[go_sem] theorem Zxi (i : Nat) : Ms Xv i = false := rfl
theorem Zef : Xs Qq = some (.text Yb) := rfl
@[go_sem] theorem ZBm (i : Nat) : Ms Qq i = false := rfl
theorem Y1 : Xs Qv = some (.text ZZ) := rfl
@[go_sem] theorem Zyx : Ms Qv 0 = true := rfl
@[go_sem] theorem Zyy : Ms Qv 1 = false := rfl
@[go_sem] theorem Zyz : Ms Qv 2 = false := rfl
@[go_sem] theorem ZyA : Ms Qv 3 = false := rfl
@[go_sem] theorem ZyB : Ms Qv 4 = false := rfl
@[go_sem] theorem ZyC : Ms Qv 5 = false := rfl
theorem ZpH : Xs WG = some (.text WM) := rfl
@[go_sem] theorem ZyD (i : Nat) : Ms WG i = false := rfl
theorem Zro : Xs Y6 = some (.text Zat) := rfl
@[go_sem] theorem Zy7 (i : Nat) : Ms Y6 i = false := rfl
theorem ZeA : Xs WH = some (.text Xl) := rfl
@[go_sem] theorem ZyE (i : Nat) : Ms WH i = false := rfl
theorem Zrp : Xs UH = some (.text Zau) := rfl
@[go_sem] theorem Zy8 (i : Nat) : Ms UH i = false := rfl
theorem Y2 : Xs Y7 = some (.text Z0) := rfl
@[go_sem] theorem Zy9 (i : Nat) : Ms Y7 i = false := rfl
theorem ZnL : Xs Wc = some (.text Wk) := rfl
@[go_sem] theorem ZBO (i : Nat) : Ms Wc i = false := rfl
theorem ZlY : Xs Y8 = some (.text Ul) := rfl
@[go_sem] theorem ZBn (i : Nat) : Ms Y8 i = false := rfl
theorem Zak : Xs UI = some (.text QO) := rfl
@[go_sem] theorem Zza (i : Nat) : Ms UI i = false := rfl
theorem ZsN : Xs Ua = some (.text ZbL) := rfl
@[go_sem] theorem ZBo (i : Nat) : Ms Ua i = false := rfl
theorem ZnM : Xs YI = some (.text Yc) := rfl
@[go_sem] theorem Zxj (i : Nat) : Ms YI i = false := rfl
theorem V7 : Xs UJ = some (.text Qa) := rfl
@[go_sem] theorem Zzb (i : Nat) : Ms UJ i = false := rfl
theorem Zt5 : Xs Za9 = some (.text Zde) := rfl
@[go_sem] theorem ZBP (i : Nat) : Ms Za9 i = false := rfl
theorem ZcG : Xs Wd = some (.text XC) := rfl
@[go_sem] theorem Zzc (i : Nat) : Ms Wd i = false := rfl
theorem Zrq : Xs UK = some (.text Zav) := rfl
@[go_sem] theorem Zzd (i : Nat) : Ms UK i = false := rfl
theorem ZnN : Xs YJ = some (.text Um) := rfl
@[go_sem] theorem Zxk (i : Nat) : Ms YJ i = false := rfl
theorem ZpI : Xs X0 = some (.text Jn) := rfl
@[go_sem] theorem ZyF (i : Nat) : Ms X0 i = false := rfl
theorem ZpJ : Xs WI = some (.text Jo) := rfl
@[go_sem] theorem ZyG (i : Nat) : Ms WI i = false := rfl
theorem ZpK : Xs WJ = some (.text Jp) := rfl
@[go_sem] theorem ZyH (i : Nat) : Ms WJ i = false := rfl
theorem Zrr : Xs We = some (.text Vd) := rfl
@[go_sem] theorem Zze (i : Nat) : Ms We i = false := rfl
theorem ZpL : Xs Xi = some (.text Jq) := rfl
@[go_sem] theorem ZyI (i : Nat) : Ms Xi i = false := rfl
theorem Zrs : Xs Wf = some (.text Zaw) := rfl
@[go_sem] theorem Zzf (i : Nat) : Ms Wf i = false := rfl
theorem ZpM : Xs Vp = some (.text Jr) := rfl
@[go_sem] theorem ZyJ (i : Nat) : Ms Vp i = false := rfl
theorem Zt6 : Xs Zba = some (.text Zdf) := rfl
@[go_sem] theorem ZBQ (i : Nat) : Ms Zba i = false := rfl
theorem Uy : Xs UM = some (.text Qw) := rfl
@[go_sem] theorem Zzg (i : Nat) : Ms UM i = false := rfl
theorem ZhF : Xs V1 = some (.text Ve) := rfl
@[go_sem] theorem ZBp (i : Nat) : Ms V1 i = false := rfl
theorem Zrt : Xs UN = some (.text Zax) := rfl
@[go_sem] theorem Zzh (i : Nat) : Ms UN i = false := rfl
theorem Zt7 : Xs Zbb = some (.text Zdg) := rfl
@[go_sem] theorem ZBR (i : Nat) : Ms Zbb i = false := rfl
theorem ZnO : Xs VH = some (.text VM) := rfl
@[go_sem] theorem Zxl (i : Nat) : Ms VH i = false := rfl
theorem Zhb : Xs QX = some (.text XO) := rfl
@[go_sem] theorem Zsk (i : Nat) : Ms QX i = false := rfl
theorem ZnP : Xs YK = some (.text Un) := rfl
@[go_sem] theorem Zxm (i : Nat) : Ms YK i = false := rfl
theorem ZsO : Xs Ub = some (.text ZbM) := rfl
@[go_sem] theorem ZBq (i : Nat) : Ms Ub i = false := rfl
theorem ZvV : Xs ZcV = some (.text Zfx) := rfl
@[go_sem] theorem m_s_edges (i : Nat) : Ms ZcV i = false := rfl
theorem Zxn : Xs Zdd = some (.text Zfy) := rfl
@[go_sem] theorem m_s_part (i : Nat) : Ms Zdd i = false := rfl
theorem Zi8 : Xs Vq = some (.text Vu) := rfl
@[go_sem] theorem ZyK (i : Nat) : Ms Vq i = false := rfl
theorem ZvW : Xs ZcW = some (.text Zfz) := rfl
@[go_sem] theorem m_i_isCut (i : Nat) : Ms ZcW i = false := rfl
theorem Zkg : Xs Y9 = some (.text Wl) := rfl
@[go_sem] theorem Zzi (i : Nat) : Ms Y9 i = false := rfl
theorem Qz : Xs X9 = some (.text Zo) := rfl
@[go_sem] theorem Zxo (i : Nat) : Ms X9 i = false := rfl
theorem Zg6 : Xs Yk = some (.text Yl) := rfl
@[go_sem] theorem ZwS (i : Nat) : Ms Yk i = false := rfl
theorem Zkh : Xs Z3 = some (.prim (Zko 5 40 Zai)) := rfl
@[go_sem] theorem Zt8 : Ms Z3 0 = true := rfl
@[go_sem] theorem Zt9 : Ms Z3 1 = false := rfl
@[go_sem] theorem Zua : Ms Z3 2 = false := rfl
@[go_sem] theorem Zub : Ms Z3 3 = false := rfl
@[go_sem] theorem Zuc : Ms Z3 4 = false := rfl
@[go_sem] theorem Zud : Ms Z3 5 = false := rfl
theorem Zru : Xs Wg = some (.text Zay) := rfl
@[go_sem] theorem Zzj (i : Nat) : Ms Wg i = false := rfl
theorem Zrv : Xs UO = some (.text Zaz) := rfl
@[go_sem] theorem Zzk (i : Nat) : Ms UO i = false := rfl
theorem Zrw : Xs UP = some (.text ZaA) := rfl
@[go_sem] theorem Zzl (i : Nat) : Ms UP i = false := rfl
theorem Zrx : Xs UQ = some (.text ZaB) := rfl
@[go_sem] theorem Zzm (i : Nat) : Ms UQ i = false := rfl
theorem ZcH : Xs UR = some (.text XD) := rfl
@[go_sem] theorem Zzn (i : Nat) : Ms UR i = false := rfl
theorem Zry : Xs US = some (.text ZaC) := rfl
@[go_sem] theorem Zzo (i : Nat) : Ms US i = false := rfl
theorem ZvX : Xs Zbc = some (.text ZfA) := rfl
@[go_sem] theorem m_s_isCut (i : Nat) : Ms Zbc i = false := rfl
theorem ZbA : Xs Vr = some (.text Q3) := rfl
@[go_sem] theorem ZyL (i : Nat) : Ms Vr i = false := rfl
theorem Zrz : Xs Wh = some (.text ZaD) := rfl
@[go_sem] theorem Zzp (i : Nat) : Ms Wh i = false := rfl
theorem ZpN : Xs Vs = some (.text Js) := rfl
@[go_sem] theorem ZyM (i : Nat) : Ms Vs i = false := rfl
theorem ZrA : Xs Wi = some (.text ZaE) := rfl
@[go_sem] theorem Zzq (i : Nat) : Ms Wi i = false := rfl
theorem ZnQ : Xs Uc = some (.text JP) := rfl
@[go_sem] theorem ZBS (i : Nat) : Ms Uc i = false := rfl
theorem ZsP : Xs J3 = some (.text ZbN) := rfl
@[go_sem] theorem ZBr (i : Nat) : Ms J3 i = false := rfl
theorem ZnR : Xs VI = some (.text Uo) := rfl
@[go_sem] theorem Zxp (i : Nat) : Ms VI i = false := rfl
theorem Zue : Xs Zbd = some (.text Zdh) := rfl
@[go_sem] theorem ZBT (i : Nat) : Ms Zbd i = false := rfl
theorem Zuf : Xs Zbe = some (.text Zdi) := rfl
@[go_sem] theorem ZBU (i : Nat) : Ms Zbe i = false := rfl
theorem ZpO : Xs WK = some (.text Jt) := rfl
@[go_sem] theorem ZyN (i : Nat) : Ms WK i = false := rfl
theorem Xo : Xs Va = some (.text ZL) := rfl
@[go_sem] theorem Zzr (i : Nat) : Ms Va i = false := rfl
theorem V8 : Xs Xw = some (.text Z8) := rfl
@[go_sem] theorem Zzs (i : Nat) : Ms Xw i = false := rfl
theorem Zgd : Xs YL = some (.text YQ) := rfl
@[go_sem] theorem ZBV (i : Nat) : Ms YL i = false := rfl
theorem ZnS : Xs VJ = some (.text Up) := rfl
@[go_sem] theorem Zxq (i : Nat) : Ms VJ i = false := rfl
end
end Go.Proofs.YtpobhkoombldlaaGreat

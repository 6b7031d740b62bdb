/- The functions of this seat, compiled for the abstract semantics. Printed by a program of the prover's. -/
import Derived.Test.YtbodfpboklcgoaaBCodeA
namespace Go.Proofs.Ytbodfpboklcgoaa
open Go Go.Abs

@[reducible] noncomputable def c_i_findLabel_1_2 : CCode := .seq c_i_findLabel_1_1 .ret
@[reducible] noncomputable def c_i_findLabel_1_3 : CCode := .seq c_i_findLabel_1_0 c_i_findLabel_1_2
noncomputable def f_i_findLabel_1 : CFun := ⟨8, [.tmp 3], c_i_findLabel_1_3⟩
@[reducible] noncomputable def c_s_grow_0 : CCode := .region 1 none [⟨some 10, none, .alloc [none, none, none, none, (some 5)] [(.d (.int .i64 0)), (.d (.int .i64 0)), (.d (.int .i64 0)), (.d (.bool false)), .nil], false⟩]
@[reducible] noncomputable def c_s_grow_1 : CCode := .keep [11, 10, 4, 3, 2, 1, 0] (.region 3 none [⟨some 21, none, .move (.t 0), false⟩, ⟨some 22, none, .call (.f n_s_reader_pick) [(.t 21), (.i 8)], true⟩, ⟨some 11, none, .assign none (.t 22), false⟩])
@[reducible] noncomputable def c_s_grow_2 : CCode := .keep [40, 11, 10, 4, 3, 2, 1, 0] (.region 18 none [⟨some 23, none, .move (.t 4), false⟩, ⟨some 24, none, .bin .gtr false (.t 23) (.i 0), false⟩, ⟨some 25, none, .move (.t 24), false⟩, ⟨some 26, some (25, true), .move (.t 2), false⟩, ⟨some 27, some (25, true), .bin .gtr false (.t 26) (.i 1), false⟩, ⟨some 28, none, .pick (.t 25) (.t 27) (.b false), false⟩, ⟨some 29, none, .move (.t 28), false⟩, ⟨some 30, some (29, true), .move (.t 11), false⟩, ⟨some 31, some (29, true), .bin .lss false (.t 30) (.i 3), false⟩, ⟨some 32, some (29, true), .move (.t 31), false⟩, ⟨some 33, some (32, false), .move (.t 11), false⟩, ⟨some 34, some (32, false), .bin .lss false (.t 33) (.i 4), false⟩, ⟨some 35, some (32, false), .move (.t 34), false⟩, ⟨some 36, some (35, true), .move (.t 3), false⟩, ⟨some 37, some (35, true), .bin .eql false (.t 36) (.i 1), false⟩, ⟨some 38, some (32, false), .pick (.t 35) (.t 37) (.b false), false⟩, ⟨some 39, some (29, true), .pick (.t 32) (.b true) (.t 38), false⟩, ⟨some 40, none, .pick (.t 29) (.t 39) (.b false), false⟩])
@[reducible] noncomputable def c_s_grow_3 : CCode := .keep [12, 10, 4, 3, 2, 1, 0] (.region 6 none [⟨some 41, none, .move (.t 0), false⟩, ⟨some 42, none, .move (.t 2), false⟩, ⟨some 43, none, .bin .sub false (.t 42) (.i 1), false⟩, ⟨some 44, none, .call (.f n_s_reader_pick) [(.t 41), (.t 43)], true⟩, ⟨some 45, none, .bin .add false (.i 1) (.t 44), false⟩, ⟨some 12, none, .assign none (.t 45), false⟩])
@[reducible] noncomputable def c_s_grow_4 : CCode := .keep [13, 12, 10, 4, 3, 2, 1, 0] (.region 9 none [⟨some 46, none, .move (.t 0), false⟩, ⟨some 47, none, .move (.t 1), false⟩, ⟨some 48, none, .move (.t 12), false⟩, ⟨some 49, none, .move (.t 3), false⟩, ⟨some 50, none, .move (.t 4), false⟩, ⟨some 51, none, .bin .sub false (.t 50) (.i 1), false⟩, ⟨some 52, none, .call (.f n_s_grow) [(.t 46), (.t 47), (.t 48), (.t 49), (.t 51)], true⟩, ⟨some 13, none, .alloc [none, none, none, none, (some 5)] [(.d (.int .i64 0)), (.d (.int .i64 0)), (.d (.int .i64 0)), (.d (.bool false)), .nil], false⟩, ⟨none, none, .store [none, none, none, none, (some 5)] 5 (.t 13) (.t 52), false⟩])
@[reducible] noncomputable def c_s_grow_5 : CCode := .keep [10] (.region 14 (some [(0, 10), (1, 10)]) [⟨some 53, none, .move (.t 12), false⟩, ⟨some 54, none, .load true 5 (.t 13), false⟩, ⟨some 55, none, .move (.t 0), false⟩, ⟨some 56, none, .move (.t 1), false⟩, ⟨some 57, none, .move (.t 2), false⟩, ⟨some 58, none, .move (.t 12), false⟩, ⟨some 59, none, .bin .sub false (.t 57) (.t 58), false⟩, ⟨some 60, none, .move (.t 3), false⟩, ⟨some 61, none, .move (.t 4), false⟩, ⟨some 62, none, .bin .sub false (.t 61) (.i 1), false⟩, ⟨some 63, none, .call (.f n_s_grow) [(.t 55), (.t 56), (.t 59), (.t 60), (.t 62)], true⟩, ⟨some 64, none, .buildSl 5 [(.t 54), (.t 63)], true⟩, ⟨some 65, none, .build [(.d (.int .i64 0)), (.d (.int .i64 0)), (.d (.int .i64 0)), (.d (.bool false)), .nil] [(0, 1, (.i 2)), (1, 1, (.t 53)), (4, 1, (.t 64))], false⟩, ⟨none, none, .store [none, none, none, none, (some 5)] 5 (.t 10) (.t 65), false⟩])
@[reducible] noncomputable def c_s_grow_6 : CCode := .seq c_s_grow_5 .ret
@[reducible] noncomputable def c_s_grow_7 : CCode := .seq c_s_grow_4 c_s_grow_6
@[reducible] noncomputable def c_s_grow_8 : CCode := .seq c_s_grow_3 c_s_grow_7
@[reducible] noncomputable def c_s_grow_9 : CCode := .cond (.t 40) c_s_grow_8 .skip
@[reducible] noncomputable def c_s_grow_10 : CCode := .seq c_s_grow_2 c_s_grow_9
@[reducible] noncomputable def c_s_grow_11 : CCode := .keep [75, 11, 10, 4, 3, 2, 1, 0] (.region 10 none [⟨some 66, none, .move (.t 4), false⟩, ⟨some 67, none, .bin .gtr false (.t 66) (.i 0), false⟩, ⟨some 68, none, .move (.t 67), false⟩, ⟨some 69, some (68, true), .move (.t 3), false⟩, ⟨some 70, some (68, true), .bin .gtr false (.t 69) (.i 1), false⟩, ⟨some 71, none, .pick (.t 68) (.t 70) (.b false), false⟩, ⟨some 72, none, .move (.t 71), false⟩, ⟨some 73, some (72, true), .move (.t 11), false⟩, ⟨some 74, some (72, true), .bin .lss false (.t 73) (.i 6), false⟩, ⟨some 75, none, .pick (.t 72) (.t 74) (.b false), false⟩])
@[reducible] noncomputable def c_s_grow_12 : CCode := .keep [14, 10, 4, 3, 2, 1, 0] (.region 6 none [⟨some 76, none, .move (.t 0), false⟩, ⟨some 77, none, .move (.t 3), false⟩, ⟨some 78, none, .bin .sub false (.t 77) (.i 1), false⟩, ⟨some 79, none, .call (.f n_s_reader_pick) [(.t 76), (.t 78)], true⟩, ⟨some 80, none, .bin .add false (.i 1) (.t 79), false⟩, ⟨some 14, none, .assign none (.t 80), false⟩])
@[reducible] noncomputable def c_s_grow_13 : CCode := .keep [15, 14, 10, 4, 3, 2, 1, 0] (.region 9 none [⟨some 81, none, .move (.t 0), false⟩, ⟨some 82, none, .move (.t 1), false⟩, ⟨some 83, none, .move (.t 2), false⟩, ⟨some 84, none, .move (.t 14), false⟩, ⟨some 85, none, .move (.t 4), false⟩, ⟨some 86, none, .bin .sub false (.t 85) (.i 1), false⟩, ⟨some 87, none, .call (.f n_s_grow) [(.t 81), (.t 82), (.t 83), (.t 84), (.t 86)], true⟩, ⟨some 15, none, .alloc [none, none, none, none, (some 5)] [(.d (.int .i64 0)), (.d (.int .i64 0)), (.d (.int .i64 0)), (.d (.bool false)), .nil], false⟩, ⟨none, none, .store [none, none, none, none, (some 5)] 5 (.t 15) (.t 87), false⟩])
@[reducible] noncomputable def c_s_grow_14 : CCode := .keep [10] (.region 14 (some [(0, 10), (1, 10)]) [⟨some 88, none, .move (.t 14), false⟩, ⟨some 89, none, .load true 5 (.t 15), false⟩, ⟨some 90, none, .move (.t 0), false⟩, ⟨some 91, none, .move (.t 1), false⟩, ⟨some 92, none, .move (.t 2), false⟩, ⟨some 93, none, .move (.t 3), false⟩, ⟨some 94, none, .move (.t 14), false⟩, ⟨some 95, none, .bin .sub false (.t 93) (.t 94), false⟩, ⟨some 96, none, .move (.t 4), false⟩, ⟨some 97, none, .bin .sub false (.t 96) (.i 1), false⟩, ⟨some 98, none, .call (.f n_s_grow) [(.t 90), (.t 91), (.t 92), (.t 95), (.t 97)], true⟩, ⟨some 99, none, .buildSl 5 [(.t 89), (.t 98)], true⟩, ⟨some 100, none, .build [(.d (.int .i64 0)), (.d (.int .i64 0)), (.d (.int .i64 0)), (.d (.bool false)), .nil] [(0, 1, (.i 3)), (1, 1, (.t 88)), (4, 1, (.t 99))], false⟩, ⟨none, none, .store [none, none, none, none, (some 5)] 5 (.t 10) (.t 100), false⟩])
@[reducible] noncomputable def c_s_grow_15 : CCode := .seq c_s_grow_14 .ret
@[reducible] noncomputable def c_s_grow_16 : CCode := .seq c_s_grow_13 c_s_grow_15
@[reducible] noncomputable def c_s_grow_17 : CCode := .seq c_s_grow_12 c_s_grow_16
@[reducible] noncomputable def c_s_grow_18 : CCode := .cond (.t 75) c_s_grow_17 .skip
@[reducible] noncomputable def c_s_grow_19 : CCode := .seq c_s_grow_11 c_s_grow_18
@[reducible] noncomputable def c_s_grow_20 : CCode := .keep [102, 10, 3, 2, 1, 0] (.region 2 none [⟨some 101, none, .move (.t 11), false⟩, ⟨some 102, none, .bin .eql false (.t 101) (.i 7), false⟩])
@[reducible] noncomputable def c_s_grow_21 : CCode := .keep [10] (.region 2 none [⟨some 103, none, .build [(.d (.int .i64 0)), (.d (.int .i64 0)), (.d (.int .i64 0)), (.d (.bool false)), .nil] [], false⟩, ⟨none, none, .store [none, none, none, none, (some 5)] 5 (.t 10) (.t 103), false⟩])
@[reducible] noncomputable def c_s_grow_22 : CCode := .seq c_s_grow_21 .ret
@[reducible] noncomputable def c_s_grow_23 : CCode := .cond (.t 102) c_s_grow_22 .skip
@[reducible] noncomputable def c_s_grow_24 : CCode := .seq c_s_grow_20 c_s_grow_23
@[reducible] noncomputable def c_s_grow_25 : CCode := .keep [16, 10, 3, 2, 1, 0] (.region 1 none [⟨some 16, none, .assign none (.i 0), false⟩])
@[reducible] noncomputable def c_s_grow_26 : CCode := .keep [110, 16, 10, 3, 2, 1, 0] (.region 7 none [⟨some 104, none, .move (.t 16), false⟩, ⟨some 105, none, .move (.t 1), false⟩, ⟨some 106, none, .nilCheck (.t 105), false⟩, ⟨some 107, none, .shift 2 (.t 106), false⟩, ⟨some 108, none, .load false 1 (.t 107), false⟩, ⟨some 109, none, .len (.t 108), false⟩, ⟨some 110, none, .bin .lss false (.t 104) (.t 109), false⟩])
@[reducible] noncomputable def c_s_grow_27 : CCode := .cond (.t 110) .skip (.exit 0)
@[reducible] noncomputable def c_s_grow_28 : CCode := .seq c_s_grow_26 c_s_grow_27
@[reducible] noncomputable def c_s_grow_29 : CCode := .keep [17, 16, 10, 3, 2, 1, 0] (.region 1 none [⟨some 17, none, .assign none (.i 0), false⟩])
@[reducible] noncomputable def c_s_grow_30 : CCode := .keep [114, 17, 16, 10, 3, 2, 1, 0] (.region 2 none [⟨some 113, none, .move (.t 17), false⟩, ⟨some 114, none, .bin .lss false (.t 113) (.i 2), false⟩])
@[reducible] noncomputable def c_s_grow_31 : CCode := .cond (.t 114) .skip (.exit 2)
@[reducible] noncomputable def c_s_grow_32 : CCode := .seq c_s_grow_30 c_s_grow_31
@[reducible] noncomputable def c_s_grow_33 : CCode := .keep [18, 17, 16, 10, 3, 2, 1, 0] (.region 6 none [⟨some 117, none, .move (.t 16), false⟩, ⟨some 118, none, .move (.t 17), false⟩, ⟨some 119, none, .bin .eql false (.t 118) (.i 1), false⟩, ⟨some 120, none, .build [(.d (.int .i64 0)), (.d (.int .i64 0)), (.d (.int .i64 0)), (.d (.bool false)), .nil] [(0, 1, (.i 1)), (2, 1, (.t 117)), (3, 1, (.t 119))], false⟩, ⟨some 18, none, .alloc [none, none, none, none, (some 5)] [(.d (.int .i64 0)), (.d (.int .i64 0)), (.d (.int .i64 0)), (.d (.bool false)), .nil], false⟩, ⟨none, none, .store [none, none, none, none, (some 5)] 5 (.t 18) (.t 120), false⟩])
@[reducible] noncomputable def c_s_grow_34 : CCode := .keep [127, 18, 17, 16, 10, 3, 2, 1, 0] (.region 7 (some []) [⟨some 121, none, .move (.t 1), false⟩, ⟨some 122, none, .nilCheck (.t 121), false⟩, ⟨some 123, none, .load true 3 (.t 122), false⟩, ⟨some 124, none, .load true 5 (.t 18), false⟩, ⟨some 125, none, .move (.t 2), false⟩, ⟨some 126, none, .move (.t 3), false⟩, ⟨some 127, none, .call (.f n_s_fitsPlan) [(.t 123), (.t 124), (.t 125), (.t 126)], true⟩])
@[reducible] noncomputable def c_s_grow_35 : CCode := .keep [10] (.region 2 none [⟨some 128, none, .load true 5 (.t 18), false⟩, ⟨none, none, .store [none, none, none, none, (some 5)] 5 (.t 10) (.t 128), false⟩])
@[reducible] noncomputable def c_s_grow_36 : CCode := .seq c_s_grow_35 .ret
@[reducible] noncomputable def c_s_grow_37 : CCode := .cond (.t 127) c_s_grow_36 .skip
@[reducible] noncomputable def c_s_grow_38 : CCode := .seq c_s_grow_34 c_s_grow_37
@[reducible] noncomputable def c_s_grow_39 : CCode := .seq c_s_grow_33 c_s_grow_38
@[reducible] noncomputable def c_s_grow_40 : CCode := .block 3 c_s_grow_39
@[reducible] noncomputable def c_s_grow_41 : CCode := .keep [17, 16, 10, 3, 2, 1, 0] (.region 3 none [⟨some 115, none, .move (.t 17), false⟩, ⟨some 116, none, .bin .add false (.t 115) (.i 1), false⟩, ⟨some 17, none, .assign none (.t 116), false⟩])
@[reducible] noncomputable def c_s_grow_42 : CCode := .seq c_s_grow_40 c_s_grow_41
@[reducible] noncomputable def c_s_grow_43 : CCode := .seq c_s_grow_32 c_s_grow_42
@[reducible] noncomputable def c_s_grow_44 : CCode := .loop c_s_grow_43
@[reducible] noncomputable def c_s_grow_45 : CCode := .block 2 c_s_grow_44
@[reducible] noncomputable def c_s_grow_46 : CCode := .seq c_s_grow_29 c_s_grow_45
@[reducible] noncomputable def c_s_grow_47 : CCode := .block 1 c_s_grow_46
@[reducible] noncomputable def c_s_grow_48 : CCode := .keep [16, 10, 3, 2, 1, 0] (.region 3 none [⟨some 111, none, .move (.t 16), false⟩, ⟨some 112, none, .bin .add false (.t 111) (.i 1), false⟩, ⟨some 16, none, .assign none (.t 112), false⟩])
@[reducible] noncomputable def c_s_grow_49 : CCode := .seq c_s_grow_47 c_s_grow_48
@[reducible] noncomputable def c_s_grow_50 : CCode := .seq c_s_grow_28 c_s_grow_49
@[reducible] noncomputable def c_s_grow_51 : CCode := .loop c_s_grow_50
@[reducible] noncomputable def c_s_grow_52 : CCode := .block 0 c_s_grow_51
@[reducible] noncomputable def c_s_grow_53 : CCode := .seq c_s_grow_25 c_s_grow_52
@[reducible] noncomputable def c_s_grow_54 : CCode := .keep [134, 10, 3, 2, 1, 0] (.region 6 none [⟨some 129, none, .move (.t 1), false⟩, ⟨some 130, none, .nilCheck (.t 129), false⟩, ⟨some 131, none, .shift 2 (.t 130), false⟩, ⟨some 132, none, .load false 1 (.t 131), false⟩, ⟨some 133, none, .len (.t 132), false⟩, ⟨some 134, none, .bin .eql false (.t 133) (.i 24), false⟩])
@[reducible] noncomputable def c_s_grow_55 : CCode := .keep [10] (.region 2 none [⟨some 135, none, .build [(.d (.int .i64 0)), (.d (.int .i64 0)), (.d (.int .i64 0)), (.d (.bool false)), .nil] [], false⟩, ⟨none, none, .store [none, none, none, none, (some 5)] 5 (.t 10) (.t 135), false⟩])
@[reducible] noncomputable def c_s_grow_56 : CCode := .seq c_s_grow_55 .ret
@[reducible] noncomputable def c_s_grow_57 : CCode := .cond (.t 134) c_s_grow_56 .skip
@[reducible] noncomputable def c_s_grow_58 : CCode := .seq c_s_grow_54 c_s_grow_57
@[reducible] noncomputable def c_s_grow_59 : CCode := .keep [19, 10, 3, 2, 1, 0] (.region 9 none [⟨some 136, none, .move (.t 0), false⟩, ⟨some 137, none, .call (.f n_s_reader_pick) [(.t 136), (.i 3)], true⟩, ⟨some 138, none, .bin .eql false (.t 137) (.i 0), false⟩, ⟨some 139, none, .move (.t 138), false⟩, ⟨some 140, some (139, true), .move (.t 2), false⟩, ⟨some 141, some (139, true), .move (.t 3), false⟩, ⟨some 142, some (139, true), .bin .neq false (.t 140) (.t 141), false⟩, ⟨some 143, none, .pick (.t 139) (.t 142) (.b false), false⟩, ⟨some 19, none, .assign none (.t 143), false⟩])
@[reducible] noncomputable def c_s_grow_60 : CCode := .keep [20, 19, 10, 3, 2, 1] (.region 13 none [⟨some 144, none, .move (.t 2), false⟩, ⟨some 145, none, .move (.t 3), false⟩, ⟨some 146, none, .move (.t 19), false⟩, ⟨some 147, none, .move (.t 146), false⟩, ⟨some 148, some (147, false), .move (.t 0), false⟩, ⟨some 149, some (147, false), .call (.f n_s_reader_pick) [(.t 148), (.i 2)], true⟩, ⟨some 150, some (147, false), .bin .eql false (.t 149) (.i 0), false⟩, ⟨some 151, none, .pick (.t 147) (.b true) (.t 150), false⟩, ⟨some 152, none, .move (.t 0), false⟩, ⟨some 153, none, .call (.f n_s_reader_pick) [(.t 152), (.i 2)], true⟩, ⟨some 154, none, .build [(.d (.int .i64 0)), (.d (.int .i64 0)), (.d (.bool false)), (.d (.int .i64 0))] [(0, 1, (.t 144)), (1, 1, (.t 145)), (2, 1, (.t 151)), (3, 1, (.t 153))], false⟩, ⟨some 20, none, .alloc [none, none, none, none] [(.d (.int .i64 0)), (.d (.int .i64 0)), (.d (.bool false)), (.d (.int .i64 0))], false⟩, ⟨none, none, .store [none, none, none, none] 4 (.t 20) (.t 154), false⟩])
@[reducible] noncomputable def c_s_grow_61 : CCode := .region 1 none [⟨some 155, none, .move (.t 19), false⟩]
@[reducible] noncomputable def c_s_grow_62 : CCode := .keep [20, 19, 10, 2, 1] (.region 3 none [⟨some 156, none, .move (.t 3), false⟩, ⟨some 157, none, .shift 0 (.t 20), false⟩, ⟨none, none, .store [none] 1 (.t 157) (.t 156), false⟩])
@[reducible] noncomputable def c_s_grow_63 : CCode := .keep [20, 19, 10, 1] (.region 3 none [⟨some 158, none, .move (.t 2), false⟩, ⟨some 159, none, .shift 1 (.t 20), false⟩, ⟨none, none, .store [none] 1 (.t 159) (.t 158), false⟩])
@[reducible] noncomputable def c_s_grow_64 : CCode := .seq c_s_grow_62 c_s_grow_63
@[reducible] noncomputable def c_s_grow_65 : CCode := .cond (.t 155) c_s_grow_64 .skip
@[reducible] noncomputable def c_s_grow_66 : CCode := .seq c_s_grow_61 c_s_grow_65
@[reducible] noncomputable def c_s_grow_67 : CCode := .keep [19, 10, 1] (.region 11 (some []) [⟨some 160, none, .move (.t 1), false⟩, ⟨some 161, none, .move (.t 1), false⟩, ⟨some 162, none, .nilCheck (.t 161), false⟩, ⟨some 163, none, .shift 2 (.t 162), false⟩, ⟨some 164, none, .load false 1 (.t 163), false⟩, ⟨some 165, none, .load true 4 (.t 20), false⟩, ⟨some 166, none, .buildSl 4 [(.t 165)], false⟩, ⟨some 167, none, .append 4 32 false true (.t 164) (.t 166), true⟩, ⟨some 168, none, .nilCheck (.t 160), false⟩, ⟨some 169, none, .shift 2 (.t 168), false⟩, ⟨none, none, .store [(some 4)] 1 (.t 169) (.t 167), false⟩])
@[reducible] noncomputable def c_s_grow_68 : CCode := .keep [10] (.region 9 none [⟨some 170, none, .move (.t 1), false⟩, ⟨some 171, none, .nilCheck (.t 170), false⟩, ⟨some 172, none, .shift 2 (.t 171), false⟩, ⟨some 173, none, .load false 1 (.t 172), false⟩, ⟨some 174, none, .len (.t 173), false⟩, ⟨some 175, none, .bin .sub false (.t 174) (.i 1), false⟩, ⟨some 176, none, .move (.t 19), false⟩, ⟨some 177, none, .build [(.d (.int .i64 0)), (.d (.int .i64 0)), (.d (.int .i64 0)), (.d (.bool false)), .nil] [(0, 1, (.i 1)), (2, 1, (.t 175)), (3, 1, (.t 176))], false⟩, ⟨none, none, .store [none, none, none, none, (some 5)] 5 (.t 10) (.t 177), false⟩])
@[reducible] noncomputable def c_s_grow_69 : CCode := .seq c_s_grow_68 .ret
@[reducible] noncomputable def c_s_grow_70 : CCode := .seq c_s_grow_67 c_s_grow_69
@[reducible] noncomputable def c_s_grow_71 : CCode := .seq c_s_grow_66 c_s_grow_70
@[reducible] noncomputable def c_s_grow_72 : CCode := .seq c_s_grow_60 c_s_grow_71
@[reducible] noncomputable def c_s_grow_73 : CCode := .seq c_s_grow_59 c_s_grow_72
@[reducible] noncomputable def c_s_grow_74 : CCode := .seq c_s_grow_58 c_s_grow_73
@[reducible] noncomputable def c_s_grow_75 : CCode := .seq c_s_grow_53 c_s_grow_74
@[reducible] noncomputable def c_s_grow_76 : CCode := .seq c_s_grow_24 c_s_grow_75
@[reducible] noncomputable def c_s_grow_77 : CCode := .seq c_s_grow_19 c_s_grow_76
@[reducible] noncomputable def c_s_grow_78 : CCode := .seq c_s_grow_10 c_s_grow_77
@[reducible] noncomputable def c_s_grow_79 : CCode := .seq c_s_grow_1 c_s_grow_78
@[reducible] noncomputable def c_s_grow_80 : CCode := .seq c_s_grow_0 c_s_grow_79
noncomputable def f_s_grow : CFun := ⟨178, [.cell 10 true 5], c_s_grow_80⟩
@[reducible] noncomputable def c_s_spread_0 : CCode := .keep [3, 2] (.region 3 none [⟨some 2, none, .box (.t 0), false⟩, ⟨some 3, none, .box (.t 1), false⟩, ⟨some 4, none, .assign (some 6) (.v .nil), false⟩])
@[reducible] noncomputable def c_s_spread_1 : CCode := .keep [8, 3, 2] (.region 2 none [⟨some 7, none, .shift 0 (.t 2), false⟩, ⟨some 8, none, .load false 1 (.t 7), false⟩])
@[reducible] noncomputable def c_s_spread_2 : CCode := .keep [9, 8, 3, 2] (.region 2 none [⟨some 10, none, .bin .eql false (.t 8) (.i 2), false⟩, ⟨some 9, none, .assign none (.t 10), false⟩])
@[reducible] noncomputable def c_s_spread_3 : CCode := .keep [5, 3, 2] (.region 15 (some []) [⟨some 11, none, .shift 4 (.t 2), false⟩, ⟨some 12, none, .load false 1 (.t 11), false⟩, ⟨some 13, none, .iaS 5 (.t 12) (.i 0), false⟩, ⟨some 14, none, .load true 5 (.t 13), false⟩, ⟨some 15, none, .shift 0 (.t 3), false⟩, ⟨some 16, none, .load false 1 (.t 15), false⟩, ⟨some 17, none, .shift 1 (.t 3), false⟩, ⟨some 18, none, .load false 1 (.t 17), false⟩, ⟨some 19, none, .shift 1 (.t 2), false⟩, ⟨some 20, none, .load false 1 (.t 19), false⟩, ⟨some 21, none, .shift 3 (.t 3), false⟩, ⟨some 22, none, .load false 1 (.t 21), false⟩, ⟨some 23, none, .build [(.d (.int .i64 0)), (.d (.int .i64 0)), (.d (.int .i64 0)), (.d (.int .i64 0))] [(0, 1, (.t 16)), (1, 1, (.t 18)), (2, 1, (.t 20)), (3, 1, (.t 22))], false⟩, ⟨some 24, none, .call (.f n_s_spread) [(.t 14), (.t 23)], true⟩, ⟨some 5, none, .assign (some 6) (.t 24), false⟩])
@[reducible] noncomputable def c_s_spread_4 : CCode := .keep [4] (.region 23 (some [(0, 20)]) [⟨some 25, none, .move (.t 5), false⟩, ⟨some 26, none, .shift 4 (.t 2), false⟩, ⟨some 27, none, .load false 1 (.t 26), false⟩, ⟨some 28, none, .iaS 5 (.t 27) (.i 1), false⟩, ⟨some 29, none, .load true 5 (.t 28), false⟩, ⟨some 30, none, .shift 0 (.t 3), false⟩, ⟨some 31, none, .load false 1 (.t 30), false⟩, ⟨some 32, none, .shift 1 (.t 2), false⟩, ⟨some 33, none, .load false 1 (.t 32), false⟩, ⟨some 34, none, .bin .add false (.t 31) (.t 33), false⟩, ⟨some 35, none, .shift 1 (.t 3), false⟩, ⟨some 36, none, .load false 1 (.t 35), false⟩, ⟨some 37, none, .shift 2 (.t 3), false⟩, ⟨some 38, none, .load false 1 (.t 37), false⟩, ⟨some 39, none, .shift 1 (.t 2), false⟩, ⟨some 40, none, .load false 1 (.t 39), false⟩, ⟨some 41, none, .bin .sub false (.t 38) (.t 40), false⟩, ⟨some 42, none, .shift 3 (.t 3), false⟩, ⟨some 43, none, .load false 1 (.t 42), false⟩, ⟨some 44, none, .build [(.d (.int .i64 0)), (.d (.int .i64 0)), (.d (.int .i64 0)), (.d (.int .i64 0))] [(0, 1, (.t 34)), (1, 1, (.t 36)), (2, 1, (.t 41)), (3, 1, (.t 43))], false⟩, ⟨some 45, none, .call (.f n_s_spread) [(.t 29), (.t 44)], true⟩, ⟨some 46, none, .append 6 48 false true (.t 25) (.t 45), true⟩, ⟨some 4, none, .assign (some 6) (.t 46), false⟩])
@[reducible] noncomputable def c_s_spread_5 : CCode := .seq c_s_spread_4 .ret
@[reducible] noncomputable def c_s_spread_6 : CCode := .seq c_s_spread_3 c_s_spread_5
@[reducible] noncomputable def c_s_spread_7 : CCode := .keep [47, 8, 3, 2] (.region 2 none [⟨some 48, none, .bin .eql false (.t 8) (.i 3), false⟩, ⟨some 47, none, .assign none (.t 48), false⟩])
@[reducible] noncomputable def c_s_spread_8 : CCode := .keep [6, 3, 2] (.region 15 (some []) [⟨some 49, none, .shift 4 (.t 2), false⟩, ⟨some 50, none, .load false 1 (.t 49), false⟩, ⟨some 51, none, .iaS 5 (.t 50) (.i 0), false⟩, ⟨some 52, none, .load true 5 (.t 51), false⟩, ⟨some 53, none, .shift 0 (.t 3), false⟩, ⟨some 54, none, .load false 1 (.t 53), false⟩, ⟨some 55, none, .shift 1 (.t 3), false⟩, ⟨some 56, none, .load false 1 (.t 55), false⟩, ⟨some 57, none, .shift 2 (.t 3), false⟩, ⟨some 58, none, .load false 1 (.t 57), false⟩, ⟨some 59, none, .shift 1 (.t 2), false⟩, ⟨some 60, none, .load false 1 (.t 59), false⟩, ⟨some 61, none, .build [(.d (.int .i64 0)), (.d (.int .i64 0)), (.d (.int .i64 0)), (.d (.int .i64 0))] [(0, 1, (.t 54)), (1, 1, (.t 56)), (2, 1, (.t 58)), (3, 1, (.t 60))], false⟩, ⟨some 62, none, .call (.f n_s_spread) [(.t 52), (.t 61)], true⟩, ⟨some 6, none, .assign (some 6) (.t 62), false⟩])
@[reducible] noncomputable def c_s_spread_9 : CCode := .keep [4] (.region 23 (some [(0, 20)]) [⟨some 63, none, .move (.t 6), false⟩, ⟨some 64, none, .shift 4 (.t 2), false⟩, ⟨some 65, none, .load false 1 (.t 64), false⟩, ⟨some 66, none, .iaS 5 (.t 65) (.i 1), false⟩, ⟨some 67, none, .load true 5 (.t 66), false⟩, ⟨some 68, none, .shift 0 (.t 3), false⟩, ⟨some 69, none, .load false 1 (.t 68), false⟩, ⟨some 70, none, .shift 1 (.t 3), false⟩, ⟨some 71, none, .load false 1 (.t 70), false⟩, ⟨some 72, none, .shift 1 (.t 2), false⟩, ⟨some 73, none, .load false 1 (.t 72), false⟩, ⟨some 74, none, .bin .add false (.t 71) (.t 73), false⟩, ⟨some 75, none, .shift 2 (.t 3), false⟩, ⟨some 76, none, .load false 1 (.t 75), false⟩, ⟨some 77, none, .shift 3 (.t 3), false⟩, ⟨some 78, none, .load false 1 (.t 77), false⟩, ⟨some 79, none, .shift 1 (.t 2), false⟩, ⟨some 80, none, .load false 1 (.t 79), false⟩, ⟨some 81, none, .bin .sub false (.t 78) (.t 80), false⟩, ⟨some 82, none, .build [(.d (.int .i64 0)), (.d (.int .i64 0)), (.d (.int .i64 0)), (.d (.int .i64 0))] [(0, 1, (.t 69)), (1, 1, (.t 74)), (2, 1, (.t 76)), (3, 1, (.t 81))], false⟩, ⟨some 83, none, .call (.f n_s_spread) [(.t 67), (.t 82)], true⟩, ⟨some 84, none, .append 6 48 false true (.t 63) (.t 83), true⟩, ⟨some 4, none, .assign (some 6) (.t 84), false⟩])
@[reducible] noncomputable def c_s_spread_10 : CCode := .seq c_s_spread_9 .ret
@[reducible] noncomputable def c_s_spread_11 : CCode := .seq c_s_spread_8 c_s_spread_10
@[reducible] noncomputable def c_s_spread_12 : CCode := .keep [85, 3, 2] (.region 2 none [⟨some 86, none, .bin .eql false (.t 8) (.i 1), false⟩, ⟨some 85, none, .assign none (.t 86), false⟩])
@[reducible] noncomputable def c_s_spread_13 : CCode := .keep [4] (.region 8 none [⟨some 87, none, .shift 2 (.t 2), false⟩, ⟨some 88, none, .load false 1 (.t 87), false⟩, ⟨some 89, none, .shift 3 (.t 2), false⟩, ⟨some 90, none, .load false 1 (.t 89), false⟩, ⟨some 91, none, .load true 4 (.t 3), false⟩, ⟨some 92, none, .build [(.d (.int .i64 0)), (.d (.bool false)), (.d (.int .i64 0)), (.d (.int .i64 0)), (.d (.int .i64 0)), (.d (.int .i64 0))] [(0, 1, (.t 88)), (1, 1, (.t 90)), (2, 4, (.t 91))], false⟩, ⟨some 93, none, .buildSl 6 [(.t 92)], true⟩, ⟨some 4, none, .assign (some 6) (.t 93), false⟩])
@[reducible] noncomputable def c_s_spread_14 : CCode := .seq c_s_spread_13 .ret
@[reducible] noncomputable def c_s_spread_15 : CCode := .cond (.t 85) c_s_spread_14 .skip
@[reducible] noncomputable def c_s_spread_16 : CCode := .seq c_s_spread_12 c_s_spread_15
@[reducible] noncomputable def c_s_spread_17 : CCode := .cond (.t 47) c_s_spread_11 c_s_spread_16
@[reducible] noncomputable def c_s_spread_18 : CCode := .seq c_s_spread_7 c_s_spread_17
@[reducible] noncomputable def c_s_spread_19 : CCode := .cond (.t 9) c_s_spread_6 c_s_spread_18
@[reducible] noncomputable def c_s_spread_20 : CCode := .seq c_s_spread_2 c_s_spread_19
@[reducible] noncomputable def c_s_spread_21 : CCode := .block 0 c_s_spread_20
@[reducible] noncomputable def c_s_spread_22 : CCode := .seq c_s_spread_1 c_s_spread_21
@[reducible] noncomputable def c_s_spread_23 : CCode := .keep [4] (.region 4 none [⟨some 94, none, .load true 4 (.t 3), false⟩, ⟨some 95, none, .build [(.d (.int .i64 0)), (.d (.bool false)), (.d (.int .i64 0)), (.d (.int .i64 0)), (.d (.int .i64 0)), (.d (.int .i64 0))] [(0, 1, (.i (-1))), (2, 4, (.t 94))], false⟩, ⟨some 96, none, .buildSl 6 [(.t 95)], true⟩, ⟨some 4, none, .assign (some 6) (.t 96), false⟩])
@[reducible] noncomputable def c_s_spread_24 : CCode := .seq c_s_spread_23 .ret
@[reducible] noncomputable def c_s_spread_25 : CCode := .seq c_s_spread_22 c_s_spread_24
@[reducible] noncomputable def c_s_spread_26 : CCode := .seq c_s_spread_0 c_s_spread_25
noncomputable def f_s_spread : CFun := ⟨97, [.tmp 4], c_s_spread_26⟩
@[reducible] noncomputable def c_s_validWork_0 : CCode := .keep [1] (.region 2 none [⟨some 1, none, .box (.t 0), false⟩, ⟨some 2, none, .assign none (.b false), false⟩])
@[reducible] noncomputable def c_s_validWork_1 : CCode := .keep [2] (.region 14 none [⟨some 3, none, .shift 0 (.t 1), false⟩, ⟨some 4, none, .load false 1 (.t 3), false⟩, ⟨some 5, none, .call (.f n_s_inRange) [(.t 4), (.i 1), (.i 200)], true⟩, ⟨some 6, none, .move (.t 5), false⟩, ⟨some 7, some (6, true), .shift 1 (.t 1), false⟩, ⟨some 8, some (6, true), .load false 1 (.t 7), false⟩, ⟨some 9, some (6, true), .call (.f n_s_inRange) [(.t 8), (.i 1), (.i 200)], true⟩, ⟨some 10, none, .pick (.t 6) (.t 9) (.b false), false⟩, ⟨some 11, none, .move (.t 10), false⟩, ⟨some 12, some (11, true), .shift 2 (.t 1), false⟩, ⟨some 13, some (11, true), .load false 1 (.t 12), false⟩, ⟨some 14, some (11, true), .call (.f n_s_validPanes) [(.t 13)], true⟩, ⟨some 15, none, .pick (.t 11) (.t 14) (.b false), false⟩, ⟨some 2, none, .assign none (.t 15), false⟩])
@[reducible] noncomputable def c_s_validWork_2 : CCode := .seq c_s_validWork_1 .ret
@[reducible] noncomputable def c_s_validWork_3 : CCode := .seq c_s_validWork_0 c_s_validWork_2
noncomputable def f_s_validWork : CFun := ⟨16, [.tmp 2], c_s_validWork_3⟩
@[reducible] noncomputable def c_s_planSize_0 : CCode := .keep [1] (.region 2 none [⟨some 1, none, .box (.t 0), false⟩, ⟨some 2, none, .assign none (.i 0), false⟩])
@[reducible] noncomputable def c_s_planSize_1 : CCode := .region 1 none [⟨some 3, none, .assign none (.i 1), false⟩]
@[reducible] noncomputable def c_s_planSize_2 : CCode := .keep [7, 3, 1] (.region 2 none [⟨some 6, none, .load true 5 (.t 1), false⟩, ⟨some 7, none, .call (.f n_s_isCut) [(.t 6)], true⟩])
@[reducible] noncomputable def c_s_planSize_3 : CCode := .keep [20, 3, 1] (.region 13 none [⟨some 8, none, .shift 4 (.t 1), false⟩, ⟨some 9, none, .load false 1 (.t 8), false⟩, ⟨some 10, none, .len (.t 9), false⟩, ⟨some 11, none, .bin .neq false (.t 10) (.i 2), false⟩, ⟨some 12, none, .move (.t 11), false⟩, ⟨some 13, some (12, false), .shift 2 (.t 1), false⟩, ⟨some 14, some (12, false), .load false 1 (.t 13), false⟩, ⟨some 15, some (12, false), .bin .neq false (.t 14) (.i 0), false⟩, ⟨some 16, none, .pick (.t 12) (.b true) (.t 15), false⟩, ⟨some 17, none, .move (.t 16), false⟩, ⟨some 18, some (17, false), .shift 3 (.t 1), false⟩, ⟨some 19, some (17, false), .load false 1 (.t 18), false⟩, ⟨some 20, none, .pick (.t 17) (.b true) (.t 19), false⟩])
@[reducible] noncomputable def c_s_planSize_4 : CCode := .keep [2] (.region 1 none [⟨some 2, none, .assign none (.i (-1)), false⟩])
@[reducible] noncomputable def c_s_planSize_5 : CCode := .seq c_s_planSize_4 .ret
@[reducible] noncomputable def c_s_planSize_6 : CCode := .cond (.t 20) c_s_planSize_5 .skip
@[reducible] noncomputable def c_s_planSize_7 : CCode := .seq c_s_planSize_3 c_s_planSize_6
@[reducible] noncomputable def c_s_planSize_8 : CCode := .keep [48, 3, 1] (.region 28 none [⟨some 21, none, .shift 4 (.t 1), false⟩, ⟨some 22, none, .load false 1 (.t 21), false⟩, ⟨some 23, none, .len (.t 22), false⟩, ⟨some 24, none, .bin .neq false (.t 23) (.i 0), false⟩, ⟨some 25, none, .move (.t 24), false⟩, ⟨some 26, some (25, false), .shift 1 (.t 1), false⟩, ⟨some 27, some (25, false), .load false 1 (.t 26), false⟩, ⟨some 28, some (25, false), .bin .neq false (.t 27) (.i 0), false⟩, ⟨some 29, none, .pick (.t 25) (.b true) (.t 28), false⟩, ⟨some 30, none, .move (.t 29), false⟩, ⟨some 31, some (30, false), .shift 0 (.t 1), false⟩, ⟨some 32, some (30, false), .load false 1 (.t 31), false⟩, ⟨some 33, some (30, false), .bin .neq false (.t 32) (.i 1), false⟩, ⟨some 34, some (30, false), .move (.t 33), false⟩, ⟨some 35, some (34, true), .shift 0 (.t 1), false⟩, ⟨some 36, some (34, true), .load false 1 (.t 35), false⟩, ⟨some 37, some (34, true), .bin .neq false (.t 36) (.i 0), false⟩, ⟨some 38, some (34, true), .move (.t 37), false⟩, ⟨some 39, some (38, false), .shift 2 (.t 1), false⟩, ⟨some 40, some (38, false), .load false 1 (.t 39), false⟩, ⟨some 41, some (38, false), .bin .neq false (.t 40) (.i 0), false⟩, ⟨some 42, some (34, true), .pick (.t 38) (.b true) (.t 41), false⟩, ⟨some 43, some (34, true), .move (.t 42), false⟩, ⟨some 44, some (43, false), .shift 3 (.t 1), false⟩, ⟨some 45, some (43, false), .load false 1 (.t 44), false⟩, ⟨some 46, some (34, true), .pick (.t 43) (.b true) (.t 45), false⟩, ⟨some 47, some (30, false), .pick (.t 34) (.t 46) (.b false), false⟩, ⟨some 48, none, .pick (.t 30) (.b true) (.t 47), false⟩])
@[reducible] noncomputable def c_s_planSize_9 : CCode := .keep [2] (.region 1 none [⟨some 2, none, .assign none (.i (-1)), false⟩])
@[reducible] noncomputable def c_s_planSize_10 : CCode := .seq c_s_planSize_9 .ret
@[reducible] noncomputable def c_s_planSize_11 : CCode := .cond (.t 48) c_s_planSize_10 .skip
@[reducible] noncomputable def c_s_planSize_12 : CCode := .seq c_s_planSize_8 c_s_planSize_11
@[reducible] noncomputable def c_s_planSize_13 : CCode := .cond (.t 7) c_s_planSize_7 c_s_planSize_12
@[reducible] noncomputable def c_s_planSize_14 : CCode := .seq c_s_planSize_2 c_s_planSize_13
@[reducible] noncomputable def c_s_planSize_15 : CCode := .keep [4, 3, 1] (.region 1 none [⟨some 4, none, .assign none (.i 0), false⟩])
@[reducible] noncomputable def c_s_planSize_16 : CCode := .keep [53, 4, 3, 1] (.region 5 none [⟨some 49, none, .move (.t 4), false⟩, ⟨some 50, none, .shift 4 (.t 1), false⟩, ⟨some 51, none, .load false 1 (.t 50), false⟩, ⟨some 52, none, .len (.t 51), false⟩, ⟨some 53, none, .bin .lss false (.t 49) (.t 52), false⟩])
@[reducible] noncomputable def c_s_planSize_17 : CCode := .cond (.t 53) .skip (.exit 0)
@[reducible] noncomputable def c_s_planSize_18 : CCode := .seq c_s_planSize_16 c_s_planSize_17
@[reducible] noncomputable def c_s_planSize_19 : CCode := .keep [5, 4, 3, 1] (.region 7 none [⟨some 56, none, .shift 4 (.t 1), false⟩, ⟨some 57, none, .load false 1 (.t 56), false⟩, ⟨some 58, none, .move (.t 4), false⟩, ⟨some 59, none, .iaS 5 (.t 57) (.t 58), false⟩, ⟨some 60, none, .load true 5 (.t 59), false⟩, ⟨some 61, none, .call (.f n_s_planSize) [(.t 60)], true⟩, ⟨some 5, none, .assign none (.t 61), false⟩])
@[reducible] noncomputable def c_s_planSize_20 : CCode := .keep [63, 5, 4, 3, 1] (.region 2 none [⟨some 62, none, .move (.t 5), false⟩, ⟨some 63, none, .bin .lss false (.t 62) (.i 0), false⟩])
@[reducible] noncomputable def c_s_planSize_21 : CCode := .keep [2] (.region 1 none [⟨some 2, none, .assign none (.i (-1)), false⟩])
@[reducible] noncomputable def c_s_planSize_22 : CCode := .seq c_s_planSize_21 .ret
@[reducible] noncomputable def c_s_planSize_23 : CCode := .cond (.t 63) c_s_planSize_22 .skip
@[reducible] noncomputable def c_s_planSize_24 : CCode := .seq c_s_planSize_20 c_s_planSize_23
@[reducible] noncomputable def c_s_planSize_25 : CCode := .keep [4, 3, 1] (.region 4 none [⟨some 64, none, .move (.t 3), false⟩, ⟨some 65, none, .move (.t 5), false⟩, ⟨some 66, none, .bin .add false (.t 64) (.t 65), false⟩, ⟨some 3, none, .assign none (.t 66), false⟩])
@[reducible] noncomputable def c_s_planSize_26 : CCode := .seq c_s_planSize_24 c_s_planSize_25
@[reducible] noncomputable def c_s_planSize_27 : CCode := .seq c_s_planSize_19 c_s_planSize_26
@[reducible] noncomputable def c_s_planSize_28 : CCode := .block 1 c_s_planSize_27
@[reducible] noncomputable def c_s_planSize_29 : CCode := .keep [4, 3, 1] (.region 3 none [⟨some 54, none, .move (.t 4), false⟩, ⟨some 55, none, .bin .add false (.t 54) (.i 1), false⟩, ⟨some 4, none, .assign none (.t 55), false⟩])
@[reducible] noncomputable def c_s_planSize_30 : CCode := .seq c_s_planSize_28 c_s_planSize_29
@[reducible] noncomputable def c_s_planSize_31 : CCode := .seq c_s_planSize_18 c_s_planSize_30
@[reducible] noncomputable def c_s_planSize_32 : CCode := .loop c_s_planSize_31
@[reducible] noncomputable def c_s_planSize_33 : CCode := .block 0 c_s_planSize_32
@[reducible] noncomputable def c_s_planSize_34 : CCode := .seq c_s_planSize_15 c_s_planSize_33
@[reducible] noncomputable def c_s_planSize_35 : CCode := .keep [68, 3] (.region 2 none [⟨some 67, none, .move (.t 3), false⟩, ⟨some 68, none, .bin .gtr false (.t 67) (.i 255), false⟩])
@[reducible] noncomputable def c_s_planSize_36 : CCode := .keep [2] (.region 1 none [⟨some 2, none, .assign none (.i (-1)), false⟩])
@[reducible] noncomputable def c_s_planSize_37 : CCode := .seq c_s_planSize_36 .ret
@[reducible] noncomputable def c_s_planSize_38 : CCode := .cond (.t 68) c_s_planSize_37 .skip
@[reducible] noncomputable def c_s_planSize_39 : CCode := .seq c_s_planSize_35 c_s_planSize_38
@[reducible] noncomputable def c_s_planSize_40 : CCode := .keep [2] (.region 2 none [⟨some 69, none, .move (.t 3), false⟩, ⟨some 2, none, .assign none (.t 69), false⟩])
@[reducible] noncomputable def c_s_planSize_41 : CCode := .seq c_s_planSize_40 .ret
@[reducible] noncomputable def c_s_planSize_42 : CCode := .seq c_s_planSize_39 c_s_planSize_41
@[reducible] noncomputable def c_s_planSize_43 : CCode := .seq c_s_planSize_34 c_s_planSize_42
@[reducible] noncomputable def c_s_planSize_44 : CCode := .seq c_s_planSize_14 c_s_planSize_43
@[reducible] noncomputable def c_s_planSize_45 : CCode := .seq c_s_planSize_1 c_s_planSize_44
@[reducible] noncomputable def c_s_planSize_46 : CCode := .seq c_s_planSize_0 c_s_planSize_45
noncomputable def f_s_planSize : CFun := ⟨70, [.tmp 2], c_s_planSize_46⟩
@[reducible] noncomputable def c_s_fitsPlan_0 : CCode := .keep [5, 4, 3, 2] (.region 3 none [⟨some 4, none, .box (.t 0), false⟩, ⟨some 5, none, .box (.t 1), false⟩, ⟨some 8, none, .assign none (.b false), false⟩])
@[reducible] noncomputable def c_s_fitsPlan_1 : CCode := .keep [11, 5, 4, 3, 2] (.region 2 none [⟨some 10, none, .shift 0 (.t 5), false⟩, ⟨some 11, none, .load false 1 (.t 10), false⟩])
@[reducible] noncomputable def c_s_fitsPlan_2 : CCode := .keep [12, 11, 5, 4, 3, 2] (.region 2 none [⟨some 13, none, .bin .eql false (.t 11) (.i 1), false⟩, ⟨some 12, none, .assign none (.t 13), false⟩])
@[reducible] noncomputable def c_s_fitsPlan_3 : CCode := .keep [21, 5, 4, 3, 2] (.region 8 none [⟨some 14, none, .shift 2 (.t 5), false⟩, ⟨some 15, none, .load false 1 (.t 14), false⟩, ⟨some 16, none, .shift 2 (.t 4), false⟩, ⟨some 17, none, .load false 1 (.t 16), false⟩, ⟨some 18, none, .len (.t 17), false⟩, ⟨some 19, none, .bin .sub false (.t 18) (.i 1), false⟩, ⟨some 20, none, .call (.f n_s_inRange) [(.t 15), (.i 0), (.t 19)], true⟩, ⟨some 21, none, .un .not (.t 20), false⟩])
@[reducible] noncomputable def c_s_fitsPlan_4 : CCode := .keep [8] (.region 1 none [⟨some 8, none, .assign none (.b false), false⟩])
@[reducible] noncomputable def c_s_fitsPlan_5 : CCode := .seq c_s_fitsPlan_4 .ret
@[reducible] noncomputable def c_s_fitsPlan_6 : CCode := .cond (.t 21) c_s_fitsPlan_5 .skip
@[reducible] noncomputable def c_s_fitsPlan_7 : CCode := .seq c_s_fitsPlan_3 c_s_fitsPlan_6
@[reducible] noncomputable def c_s_fitsPlan_8 : CCode := .keep [9, 5, 3, 2] (.region 8 none [⟨some 22, none, .shift 2 (.t 4), false⟩, ⟨some 23, none, .load false 1 (.t 22), false⟩, ⟨some 24, none, .shift 2 (.t 5), false⟩, ⟨some 25, none, .load false 1 (.t 24), false⟩, ⟨some 26, none, .iaS 4 (.t 23) (.t 25), false⟩, ⟨some 27, none, .load true 4 (.t 26), false⟩, ⟨some 9, none, .alloc [none, none, none, none] [(.d (.int .i64 0)), (.d (.int .i64 0)), (.d (.bool false)), (.d (.int .i64 0))], false⟩, ⟨none, none, .store [none, none, none, none] 4 (.t 9) (.t 27), false⟩])
@[reducible] noncomputable def c_s_fitsPlan_9 : CCode := .keep [29, 9, 3, 2] (.region 2 none [⟨some 28, none, .shift 3 (.t 5), false⟩, ⟨some 29, none, .load false 1 (.t 28), false⟩])
@[reducible] noncomputable def c_s_fitsPlan_10 : CCode := .keep [8] (.region 22 none [⟨some 30, none, .shift 2 (.t 9), false⟩, ⟨some 31, none, .load false 1 (.t 30), false⟩, ⟨some 32, none, .move (.t 31), false⟩, ⟨some 33, some (32, true), .shift 0 (.t 9), false⟩, ⟨some 34, some (32, true), .load false 1 (.t 33), false⟩, ⟨some 35, some (32, true), .shift 1 (.t 9), false⟩, ⟨some 36, some (32, true), .load false 1 (.t 35), false⟩, ⟨some 37, some (32, true), .bin .neq false (.t 34) (.t 36), false⟩, ⟨some 38, none, .pick (.t 32) (.t 37) (.b false), false⟩, ⟨some 39, none, .move (.t 38), false⟩, ⟨some 40, some (39, true), .shift 1 (.t 9), false⟩, ⟨some 41, some (39, true), .load false 1 (.t 40), false⟩, ⟨some 42, some (39, true), .move (.t 2), false⟩, ⟨some 43, some (39, true), .bin .eql false (.t 41) (.t 42), false⟩, ⟨some 44, none, .pick (.t 39) (.t 43) (.b false), false⟩, ⟨some 45, none, .move (.t 44), false⟩, ⟨some 46, some (45, true), .shift 0 (.t 9), false⟩, ⟨some 47, some (45, true), .load false 1 (.t 46), false⟩, ⟨some 48, some (45, true), .move (.t 3), false⟩, ⟨some 49, some (45, true), .bin .eql false (.t 47) (.t 48), false⟩, ⟨some 50, none, .pick (.t 45) (.t 49) (.b false), false⟩, ⟨some 8, none, .assign none (.t 50), false⟩])
@[reducible] noncomputable def c_s_fitsPlan_11 : CCode := .seq c_s_fitsPlan_10 .ret
@[reducible] noncomputable def c_s_fitsPlan_12 : CCode := .cond (.t 29) c_s_fitsPlan_11 .skip
@[reducible] noncomputable def c_s_fitsPlan_13 : CCode := .seq c_s_fitsPlan_9 c_s_fitsPlan_12
@[reducible] noncomputable def c_s_fitsPlan_14 : CCode := .keep [8] (.region 11 none [⟨some 51, none, .shift 0 (.t 9), false⟩, ⟨some 52, none, .load false 1 (.t 51), false⟩, ⟨some 53, none, .move (.t 2), false⟩, ⟨some 54, none, .bin .eql false (.t 52) (.t 53), false⟩, ⟨some 55, none, .move (.t 54), false⟩, ⟨some 56, some (55, true), .shift 1 (.t 9), false⟩, ⟨some 57, some (55, true), .load false 1 (.t 56), false⟩, ⟨some 58, some (55, true), .move (.t 3), false⟩, ⟨some 59, some (55, true), .bin .eql false (.t 57) (.t 58), false⟩, ⟨some 60, none, .pick (.t 55) (.t 59) (.b false), false⟩, ⟨some 8, none, .assign none (.t 60), false⟩])
@[reducible] noncomputable def c_s_fitsPlan_15 : CCode := .seq c_s_fitsPlan_14 .ret
@[reducible] noncomputable def c_s_fitsPlan_16 : CCode := .seq c_s_fitsPlan_13 c_s_fitsPlan_15
@[reducible] noncomputable def c_s_fitsPlan_17 : CCode := .seq c_s_fitsPlan_8 c_s_fitsPlan_16
@[reducible] noncomputable def c_s_fitsPlan_18 : CCode := .seq c_s_fitsPlan_7 c_s_fitsPlan_17
@[reducible] noncomputable def c_s_fitsPlan_19 : CCode := .keep [61, 11, 5, 4, 3, 2] (.region 2 none [⟨some 62, none, .bin .eql false (.t 11) (.i 2), false⟩, ⟨some 61, none, .assign none (.t 62), false⟩])
@[reducible] noncomputable def c_s_fitsPlan_20 : CCode := .keep [8] (.region 30 (some []) [⟨some 63, none, .shift 1 (.t 5), false⟩, ⟨some 64, none, .load false 1 (.t 63), false⟩, ⟨some 65, none, .move (.t 2), false⟩, ⟨some 66, none, .bin .sub false (.t 65) (.i 1), false⟩, ⟨some 67, none, .call (.f n_s_inRange) [(.t 64), (.i 1), (.t 66)], true⟩, ⟨some 68, none, .move (.t 67), false⟩, ⟨some 69, some (68, true), .load true 3 (.t 4), false⟩, ⟨some 70, some (68, true), .shift 4 (.t 5), false⟩, ⟨some 71, some (68, true), .load false 1 (.t 70), false⟩, ⟨some 72, some (68, true), .iaS 5 (.t 71) (.i 0), false⟩, ⟨some 73, some (68, true), .load true 5 (.t 72), false⟩, ⟨some 74, some (68, true), .shift 1 (.t 5), false⟩, ⟨some 75, some (68, true), .load false 1 (.t 74), false⟩, ⟨some 76, some (68, true), .move (.t 3), false⟩, ⟨some 77, some (68, true), .call (.f n_s_fitsPlan) [(.t 69), (.t 73), (.t 75), (.t 76)], true⟩, ⟨some 78, none, .pick (.t 68) (.t 77) (.b false), false⟩, ⟨some 79, none, .move (.t 78), false⟩, ⟨some 80, some (79, true), .load true 3 (.t 4), false⟩, ⟨some 81, some (79, true), .shift 4 (.t 5), false⟩, ⟨some 82, some (79, true), .load false 1 (.t 81), false⟩, ⟨some 83, some (79, true), .iaS 5 (.t 82) (.i 1), false⟩, ⟨some 84, some (79, true), .load true 5 (.t 83), false⟩, ⟨some 85, some (79, true), .move (.t 2), false⟩, ⟨some 86, some (79, true), .shift 1 (.t 5), false⟩, ⟨some 87, some (79, true), .load false 1 (.t 86), false⟩, ⟨some 88, some (79, true), .bin .sub false (.t 85) (.t 87), false⟩, ⟨some 89, some (79, true), .move (.t 3), false⟩, ⟨some 90, some (79, true), .call (.f n_s_fitsPlan) [(.t 80), (.t 84), (.t 88), (.t 89)], true⟩, ⟨some 91, none, .pick (.t 79) (.t 90) (.b false), false⟩, ⟨some 8, none, .assign none (.t 91), false⟩])
@[reducible] noncomputable def c_s_fitsPlan_21 : CCode := .seq c_s_fitsPlan_20 .ret
@[reducible] noncomputable def c_s_fitsPlan_22 : CCode := .keep [92, 5, 4, 3, 2] (.region 2 none [⟨some 93, none, .bin .eql false (.t 11) (.i 3), false⟩, ⟨some 92, none, .assign none (.t 93), false⟩])
@[reducible] noncomputable def c_s_fitsPlan_23 : CCode := .keep [8] (.region 30 (some []) [⟨some 94, none, .shift 1 (.t 5), false⟩, ⟨some 95, none, .load false 1 (.t 94), false⟩, ⟨some 96, none, .move (.t 3), false⟩, ⟨some 97, none, .bin .sub false (.t 96) (.i 1), false⟩, ⟨some 98, none, .call (.f n_s_inRange) [(.t 95), (.i 1), (.t 97)], true⟩, ⟨some 99, none, .move (.t 98), false⟩, ⟨some 100, some (99, true), .load true 3 (.t 4), false⟩, ⟨some 101, some (99, true), .shift 4 (.t 5), false⟩, ⟨some 102, some (99, true), .load false 1 (.t 101), false⟩, ⟨some 103, some (99, true), .iaS 5 (.t 102) (.i 0), false⟩, ⟨some 104, some (99, true), .load true 5 (.t 103), false⟩, ⟨some 105, some (99, true), .move (.t 2), false⟩, ⟨some 106, some (99, true), .shift 1 (.t 5), false⟩, ⟨some 107, some (99, true), .load false 1 (.t 106), false⟩, ⟨some 108, some (99, true), .call (.f n_s_fitsPlan) [(.t 100), (.t 104), (.t 105), (.t 107)], true⟩, ⟨some 109, none, .pick (.t 99) (.t 108) (.b false), false⟩, ⟨some 110, none, .move (.t 109), false⟩, ⟨some 111, some (110, true), .load true 3 (.t 4), false⟩, ⟨some 112, some (110, true), .shift 4 (.t 5), false⟩, ⟨some 113, some (110, true), .load false 1 (.t 112), false⟩, ⟨some 114, some (110, true), .iaS 5 (.t 113) (.i 1), false⟩, ⟨some 115, some (110, true), .load true 5 (.t 114), false⟩, ⟨some 116, some (110, true), .move (.t 2), false⟩, ⟨some 117, some (110, true), .move (.t 3), false⟩, ⟨some 118, some (110, true), .shift 1 (.t 5), false⟩, ⟨some 119, some (110, true), .load false 1 (.t 118), false⟩, ⟨some 120, some (110, true), .bin .sub false (.t 117) (.t 119), false⟩, ⟨some 121, some (110, true), .call (.f n_s_fitsPlan) [(.t 111), (.t 115), (.t 116), (.t 120)], true⟩, ⟨some 122, none, .pick (.t 110) (.t 121) (.b false), false⟩, ⟨some 8, none, .assign none (.t 122), false⟩])
@[reducible] noncomputable def c_s_fitsPlan_24 : CCode := .seq c_s_fitsPlan_23 .ret
@[reducible] noncomputable def c_s_fitsPlan_25 : CCode := .cond (.t 92) c_s_fitsPlan_24 .skip
@[reducible] noncomputable def c_s_fitsPlan_26 : CCode := .seq c_s_fitsPlan_22 c_s_fitsPlan_25
@[reducible] noncomputable def c_s_fitsPlan_27 : CCode := .cond (.t 61) c_s_fitsPlan_21 c_s_fitsPlan_26
@[reducible] noncomputable def c_s_fitsPlan_28 : CCode := .seq c_s_fitsPlan_19 c_s_fitsPlan_27
@[reducible] noncomputable def c_s_fitsPlan_29 : CCode := .cond (.t 12) c_s_fitsPlan_18 c_s_fitsPlan_28
@[reducible] noncomputable def c_s_fitsPlan_30 : CCode := .seq c_s_fitsPlan_2 c_s_fitsPlan_29
@[reducible] noncomputable def c_s_fitsPlan_31 : CCode := .block 0 c_s_fitsPlan_30
@[reducible] noncomputable def c_s_fitsPlan_32 : CCode := .seq c_s_fitsPlan_1 c_s_fitsPlan_31
@[reducible] noncomputable def c_s_fitsPlan_33 : CCode := .keep [8] (.region 1 none [⟨some 8, none, .assign none (.b true), false⟩])
@[reducible] noncomputable def c_s_fitsPlan_34 : CCode := .seq c_s_fitsPlan_33 .ret
@[reducible] noncomputable def c_s_fitsPlan_35 : CCode := .seq c_s_fitsPlan_32 c_s_fitsPlan_34
@[reducible] noncomputable def c_s_fitsPlan_36 : CCode := .seq c_s_fitsPlan_0 c_s_fitsPlan_35
noncomputable def f_s_fitsPlan : CFun := ⟨123, [.tmp 8], c_s_fitsPlan_36⟩
@[reducible] noncomputable def c_s_meetOf_0 : CCode := .keep [4, 3, 2] (.region 4 none [⟨some 2, none, .box (.t 0), false⟩, ⟨some 3, none, .box (.t 1), false⟩, ⟨some 4, none, .alloc [none, none, none, none] [(.d (.int .i64 0)), (.d (.int .i64 0)), (.d (.int .i64 0)), (.d (.int .i64 0))], false⟩, ⟨some 5, none, .assign none (.b false), false⟩])
@[reducible] noncomputable def c_s_meetOf_1 : CCode := .keep [6, 4, 3, 2] (.region 6 none [⟨some 10, none, .shift 0 (.t 2), false⟩, ⟨some 11, none, .load false 1 (.t 10), false⟩, ⟨some 12, none, .shift 0 (.t 3), false⟩, ⟨some 13, none, .load false 1 (.t 12), false⟩, ⟨some 14, none, .max (.t 11) (.t 13), false⟩, ⟨some 6, none, .assign none (.t 14), false⟩])
@[reducible] noncomputable def c_s_meetOf_2 : CCode := .keep [7, 6, 4, 3, 2] (.region 6 none [⟨some 15, none, .shift 1 (.t 2), false⟩, ⟨some 16, none, .load false 1 (.t 15), false⟩, ⟨some 17, none, .shift 1 (.t 3), false⟩, ⟨some 18, none, .load false 1 (.t 17), false⟩, ⟨some 19, none, .max (.t 16) (.t 18), false⟩, ⟨some 7, none, .assign none (.t 19), false⟩])
@[reducible] noncomputable def c_s_meetOf_3 : CCode := .keep [8, 7, 6, 4, 3, 2] (.region 14 none [⟨some 20, none, .shift 0 (.t 2), false⟩, ⟨some 21, none, .load false 1 (.t 20), false⟩, ⟨some 22, none, .shift 2 (.t 2), false⟩, ⟨some 23, none, .load false 1 (.t 22), false⟩, ⟨some 24, none, .bin .add false (.t 21) (.t 23), false⟩, ⟨some 25, none, .shift 0 (.t 3), false⟩, ⟨some 26, none, .load false 1 (.t 25), false⟩, ⟨some 27, none, .shift 2 (.t 3), false⟩, ⟨some 28, none, .load false 1 (.t 27), false⟩, ⟨some 29, none, .bin .add false (.t 26) (.t 28), false⟩, ⟨some 30, none, .min (.t 24) (.t 29), false⟩, ⟨some 31, none, .move (.t 6), false⟩, ⟨some 32, none, .bin .sub false (.t 30) (.t 31), false⟩, ⟨some 8, none, .assign none (.t 32), false⟩])
@[reducible] noncomputable def c_s_meetOf_4 : CCode := .keep [9, 8, 7, 6, 4] (.region 14 none [⟨some 33, none, .shift 1 (.t 2), false⟩, ⟨some 34, none, .load false 1 (.t 33), false⟩, ⟨some 35, none, .shift 3 (.t 2), false⟩, ⟨some 36, none, .load false 1 (.t 35), false⟩, ⟨some 37, none, .bin .add false (.t 34) (.t 36), false⟩, ⟨some 38, none, .shift 1 (.t 3), false⟩, ⟨some 39, none, .load false 1 (.t 38), false⟩, ⟨some 40, none, .shift 3 (.t 3), false⟩, ⟨some 41, none, .load false 1 (.t 40), false⟩, ⟨some 42, none, .bin .add false (.t 39) (.t 41), false⟩, ⟨some 43, none, .min (.t 37) (.t 42), false⟩, ⟨some 44, none, .move (.t 7), false⟩, ⟨some 45, none, .bin .sub false (.t 43) (.t 44), false⟩, ⟨some 9, none, .assign none (.t 45), false⟩])
@[reducible] noncomputable def c_s_meetOf_5 : CCode := .keep [51, 9, 8, 7, 6, 4] (.region 6 none [⟨some 46, none, .move (.t 8), false⟩, ⟨some 47, none, .bin .leq false (.t 46) (.i 0), false⟩, ⟨some 48, none, .move (.t 47), false⟩, ⟨some 49, some (48, false), .move (.t 9), false⟩, ⟨some 50, some (48, false), .bin .leq false (.t 49) (.i 0), false⟩, ⟨some 51, none, .pick (.t 48) (.b true) (.t 50), false⟩])
@[reducible] noncomputable def c_s_meetOf_6 : CCode := .keep [5, 4] (.region 3 none [⟨some 52, none, .build [(.d (.int .i64 0)), (.d (.int .i64 0)), (.d (.int .i64 0)), (.d (.int .i64 0))] [], false⟩, ⟨none, none, .store [none, none, none, none] 4 (.t 4) (.t 52), false⟩, ⟨some 5, none, .assign none (.b false), false⟩])
@[reducible] noncomputable def c_s_meetOf_7 : CCode := .seq c_s_meetOf_6 .ret
@[reducible] noncomputable def c_s_meetOf_8 : CCode := .cond (.t 51) c_s_meetOf_7 .skip
@[reducible] noncomputable def c_s_meetOf_9 : CCode := .seq c_s_meetOf_5 c_s_meetOf_8
@[reducible] noncomputable def c_s_meetOf_10 : CCode := .keep [5, 4] (.region 7 none [⟨some 53, none, .move (.t 6), false⟩, ⟨some 54, none, .move (.t 7), false⟩, ⟨some 55, none, .move (.t 8), false⟩, ⟨some 56, none, .move (.t 9), false⟩, ⟨some 57, none, .build [(.d (.int .i64 0)), (.d (.int .i64 0)), (.d (.int .i64 0)), (.d (.int .i64 0))] [(0, 1, (.t 53)), (1, 1, (.t 54)), (2, 1, (.t 55)), (3, 1, (.t 56))], false⟩, ⟨none, none, .store [none, none, none, none] 4 (.t 4) (.t 57), false⟩, ⟨some 5, none, .assign none (.b true), false⟩])
@[reducible] noncomputable def c_s_meetOf_11 : CCode := .seq c_s_meetOf_10 .ret
@[reducible] noncomputable def c_s_meetOf_12 : CCode := .seq c_s_meetOf_9 c_s_meetOf_11
@[reducible] noncomputable def c_s_meetOf_13 : CCode := .seq c_s_meetOf_4 c_s_meetOf_12
@[reducible] noncomputable def c_s_meetOf_14 : CCode := .seq c_s_meetOf_3 c_s_meetOf_13
@[reducible] noncomputable def c_s_meetOf_15 : CCode := .seq c_s_meetOf_2 c_s_meetOf_14
@[reducible] noncomputable def c_s_meetOf_16 : CCode := .seq c_s_meetOf_1 c_s_meetOf_15
@[reducible] noncomputable def c_s_meetOf_17 : CCode := .seq c_s_meetOf_0 c_s_meetOf_16
noncomputable def f_s_meetOf : CFun := ⟨58, [.cell 4 true 4, .tmp 5], c_s_meetOf_17⟩
@[reducible] noncomputable def c_i_ValidPane_0 : CCode := .keep [1] (.region 2 none [⟨some 1, none, .box (.t 0), false⟩, ⟨some 2, none, .assign none (.b false), false⟩])
@[reducible] noncomputable def c_i_ValidPane_1 : CCode := .keep [2] (.region 29 none [⟨some 3, none, .shift 0 (.t 1), false⟩, ⟨some 4, none, .load false 1 (.t 3), false⟩, ⟨some 5, none, .bin .geq false (.t 4) (.i 1), false⟩, ⟨some 6, none, .move (.t 5), false⟩, ⟨some 7, some (6, true), .shift 0 (.t 1), false⟩, ⟨some 8, some (6, true), .load false 1 (.t 7), false⟩, ⟨some 9, some (6, true), .bin .leq false (.t 8) (.i 200), false⟩, ⟨some 10, none, .pick (.t 6) (.t 9) (.b false), false⟩, ⟨some 11, none, .move (.t 10), false⟩, ⟨some 12, some (11, true), .shift 1 (.t 1), false⟩, ⟨some 13, some (11, true), .load false 1 (.t 12), false⟩, ⟨some 14, some (11, true), .bin .geq false (.t 13) (.i 1), false⟩, ⟨some 15, none, .pick (.t 11) (.t 14) (.b false), false⟩, ⟨some 16, none, .move (.t 15), false⟩, ⟨some 17, some (16, true), .shift 1 (.t 1), false⟩, ⟨some 18, some (16, true), .load false 1 (.t 17), false⟩, ⟨some 19, some (16, true), .bin .leq false (.t 18) (.i 200), false⟩, ⟨some 20, none, .pick (.t 16) (.t 19) (.b false), false⟩, ⟨some 21, none, .move (.t 20), false⟩, ⟨some 22, some (21, true), .shift 3 (.t 1), false⟩, ⟨some 23, some (21, true), .load false 1 (.t 22), false⟩, ⟨some 24, some (21, true), .bin .geq false (.t 23) (.i 0), false⟩, ⟨some 25, none, .pick (.t 21) (.t 24) (.b false), false⟩, ⟨some 26, none, .move (.t 25), false⟩, ⟨some 27, some (26, true), .shift 3 (.t 1), false⟩, ⟨some 28, some (26, true), .load false 1 (.t 27), false⟩, ⟨some 29, some (26, true), .bin .leq false (.t 28) (.i 9), false⟩, ⟨some 30, none, .pick (.t 26) (.t 29) (.b false), false⟩, ⟨some 2, none, .assign none (.t 30), false⟩])
@[reducible] noncomputable def c_i_ValidPane_2 : CCode := .seq c_i_ValidPane_1 .ret
@[reducible] noncomputable def c_i_ValidPane_3 : CCode := .seq c_i_ValidPane_0 c_i_ValidPane_2
noncomputable def f_i_ValidPane : CFun := ⟨31, [.tmp 2], c_i_ValidPane_3⟩
@[reducible] noncomputable def c_i_countParts_0 : CCode := .keep [2, 1] (.region 2 none [⟨some 2, none, .box (.t 0), false⟩, ⟨some 4, none, .assign none (.i 0), false⟩])
@[reducible] noncomputable def c_i_countParts_1 : CCode := .keep [8, 2, 1] (.region 2 none [⟨some 7, none, .move (.t 1), false⟩, ⟨some 8, none, .bin .lss false (.t 7) (.i 1), false⟩])
@[reducible] noncomputable def c_i_countParts_2 : CCode := .keep [4] (.region 1 none [⟨some 4, none, .assign none (.i (-1)), false⟩])
@[reducible] noncomputable def c_i_countParts_3 : CCode := .seq c_i_countParts_2 .ret
@[reducible] noncomputable def c_i_countParts_4 : CCode := .cond (.t 8) c_i_countParts_3 .skip
@[reducible] noncomputable def c_i_countParts_5 : CCode := .seq c_i_countParts_1 c_i_countParts_4
@[reducible] noncomputable def c_i_countParts_6 : CCode := .keep [10, 2, 1] (.region 2 none [⟨some 9, none, .shift 0 (.t 2), false⟩, ⟨some 10, none, .load false 1 (.t 9), false⟩])
@[reducible] noncomputable def c_i_countParts_7 : CCode := .keep [11, 10, 2, 1] (.region 2 none [⟨some 12, none, .bin .eql false (.t 10) (.i 0), false⟩, ⟨some 11, none, .assign none (.t 12), false⟩])
@[reducible] noncomputable def c_i_countParts_8 : CCode := .keep [30] (.region 18 none [⟨some 13, none, .shift 4 (.t 2), false⟩, ⟨some 14, none, .load false 1 (.t 13), false⟩, ⟨some 15, none, .len (.t 14), false⟩, ⟨some 16, none, .bin .neq false (.t 15) (.i 0), false⟩, ⟨some 17, none, .move (.t 16), false⟩, ⟨some 18, some (17, false), .shift 1 (.t 2), false⟩, ⟨some 19, some (17, false), .load false 1 (.t 18), false⟩, ⟨some 20, some (17, false), .bin .neq false (.t 19) (.i 0), false⟩, ⟨some 21, none, .pick (.t 17) (.b true) (.t 20), false⟩, ⟨some 22, none, .move (.t 21), false⟩, ⟨some 23, some (22, false), .shift 2 (.t 2), false⟩, ⟨some 24, some (22, false), .load false 1 (.t 23), false⟩, ⟨some 25, some (22, false), .bin .neq false (.t 24) (.i 0), false⟩, ⟨some 26, none, .pick (.t 22) (.b true) (.t 25), false⟩, ⟨some 27, none, .move (.t 26), false⟩, ⟨some 28, some (27, false), .shift 3 (.t 2), false⟩, ⟨some 29, some (27, false), .load false 1 (.t 28), false⟩, ⟨some 30, none, .pick (.t 27) (.b true) (.t 29), false⟩])
@[reducible] noncomputable def c_i_countParts_9 : CCode := .keep [4] (.region 1 none [⟨some 4, none, .assign none (.i (-1)), false⟩])
@[reducible] noncomputable def c_i_countParts_10 : CCode := .seq c_i_countParts_9 .ret
@[reducible] noncomputable def c_i_countParts_11 : CCode := .cond (.t 30) c_i_countParts_10 .skip
@[reducible] noncomputable def c_i_countParts_12 : CCode := .seq c_i_countParts_8 c_i_countParts_11
@[reducible] noncomputable def c_i_countParts_13 : CCode := .keep [4] (.region 1 none [⟨some 4, none, .assign none (.i 1), false⟩])
@[reducible] noncomputable def c_i_countParts_14 : CCode := .seq c_i_countParts_13 .ret
@[reducible] noncomputable def c_i_countParts_15 : CCode := .seq c_i_countParts_12 c_i_countParts_14
@[reducible] noncomputable def c_i_countParts_16 : CCode := .keep [31, 10, 2, 1] (.region 2 none [⟨some 32, none, .bin .eql false (.t 10) (.i 1), false⟩, ⟨some 31, none, .assign none (.t 32), false⟩])
@[reducible] noncomputable def c_i_countParts_17 : CCode := .keep [41] (.region 9 none [⟨some 33, none, .shift 4 (.t 2), false⟩, ⟨some 34, none, .load false 1 (.t 33), false⟩, ⟨some 35, none, .len (.t 34), false⟩, ⟨some 36, none, .bin .neq false (.t 35) (.i 0), false⟩, ⟨some 37, none, .move (.t 36), false⟩, ⟨some 38, some (37, false), .shift 1 (.t 2), false⟩, ⟨some 39, some (37, false), .load false 1 (.t 38), false⟩, ⟨some 40, some (37, false), .bin .neq false (.t 39) (.i 0), false⟩, ⟨some 41, none, .pick (.t 37) (.b true) (.t 40), false⟩])
@[reducible] noncomputable def c_i_countParts_18 : CCode := .keep [4] (.region 1 none [⟨some 4, none, .assign none (.i (-1)), false⟩])
@[reducible] noncomputable def c_i_countParts_19 : CCode := .seq c_i_countParts_18 .ret
@[reducible] noncomputable def c_i_countParts_20 : CCode := .cond (.t 41) c_i_countParts_19 .skip
@[reducible] noncomputable def c_i_countParts_21 : CCode := .seq c_i_countParts_17 c_i_countParts_20
@[reducible] noncomputable def c_i_countParts_22 : CCode := .keep [4] (.region 1 none [⟨some 4, none, .assign none (.i 1), false⟩])
@[reducible] noncomputable def c_i_countParts_23 : CCode := .seq c_i_countParts_22 .ret
@[reducible] noncomputable def c_i_countParts_24 : CCode := .seq c_i_countParts_21 c_i_countParts_23
@[reducible] noncomputable def c_i_countParts_25 : CCode := .keep [42, 10, 2, 1] (.region 2 none [⟨some 43, none, .bin .eql false (.t 10) (.i 2), false⟩, ⟨some 42, none, .assign none (.t 43), false⟩])
@[reducible] noncomputable def c_i_countParts_26 : CCode := .keep [42, 2, 1] (.region 2 none [⟨some 44, none, .bin .eql false (.t 10) (.i 3), false⟩, ⟨some 42, none, .assign none (.t 44), false⟩])
@[reducible] noncomputable def c_i_countParts_27 : CCode := .cond (.t 42) .skip c_i_countParts_26
@[reducible] noncomputable def c_i_countParts_28 : CCode := .seq c_i_countParts_25 c_i_countParts_27
@[reducible] noncomputable def c_i_countParts_29 : CCode := .keep [57, 2, 1] (.region 13 none [⟨some 45, none, .shift 4 (.t 2), false⟩, ⟨some 46, none, .load false 1 (.t 45), false⟩, ⟨some 47, none, .len (.t 46), false⟩, ⟨some 48, none, .bin .neq false (.t 47) (.i 2), false⟩, ⟨some 49, none, .move (.t 48), false⟩, ⟨some 50, some (49, false), .shift 2 (.t 2), false⟩, ⟨some 51, some (49, false), .load false 1 (.t 50), false⟩, ⟨some 52, some (49, false), .bin .neq false (.t 51) (.i 0), false⟩, ⟨some 53, none, .pick (.t 49) (.b true) (.t 52), false⟩, ⟨some 54, none, .move (.t 53), false⟩, ⟨some 55, some (54, false), .shift 3 (.t 2), false⟩, ⟨some 56, some (54, false), .load false 1 (.t 55), false⟩, ⟨some 57, none, .pick (.t 54) (.b true) (.t 56), false⟩])
@[reducible] noncomputable def c_i_countParts_30 : CCode := .keep [4] (.region 1 none [⟨some 4, none, .assign none (.i (-1)), false⟩])
@[reducible] noncomputable def c_i_countParts_31 : CCode := .seq c_i_countParts_30 .ret
@[reducible] noncomputable def c_i_countParts_32 : CCode := .cond (.t 57) c_i_countParts_31 .skip
@[reducible] noncomputable def c_i_countParts_33 : CCode := .seq c_i_countParts_29 c_i_countParts_32
@[reducible] noncomputable def c_i_countParts_34 : CCode := .keep [5, 2, 1] (.region 8 none [⟨some 58, none, .shift 4 (.t 2), false⟩, ⟨some 59, none, .load false 1 (.t 58), false⟩, ⟨some 60, none, .iaS 5 (.t 59) (.i 0), false⟩, ⟨some 61, none, .load true 5 (.t 60), false⟩, ⟨some 62, none, .move (.t 1), false⟩, ⟨some 63, none, .bin .sub false (.t 62) (.i 1), false⟩, ⟨some 64, none, .call (.f n_i_countParts) [(.t 61), (.t 63)], true⟩, ⟨some 5, none, .assign none (.t 64), false⟩])
@[reducible] noncomputable def c_i_countParts_35 : CCode := .keep [66, 5, 2, 1] (.region 2 none [⟨some 65, none, .move (.t 5), false⟩, ⟨some 66, none, .bin .lss false (.t 65) (.i 0), false⟩])
@[reducible] noncomputable def c_i_countParts_36 : CCode := .keep [4] (.region 1 none [⟨some 4, none, .assign none (.i (-1)), false⟩])
@[reducible] noncomputable def c_i_countParts_37 : CCode := .seq c_i_countParts_36 .ret
@[reducible] noncomputable def c_i_countParts_38 : CCode := .cond (.t 66) c_i_countParts_37 .skip
@[reducible] noncomputable def c_i_countParts_39 : CCode := .seq c_i_countParts_35 c_i_countParts_38
@[reducible] noncomputable def c_i_countParts_40 : CCode := .keep [6, 5] (.region 10 none [⟨some 67, none, .shift 4 (.t 2), false⟩, ⟨some 68, none, .load false 1 (.t 67), false⟩, ⟨some 69, none, .iaS 5 (.t 68) (.i 1), false⟩, ⟨some 70, none, .load true 5 (.t 69), false⟩, ⟨some 71, none, .move (.t 1), false⟩, ⟨some 72, none, .bin .sub false (.t 71) (.i 1), false⟩, ⟨some 73, none, .move (.t 5), false⟩, ⟨some 74, none, .bin .sub false (.t 72) (.t 73), false⟩, ⟨some 75, none, .call (.f n_i_countParts) [(.t 70), (.t 74)], true⟩, ⟨some 6, none, .assign none (.t 75), false⟩])
@[reducible] noncomputable def c_i_countParts_41 : CCode := .keep [77, 6, 5] (.region 2 none [⟨some 76, none, .move (.t 6), false⟩, ⟨some 77, none, .bin .lss false (.t 76) (.i 0), false⟩])
@[reducible] noncomputable def c_i_countParts_42 : CCode := .keep [4] (.region 1 none [⟨some 4, none, .assign none (.i (-1)), false⟩])
@[reducible] noncomputable def c_i_countParts_43 : CCode := .seq c_i_countParts_42 .ret
@[reducible] noncomputable def c_i_countParts_44 : CCode := .cond (.t 77) c_i_countParts_43 .skip
@[reducible] noncomputable def c_i_countParts_45 : CCode := .seq c_i_countParts_41 c_i_countParts_44
@[reducible] noncomputable def c_i_countParts_46 : CCode := .keep [4] (.region 5 none [⟨some 78, none, .move (.t 5), false⟩, ⟨some 79, none, .bin .add false (.i 1) (.t 78), false⟩, ⟨some 80, none, .move (.t 6), false⟩, ⟨some 81, none, .bin .add false (.t 79) (.t 80), false⟩, ⟨some 4, none, .assign none (.t 81), false⟩])
@[reducible] noncomputable def c_i_countParts_47 : CCode := .seq c_i_countParts_46 .ret
@[reducible] noncomputable def c_i_countParts_48 : CCode := .seq c_i_countParts_45 c_i_countParts_47
@[reducible] noncomputable def c_i_countParts_49 : CCode := .seq c_i_countParts_40 c_i_countParts_48
@[reducible] noncomputable def c_i_countParts_50 : CCode := .seq c_i_countParts_39 c_i_countParts_49
@[reducible] noncomputable def c_i_countParts_51 : CCode := .seq c_i_countParts_34 c_i_countParts_50
@[reducible] noncomputable def c_i_countParts_52 : CCode := .seq c_i_countParts_33 c_i_countParts_51
@[reducible] noncomputable def c_i_countParts_53 : CCode := .cond (.t 42) c_i_countParts_52 .skip
@[reducible] noncomputable def c_i_countParts_54 : CCode := .seq c_i_countParts_28 c_i_countParts_53
@[reducible] noncomputable def c_i_countParts_55 : CCode := .cond (.t 31) c_i_countParts_24 c_i_countParts_54
@[reducible] noncomputable def c_i_countParts_56 : CCode := .seq c_i_countParts_16 c_i_countParts_55
@[reducible] noncomputable def c_i_countParts_57 : CCode := .cond (.t 11) c_i_countParts_15 c_i_countParts_56
@[reducible] noncomputable def c_i_countParts_58 : CCode := .seq c_i_countParts_7 c_i_countParts_57
@[reducible] noncomputable def c_i_countParts_59 : CCode := .block 0 c_i_countParts_58
@[reducible] noncomputable def c_i_countParts_60 : CCode := .seq c_i_countParts_6 c_i_countParts_59
@[reducible] noncomputable def c_i_countParts_61 : CCode := .keep [4] (.region 1 none [⟨some 4, none, .assign none (.i (-1)), false⟩])
@[reducible] noncomputable def c_i_countParts_62 : CCode := .seq c_i_countParts_61 .ret
@[reducible] noncomputable def c_i_countParts_63 : CCode := .seq c_i_countParts_60 c_i_countParts_62
@[reducible] noncomputable def c_i_countParts_64 : CCode := .seq c_i_countParts_5 c_i_countParts_63
@[reducible] noncomputable def c_i_countParts_65 : CCode := .seq c_i_countParts_0 c_i_countParts_64
noncomputable def f_i_countParts : CFun := ⟨82, [.tmp 4], c_i_countParts_65⟩
@[reducible] noncomputable def c_i_paneFills_0 : CCode := .keep [5, 4, 3, 2, 1] (.region 2 none [⟨some 5, none, .box (.t 0), false⟩, ⟨some 10, none, .assign none (.b false), false⟩])
@[reducible] noncomputable def c_i_paneFills_1 : CCode := .keep [20, 5, 4, 3, 2, 1] (.region 9 none [⟨some 12, none, .move (.t 1), false⟩, ⟨some 13, none, .bin .lss false (.t 12) (.i 0), false⟩, ⟨some 14, none, .move (.t 13), false⟩, ⟨some 15, some (14, false), .move (.t 1), false⟩, ⟨some 16, some (14, false), .shift 2 (.t 5), false⟩, ⟨some 17, some (14, false), .load false 1 (.t 16), false⟩, ⟨some 18, some (14, false), .len (.t 17), false⟩, ⟨some 19, some (14, false), .bin .geq false (.t 15) (.t 18), false⟩, ⟨some 20, none, .pick (.t 14) (.b true) (.t 19), false⟩])
@[reducible] noncomputable def c_i_paneFills_2 : CCode := .keep [10] (.region 1 none [⟨some 10, none, .assign none (.b false), false⟩])
@[reducible] noncomputable def c_i_paneFills_3 : CCode := .seq c_i_paneFills_2 .ret
@[reducible] noncomputable def c_i_paneFills_4 : CCode := .cond (.t 20) c_i_paneFills_3 .skip
@[reducible] noncomputable def c_i_paneFills_5 : CCode := .seq c_i_paneFills_1 c_i_paneFills_4
@[reducible] noncomputable def c_i_paneFills_6 : CCode := .keep [11, 4, 3, 2] (.region 7 none [⟨some 21, none, .shift 2 (.t 5), false⟩, ⟨some 22, none, .load false 1 (.t 21), false⟩, ⟨some 23, none, .move (.t 1), false⟩, ⟨some 24, none, .iaS 4 (.t 22) (.t 23), false⟩, ⟨some 25, none, .load true 4 (.t 24), false⟩, ⟨some 11, none, .alloc [none, none, none, none] [(.d (.int .i64 0)), (.d (.int .i64 0)), (.d (.bool false)), (.d (.int .i64 0))], false⟩, ⟨none, none, .store [none, none, none, none] 4 (.t 11) (.t 25), false⟩])
@[reducible] noncomputable def c_i_paneFills_7 : CCode := .keep [26, 11, 4, 3] (.region 1 none [⟨some 26, none, .move (.t 2), false⟩])
@[reducible] noncomputable def c_i_paneFills_8 : CCode := .keep [10] (.region 22 none [⟨some 27, none, .shift 2 (.t 11), false⟩, ⟨some 28, none, .load false 1 (.t 27), false⟩, ⟨some 29, none, .move (.t 28), false⟩, ⟨some 30, some (29, true), .shift 0 (.t 11), false⟩, ⟨some 31, some (29, true), .load false 1 (.t 30), false⟩, ⟨some 32, some (29, true), .shift 1 (.t 11), false⟩, ⟨some 33, some (29, true), .load false 1 (.t 32), false⟩, ⟨some 34, some (29, true), .bin .neq false (.t 31) (.t 33), false⟩, ⟨some 35, none, .pick (.t 29) (.t 34) (.b false), false⟩, ⟨some 36, none, .move (.t 35), false⟩, ⟨some 37, some (36, true), .shift 1 (.t 11), false⟩, ⟨some 38, some (36, true), .load false 1 (.t 37), false⟩, ⟨some 39, some (36, true), .move (.t 3), false⟩, ⟨some 40, some (36, true), .bin .eql false (.t 38) (.t 39), false⟩, ⟨some 41, none, .pick (.t 36) (.t 40) (.b false), false⟩, ⟨some 42, none, .move (.t 41), false⟩, ⟨some 43, some (42, true), .shift 0 (.t 11), false⟩, ⟨some 44, some (42, true), .load false 1 (.t 43), false⟩, ⟨some 45, some (42, true), .move (.t 4), false⟩, ⟨some 46, some (42, true), .bin .eql false (.t 44) (.t 45), false⟩, ⟨some 47, none, .pick (.t 42) (.t 46) (.b false), false⟩, ⟨some 10, none, .assign none (.t 47), false⟩])
@[reducible] noncomputable def c_i_paneFills_9 : CCode := .seq c_i_paneFills_8 .ret
@[reducible] noncomputable def c_i_paneFills_10 : CCode := .cond (.t 26) c_i_paneFills_9 .skip
@[reducible] noncomputable def c_i_paneFills_11 : CCode := .seq c_i_paneFills_7 c_i_paneFills_10
@[reducible] noncomputable def c_i_paneFills_12 : CCode := .keep [10] (.region 11 none [⟨some 48, none, .shift 0 (.t 11), false⟩, ⟨some 49, none, .load false 1 (.t 48), false⟩, ⟨some 50, none, .move (.t 3), false⟩, ⟨some 51, none, .bin .eql false (.t 49) (.t 50), false⟩, ⟨some 52, none, .move (.t 51), false⟩, ⟨some 53, some (52, true), .shift 1 (.t 11), false⟩, ⟨some 54, some (52, true), .load false 1 (.t 53), false⟩, ⟨some 55, some (52, true), .move (.t 4), false⟩, ⟨some 56, some (52, true), .bin .eql false (.t 54) (.t 55), false⟩, ⟨some 57, none, .pick (.t 52) (.t 56) (.b false), false⟩, ⟨some 10, none, .assign none (.t 57), false⟩])
@[reducible] noncomputable def c_i_paneFills_13 : CCode := .seq c_i_paneFills_12 .ret
@[reducible] noncomputable def c_i_paneFills_14 : CCode := .seq c_i_paneFills_11 c_i_paneFills_13
@[reducible] noncomputable def c_i_paneFills_15 : CCode := .seq c_i_paneFills_6 c_i_paneFills_14
@[reducible] noncomputable def c_i_paneFills_16 : CCode := .seq c_i_paneFills_5 c_i_paneFills_15
@[reducible] noncomputable def c_i_paneFills_17 : CCode := .seq c_i_paneFills_0 c_i_paneFills_16
noncomputable def f_i_paneFills : CFun := ⟨58, [.tmp 10], c_i_paneFills_17⟩
@[reducible] noncomputable def c_i_splitBox_0 : CCode := .keep [5, 4, 3, 2] (.region 4 none [⟨some 2, none, .box (.t 0), false⟩, ⟨some 3, none, .box (.t 1), false⟩, ⟨some 4, none, .alloc [none, none, none, none] [(.d (.int .i64 0)), (.d (.int .i64 0)), (.d (.int .i64 0)), (.d (.int .i64 0))], false⟩, ⟨some 5, none, .alloc [none, none, none, none] [(.d (.int .i64 0)), (.d (.int .i64 0)), (.d (.int .i64 0)), (.d (.int .i64 0))], false⟩])
@[reducible] noncomputable def c_i_splitBox_1 : CCode := .keep [7, 6, 5, 4, 2] (.region 6 (some [(1, 4)]) [⟨some 8, none, .load true 4 (.t 3), false⟩, ⟨some 9, none, .load true 4 (.t 3), false⟩, ⟨some 6, none, .alloc [none, none, none, none] [(.d (.int .i64 0)), (.d (.int .i64 0)), (.d (.int .i64 0)), (.d (.int .i64 0))], false⟩, ⟨some 7, none, .alloc [none, none, none, none] [(.d (.int .i64 0)), (.d (.int .i64 0)), (.d (.int .i64 0)), (.d (.int .i64 0))], false⟩, ⟨none, none, .store [none, none, none, none] 4 (.t 6) (.t 8), false⟩, ⟨none, none, .store [none, none, none, none] 4 (.t 7) (.t 9), false⟩])
@[reducible] noncomputable def c_i_splitBox_2 : CCode := .keep [12, 7, 6, 5, 4, 2] (.region 3 none [⟨some 10, none, .shift 0 (.t 2), false⟩, ⟨some 11, none, .load false 1 (.t 10), false⟩, ⟨some 12, none, .bin .eql false (.t 11) (.i 2), false⟩])
@[reducible] noncomputable def c_i_splitBox_3 : CCode := .keep [7, 6, 5, 4, 2] (.region 4 none [⟨some 13, none, .shift 1 (.t 2), false⟩, ⟨some 14, none, .load false 1 (.t 13), false⟩, ⟨some 15, none, .shift 2 (.t 6), false⟩, ⟨none, none, .store [none] 1 (.t 15) (.t 14), false⟩])
@[reducible] noncomputable def c_i_splitBox_4 : CCode := .keep [7, 6, 5, 4, 2] (.region 7 none [⟨some 16, none, .shift 0 (.t 7), false⟩, ⟨some 17, none, .load false 1 (.t 16), false⟩, ⟨some 18, none, .shift 1 (.t 2), false⟩, ⟨some 19, none, .load false 1 (.t 18), false⟩, ⟨some 20, none, .bin .add false (.t 17) (.t 19), false⟩, ⟨some 21, none, .shift 0 (.t 7), false⟩, ⟨none, none, .store [none] 1 (.t 21) (.t 20), false⟩])
@[reducible] noncomputable def c_i_splitBox_5 : CCode := .keep [7, 6, 5, 4] (.region 7 none [⟨some 22, none, .shift 2 (.t 7), false⟩, ⟨some 23, none, .load false 1 (.t 22), false⟩, ⟨some 24, none, .shift 1 (.t 2), false⟩, ⟨some 25, none, .load false 1 (.t 24), false⟩, ⟨some 26, none, .bin .sub false (.t 23) (.t 25), false⟩, ⟨some 27, none, .shift 2 (.t 7), false⟩, ⟨none, none, .store [none] 1 (.t 27) (.t 26), false⟩])
@[reducible] noncomputable def c_i_splitBox_6 : CCode := .seq c_i_splitBox_4 c_i_splitBox_5
@[reducible] noncomputable def c_i_splitBox_7 : CCode := .seq c_i_splitBox_3 c_i_splitBox_6
@[reducible] noncomputable def c_i_splitBox_8 : CCode := .keep [7, 6, 5, 4, 2] (.region 4 none [⟨some 28, none, .shift 1 (.t 2), false⟩, ⟨some 29, none, .load false 1 (.t 28), false⟩, ⟨some 30, none, .shift 3 (.t 6), false⟩, ⟨none, none, .store [none] 1 (.t 30) (.t 29), false⟩])
@[reducible] noncomputable def c_i_splitBox_9 : CCode := .keep [7, 6, 5, 4, 2] (.region 7 none [⟨some 31, none, .shift 1 (.t 7), false⟩, ⟨some 32, none, .load false 1 (.t 31), false⟩, ⟨some 33, none, .shift 1 (.t 2), false⟩, ⟨some 34, none, .load false 1 (.t 33), false⟩, ⟨some 35, none, .bin .add false (.t 32) (.t 34), false⟩, ⟨some 36, none, .shift 1 (.t 7), false⟩, ⟨none, none, .store [none] 1 (.t 36) (.t 35), false⟩])
@[reducible] noncomputable def c_i_splitBox_10 : CCode := .keep [7, 6, 5, 4] (.region 7 none [⟨some 37, none, .shift 3 (.t 7), false⟩, ⟨some 38, none, .load false 1 (.t 37), false⟩, ⟨some 39, none, .shift 1 (.t 2), false⟩, ⟨some 40, none, .load false 1 (.t 39), false⟩, ⟨some 41, none, .bin .sub false (.t 38) (.t 40), false⟩, ⟨some 42, none, .shift 3 (.t 7), false⟩, ⟨none, none, .store [none] 1 (.t 42) (.t 41), false⟩])
@[reducible] noncomputable def c_i_splitBox_11 : CCode := .seq c_i_splitBox_9 c_i_splitBox_10
@[reducible] noncomputable def c_i_splitBox_12 : CCode := .seq c_i_splitBox_8 c_i_splitBox_11
@[reducible] noncomputable def c_i_splitBox_13 : CCode := .cond (.t 12) c_i_splitBox_7 c_i_splitBox_12
@[reducible] noncomputable def c_i_splitBox_14 : CCode := .seq c_i_splitBox_2 c_i_splitBox_13
@[reducible] noncomputable def c_i_splitBox_15 : CCode := .keep [5, 4] (.region 4 (some [(1, 2)]) [⟨some 43, none, .load true 4 (.t 6), false⟩, ⟨some 44, none, .load true 4 (.t 7), false⟩, ⟨none, none, .store [none, none, none, none] 4 (.t 4) (.t 43), false⟩, ⟨none, none, .store [none, none, none, none] 4 (.t 5) (.t 44), false⟩])
@[reducible] noncomputable def c_i_splitBox_16 : CCode := .seq c_i_splitBox_15 .ret
@[reducible] noncomputable def c_i_splitBox_17 : CCode := .seq c_i_splitBox_14 c_i_splitBox_16
@[reducible] noncomputable def c_i_splitBox_18 : CCode := .seq c_i_splitBox_1 c_i_splitBox_17
@[reducible] noncomputable def c_i_splitBox_19 : CCode := .seq c_i_splitBox_0 c_i_splitBox_18
noncomputable def f_i_splitBox : CFun := ⟨45, [.cell 4 true 4, .cell 5 true 4], c_i_splitBox_19⟩
@[reducible] noncomputable def c_i_isCut_0 : CCode := .keep [1] (.region 2 none [⟨some 1, none, .box (.t 0), false⟩, ⟨some 2, none, .assign none (.b false), false⟩])
@[reducible] noncomputable def c_i_isCut_1 : CCode := .keep [2] (.region 9 none [⟨some 3, none, .shift 0 (.t 1), false⟩, ⟨some 4, none, .load false 1 (.t 3), false⟩, ⟨some 5, none, .bin .eql false (.t 4) (.i 2), false⟩, ⟨some 6, none, .move (.t 5), false⟩, ⟨some 7, some (6, false), .shift 0 (.t 1), false⟩, ⟨some 8, some (6, false), .load false 1 (.t 7), false⟩, ⟨some 9, some (6, false), .bin .eql false (.t 8) (.i 3), false⟩, ⟨some 10, none, .pick (.t 6) (.b true) (.t 9), false⟩, ⟨some 2, none, .assign none (.t 10), false⟩])
@[reducible] noncomputable def c_i_isCut_2 : CCode := .seq c_i_isCut_1 .ret
@[reducible] noncomputable def c_i_isCut_3 : CCode := .seq c_i_isCut_0 c_i_isCut_2
noncomputable def f_i_isCut : CFun := ⟨11, [.tmp 2], c_i_isCut_3⟩
@[reducible] noncomputable def c_s_somePiece_0 : CCode := .region 1 none [⟨some 4, none, .alloc [none, none, none, (some 4)] [(.d (.int .i64 0)), (.d (.int .i64 0)), (.d (.int .i64 0)), .nil], false⟩]
@[reducible] noncomputable def c_s_somePiece_1 : CCode := .keep [5, 4, 0] (.region 10 none [⟨some 8, none, .move (.t 1), false⟩, ⟨some 9, none, .move (.t 0), false⟩, ⟨some 10, none, .buildSl 1 [(.i 12), (.i 20), (.i 8), (.i 6), (.i 30)], false⟩, ⟨some 11, none, .call (.f n_s_reader_one) [(.t 9), (.t 10)], true⟩, ⟨some 12, none, .move (.t 0), false⟩, ⟨some 13, none, .buildSl 1 [(.i 10), (.i 16), (.i 8), (.i 6), (.i 24)], false⟩, ⟨some 14, none, .call (.f n_s_reader_one) [(.t 12), (.t 13)], true⟩, ⟨some 15, none, .build [(.d (.int .i64 0)), (.d (.int .i64 0)), (.d (.int .i64 0)), .nil] [(0, 1, (.t 8)), (1, 1, (.t 11)), (2, 1, (.t 14))], false⟩, ⟨some 5, none, .alloc [none, none, none, (some 4)] [(.d (.int .i64 0)), (.d (.int .i64 0)), (.d (.int .i64 0)), .nil], false⟩, ⟨none, none, .store [none, none, none, (some 4)] 4 (.t 5) (.t 15), false⟩])
@[reducible] noncomputable def c_s_somePiece_2 : CCode := .keep [6, 5, 4, 0] (.region 4 none [⟨some 16, none, .move (.t 0), false⟩, ⟨some 17, none, .buildSl 1 [(.i 0), (.i 1), (.i 2), (.i 3), (.i 0)], true⟩, ⟨some 18, none, .call (.f n_s_reader_one) [(.t 16), (.t 17)], true⟩, ⟨some 6, none, .assign none (.t 18), false⟩])
@[reducible] noncomputable def c_s_somePiece_3 : CCode := .keep [20, 6, 5, 4, 0] (.region 2 none [⟨some 19, none, .move (.t 6), false⟩, ⟨some 20, none, .bin .gtr false (.t 19) (.i 0), false⟩])
@[reducible] noncomputable def c_s_somePiece_4 : CCode := .cond (.t 20) .skip (.exit 0)
@[reducible] noncomputable def c_s_somePiece_5 : CCode := .seq c_s_somePiece_3 c_s_somePiece_4
@[reducible] noncomputable def c_s_somePiece_6 : CCode := .keep [7, 6, 5, 4, 0] (.region 8 none [⟨some 23, none, .move (.t 0), false⟩, ⟨some 24, none, .shift 1 (.t 5), false⟩, ⟨some 25, none, .load false 1 (.t 24), false⟩, ⟨some 26, none, .shift 2 (.t 5), false⟩, ⟨some 27, none, .load false 1 (.t 26), false⟩, ⟨some 28, none, .call (.f n_s_someBox) [(.t 23), (.t 25), (.t 27)], true⟩, ⟨some 7, none, .alloc [none, none, none, none] [(.d (.int .i64 0)), (.d (.int .i64 0)), (.d (.int .i64 0)), (.d (.int .i64 0))], false⟩, ⟨none, none, .store [none, none, none, none] 4 (.t 7) (.t 28), false⟩])
@[reducible] noncomputable def c_s_somePiece_7 : CCode := .keep [7, 6, 5, 4, 0] (.region 5 none [⟨some 29, none, .shift 2 (.t 7), false⟩, ⟨some 30, none, .load false 1 (.t 29), false⟩, ⟨some 31, none, .min (.t 30) (.i 3), false⟩, ⟨some 32, none, .shift 2 (.t 7), false⟩, ⟨none, none, .store [none] 1 (.t 32) (.t 31), false⟩])
@[reducible] noncomputable def c_s_somePiece_8 : CCode := .keep [7, 6, 5, 4, 0] (.region 5 none [⟨some 33, none, .shift 3 (.t 7), false⟩, ⟨some 34, none, .load false 1 (.t 33), false⟩, ⟨some 35, none, .min (.t 34) (.i 3), false⟩, ⟨some 36, none, .shift 3 (.t 7), false⟩, ⟨none, none, .store [none] 1 (.t 36) (.t 35), false⟩])
@[reducible] noncomputable def c_s_somePiece_9 : CCode := .keep [6, 5, 4, 0] (.region 7 none [⟨some 37, none, .shift 3 (.t 5), false⟩, ⟨some 38, none, .load false 1 (.t 37), false⟩, ⟨some 39, none, .load true 4 (.t 7), false⟩, ⟨some 40, none, .buildSl 4 [(.t 39)], false⟩, ⟨some 41, none, .append 4 32 false true (.t 38) (.t 40), true⟩, ⟨some 42, none, .shift 3 (.t 5), false⟩, ⟨none, none, .store [(some 4)] 1 (.t 42) (.t 41), false⟩])
@[reducible] noncomputable def c_s_somePiece_10 : CCode := .seq c_s_somePiece_8 c_s_somePiece_9
@[reducible] noncomputable def c_s_somePiece_11 : CCode := .seq c_s_somePiece_7 c_s_somePiece_10
@[reducible] noncomputable def c_s_somePiece_12 : CCode := .seq c_s_somePiece_6 c_s_somePiece_11
@[reducible] noncomputable def c_s_somePiece_13 : CCode := .block 1 c_s_somePiece_12
@[reducible] noncomputable def c_s_somePiece_14 : CCode := .keep [6, 5, 4, 0] (.region 3 none [⟨some 21, none, .move (.t 6), false⟩, ⟨some 22, none, .bin .sub false (.t 21) (.i 1), false⟩, ⟨some 6, none, .assign none (.t 22), false⟩])
@[reducible] noncomputable def c_s_somePiece_15 : CCode := .seq c_s_somePiece_13 c_s_somePiece_14
@[reducible] noncomputable def c_s_somePiece_16 : CCode := .seq c_s_somePiece_5 c_s_somePiece_15
@[reducible] noncomputable def c_s_somePiece_17 : CCode := .loop c_s_somePiece_16
@[reducible] noncomputable def c_s_somePiece_18 : CCode := .block 0 c_s_somePiece_17
@[reducible] noncomputable def c_s_somePiece_19 : CCode := .seq c_s_somePiece_2 c_s_somePiece_18
@[reducible] noncomputable def c_s_somePiece_20 : CCode := .keep [4] (.region 2 none [⟨some 43, none, .load true 4 (.t 5), false⟩, ⟨none, none, .store [none, none, none, (some 4)] 4 (.t 4) (.t 43), false⟩])
@[reducible] noncomputable def c_s_somePiece_21 : CCode := .seq c_s_somePiece_20 .ret
@[reducible] noncomputable def c_s_somePiece_22 : CCode := .seq c_s_somePiece_19 c_s_somePiece_21
@[reducible] noncomputable def c_s_somePiece_23 : CCode := .seq c_s_somePiece_1 c_s_somePiece_22
@[reducible] noncomputable def c_s_somePiece_24 : CCode := .seq c_s_somePiece_0 c_s_somePiece_23
noncomputable def f_s_somePiece : CFun := ⟨44, [.cell 4 true 4], c_s_somePiece_24⟩
@[reducible] noncomputable def c_s_validPanes_0 : CCode := .keep [0] (.region 1 none [⟨some 2, none, .assign none (.b false), false⟩])
@[reducible] noncomputable def c_s_validPanes_1 : CCode := .region 1 none [⟨some 3, none, .assign none (.i 0), false⟩]
@[reducible] noncomputable def c_s_validPanes_2 : CCode := .keep [7, 3, 0] (.region 4 none [⟨some 4, none, .move (.t 3), false⟩, ⟨some 5, none, .move (.t 0), false⟩, ⟨some 6, none, .len (.t 5), false⟩, ⟨some 7, none, .bin .lss false (.t 4) (.t 6), false⟩])
@[reducible] noncomputable def c_s_validPanes_3 : CCode := .cond (.t 7) .skip (.exit 0)
@[reducible] noncomputable def c_s_validPanes_4 : CCode := .seq c_s_validPanes_2 c_s_validPanes_3
@[reducible] noncomputable def c_s_validPanes_5 : CCode := .keep [15, 3, 0] (.region 6 none [⟨some 10, none, .move (.t 0), false⟩, ⟨some 11, none, .move (.t 3), false⟩, ⟨some 12, none, .iaS 4 (.t 10) (.t 11), false⟩, ⟨some 13, none, .load true 4 (.t 12), false⟩, ⟨some 14, none, .call (.f n_s_validPane) [(.t 13)], true⟩, ⟨some 15, none, .un .not (.t 14), false⟩])
@[reducible] noncomputable def c_s_validPanes_6 : CCode := .keep [2] (.region 1 none [⟨some 2, none, .assign none (.b false), false⟩])
@[reducible] noncomputable def c_s_validPanes_7 : CCode := .seq c_s_validPanes_6 .ret
@[reducible] noncomputable def c_s_validPanes_8 : CCode := .cond (.t 15) c_s_validPanes_7 .skip
@[reducible] noncomputable def c_s_validPanes_9 : CCode := .seq c_s_validPanes_5 c_s_validPanes_8
@[reducible] noncomputable def c_s_validPanes_10 : CCode := .block 1 c_s_validPanes_9
@[reducible] noncomputable def c_s_validPanes_11 : CCode := .keep [3, 0] (.region 3 none [⟨some 8, none, .move (.t 3), false⟩, ⟨some 9, none, .bin .add false (.t 8) (.i 1), false⟩, ⟨some 3, none, .assign none (.t 9), false⟩])
@[reducible] noncomputable def c_s_validPanes_12 : CCode := .seq c_s_validPanes_10 c_s_validPanes_11
@[reducible] noncomputable def c_s_validPanes_13 : CCode := .seq c_s_validPanes_4 c_s_validPanes_12
@[reducible] noncomputable def c_s_validPanes_14 : CCode := .loop c_s_validPanes_13
@[reducible] noncomputable def c_s_validPanes_15 : CCode := .block 0 c_s_validPanes_14
@[reducible] noncomputable def c_s_validPanes_16 : CCode := .seq c_s_validPanes_1 c_s_validPanes_15
@[reducible] noncomputable def c_s_validPanes_17 : CCode := .keep [2] (.region 4 none [⟨some 16, none, .move (.t 0), false⟩, ⟨some 17, none, .len (.t 16), false⟩, ⟨some 18, none, .bin .leq false (.t 17) (.i 24), false⟩, ⟨some 2, none, .assign none (.t 18), false⟩])
@[reducible] noncomputable def c_s_validPanes_18 : CCode := .seq c_s_validPanes_17 .ret
@[reducible] noncomputable def c_s_validPanes_19 : CCode := .seq c_s_validPanes_16 c_s_validPanes_18
@[reducible] noncomputable def c_s_validPanes_20 : CCode := .seq c_s_validPanes_0 c_s_validPanes_19
noncomputable def f_s_validPanes : CFun := ⟨19, [.tmp 2], c_s_validPanes_20⟩
@[reducible] noncomputable def c_s_isCut_0 : CCode := .keep [1] (.region 2 none [⟨some 1, none, .box (.t 0), false⟩, ⟨some 2, none, .assign none (.b false), false⟩])
@[reducible] noncomputable def c_s_isCut_1 : CCode := .keep [2] (.region 9 none [⟨some 3, none, .shift 0 (.t 1), false⟩, ⟨some 4, none, .load false 1 (.t 3), false⟩, ⟨some 5, none, .bin .eql false (.t 4) (.i 2), false⟩, ⟨some 6, none, .move (.t 5), false⟩, ⟨some 7, some (6, false), .shift 0 (.t 1), false⟩, ⟨some 8, some (6, false), .load false 1 (.t 7), false⟩, ⟨some 9, some (6, false), .bin .eql false (.t 8) (.i 3), false⟩, ⟨some 10, none, .pick (.t 6) (.b true) (.t 9), false⟩, ⟨some 2, none, .assign none (.t 10), false⟩])
@[reducible] noncomputable def c_s_isCut_2 : CCode := .seq c_s_isCut_1 .ret
@[reducible] noncomputable def c_s_isCut_3 : CCode := .seq c_s_isCut_0 c_s_isCut_2
noncomputable def f_s_isCut : CFun := ⟨11, [.tmp 2], c_s_isCut_3⟩
@[reducible] noncomputable def c_s_validPane_0 : CCode := .keep [1] (.region 2 none [⟨some 1, none, .box (.t 0), false⟩, ⟨some 2, none, .assign none (.b false), false⟩])
@[reducible] noncomputable def c_s_validPane_1 : CCode := .keep [2] (.region 14 none [⟨some 3, none, .shift 0 (.t 1), false⟩, ⟨some 4, none, .load false 1 (.t 3), false⟩, ⟨some 5, none, .call (.f n_s_inRange) [(.t 4), (.i 1), (.i 200)], true⟩, ⟨some 6, none, .move (.t 5), false⟩, ⟨some 7, some (6, true), .shift 1 (.t 1), false⟩, ⟨some 8, some (6, true), .load false 1 (.t 7), false⟩, ⟨some 9, some (6, true), .call (.f n_s_inRange) [(.t 8), (.i 1), (.i 200)], true⟩, ⟨some 10, none, .pick (.t 6) (.t 9) (.b false), false⟩, ⟨some 11, none, .move (.t 10), false⟩, ⟨some 12, some (11, true), .shift 3 (.t 1), false⟩, ⟨some 13, some (11, true), .load false 1 (.t 12), false⟩, ⟨some 14, some (11, true), .call (.f n_s_inRange) [(.t 13), (.i 0), (.i 9)], true⟩, ⟨some 15, none, .pick (.t 11) (.t 14) (.b false), false⟩, ⟨some 2, none, .assign none (.t 15), false⟩])
@[reducible] noncomputable def c_s_validPane_2 : CCode := .seq c_s_validPane_1 .ret
@[reducible] noncomputable def c_s_validPane_3 : CCode := .seq c_s_validPane_0 c_s_validPane_2
noncomputable def f_s_validPane : CFun := ⟨16, [.tmp 2], c_s_validPane_3⟩
noncomputable def tbl : List (Nat × Go.Abs.Fn) := [(n_l_FnCutStock, .text f_l_FnCutStock), (n_l_equalStock, .text f_l_equalStock), (n_i_ValidPiece, .text f_i_ValidPiece), (n_i_LostArea, .text f_i_LostArea), (n_l_area, .text f_l_area), (n_l_boxesOf, .text f_l_boxesOf), (n_i_PlacesOf, .text f_i_PlacesOf), (n_i_GoodPlan, .text f_i_GoodPlan), (n_i_CutStock, .text f_i_CutStock), (n_i_WastesOf, .text f_i_WastesOf), (n_i_StockArea, .text f_i_StockArea), (n_s_DrawCutStock, .text f_s_DrawCutStock), (n_s_CutStock, .text f_s_CutStock), (n_i_TakePiece, .text f_i_TakePiece), (n_i_ValidStock, .text f_i_ValidStock), (n_s_newReader, .text f_s_newReader), (n_s_planPiece, .text f_s_planPiece), (n_s_reader_one, .text f_s_reader_one), (n_i_cutRemnants, .text f_i_cutRemnants), (n_l_equalPiece, .text f_l_equalPiece), (n_s_validPiece, .text f_s_validPiece), (n_s_goodPlan, .text f_s_goodPlan), (n_s_inRange, .text f_s_inRange), (n_s_remnants, .text f_s_remnants), (n_i_ValidBox, .text f_i_ValidBox), (n_i_pieceBox, .text f_i_pieceBox), (n_i_InsideOf, .text f_i_InsideOf), (n_i_ValidPlan, .text f_i_ValidPlan), (n_i_boxArea, .text f_i_boxArea), (n_i_partsOf, .text f_i_partsOf), (n_i_meetsFlaw, .text f_i_meetsFlaw), (n_s_anyStock, .text f_s_anyStock), (n_s_reader_pick, .text f_s_reader_pick), (n_s_validStock, .text f_s_validStock), (n_s_findLabel, .text f_s_findLabel), (n_s_without, .text f_s_without), (n_s_lastLabel, .text f_s_lastLabel), (n_i_findLabel, .text f_i_findLabel), (n_i_copyStock, .text f_i_copyStock), (n_i_copyPiece, .text f_i_copyPiece), (n_s_workPlan, .text f_s_workPlan), (n_s_wastesOf, .text f_s_wastesOf), (n_s_someBox, .text f_s_someBox), (n_i_keptWastes, .text f_i_keptWastes), (n_i_CutOut, .text f_i_CutOut), (n_l_equalBoxes, .text f_l_equalBoxes), (n_s_validBox, .text f_s_validBox), (n_s_insideOf, .text f_s_insideOf), (n_s_validPlan, .text f_s_validPlan), (n_s_placesOf, .text f_s_placesOf), (n_s_clearAt, .text f_s_clearAt), (n_s_isRemnant, .text f_s_isRemnant), (n_s_cutOut, .text f_s_cutOut), (n_i_MeetOf, .text f_i_MeetOf), (n_i_ValidWork, .text f_i_ValidWork), (n_i_PlanSize, .text f_i_PlanSize), (n_i_planFits, .text f_i_planFits), (n_i_sheetOf, .text f_i_sheetOf), (n_i_addParts, .text f_i_addParts), (n_s_someStock, .text f_s_someStock), (n_s_copyPiece, .text f_s_copyPiece), (n_slices_IndexFunc_g, .text f_slices_IndexFunc_g), (n_i_findLabel_1, .text f_i_findLabel_1), (n_s_grow, .text f_s_grow), (n_s_spread, .text f_s_spread), (n_s_validWork, .text f_s_validWork), (n_s_planSize, .text f_s_planSize), (n_s_fitsPlan, .text f_s_fitsPlan), (n_s_meetOf, .text f_s_meetOf), (n_i_ValidPane, .text f_i_ValidPane), (n_i_countParts, .text f_i_countParts), (n_i_paneFills, .text f_i_paneFills), (n_i_splitBox, .text f_i_splitBox), (n_i_isCut, .text f_i_isCut), (n_s_somePiece, .text f_s_somePiece), (n_s_validPanes, .text f_s_validPanes), (n_s_isCut, .text f_s_isCut), (n_s_validPane, .text f_s_validPane)]
noncomputable def Xs : Fns := fun f => lkp tbl f
def mtbl : List (Nat × Nat) := [(n_i_addParts, 0)]
def Ms : Modes := fun f i => (f == n_i_addParts && i == 0)
theorem x_l_FnCutStock : Xs n_l_FnCutStock = some (.text f_l_FnCutStock) := rfl
@[go_sem] theorem m0_l_FnCutStock : Ms n_l_FnCutStock 0 = false := rfl
@[go_sem] theorem m1_l_FnCutStock : Ms n_l_FnCutStock 1 = false := rfl
@[go_sem] theorem m2_l_FnCutStock : Ms n_l_FnCutStock 2 = false := rfl
@[go_sem] theorem m3_l_FnCutStock : Ms n_l_FnCutStock 3 = false := rfl
@[go_sem] theorem m4_l_FnCutStock : Ms n_l_FnCutStock 4 = false := rfl
@[go_sem] theorem m5_l_FnCutStock : Ms n_l_FnCutStock 5 = false := rfl
theorem x_l_equalStock : Xs n_l_equalStock = some (.text f_l_equalStock) := rfl
@[go_sem] theorem m0_l_equalStock : Ms n_l_equalStock 0 = false := rfl
@[go_sem] theorem m1_l_equalStock : Ms n_l_equalStock 1 = false := rfl
@[go_sem] theorem m2_l_equalStock : Ms n_l_equalStock 2 = false := rfl
@[go_sem] theorem m3_l_equalStock : Ms n_l_equalStock 3 = false := rfl
@[go_sem] theorem m4_l_equalStock : Ms n_l_equalStock 4 = false := rfl
@[go_sem] theorem m5_l_equalStock : Ms n_l_equalStock 5 = false := rfl
theorem x_i_ValidPiece : Xs n_i_ValidPiece = some (.text f_i_ValidPiece) := rfl
@[go_sem] theorem m0_i_ValidPiece : Ms n_i_ValidPiece 0 = false := rfl
@[go_sem] theorem m1_i_ValidPiece : Ms n_i_ValidPiece 1 = false := rfl
@[go_sem] theorem m2_i_ValidPiece : Ms n_i_ValidPiece 2 = false := rfl
@[go_sem] theorem m3_i_ValidPiece : Ms n_i_ValidPiece 3 = false := rfl
@[go_sem] theorem m4_i_ValidPiece : Ms n_i_ValidPiece 4 = false := rfl
@[go_sem] theorem m5_i_ValidPiece : Ms n_i_ValidPiece 5 = false := rfl
theorem x_i_LostArea : Xs n_i_LostArea = some (.text f_i_LostArea) := rfl
@[go_sem] theorem m0_i_LostArea : Ms n_i_LostArea 0 = false := rfl
@[go_sem] theorem m1_i_LostArea : Ms n_i_LostArea 1 = false := rfl
@[go_sem] theorem m2_i_LostArea : Ms n_i_LostArea 2 = false := rfl
@[go_sem] theorem m3_i_LostArea : Ms n_i_LostArea 3 = false := rfl
@[go_sem] theorem m4_i_LostArea : Ms n_i_LostArea 4 = false := rfl
@[go_sem] theorem m5_i_LostArea : Ms n_i_LostArea 5 = false := rfl
theorem x_l_area : Xs n_l_area = some (.text f_l_area) := rfl
@[go_sem] theorem m0_l_area : Ms n_l_area 0 = false := rfl
@[go_sem] theorem m1_l_area : Ms n_l_area 1 = false := rfl
@[go_sem] theorem m2_l_area : Ms n_l_area 2 = false := rfl
@[go_sem] theorem m3_l_area : Ms n_l_area 3 = false := rfl
@[go_sem] theorem m4_l_area : Ms n_l_area 4 = false := rfl
@[go_sem] theorem m5_l_area : Ms n_l_area 5 = false := rfl
theorem x_l_boxesOf : Xs n_l_boxesOf = some (.text f_l_boxesOf) := rfl
@[go_sem] theorem m0_l_boxesOf : Ms n_l_boxesOf 0 = false := rfl
@[go_sem] theorem m1_l_boxesOf : Ms n_l_boxesOf 1 = false := rfl
@[go_sem] theorem m2_l_boxesOf : Ms n_l_boxesOf 2 = false := rfl
@[go_sem] theorem m3_l_boxesOf : Ms n_l_boxesOf 3 = false := rfl
@[go_sem] theorem m4_l_boxesOf : Ms n_l_boxesOf 4 = false := rfl
@[go_sem] theorem m5_l_boxesOf : Ms n_l_boxesOf 5 = false := rfl
theorem x_i_PlacesOf : Xs n_i_PlacesOf = some (.text f_i_PlacesOf) := rfl
@[go_sem] theorem m0_i_PlacesOf : Ms n_i_PlacesOf 0 = false := rfl
@[go_sem] theorem m1_i_PlacesOf : Ms n_i_PlacesOf 1 = false := rfl
@[go_sem] theorem m2_i_PlacesOf : Ms n_i_PlacesOf 2 = false := rfl
@[go_sem] theorem m3_i_PlacesOf : Ms n_i_PlacesOf 3 = false := rfl
@[go_sem] theorem m4_i_PlacesOf : Ms n_i_PlacesOf 4 = false := rfl
@[go_sem] theorem m5_i_PlacesOf : Ms n_i_PlacesOf 5 = false := rfl
theorem x_i_GoodPlan : Xs n_i_GoodPlan = some (.text f_i_GoodPlan) := rfl
@[go_sem] theorem m0_i_GoodPlan : Ms n_i_GoodPlan 0 = false := rfl
@[go_sem] theorem m1_i_GoodPlan : Ms n_i_GoodPlan 1 = false := rfl
@[go_sem] theorem m2_i_GoodPlan : Ms n_i_GoodPlan 2 = false := rfl
@[go_sem] theorem m3_i_GoodPlan : Ms n_i_GoodPlan 3 = false := rfl
@[go_sem] theorem m4_i_GoodPlan : Ms n_i_GoodPlan 4 = false := rfl
@[go_sem] theorem m5_i_GoodPlan : Ms n_i_GoodPlan 5 = false := rfl
theorem x_i_CutStock : Xs n_i_CutStock = some (.text f_i_CutStock) := rfl
@[go_sem] theorem m0_i_CutStock : Ms n_i_CutStock 0 = false := rfl
@[go_sem] theorem m1_i_CutStock : Ms n_i_CutStock 1 = false := rfl
@[go_sem] theorem m2_i_CutStock : Ms n_i_CutStock 2 = false := rfl
@[go_sem] theorem m3_i_CutStock : Ms n_i_CutStock 3 = false := rfl
@[go_sem] theorem m4_i_CutStock : Ms n_i_CutStock 4 = false := rfl
@[go_sem] theorem m5_i_CutStock : Ms n_i_CutStock 5 = false := rfl
theorem x_i_WastesOf : Xs n_i_WastesOf = some (.text f_i_WastesOf) := rfl
@[go_sem] theorem m0_i_WastesOf : Ms n_i_WastesOf 0 = false := rfl
@[go_sem] theorem m1_i_WastesOf : Ms n_i_WastesOf 1 = false := rfl
@[go_sem] theorem m2_i_WastesOf : Ms n_i_WastesOf 2 = false := rfl
@[go_sem] theorem m3_i_WastesOf : Ms n_i_WastesOf 3 = false := rfl
@[go_sem] theorem m4_i_WastesOf : Ms n_i_WastesOf 4 = false := rfl
@[go_sem] theorem m5_i_WastesOf : Ms n_i_WastesOf 5 = false := rfl
theorem x_i_StockArea : Xs n_i_StockArea = some (.text f_i_StockArea) := rfl
@[go_sem] theorem m0_i_StockArea : Ms n_i_StockArea 0 = false := rfl
@[go_sem] theorem m1_i_StockArea : Ms n_i_StockArea 1 = false := rfl
@[go_sem] theorem m2_i_StockArea : Ms n_i_StockArea 2 = false := rfl
@[go_sem] theorem m3_i_StockArea : Ms n_i_StockArea 3 = false := rfl
@[go_sem] theorem m4_i_StockArea : Ms n_i_StockArea 4 = false := rfl
@[go_sem] theorem m5_i_StockArea : Ms n_i_StockArea 5 = false := rfl
theorem x_s_DrawCutStock : Xs n_s_DrawCutStock = some (.text f_s_DrawCutStock) := rfl
@[go_sem] theorem m0_s_DrawCutStock : Ms n_s_DrawCutStock 0 = false := rfl
@[go_sem] theorem m1_s_DrawCutStock : Ms n_s_DrawCutStock 1 = false := rfl
@[go_sem] theorem m2_s_DrawCutStock : Ms n_s_DrawCutStock 2 = false := rfl
@[go_sem] theorem m3_s_DrawCutStock : Ms n_s_DrawCutStock 3 = false := rfl
@[go_sem] theorem m4_s_DrawCutStock : Ms n_s_DrawCutStock 4 = false := rfl
@[go_sem] theorem m5_s_DrawCutStock : Ms n_s_DrawCutStock 5 = false := rfl
theorem x_s_CutStock : Xs n_s_CutStock = some (.text f_s_CutStock) := rfl
@[go_sem] theorem m0_s_CutStock : Ms n_s_CutStock 0 = false := rfl
@[go_sem] theorem m1_s_CutStock : Ms n_s_CutStock 1 = false := rfl
@[go_sem] theorem m2_s_CutStock : Ms n_s_CutStock 2 = false := rfl
@[go_sem] theorem m3_s_CutStock : Ms n_s_CutStock 3 = false := rfl
@[go_sem] theorem m4_s_CutStock : Ms n_s_CutStock 4 = false := rfl
@[go_sem] theorem m5_s_CutStock : Ms n_s_CutStock 5 = false := rfl
theorem x_i_TakePiece : Xs n_i_TakePiece = some (.text f_i_TakePiece) := rfl
@[go_sem] theorem m0_i_TakePiece : Ms n_i_TakePiece 0 = false := rfl
@[go_sem] theorem m1_i_TakePiece : Ms n_i_TakePiece 1 = false := rfl
@[go_sem] theorem m2_i_TakePiece : Ms n_i_TakePiece 2 = false := rfl
@[go_sem] theorem m3_i_TakePiece : Ms n_i_TakePiece 3 = false := rfl
@[go_sem] theorem m4_i_TakePiece : Ms n_i_TakePiece 4 = false := rfl
@[go_sem] theorem m5_i_TakePiece : Ms n_i_TakePiece 5 = false := rfl
theorem x_i_ValidStock : Xs n_i_ValidStock = some (.text f_i_ValidStock) := rfl
@[go_sem] theorem m0_i_ValidStock : Ms n_i_ValidStock 0 = false := rfl
@[go_sem] theorem m1_i_ValidStock : Ms n_i_ValidStock 1 = false := rfl
@[go_sem] theorem m2_i_ValidStock : Ms n_i_ValidStock 2 = false := rfl
@[go_sem] theorem m3_i_ValidStock : Ms n_i_ValidStock 3 = false := rfl
@[go_sem] theorem m4_i_ValidStock : Ms n_i_ValidStock 4 = false := rfl
@[go_sem] theorem m5_i_ValidStock : Ms n_i_ValidStock 5 = false := rfl
theorem x_s_newReader : Xs n_s_newReader = some (.text f_s_newReader) := rfl
@[go_sem] theorem m0_s_newReader : Ms n_s_newReader 0 = false := rfl
@[go_sem] theorem m1_s_newReader : Ms n_s_newReader 1 = false := rfl
@[go_sem] theorem m2_s_newReader : Ms n_s_newReader 2 = false := rfl
@[go_sem] theorem m3_s_newReader : Ms n_s_newReader 3 = false := rfl
@[go_sem] theorem m4_s_newReader : Ms n_s_newReader 4 = false := rfl
@[go_sem] theorem m5_s_newReader : Ms n_s_newReader 5 = false := rfl
theorem x_s_planPiece : Xs n_s_planPiece = some (.text f_s_planPiece) := rfl
@[go_sem] theorem m0_s_planPiece : Ms n_s_planPiece 0 = false := rfl
@[go_sem] theorem m1_s_planPiece : Ms n_s_planPiece 1 = false := rfl
@[go_sem] theorem m2_s_planPiece : Ms n_s_planPiece 2 = false := rfl
@[go_sem] theorem m3_s_planPiece : Ms n_s_planPiece 3 = false := rfl
@[go_sem] theorem m4_s_planPiece : Ms n_s_planPiece 4 = false := rfl
@[go_sem] theorem m5_s_planPiece : Ms n_s_planPiece 5 = false := rfl
theorem x_s_reader_one : Xs n_s_reader_one = some (.text f_s_reader_one) := rfl
@[go_sem] theorem m0_s_reader_one : Ms n_s_reader_one 0 = false := rfl
@[go_sem] theorem m1_s_reader_one : Ms n_s_reader_one 1 = false := rfl
@[go_sem] theorem m2_s_reader_one : Ms n_s_reader_one 2 = false := rfl
@[go_sem] theorem m3_s_reader_one : Ms n_s_reader_one 3 = false := rfl
@[go_sem] theorem m4_s_reader_one : Ms n_s_reader_one 4 = false := rfl
@[go_sem] theorem m5_s_reader_one : Ms n_s_reader_one 5 = false := rfl
theorem x_i_cutRemnants : Xs n_i_cutRemnants = some (.text f_i_cutRemnants) := rfl
@[go_sem] theorem m0_i_cutRemnants : Ms n_i_cutRemnants 0 = false := rfl
@[go_sem] theorem m1_i_cutRemnants : Ms n_i_cutRemnants 1 = false := rfl
@[go_sem] theorem m2_i_cutRemnants : Ms n_i_cutRemnants 2 = false := rfl
@[go_sem] theorem m3_i_cutRemnants : Ms n_i_cutRemnants 3 = false := rfl
@[go_sem] theorem m4_i_cutRemnants : Ms n_i_cutRemnants 4 = false := rfl
@[go_sem] theorem m5_i_cutRemnants : Ms n_i_cutRemnants 5 = false := rfl
theorem x_l_equalPiece : Xs n_l_equalPiece = some (.text f_l_equalPiece) := rfl
@[go_sem] theorem m0_l_equalPiece : Ms n_l_equalPiece 0 = false := rfl
@[go_sem] theorem m1_l_equalPiece : Ms n_l_equalPiece 1 = false := rfl
@[go_sem] theorem m2_l_equalPiece : Ms n_l_equalPiece 2 = false := rfl
@[go_sem] theorem m3_l_equalPiece : Ms n_l_equalPiece 3 = false := rfl
@[go_sem] theorem m4_l_equalPiece : Ms n_l_equalPiece 4 = false := rfl
@[go_sem] theorem m5_l_equalPiece : Ms n_l_equalPiece 5 = false := rfl
theorem x_s_validPiece : Xs n_s_validPiece = some (.text f_s_validPiece) := rfl
@[go_sem] theorem m0_s_validPiece : Ms n_s_validPiece 0 = false := rfl
@[go_sem] theorem m1_s_validPiece : Ms n_s_validPiece 1 = false := rfl
@[go_sem] theorem m2_s_validPiece : Ms n_s_validPiece 2 = false := rfl
@[go_sem] theorem m3_s_validPiece : Ms n_s_validPiece 3 = false := rfl
@[go_sem] theorem m4_s_validPiece : Ms n_s_validPiece 4 = false := rfl
@[go_sem] theorem m5_s_validPiece : Ms n_s_validPiece 5 = false := rfl
theorem x_s_goodPlan : Xs n_s_goodPlan = some (.text f_s_goodPlan) := rfl
@[go_sem] theorem m0_s_goodPlan : Ms n_s_goodPlan 0 = false := rfl
@[go_sem] theorem m1_s_goodPlan : Ms n_s_goodPlan 1 = false := rfl
@[go_sem] theorem m2_s_goodPlan : Ms n_s_goodPlan 2 = false := rfl
@[go_sem] theorem m3_s_goodPlan : Ms n_s_goodPlan 3 = false := rfl
@[go_sem] theorem m4_s_goodPlan : Ms n_s_goodPlan 4 = false := rfl
@[go_sem] theorem m5_s_goodPlan : Ms n_s_goodPlan 5 = false := rfl
theorem x_s_inRange : Xs n_s_inRange = some (.text f_s_inRange) := rfl
@[go_sem] theorem m0_s_inRange : Ms n_s_inRange 0 = false := rfl
@[go_sem] theorem m1_s_inRange : Ms n_s_inRange 1 = false := rfl
@[go_sem] theorem m2_s_inRange : Ms n_s_inRange 2 = false := rfl
@[go_sem] theorem m3_s_inRange : Ms n_s_inRange 3 = false := rfl
@[go_sem] theorem m4_s_inRange : Ms n_s_inRange 4 = false := rfl
@[go_sem] theorem m5_s_inRange : Ms n_s_inRange 5 = false := rfl
theorem x_s_remnants : Xs n_s_remnants = some (.text f_s_remnants) := rfl
@[go_sem] theorem m0_s_remnants : Ms n_s_remnants 0 = false := rfl
@[go_sem] theorem m1_s_remnants : Ms n_s_remnants 1 = false := rfl
@[go_sem] theorem m2_s_remnants : Ms n_s_remnants 2 = false := rfl
@[go_sem] theorem m3_s_remnants : Ms n_s_remnants 3 = false := rfl
@[go_sem] theorem m4_s_remnants : Ms n_s_remnants 4 = false := rfl
@[go_sem] theorem m5_s_remnants : Ms n_s_remnants 5 = false := rfl
theorem x_i_ValidBox : Xs n_i_ValidBox = some (.text f_i_ValidBox) := rfl
@[go_sem] theorem m0_i_ValidBox : Ms n_i_ValidBox 0 = false := rfl
@[go_sem] theorem m1_i_ValidBox : Ms n_i_ValidBox 1 = false := rfl
@[go_sem] theorem m2_i_ValidBox : Ms n_i_ValidBox 2 = false := rfl
@[go_sem] theorem m3_i_ValidBox : Ms n_i_ValidBox 3 = false := rfl
@[go_sem] theorem m4_i_ValidBox : Ms n_i_ValidBox 4 = false := rfl
@[go_sem] theorem m5_i_ValidBox : Ms n_i_ValidBox 5 = false := rfl
theorem x_i_pieceBox : Xs n_i_pieceBox = some (.text f_i_pieceBox) := rfl
@[go_sem] theorem m0_i_pieceBox : Ms n_i_pieceBox 0 = false := rfl
@[go_sem] theorem m1_i_pieceBox : Ms n_i_pieceBox 1 = false := rfl
@[go_sem] theorem m2_i_pieceBox : Ms n_i_pieceBox 2 = false := rfl
@[go_sem] theorem m3_i_pieceBox : Ms n_i_pieceBox 3 = false := rfl
@[go_sem] theorem m4_i_pieceBox : Ms n_i_pieceBox 4 = false := rfl
@[go_sem] theorem m5_i_pieceBox : Ms n_i_pieceBox 5 = false := rfl
theorem x_i_InsideOf : Xs n_i_InsideOf = some (.text f_i_InsideOf) := rfl
@[go_sem] theorem m0_i_InsideOf : Ms n_i_InsideOf 0 = false := rfl
@[go_sem] theorem m1_i_InsideOf : Ms n_i_InsideOf 1 = false := rfl
@[go_sem] theorem m2_i_InsideOf : Ms n_i_InsideOf 2 = false := rfl
@[go_sem] theorem m3_i_InsideOf : Ms n_i_InsideOf 3 = false := rfl
@[go_sem] theorem m4_i_InsideOf : Ms n_i_InsideOf 4 = false := rfl
@[go_sem] theorem m5_i_InsideOf : Ms n_i_InsideOf 5 = false := rfl
theorem x_i_ValidPlan : Xs n_i_ValidPlan = some (.text f_i_ValidPlan) := rfl
@[go_sem] theorem m0_i_ValidPlan : Ms n_i_ValidPlan 0 = false := rfl
@[go_sem] theorem m1_i_ValidPlan : Ms n_i_ValidPlan 1 = false := rfl
@[go_sem] theorem m2_i_ValidPlan : Ms n_i_ValidPlan 2 = false := rfl
@[go_sem] theorem m3_i_ValidPlan : Ms n_i_ValidPlan 3 = false := rfl
@[go_sem] theorem m4_i_ValidPlan : Ms n_i_ValidPlan 4 = false := rfl
@[go_sem] theorem m5_i_ValidPlan : Ms n_i_ValidPlan 5 = false := rfl
theorem x_i_boxArea : Xs n_i_boxArea = some (.text f_i_boxArea) := rfl
@[go_sem] theorem m0_i_boxArea : Ms n_i_boxArea 0 = false := rfl
@[go_sem] theorem m1_i_boxArea : Ms n_i_boxArea 1 = false := rfl
@[go_sem] theorem m2_i_boxArea : Ms n_i_boxArea 2 = false := rfl
@[go_sem] theorem m3_i_boxArea : Ms n_i_boxArea 3 = false := rfl
@[go_sem] theorem m4_i_boxArea : Ms n_i_boxArea 4 = false := rfl
@[go_sem] theorem m5_i_boxArea : Ms n_i_boxArea 5 = false := rfl
theorem x_i_partsOf : Xs n_i_partsOf = some (.text f_i_partsOf) := rfl
@[go_sem] theorem m0_i_partsOf : Ms n_i_partsOf 0 = false := rfl
@[go_sem] theorem m1_i_partsOf : Ms n_i_partsOf 1 = false := rfl
@[go_sem] theorem m2_i_partsOf : Ms n_i_partsOf 2 = false := rfl
@[go_sem] theorem m3_i_partsOf : Ms n_i_partsOf 3 = false := rfl
@[go_sem] theorem m4_i_partsOf : Ms n_i_partsOf 4 = false := rfl
@[go_sem] theorem m5_i_partsOf : Ms n_i_partsOf 5 = false := rfl
theorem x_i_meetsFlaw : Xs n_i_meetsFlaw = some (.text f_i_meetsFlaw) := rfl
@[go_sem] theorem m0_i_meetsFlaw : Ms n_i_meetsFlaw 0 = false := rfl
@[go_sem] theorem m1_i_meetsFlaw : Ms n_i_meetsFlaw 1 = false := rfl
@[go_sem] theorem m2_i_meetsFlaw : Ms n_i_meetsFlaw 2 = false := rfl
@[go_sem] theorem m3_i_meetsFlaw : Ms n_i_meetsFlaw 3 = false := rfl
@[go_sem] theorem m4_i_meetsFlaw : Ms n_i_meetsFlaw 4 = false := rfl
@[go_sem] theorem m5_i_meetsFlaw : Ms n_i_meetsFlaw 5 = false := rfl
theorem x_s_anyStock : Xs n_s_anyStock = some (.text f_s_anyStock) := rfl
@[go_sem] theorem m0_s_anyStock : Ms n_s_anyStock 0 = false := rfl
@[go_sem] theorem m1_s_anyStock : Ms n_s_anyStock 1 = false := rfl
@[go_sem] theorem m2_s_anyStock : Ms n_s_anyStock 2 = false := rfl
@[go_sem] theorem m3_s_anyStock : Ms n_s_anyStock 3 = false := rfl
@[go_sem] theorem m4_s_anyStock : Ms n_s_anyStock 4 = false := rfl
@[go_sem] theorem m5_s_anyStock : Ms n_s_anyStock 5 = false := rfl
theorem x_s_reader_pick : Xs n_s_reader_pick = some (.text f_s_reader_pick) := rfl
@[go_sem] theorem m0_s_reader_pick : Ms n_s_reader_pick 0 = false := rfl
@[go_sem] theorem m1_s_reader_pick : Ms n_s_reader_pick 1 = false := rfl
@[go_sem] theorem m2_s_reader_pick : Ms n_s_reader_pick 2 = false := rfl
@[go_sem] theorem m3_s_reader_pick : Ms n_s_reader_pick 3 = false := rfl
@[go_sem] theorem m4_s_reader_pick : Ms n_s_reader_pick 4 = false := rfl
@[go_sem] theorem m5_s_reader_pick : Ms n_s_reader_pick 5 = false := rfl
theorem x_s_validStock : Xs n_s_validStock = some (.text f_s_validStock) := rfl
@[go_sem] theorem m0_s_validStock : Ms n_s_validStock 0 = false := rfl
@[go_sem] theorem m1_s_validStock : Ms n_s_validStock 1 = false := rfl
@[go_sem] theorem m2_s_validStock : Ms n_s_validStock 2 = false := rfl
@[go_sem] theorem m3_s_validStock : Ms n_s_validStock 3 = false := rfl
@[go_sem] theorem m4_s_validStock : Ms n_s_validStock 4 = false := rfl
@[go_sem] theorem m5_s_validStock : Ms n_s_validStock 5 = false := rfl
theorem x_s_findLabel : Xs n_s_findLabel = some (.text f_s_findLabel) := rfl
@[go_sem] theorem m0_s_findLabel : Ms n_s_findLabel 0 = false := rfl
@[go_sem] theorem m1_s_findLabel : Ms n_s_findLabel 1 = false := rfl
@[go_sem] theorem m2_s_findLabel : Ms n_s_findLabel 2 = false := rfl
@[go_sem] theorem m3_s_findLabel : Ms n_s_findLabel 3 = false := rfl
@[go_sem] theorem m4_s_findLabel : Ms n_s_findLabel 4 = false := rfl
@[go_sem] theorem m5_s_findLabel : Ms n_s_findLabel 5 = false := rfl
theorem x_s_without : Xs n_s_without = some (.text f_s_without) := rfl
@[go_sem] theorem m0_s_without : Ms n_s_without 0 = false := rfl
@[go_sem] theorem m1_s_without : Ms n_s_without 1 = false := rfl
@[go_sem] theorem m2_s_without : Ms n_s_without 2 = false := rfl
@[go_sem] theorem m3_s_without : Ms n_s_without 3 = false := rfl
@[go_sem] theorem m4_s_without : Ms n_s_without 4 = false := rfl
@[go_sem] theorem m5_s_without : Ms n_s_without 5 = false := rfl
theorem x_s_lastLabel : Xs n_s_lastLabel = some (.text f_s_lastLabel) := rfl
@[go_sem] theorem m0_s_lastLabel : Ms n_s_lastLabel 0 = false := rfl
@[go_sem] theorem m1_s_lastLabel : Ms n_s_lastLabel 1 = false := rfl
@[go_sem] theorem m2_s_lastLabel : Ms n_s_lastLabel 2 = false := rfl
@[go_sem] theorem m3_s_lastLabel : Ms n_s_lastLabel 3 = false := rfl
@[go_sem] theorem m4_s_lastLabel : Ms n_s_lastLabel 4 = false := rfl
@[go_sem] theorem m5_s_lastLabel : Ms n_s_lastLabel 5 = false := rfl
theorem x_i_findLabel : Xs n_i_findLabel = some (.text f_i_findLabel) := rfl
@[go_sem] theorem m0_i_findLabel : Ms n_i_findLabel 0 = false := rfl
@[go_sem] theorem m1_i_findLabel : Ms n_i_findLabel 1 = false := rfl
@[go_sem] theorem m2_i_findLabel : Ms n_i_findLabel 2 = false := rfl
@[go_sem] theorem m3_i_findLabel : Ms n_i_findLabel 3 = false := rfl
@[go_sem] theorem m4_i_findLabel : Ms n_i_findLabel 4 = false := rfl
@[go_sem] theorem m5_i_findLabel : Ms n_i_findLabel 5 = false := rfl
theorem x_i_copyStock : Xs n_i_copyStock = some (.text f_i_copyStock) := rfl
@[go_sem] theorem m0_i_copyStock : Ms n_i_copyStock 0 = false := rfl
@[go_sem] theorem m1_i_copyStock : Ms n_i_copyStock 1 = false := rfl
@[go_sem] theorem m2_i_copyStock : Ms n_i_copyStock 2 = false := rfl
@[go_sem] theorem m3_i_copyStock : Ms n_i_copyStock 3 = false := rfl
@[go_sem] theorem m4_i_copyStock : Ms n_i_copyStock 4 = false := rfl
@[go_sem] theorem m5_i_copyStock : Ms n_i_copyStock 5 = false := rfl
theorem x_i_copyPiece : Xs n_i_copyPiece = some (.text f_i_copyPiece) := rfl
@[go_sem] theorem m0_i_copyPiece : Ms n_i_copyPiece 0 = false := rfl
@[go_sem] theorem m1_i_copyPiece : Ms n_i_copyPiece 1 = false := rfl
@[go_sem] theorem m2_i_copyPiece : Ms n_i_copyPiece 2 = false := rfl
@[go_sem] theorem m3_i_copyPiece : Ms n_i_copyPiece 3 = false := rfl
@[go_sem] theorem m4_i_copyPiece : Ms n_i_copyPiece 4 = false := rfl
@[go_sem] theorem m5_i_copyPiece : Ms n_i_copyPiece 5 = false := rfl
theorem x_s_workPlan : Xs n_s_workPlan = some (.text f_s_workPlan) := rfl
@[go_sem] theorem m0_s_workPlan : Ms n_s_workPlan 0 = false := rfl
@[go_sem] theorem m1_s_workPlan : Ms n_s_workPlan 1 = false := rfl
@[go_sem] theorem m2_s_workPlan : Ms n_s_workPlan 2 = false := rfl
@[go_sem] theorem m3_s_workPlan : Ms n_s_workPlan 3 = false := rfl
@[go_sem] theorem m4_s_workPlan : Ms n_s_workPlan 4 = false := rfl
@[go_sem] theorem m5_s_workPlan : Ms n_s_workPlan 5 = false := rfl
theorem x_s_wastesOf : Xs n_s_wastesOf = some (.text f_s_wastesOf) := rfl
@[go_sem] theorem m0_s_wastesOf : Ms n_s_wastesOf 0 = false := rfl
@[go_sem] theorem m1_s_wastesOf : Ms n_s_wastesOf 1 = false := rfl
@[go_sem] theorem m2_s_wastesOf : Ms n_s_wastesOf 2 = false := rfl
@[go_sem] theorem m3_s_wastesOf : Ms n_s_wastesOf 3 = false := rfl
@[go_sem] theorem m4_s_wastesOf : Ms n_s_wastesOf 4 = false := rfl
@[go_sem] theorem m5_s_wastesOf : Ms n_s_wastesOf 5 = false := rfl
theorem x_s_someBox : Xs n_s_someBox = some (.text f_s_someBox) := rfl
@[go_sem] theorem m0_s_someBox : Ms n_s_someBox 0 = false := rfl
@[go_sem] theorem m1_s_someBox : Ms n_s_someBox 1 = false := rfl
@[go_sem] theorem m2_s_someBox : Ms n_s_someBox 2 = false := rfl
@[go_sem] theorem m3_s_someBox : Ms n_s_someBox 3 = false := rfl
@[go_sem] theorem m4_s_someBox : Ms n_s_someBox 4 = false := rfl
@[go_sem] theorem m5_s_someBox : Ms n_s_someBox 5 = false := rfl
theorem x_i_keptWastes : Xs n_i_keptWastes = some (.text f_i_keptWastes) := rfl
@[go_sem] theorem m0_i_keptWastes : Ms n_i_keptWastes 0 = false := rfl
@[go_sem] theorem m1_i_keptWastes : Ms n_i_keptWastes 1 = false := rfl
@[go_sem] theorem m2_i_keptWastes : Ms n_i_keptWastes 2 = false := rfl
@[go_sem] theorem m3_i_keptWastes : Ms n_i_keptWastes 3 = false := rfl
@[go_sem] theorem m4_i_keptWastes : Ms n_i_keptWastes 4 = false := rfl
@[go_sem] theorem m5_i_keptWastes : Ms n_i_keptWastes 5 = false := rfl
theorem x_i_CutOut : Xs n_i_CutOut = some (.text f_i_CutOut) := rfl
@[go_sem] theorem m0_i_CutOut : Ms n_i_CutOut 0 = false := rfl
@[go_sem] theorem m1_i_CutOut : Ms n_i_CutOut 1 = false := rfl
@[go_sem] theorem m2_i_CutOut : Ms n_i_CutOut 2 = false := rfl
@[go_sem] theorem m3_i_CutOut : Ms n_i_CutOut 3 = false := rfl
@[go_sem] theorem m4_i_CutOut : Ms n_i_CutOut 4 = false := rfl
@[go_sem] theorem m5_i_CutOut : Ms n_i_CutOut 5 = false := rfl
theorem x_l_equalBoxes : Xs n_l_equalBoxes = some (.text f_l_equalBoxes) := rfl
@[go_sem] theorem m0_l_equalBoxes : Ms n_l_equalBoxes 0 = false := rfl
@[go_sem] theorem m1_l_equalBoxes : Ms n_l_equalBoxes 1 = false := rfl
@[go_sem] theorem m2_l_equalBoxes : Ms n_l_equalBoxes 2 = false := rfl
@[go_sem] theorem m3_l_equalBoxes : Ms n_l_equalBoxes 3 = false := rfl
@[go_sem] theorem m4_l_equalBoxes : Ms n_l_equalBoxes 4 = false := rfl
@[go_sem] theorem m5_l_equalBoxes : Ms n_l_equalBoxes 5 = false := rfl
theorem x_s_validBox : Xs n_s_validBox = some (.text f_s_validBox) := rfl
@[go_sem] theorem m0_s_validBox : Ms n_s_validBox 0 = false := rfl
@[go_sem] theorem m1_s_validBox : Ms n_s_validBox 1 = false := rfl
@[go_sem] theorem m2_s_validBox : Ms n_s_validBox 2 = false := rfl
@[go_sem] theorem m3_s_validBox : Ms n_s_validBox 3 = false := rfl
@[go_sem] theorem m4_s_validBox : Ms n_s_validBox 4 = false := rfl
@[go_sem] theorem m5_s_validBox : Ms n_s_validBox 5 = false := rfl
theorem x_s_insideOf : Xs n_s_insideOf = some (.text f_s_insideOf) := rfl
@[go_sem] theorem m0_s_insideOf : Ms n_s_insideOf 0 = false := rfl
@[go_sem] theorem m1_s_insideOf : Ms n_s_insideOf 1 = false := rfl
@[go_sem] theorem m2_s_insideOf : Ms n_s_insideOf 2 = false := rfl
@[go_sem] theorem m3_s_insideOf : Ms n_s_insideOf 3 = false := rfl
@[go_sem] theorem m4_s_insideOf : Ms n_s_insideOf 4 = false := rfl
@[go_sem] theorem m5_s_insideOf : Ms n_s_insideOf 5 = false := rfl
theorem x_s_validPlan : Xs n_s_validPlan = some (.text f_s_validPlan) := rfl
@[go_sem] theorem m0_s_validPlan : Ms n_s_validPlan 0 = false := rfl
@[go_sem] theorem m1_s_validPlan : Ms n_s_validPlan 1 = false := rfl
@[go_sem] theorem m2_s_validPlan : Ms n_s_validPlan 2 = false := rfl
@[go_sem] theorem m3_s_validPlan : Ms n_s_validPlan 3 = false := rfl
@[go_sem] theorem m4_s_validPlan : Ms n_s_validPlan 4 = false := rfl
@[go_sem] theorem m5_s_validPlan : Ms n_s_validPlan 5 = false := rfl
theorem x_s_placesOf : Xs n_s_placesOf = some (.text f_s_placesOf) := rfl
@[go_sem] theorem m0_s_placesOf : Ms n_s_placesOf 0 = false := rfl
@[go_sem] theorem m1_s_placesOf : Ms n_s_placesOf 1 = false := rfl
@[go_sem] theorem m2_s_placesOf : Ms n_s_placesOf 2 = false := rfl
@[go_sem] theorem m3_s_placesOf : Ms n_s_placesOf 3 = false := rfl
@[go_sem] theorem m4_s_placesOf : Ms n_s_placesOf 4 = false := rfl
@[go_sem] theorem m5_s_placesOf : Ms n_s_placesOf 5 = false := rfl
theorem x_s_clearAt : Xs n_s_clearAt = some (.text f_s_clearAt) := rfl
@[go_sem] theorem m0_s_clearAt : Ms n_s_clearAt 0 = false := rfl
@[go_sem] theorem m1_s_clearAt : Ms n_s_clearAt 1 = false := rfl
@[go_sem] theorem m2_s_clearAt : Ms n_s_clearAt 2 = false := rfl
@[go_sem] theorem m3_s_clearAt : Ms n_s_clearAt 3 = false := rfl
@[go_sem] theorem m4_s_clearAt : Ms n_s_clearAt 4 = false := rfl
@[go_sem] theorem m5_s_clearAt : Ms n_s_clearAt 5 = false := rfl
theorem x_s_isRemnant : Xs n_s_isRemnant = some (.text f_s_isRemnant) := rfl
@[go_sem] theorem m0_s_isRemnant : Ms n_s_isRemnant 0 = false := rfl
@[go_sem] theorem m1_s_isRemnant : Ms n_s_isRemnant 1 = false := rfl
@[go_sem] theorem m2_s_isRemnant : Ms n_s_isRemnant 2 = false := rfl
@[go_sem] theorem m3_s_isRemnant : Ms n_s_isRemnant 3 = false := rfl
@[go_sem] theorem m4_s_isRemnant : Ms n_s_isRemnant 4 = false := rfl
@[go_sem] theorem m5_s_isRemnant : Ms n_s_isRemnant 5 = false := rfl
theorem x_s_cutOut : Xs n_s_cutOut = some (.text f_s_cutOut) := rfl
@[go_sem] theorem m0_s_cutOut : Ms n_s_cutOut 0 = false := rfl
@[go_sem] theorem m1_s_cutOut : Ms n_s_cutOut 1 = false := rfl
@[go_sem] theorem m2_s_cutOut : Ms n_s_cutOut 2 = false := rfl
@[go_sem] theorem m3_s_cutOut : Ms n_s_cutOut 3 = false := rfl
@[go_sem] theorem m4_s_cutOut : Ms n_s_cutOut 4 = false := rfl
@[go_sem] theorem m5_s_cutOut : Ms n_s_cutOut 5 = false := rfl
theorem x_i_MeetOf : Xs n_i_MeetOf = some (.text f_i_MeetOf) := rfl
@[go_sem] theorem m0_i_MeetOf : Ms n_i_MeetOf 0 = false := rfl
@[go_sem] theorem m1_i_MeetOf : Ms n_i_MeetOf 1 = false := rfl
@[go_sem] theorem m2_i_MeetOf : Ms n_i_MeetOf 2 = false := rfl
@[go_sem] theorem m3_i_MeetOf : Ms n_i_MeetOf 3 = false := rfl
@[go_sem] theorem m4_i_MeetOf : Ms n_i_MeetOf 4 = false := rfl
@[go_sem] theorem m5_i_MeetOf : Ms n_i_MeetOf 5 = false := rfl
theorem x_i_ValidWork : Xs n_i_ValidWork = some (.text f_i_ValidWork) := rfl
@[go_sem] theorem m0_i_ValidWork : Ms n_i_ValidWork 0 = false := rfl
@[go_sem] theorem m1_i_ValidWork : Ms n_i_ValidWork 1 = false := rfl
@[go_sem] theorem m2_i_ValidWork : Ms n_i_ValidWork 2 = false := rfl
@[go_sem] theorem m3_i_ValidWork : Ms n_i_ValidWork 3 = false := rfl
@[go_sem] theorem m4_i_ValidWork : Ms n_i_ValidWork 4 = false := rfl
@[go_sem] theorem m5_i_ValidWork : Ms n_i_ValidWork 5 = false := rfl
theorem x_i_PlanSize : Xs n_i_PlanSize = some (.text f_i_PlanSize) := rfl
@[go_sem] theorem m0_i_PlanSize : Ms n_i_PlanSize 0 = false := rfl
@[go_sem] theorem m1_i_PlanSize : Ms n_i_PlanSize 1 = false := rfl
@[go_sem] theorem m2_i_PlanSize : Ms n_i_PlanSize 2 = false := rfl
@[go_sem] theorem m3_i_PlanSize : Ms n_i_PlanSize 3 = false := rfl
@[go_sem] theorem m4_i_PlanSize : Ms n_i_PlanSize 4 = false := rfl
@[go_sem] theorem m5_i_PlanSize : Ms n_i_PlanSize 5 = false := rfl
theorem x_i_planFits : Xs n_i_planFits = some (.text f_i_planFits) := rfl
@[go_sem] theorem m0_i_planFits : Ms n_i_planFits 0 = false := rfl
@[go_sem] theorem m1_i_planFits : Ms n_i_planFits 1 = false := rfl
@[go_sem] theorem m2_i_planFits : Ms n_i_planFits 2 = false := rfl
@[go_sem] theorem m3_i_planFits : Ms n_i_planFits 3 = false := rfl
@[go_sem] theorem m4_i_planFits : Ms n_i_planFits 4 = false := rfl
@[go_sem] theorem m5_i_planFits : Ms n_i_planFits 5 = false := rfl
theorem x_i_sheetOf : Xs n_i_sheetOf = some (.text f_i_sheetOf) := rfl
@[go_sem] theorem m0_i_sheetOf : Ms n_i_sheetOf 0 = false := rfl
@[go_sem] theorem m1_i_sheetOf : Ms n_i_sheetOf 1 = false := rfl
@[go_sem] theorem m2_i_sheetOf : Ms n_i_sheetOf 2 = false := rfl
@[go_sem] theorem m3_i_sheetOf : Ms n_i_sheetOf 3 = false := rfl
@[go_sem] theorem m4_i_sheetOf : Ms n_i_sheetOf 4 = false := rfl
@[go_sem] theorem m5_i_sheetOf : Ms n_i_sheetOf 5 = false := rfl
theorem x_i_addParts : Xs n_i_addParts = some (.text f_i_addParts) := rfl
@[go_sem] theorem m0_i_addParts : Ms n_i_addParts 0 = true := rfl
@[go_sem] theorem m1_i_addParts : Ms n_i_addParts 1 = false := rfl
@[go_sem] theorem m2_i_addParts : Ms n_i_addParts 2 = false := rfl
@[go_sem] theorem m3_i_addParts : Ms n_i_addParts 3 = false := rfl
@[go_sem] theorem m4_i_addParts : Ms n_i_addParts 4 = false := rfl
@[go_sem] theorem m5_i_addParts : Ms n_i_addParts 5 = false := rfl
theorem x_s_someStock : Xs n_s_someStock = some (.text f_s_someStock) := rfl
@[go_sem] theorem m0_s_someStock : Ms n_s_someStock 0 = false := rfl
@[go_sem] theorem m1_s_someStock : Ms n_s_someStock 1 = false := rfl
@[go_sem] theorem m2_s_someStock : Ms n_s_someStock 2 = false := rfl
@[go_sem] theorem m3_s_someStock : Ms n_s_someStock 3 = false := rfl
@[go_sem] theorem m4_s_someStock : Ms n_s_someStock 4 = false := rfl
@[go_sem] theorem m5_s_someStock : Ms n_s_someStock 5 = false := rfl
theorem x_s_copyPiece : Xs n_s_copyPiece = some (.text f_s_copyPiece) := rfl
@[go_sem] theorem m0_s_copyPiece : Ms n_s_copyPiece 0 = false := rfl
@[go_sem] theorem m1_s_copyPiece : Ms n_s_copyPiece 1 = false := rfl
@[go_sem] theorem m2_s_copyPiece : Ms n_s_copyPiece 2 = false := rfl
@[go_sem] theorem m3_s_copyPiece : Ms n_s_copyPiece 3 = false := rfl
@[go_sem] theorem m4_s_copyPiece : Ms n_s_copyPiece 4 = false := rfl
@[go_sem] theorem m5_s_copyPiece : Ms n_s_copyPiece 5 = false := rfl
theorem x_slices_IndexFunc_g : Xs n_slices_IndexFunc_g = some (.text f_slices_IndexFunc_g) := rfl
@[go_sem] theorem m0_slices_IndexFunc_g : Ms n_slices_IndexFunc_g 0 = false := rfl
@[go_sem] theorem m1_slices_IndexFunc_g : Ms n_slices_IndexFunc_g 1 = false := rfl
@[go_sem] theorem m2_slices_IndexFunc_g : Ms n_slices_IndexFunc_g 2 = false := rfl
@[go_sem] theorem m3_slices_IndexFunc_g : Ms n_slices_IndexFunc_g 3 = false := rfl
@[go_sem] theorem m4_slices_IndexFunc_g : Ms n_slices_IndexFunc_g 4 = false := rfl
@[go_sem] theorem m5_slices_IndexFunc_g : Ms n_slices_IndexFunc_g 5 = false := rfl
theorem x_i_findLabel_1 : Xs n_i_findLabel_1 = some (.text f_i_findLabel_1) := rfl
@[go_sem] theorem m0_i_findLabel_1 : Ms n_i_findLabel_1 0 = false := rfl
@[go_sem] theorem m1_i_findLabel_1 : Ms n_i_findLabel_1 1 = false := rfl
@[go_sem] theorem m2_i_findLabel_1 : Ms n_i_findLabel_1 2 = false := rfl
@[go_sem] theorem m3_i_findLabel_1 : Ms n_i_findLabel_1 3 = false := rfl
@[go_sem] theorem m4_i_findLabel_1 : Ms n_i_findLabel_1 4 = false := rfl
@[go_sem] theorem m5_i_findLabel_1 : Ms n_i_findLabel_1 5 = false := rfl
theorem x_s_grow : Xs n_s_grow = some (.text f_s_grow) := rfl
@[go_sem] theorem m0_s_grow : Ms n_s_grow 0 = false := rfl
@[go_sem] theorem m1_s_grow : Ms n_s_grow 1 = false := rfl
@[go_sem] theorem m2_s_grow : Ms n_s_grow 2 = false := rfl
@[go_sem] theorem m3_s_grow : Ms n_s_grow 3 = false := rfl
@[go_sem] theorem m4_s_grow : Ms n_s_grow 4 = false := rfl
@[go_sem] theorem m5_s_grow : Ms n_s_grow 5 = false := rfl
theorem x_s_spread : Xs n_s_spread = some (.text f_s_spread) := rfl
@[go_sem] theorem m0_s_spread : Ms n_s_spread 0 = false := rfl
@[go_sem] theorem m1_s_spread : Ms n_s_spread 1 = false := rfl
@[go_sem] theorem m2_s_spread : Ms n_s_spread 2 = false := rfl
@[go_sem] theorem m3_s_spread : Ms n_s_spread 3 = false := rfl
@[go_sem] theorem m4_s_spread : Ms n_s_spread 4 = false := rfl
@[go_sem] theorem m5_s_spread : Ms n_s_spread 5 = false := rfl
theorem x_s_validWork : Xs n_s_validWork = some (.text f_s_validWork) := rfl
@[go_sem] theorem m0_s_validWork : Ms n_s_validWork 0 = false := rfl
@[go_sem] theorem m1_s_validWork : Ms n_s_validWork 1 = false := rfl
@[go_sem] theorem m2_s_validWork : Ms n_s_validWork 2 = false := rfl
@[go_sem] theorem m3_s_validWork : Ms n_s_validWork 3 = false := rfl
@[go_sem] theorem m4_s_validWork : Ms n_s_validWork 4 = false := rfl
@[go_sem] theorem m5_s_validWork : Ms n_s_validWork 5 = false := rfl
theorem x_s_planSize : Xs n_s_planSize = some (.text f_s_planSize) := rfl
@[go_sem] theorem m0_s_planSize : Ms n_s_planSize 0 = false := rfl
@[go_sem] theorem m1_s_planSize : Ms n_s_planSize 1 = false := rfl
@[go_sem] theorem m2_s_planSize : Ms n_s_planSize 2 = false := rfl
@[go_sem] theorem m3_s_planSize : Ms n_s_planSize 3 = false := rfl
@[go_sem] theorem m4_s_planSize : Ms n_s_planSize 4 = false := rfl
@[go_sem] theorem m5_s_planSize : Ms n_s_planSize 5 = false := rfl
theorem x_s_fitsPlan : Xs n_s_fitsPlan = some (.text f_s_fitsPlan) := rfl
@[go_sem] theorem m0_s_fitsPlan : Ms n_s_fitsPlan 0 = false := rfl
@[go_sem] theorem m1_s_fitsPlan : Ms n_s_fitsPlan 1 = false := rfl
@[go_sem] theorem m2_s_fitsPlan : Ms n_s_fitsPlan 2 = false := rfl
@[go_sem] theorem m3_s_fitsPlan : Ms n_s_fitsPlan 3 = false := rfl
@[go_sem] theorem m4_s_fitsPlan : Ms n_s_fitsPlan 4 = false := rfl
@[go_sem] theorem m5_s_fitsPlan : Ms n_s_fitsPlan 5 = false := rfl
theorem x_s_meetOf : Xs n_s_meetOf = some (.text f_s_meetOf) := rfl
@[go_sem] theorem m0_s_meetOf : Ms n_s_meetOf 0 = false := rfl
@[go_sem] theorem m1_s_meetOf : Ms n_s_meetOf 1 = false := rfl
@[go_sem] theorem m2_s_meetOf : Ms n_s_meetOf 2 = false := rfl
@[go_sem] theorem m3_s_meetOf : Ms n_s_meetOf 3 = false := rfl
@[go_sem] theorem m4_s_meetOf : Ms n_s_meetOf 4 = false := rfl
@[go_sem] theorem m5_s_meetOf : Ms n_s_meetOf 5 = false := rfl
theorem x_i_ValidPane : Xs n_i_ValidPane = some (.text f_i_ValidPane) := rfl
@[go_sem] theorem m0_i_ValidPane : Ms n_i_ValidPane 0 = false := rfl
@[go_sem] theorem m1_i_ValidPane : Ms n_i_ValidPane 1 = false := rfl
@[go_sem] theorem m2_i_ValidPane : Ms n_i_ValidPane 2 = false := rfl
@[go_sem] theorem m3_i_ValidPane : Ms n_i_ValidPane 3 = false := rfl
@[go_sem] theorem m4_i_ValidPane : Ms n_i_ValidPane 4 = false := rfl
@[go_sem] theorem m5_i_ValidPane : Ms n_i_ValidPane 5 = false := rfl
theorem x_i_countParts : Xs n_i_countParts = some (.text f_i_countParts) := rfl
@[go_sem] theorem m0_i_countParts : Ms n_i_countParts 0 = false := rfl
@[go_sem] theorem m1_i_countParts : Ms n_i_countParts 1 = false := rfl
@[go_sem] theorem m2_i_countParts : Ms n_i_countParts 2 = false := rfl
@[go_sem] theorem m3_i_countParts : Ms n_i_countParts 3 = false := rfl
@[go_sem] theorem m4_i_countParts : Ms n_i_countParts 4 = false := rfl
@[go_sem] theorem m5_i_countParts : Ms n_i_countParts 5 = false := rfl
theorem x_i_paneFills : Xs n_i_paneFills = some (.text f_i_paneFills) := rfl
@[go_sem] theorem m0_i_paneFills : Ms n_i_paneFills 0 = false := rfl
@[go_sem] theorem m1_i_paneFills : Ms n_i_paneFills 1 = false := rfl
@[go_sem] theorem m2_i_paneFills : Ms n_i_paneFills 2 = false := rfl
@[go_sem] theorem m3_i_paneFills : Ms n_i_paneFills 3 = false := rfl
@[go_sem] theorem m4_i_paneFills : Ms n_i_paneFills 4 = false := rfl
@[go_sem] theorem m5_i_paneFills : Ms n_i_paneFills 5 = false := rfl
theorem x_i_splitBox : Xs n_i_splitBox = some (.text f_i_splitBox) := rfl
@[go_sem] theorem m0_i_splitBox : Ms n_i_splitBox 0 = false := rfl
@[go_sem] theorem m1_i_splitBox : Ms n_i_splitBox 1 = false := rfl
@[go_sem] theorem m2_i_splitBox : Ms n_i_splitBox 2 = false := rfl
@[go_sem] theorem m3_i_splitBox : Ms n_i_splitBox 3 = false := rfl
@[go_sem] theorem m4_i_splitBox : Ms n_i_splitBox 4 = false := rfl
@[go_sem] theorem m5_i_splitBox : Ms n_i_splitBox 5 = false := rfl
theorem x_i_isCut : Xs n_i_isCut = some (.text f_i_isCut) := rfl
@[go_sem] theorem m0_i_isCut : Ms n_i_isCut 0 = false := rfl
@[go_sem] theorem m1_i_isCut : Ms n_i_isCut 1 = false := rfl
@[go_sem] theorem m2_i_isCut : Ms n_i_isCut 2 = false := rfl
@[go_sem] theorem m3_i_isCut : Ms n_i_isCut 3 = false := rfl
@[go_sem] theorem m4_i_isCut : Ms n_i_isCut 4 = false := rfl
@[go_sem] theorem m5_i_isCut : Ms n_i_isCut 5 = false := rfl
theorem x_s_somePiece : Xs n_s_somePiece = some (.text f_s_somePiece) := rfl
@[go_sem] theorem m0_s_somePiece : Ms n_s_somePiece 0 = false := rfl
@[go_sem] theorem m1_s_somePiece : Ms n_s_somePiece 1 = false := rfl
@[go_sem] theorem m2_s_somePiece : Ms n_s_somePiece 2 = false := rfl
@[go_sem] theorem m3_s_somePiece : Ms n_s_somePiece 3 = false := rfl
@[go_sem] theorem m4_s_somePiece : Ms n_s_somePiece 4 = false := rfl
@[go_sem] theorem m5_s_somePiece : Ms n_s_somePiece 5 = false := rfl
theorem x_s_validPanes : Xs n_s_validPanes = some (.text f_s_validPanes) := rfl
@[go_sem] theorem m0_s_validPanes : Ms n_s_validPanes 0 = false := rfl
@[go_sem] theorem m1_s_validPanes : Ms n_s_validPanes 1 = false := rfl
@[go_sem] theorem m2_s_validPanes : Ms n_s_validPanes 2 = false := rfl
@[go_sem] theorem m3_s_validPanes : Ms n_s_validPanes 3 = false := rfl
@[go_sem] theorem m4_s_validPanes : Ms n_s_validPanes 4 = false := rfl
@[go_sem] theorem m5_s_validPanes : Ms n_s_validPanes 5 = false := rfl
theorem x_s_isCut : Xs n_s_isCut = some (.text f_s_isCut) := rfl
@[go_sem] theorem m0_s_isCut : Ms n_s_isCut 0 = false := rfl
@[go_sem] theorem m1_s_isCut : Ms n_s_isCut 1 = false := rfl
@[go_sem] theorem m2_s_isCut : Ms n_s_isCut 2 = false := rfl
@[go_sem] theorem m3_s_isCut : Ms n_s_isCut 3 = false := rfl
@[go_sem] theorem m4_s_isCut : Ms n_s_isCut 4 = false := rfl
@[go_sem] theorem m5_s_isCut : Ms n_s_isCut 5 = false := rfl
theorem x_s_validPane : Xs n_s_validPane = some (.text f_s_validPane) := rfl
@[go_sem] theorem m0_s_validPane : Ms n_s_validPane 0 = false := rfl
@[go_sem] theorem m1_s_validPane : Ms n_s_validPane 1 = false := rfl
@[go_sem] theorem m2_s_validPane : Ms n_s_validPane 2 = false := rfl
@[go_sem] theorem m3_s_validPane : Ms n_s_validPane 3 = false := rfl
@[go_sem] theorem m4_s_validPane : Ms n_s_validPane 4 = false := rfl
@[go_sem] theorem m5_s_validPane : Ms n_s_validPane 5 = false := rfl
end Go.Proofs.Ytbodfpboklcgoaa

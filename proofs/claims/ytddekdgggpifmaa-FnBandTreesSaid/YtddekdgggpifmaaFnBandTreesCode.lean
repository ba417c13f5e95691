/- The code of functions, for the abstract machine; printed by a program (gen.py). -/
import Derived.Test.YtddekdgggpifmaaGxFn
import Derived.Test.YtddekdgggpifmaaProg
namespace Go.Proofs.Ytddekdgggpifmaa
open Go.Gx
set_option maxRecDepth 100000
abbrev t_int64 : Nat := 2
abbrev t_int : Nat := 3
abbrev t_bool : Nat := 4
abbrev t_uint8 : Nat := 5
abbrev t_suint8 : Nat := 22
abbrev t_sfloat32 : Nat := 24
abbrev t_ssfloat32 : Nat := 30
abbrev t_float64 : Nat := 40
abbrev t_float32 : Nat := 41
abbrev t_sbool : Nat := 44
abbrev t_sint64 : Nat := 55
abbrev t_ssint64 : Nat := 62
abbrev t_sint : Nat := 78
abbrev t_Pair : Nat := 26
abbrev t_Bands : Nat := 32
abbrev t_Scheme : Nat := 71
abbrev n_w_FnBandTrees : Nat := 3
abbrev n_w_b10Long : Nat := 9
abbrev n_s_B10Pair : Nat := 10
abbrev n_w_b10At : Nat := 11
abbrev n_s_B10Signal : Nat := 12
abbrev n_i_SplitLevels : Nat := 13
abbrev n_i_JoinLevels : Nat := 14
abbrev n_i_PowersOfBands : Nat := 15
abbrev n_s_ValidBands : Nat := 16
abbrev n_i_ValidBands : Nat := 17
abbrev n_w_b10Apart : Nat := 18
abbrev n_w_b10Squares : Nat := 19
abbrev n_w_b10Gap : Nat := 20
abbrev n_i_BandAlone : Nat := 21
abbrev n_i_KeepBands : Nat := 22
abbrev n_i_SameBands : Nat := 23
abbrev n_i_SplitRing : Nat := 24
abbrev n_i_JoinRing : Nat := 25
abbrev n_i_ValidPair : Nat := 27
abbrev n_s_HaarPair : Nat := 32
abbrev n_s_FourPair : Nat := 33
abbrev n_s_l00From : Nat := 69
abbrev n_s_l00Src_one : Nat := 70
abbrev n_s_l00Src_pick : Nat := 71
abbrev n_i_isLong : Nat := 72
abbrev n_i_within : Nat := 73
abbrev n_i_copyOf : Nat := 74
abbrev n_i_squares : Nat := 75
abbrev n_i_finiteList : Nat := 76
abbrev n_s_l03Bands : Nat := 77
abbrev n_i_areFinite : Nat := 78
abbrev n_i_kept : Nat := 79
abbrev n_i_sameNumbers : Nat := 80
abbrev n_i_sameLists : Nat := 81
abbrev n_i_highOf : Nat := 82
abbrev n_i_size : Nat := 83
abbrev n_s_l00Src_next : Nat := 118
abbrev n_s_l02Finite : Nat := 119
abbrev n_i_IsFinite : Nat := 120
abbrev n_i_SameNumber : Nat := 121
abbrev n_s_l01Finite : Nat := 139
abbrev n_m_Signbit : Nat := 143
abbrev n_m_Float64bits : Nat := 147
def c_w_FnBandTrees : ACode :=
  .seq (.ops [⟨0, some 4, .mv (.const (.bool false)), none, []⟩])
  (.seq (.seq (.ops [⟨0, some 27, .mv (.tmp 0), none, []⟩, ⟨1, some 28, .mv (.tmp 1), none, []⟩, ⟨2, some 29, .call n_w_b10Long [.tmp 27, .tmp 28], none, []⟩])
  (.cond (.tmp 29) (.seq (.keep [] (.ops [⟨0, some 4, .mv (.const (.bool true)), none, []⟩]))
  (.ret)) (.skip)))
  (.seq (.ops [⟨0, some 30, .mv (.tmp 0), none, []⟩, ⟨1, some 31, .call n_s_B10Pair [.tmp 30], none, []⟩, ⟨2, some 5, .new 26 [.slice none 0 0], none, []⟩, ⟨3, none, .stn 1 (.tmp 5) (.tmp 31), none, []⟩])
  (.seq (.keep [1, 5] (.ops [⟨0, some 32, .mv (.tmp 1), none, []⟩, ⟨1, some 33, .call n_w_b10At [.tmp 32, .const (.int .i64 0), .const (.int .i64 3)], none, []⟩, ⟨2, some 34, .bin .add (.const (.int .i64 1)) (.tmp 33), none, []⟩, ⟨3, some 6, .mv (.tmp 34), none, []⟩]))
  (.seq (.ops [⟨0, some 35, .mv (.tmp 1), none, []⟩, ⟨1, some 36, .mv (.tmp 1), none, []⟩, ⟨2, some 37, .call n_w_b10At [.tmp 36, .const (.int .i64 1), .const (.int .i64 4)], none, []⟩, ⟨3, some 38, .bin .add (.const (.int .i64 1)) (.tmp 37), none, []⟩, ⟨4, some 39, .bin .mul (.const (.int .i64 8)) (.tmp 38), none, []⟩, ⟨5, some 40, .call n_s_B10Signal [.tmp 35, .tmp 39], none, []⟩, ⟨6, some 7, .mv (.tmp 40), none, []⟩])
  (.seq (.keep [5, 6, 7] (.ops [⟨0, some 42, .mv (.tmp 7), none, []⟩, ⟨1, some 43, .ldn 1 (.tmp 5), none, []⟩, ⟨2, some 44, .mv (.tmp 6), none, []⟩, ⟨3, some 45, .call n_i_SplitLevels [.tmp 42, .tmp 43, .tmp 44], none, []⟩, ⟨4, some 41, .mv (.tmp 45), none, []⟩, ⟨5, some 46, .ext (.tmp 41) 0, none, []⟩, ⟨6, some 47, .ext (.tmp 41) 1, none, []⟩, ⟨7, some 8, .new 32 [.slice none 0 0, .slice none 0 0], none, []⟩, ⟨8, none, .stn 2 (.tmp 8) (.tmp 46), none, []⟩, ⟨9, some 9, .mv (.tmp 47), none, []⟩]))
  (.seq (.keep [5, 6, 7, 8, 9] (.ops [⟨0, some 49, .ldn 2 (.tmp 8), none, []⟩, ⟨1, some 50, .ldn 1 (.tmp 5), none, []⟩, ⟨2, some 51, .call n_i_JoinLevels [.tmp 49, .tmp 50], none, []⟩, ⟨3, some 48, .mv (.tmp 51), none, []⟩, ⟨4, some 52, .ext (.tmp 48) 0, none, []⟩, ⟨5, some 53, .ext (.tmp 48) 1, none, []⟩, ⟨6, some 10, .mv (.tmp 52), none, []⟩, ⟨7, some 11, .mv (.tmp 53), none, []⟩]))
  (.seq (.keep [5, 6, 7, 8, 9, 10, 11] (.ops [⟨0, some 55, .ldn 2 (.tmp 8), none, []⟩, ⟨1, some 56, .call n_i_PowersOfBands [.tmp 55], none, []⟩, ⟨2, some 54, .mv (.tmp 56), none, []⟩, ⟨3, some 57, .ext (.tmp 54) 0, none, []⟩, ⟨4, some 58, .ext (.tmp 54) 1, none, []⟩, ⟨5, some 12, .mv (.tmp 57), none, []⟩, ⟨6, some 13, .mv (.tmp 58), none, []⟩]))
  (.seq (.seq (.keep [5, 6, 7, 8, 9, 10, 11, 12, 13] (.ops [⟨0, some 59, .mv (.tmp 9), none, []⟩, ⟨1, some 60, .un .not (.tmp 59), none, []⟩, ⟨2, some 61, .mv (.tmp 60), none, []⟩, ⟨3, some 62, .mv (.tmp 11), (some (61, false)), []⟩, ⟨4, some 63, .un .not (.tmp 62), (some (61, false)), []⟩, ⟨5, some 64, .pick (.tmp 61) (.const (.bool true)) (.tmp 63), none, []⟩, ⟨6, some 65, .mv (.tmp 64), none, []⟩, ⟨7, some 66, .mv (.tmp 13), (some (65, false)), []⟩, ⟨8, some 67, .un .not (.tmp 66), (some (65, false)), []⟩, ⟨9, some 68, .pick (.tmp 65) (.const (.bool true)) (.tmp 67), none, []⟩, ⟨10, some 69, .mv (.tmp 68), none, []⟩, ⟨11, some 70, .ldn 2 (.tmp 8), (some (69, false)), []⟩, ⟨12, some 71, .call n_s_ValidBands [.tmp 70], (some (69, false)), []⟩, ⟨13, some 72, .un .not (.tmp 71), (some (69, false)), []⟩, ⟨14, some 73, .pick (.tmp 69) (.const (.bool true)) (.tmp 72), none, []⟩, ⟨15, some 74, .mv (.tmp 73), none, []⟩, ⟨16, some 75, .ldn 2 (.tmp 8), (some (74, false)), []⟩, ⟨17, some 76, .call n_i_ValidBands [.tmp 75], (some (74, false)), []⟩, ⟨18, some 77, .un .not (.tmp 76), (some (74, false)), []⟩, ⟨19, some 78, .pick (.tmp 74) (.const (.bool true)) (.tmp 77), none, []⟩, ⟨20, some 79, .mv (.tmp 78), none, []⟩, ⟨21, some 80, .fa 1 (.tmp 8), (some (79, false)), []⟩, ⟨22, some 81, .ld (.tmp 80), (some (79, false)), []⟩, ⟨23, some 82, .len (.tmp 81), (some (79, false)), []⟩, ⟨24, some 83, .mv (.tmp 6), (some (79, false)), []⟩, ⟨25, some 84, .bin .neq (.tmp 82) (.tmp 83), (some (79, false)), []⟩, ⟨26, some 85, .pick (.tmp 79) (.const (.bool true)) (.tmp 84), none, []⟩, ⟨27, some 86, .mv (.tmp 85), none, []⟩, ⟨28, some 87, .mv (.tmp 12), (some (86, false)), []⟩, ⟨29, some 88, .len (.tmp 87), (some (86, false)), []⟩, ⟨30, some 89, .mv (.tmp 6), (some (86, false)), []⟩, ⟨31, some 90, .bin .add (.tmp 89) (.const (.int .i64 1)), (some (86, false)), []⟩, ⟨32, some 91, .bin .neq (.tmp 88) (.tmp 90), (some (86, false)), []⟩, ⟨33, some 92, .pick (.tmp 86) (.const (.bool true)) (.tmp 91), none, []⟩, ⟨34, some 93, .mv (.tmp 92), none, []⟩, ⟨35, some 94, .mv (.tmp 10), (some (93, false)), []⟩, ⟨36, some 95, .mv (.tmp 7), (some (93, false)), []⟩, ⟨37, some 96, .call n_w_b10Apart [.tmp 94, .tmp 95, .const (.float .f64 4576918229304087675)], (some (93, false)), []⟩, ⟨38, some 97, .pick (.tmp 93) (.const (.bool true)) (.tmp 96), none, []⟩]))
  (.cond (.tmp 97) (.seq (.keep [] (.ops [⟨0, some 4, .mv (.const (.bool false)), none, []⟩]))
  (.ret)) (.skip)))
  (.seq (.keep [5, 6, 7, 8, 12] (.ops [⟨0, some 14, .mv (.const (.float .f64 0)), none, []⟩]))
  (.seq (.seq (.ops [⟨0, some 98, .mv (.tmp 12), none, []⟩, ⟨1, some 99, .len (.tmp 98), none, []⟩, ⟨2, some 100, .mv (.const (.int .i64 0)), none, []⟩])
  (.block 0 (.loop [5, 6, 7, 8, 12, 14, 99, 100] (.seq (.ops [⟨0, some 101, .bin .lss (.tmp 100) (.tmp 99), none, []⟩])
  (.seq (.cond (.tmp 101) (.skip) (.exit 0))
  (.seq (.block 1 (.seq (.ops [⟨0, some 102, .mv (.tmp 100), none, []⟩, ⟨1, some 15, .mv (.tmp 102), none, []⟩])
  (.ops [⟨0, some 103, .mv (.tmp 14), none, []⟩, ⟨1, some 104, .mv (.tmp 12), none, []⟩, ⟨2, some 105, .mv (.tmp 15), none, []⟩, ⟨3, some 106, .ia (.tmp 104) (.tmp 105), none, []⟩, ⟨4, some 107, .ld (.tmp 106), none, []⟩, ⟨5, some 108, .cv (.f .f64) (.tmp 107), none, []⟩, ⟨6, some 109, .bin .add (.tmp 103) (.tmp 108), none, []⟩, ⟨7, some 14, .mv (.tmp 109), none, []⟩])))
  (.keep [5, 6, 7, 8, 12, 14, 99, 100] (.ops [⟨0, some 110, .bin .add (.tmp 100) (.const (.int .i64 1)), none, []⟩, ⟨1, some 100, .mv (.tmp 110), none, []⟩]))))))))
  (.seq (.ops [⟨0, some 111, .mv (.tmp 7), none, []⟩, ⟨1, some 112, .call n_w_b10Squares [.tmp 111], none, []⟩, ⟨2, some 16, .mv (.tmp 112), none, []⟩])
  (.seq (.seq (.keep [5, 6, 7, 8, 14, 16] (.ops [⟨0, some 113, .mv (.tmp 14), none, []⟩, ⟨1, some 114, .mv (.tmp 16), none, []⟩, ⟨2, some 115, .call n_w_b10Gap [.tmp 113, .tmp 114], none, []⟩, ⟨3, some 116, .mv (.tmp 16), none, []⟩, ⟨4, some 117, .bin .add (.const (.float .f64 4607182418800017408)) (.tmp 116), none, []⟩, ⟨5, some 118, .bin .mul (.const (.float .f64 4576918229304087675)) (.tmp 117), none, []⟩, ⟨6, some 119, .bin .gtr (.tmp 115) (.tmp 118), none, []⟩]))
  (.cond (.tmp 119) (.seq (.keep [] (.ops [⟨0, some 4, .mv (.const (.bool false)), none, []⟩]))
  (.ret)) (.skip)))
  (.seq (.keep [5, 6, 7, 8] (.ops [⟨0, some 120, .mv (.tmp 7), none, []⟩, ⟨1, some 121, .len (.tmp 120), none, []⟩, ⟨2, some 122, .mks 41 4 (.float .f32 0) (.tmp 121) (.tmp 121), none, []⟩, ⟨3, some 17, .mv (.tmp 122), none, []⟩]))
  (.seq (.ops [⟨0, some 123, .bsl 4 0 (.bool false) [], none, []⟩, ⟨1, some 18, .mv (.tmp 123), none, []⟩])
  (.seq (.seq (.ops [⟨0, some 19, .mv (.const (.int .i64 0)), none, []⟩])
  (.block 2 (.loop [5, 6, 7, 8, 17, 18, 19] (.seq (.seq (.ops [⟨0, some 124, .mv (.tmp 19), none, []⟩, ⟨1, some 125, .mv (.tmp 6), none, []⟩, ⟨2, some 126, .bin .leq (.tmp 124) (.tmp 125), none, []⟩])
  (.cond (.tmp 126) (.skip) (.exit 2)))
  (.seq (.block 3 (.seq (.ops [⟨0, some 130, .ldn 2 (.tmp 8), none, []⟩, ⟨1, some 131, .ldn 1 (.tmp 5), none, []⟩, ⟨2, some 132, .mv (.tmp 19), none, []⟩, ⟨3, some 133, .call n_i_BandAlone [.tmp 130, .tmp 131, .tmp 132], none, []⟩, ⟨4, some 129, .mv (.tmp 133), none, []⟩, ⟨5, some 134, .ext (.tmp 129) 0, none, []⟩, ⟨6, some 135, .ext (.tmp 129) 1, none, []⟩, ⟨7, some 20, .mv (.tmp 134), none, []⟩, ⟨8, some 21, .mv (.tmp 135), none, []⟩])
  (.seq (.seq (.keep [5, 6, 7, 8, 17, 18, 19, 20, 21] (.ops [⟨0, some 136, .mv (.tmp 21), none, []⟩, ⟨1, some 137, .un .not (.tmp 136), none, []⟩, ⟨2, some 138, .mv (.tmp 137), none, []⟩, ⟨3, some 139, .mv (.tmp 20), (some (138, false)), []⟩, ⟨4, some 140, .len (.tmp 139), (some (138, false)), []⟩, ⟨5, some 141, .mv (.tmp 7), (some (138, false)), []⟩, ⟨6, some 142, .len (.tmp 141), (some (138, false)), []⟩, ⟨7, some 143, .bin .neq (.tmp 140) (.tmp 142), (some (138, false)), []⟩, ⟨8, some 144, .pick (.tmp 138) (.const (.bool true)) (.tmp 143), none, []⟩]))
  (.cond (.tmp 144) (.seq (.keep [] (.ops [⟨0, some 4, .mv (.const (.bool false)), none, []⟩]))
  (.ret)) (.skip)))
  (.seq (.seq (.keep [5, 6, 7, 8, 17, 18, 19, 20] (.ops [⟨0, some 145, .mv (.tmp 20), none, []⟩, ⟨1, some 146, .len (.tmp 145), none, []⟩, ⟨2, some 147, .mv (.const (.int .i64 0)), none, []⟩]))
  (.block 4 (.loop [5, 6, 7, 8, 17, 18, 19, 20, 146, 147] (.seq (.ops [⟨0, some 148, .bin .lss (.tmp 147) (.tmp 146), none, []⟩])
  (.seq (.cond (.tmp 148) (.skip) (.exit 4))
  (.seq (.block 5 (.seq (.ops [⟨0, some 149, .mv (.tmp 147), none, []⟩, ⟨1, some 22, .mv (.tmp 149), none, []⟩])
  (.ops [⟨0, some 150, .mv (.tmp 17), none, []⟩, ⟨1, some 151, .mv (.tmp 22), none, []⟩, ⟨2, some 152, .ia (.tmp 150) (.tmp 151), none, []⟩, ⟨3, some 153, .ld (.tmp 152), none, []⟩, ⟨4, some 154, .mv (.tmp 20), none, []⟩, ⟨5, some 155, .mv (.tmp 22), none, []⟩, ⟨6, some 156, .ia (.tmp 154) (.tmp 155), none, []⟩, ⟨7, some 157, .ld (.tmp 156), none, []⟩, ⟨8, some 158, .bin .add (.tmp 153) (.tmp 157), none, []⟩, ⟨9, some 159, .ia (.tmp 150) (.tmp 151), none, []⟩, ⟨10, none, .st (.tmp 159) (.tmp 158), none, []⟩])))
  (.keep [5, 6, 7, 8, 17, 18, 19, 20, 146, 147] (.ops [⟨0, some 160, .bin .add (.tmp 147) (.const (.int .i64 1)), none, []⟩, ⟨1, some 147, .mv (.tmp 160), none, []⟩]))))))))
  (.ops [⟨0, some 161, .mv (.tmp 18), none, []⟩, ⟨1, some 162, .bsl 4 1 (.bool false) [(0, .const (.bool true))], none, []⟩, ⟨2, some 163, .app 4 1 (.tmp 161) (.tmp 162), none, []⟩, ⟨3, some 18, .mv (.tmp 163), none, []⟩])))))
  (.keep [5, 6, 7, 8, 17, 18, 19] (.ops [⟨0, some 127, .mv (.tmp 19), none, []⟩, ⟨1, some 128, .bin .add (.tmp 127) (.const (.int .i64 1)), none, []⟩, ⟨2, some 19, .mv (.tmp 128), none, []⟩])))))))
  (.seq (.both 3 7 (.ops [⟨0, some 165, .ldn 2 (.tmp 8), none, []⟩, ⟨1, some 166, .mv (.tmp 18), none, []⟩, ⟨2, some 167, .slc (.tmp 166) (some (.const (.int .i64 1))) none, none, []⟩, ⟨3, some 168, .call n_i_KeepBands [.tmp 165, .const (.bool true), .tmp 167], none, []⟩, ⟨4, some 164, .mv (.tmp 168), none, []⟩, ⟨5, some 169, .ext (.tmp 164) 0, none, []⟩, ⟨6, some 170, .ext (.tmp 164) 1, none, []⟩, ⟨7, some 23, .new 32 [.slice none 0 0, .slice none 0 0], none, []⟩, ⟨8, none, .stn 2 (.tmp 23) (.tmp 169), none, []⟩, ⟨9, some 24, .mv (.tmp 170), none, []⟩]) (.ops [⟨0, some 165, .ldn 2 (.tmp 8), none, []⟩, ⟨1, some 166, .mv (.tmp 18), none, []⟩, ⟨2, some 167, .slc (.tmp 166) (some (.const (.int .i64 1))) none, none, []⟩, ⟨7, some 23, .new 32 [.slice none 0 0, .slice none 0 0], none, [(some 165, .ldn 2 (.tmp 8), none)]⟩, ⟨3, some 168, .call n_i_KeepBands [.tmp 165, .const (.bool true), .tmp 167], none, []⟩, ⟨4, some 164, .mv (.tmp 168), none, []⟩, ⟨5, some 169, .ext (.tmp 164) 0, none, []⟩, ⟨6, some 170, .ext (.tmp 164) 1, none, []⟩, ⟨8, none, .stn 2 (.tmp 23) (.tmp 169), none, []⟩, ⟨9, some 24, .mv (.tmp 170), none, []⟩]))
  (.keep [5, 6, 7, 8, 17, 23, 24] (.seq (.both 4 8 (.ops [⟨0, some 172, .mv (.tmp 7), none, []⟩, ⟨1, some 173, .slc (.tmp 172) (some (.const (.int .i64 1))) none, none, []⟩, ⟨2, some 174, .ldn 1 (.tmp 5), none, []⟩, ⟨3, some 175, .mv (.tmp 6), none, []⟩, ⟨4, some 176, .call n_i_SplitLevels [.tmp 173, .tmp 174, .tmp 175], none, []⟩, ⟨5, some 171, .mv (.tmp 176), none, []⟩, ⟨6, some 177, .ext (.tmp 171) 0, none, []⟩, ⟨7, some 178, .ext (.tmp 171) 1, none, []⟩, ⟨8, some 25, .new 32 [.slice none 0 0, .slice none 0 0], none, []⟩, ⟨9, none, .stn 2 (.tmp 25) (.tmp 177), none, []⟩, ⟨10, some 26, .mv (.tmp 178), none, []⟩]) (.ops [⟨0, some 172, .mv (.tmp 7), none, []⟩, ⟨1, some 173, .slc (.tmp 172) (some (.const (.int .i64 1))) none, none, []⟩, ⟨2, some 174, .ldn 1 (.tmp 5), none, []⟩, ⟨3, some 175, .mv (.tmp 6), none, []⟩, ⟨8, some 25, .new 32 [.slice none 0 0, .slice none 0 0], none, [(some 174, .ldn 1 (.tmp 5), none)]⟩, ⟨4, some 176, .call n_i_SplitLevels [.tmp 173, .tmp 174, .tmp 175], none, []⟩, ⟨5, some 171, .mv (.tmp 176), none, []⟩, ⟨6, some 177, .ext (.tmp 171) 0, none, []⟩, ⟨7, some 178, .ext (.tmp 171) 1, none, []⟩, ⟨9, none, .stn 2 (.tmp 25) (.tmp 177), none, []⟩, ⟨10, some 26, .mv (.tmp 178), none, []⟩]))
  (.keep [7, 8, 17, 23, 24, 26] (.seq (.ops [⟨0, some 179, .mv (.tmp 24), none, []⟩, ⟨1, some 180, .mv (.tmp 179), none, []⟩, ⟨2, some 181, .mv (.tmp 26), (some (180, true)), []⟩, ⟨3, some 182, .un .not (.tmp 181), (some (180, true)), []⟩, ⟨4, some 183, .pick (.tmp 180) (.tmp 182) (.const (.bool false)), none, []⟩, ⟨5, some 184, .mv (.tmp 183), none, []⟩, ⟨6, some 185, .ldn 2 (.tmp 23), (some (184, true)), []⟩, ⟨7, some 186, .ldn 2 (.tmp 8), (some (184, true)), []⟩, ⟨8, some 187, .call n_i_SameBands [.tmp 185, .tmp 186], (some (184, true)), []⟩, ⟨9, some 188, .pick (.tmp 184) (.tmp 187) (.const (.bool false)), none, []⟩, ⟨10, some 189, .mv (.tmp 188), none, []⟩, ⟨11, some 190, .mv (.tmp 17), (some (189, true)), []⟩, ⟨12, some 191, .mv (.tmp 7), (some (189, true)), []⟩, ⟨13, some 192, .call n_w_b10Apart [.tmp 190, .tmp 191, .const (.float .f64 4576918229304087675)], (some (189, true)), []⟩, ⟨14, some 193, .un .not (.tmp 192), (some (189, true)), []⟩, ⟨15, some 194, .pick (.tmp 189) (.tmp 193) (.const (.bool false)), none, []⟩, ⟨16, some 4, .mv (.tmp 194), none, []⟩])
  (.ret)))))))))))))))))))))
theorem k_w_FnBandTrees : FnOk Try.prog n_w_FnBandTrees 2 c_w_FnBandTrees [.tmp 4] := ⟨by kernel_rfl⟩
def c_w_b10Long : ACode :=
  .seq (.ops [⟨0, some 4, .mv (.const (.bool false)), none, []⟩])
  (.seq (.ops [⟨0, some 5, .mv (.tmp 0), none, []⟩, ⟨1, some 6, .len (.tmp 5), none, []⟩, ⟨2, some 7, .bin .gtr (.tmp 6) (.const (.int .i64 1048576)), none, []⟩, ⟨3, some 8, .mv (.tmp 7), none, []⟩, ⟨4, some 9, .mv (.tmp 1), (some (8, false)), []⟩, ⟨5, some 10, .len (.tmp 9), (some (8, false)), []⟩, ⟨6, some 11, .bin .gtr (.tmp 10) (.const (.int .i64 1048576)), (some (8, false)), []⟩, ⟨7, some 12, .pick (.tmp 8) (.const (.bool true)) (.tmp 11), none, []⟩, ⟨8, some 4, .mv (.tmp 12), none, []⟩])
  (.ret))
theorem k_w_b10Long : FnOk Try.prog n_w_b10Long 2 c_w_b10Long [.tmp 4] := ⟨by kernel_rfl⟩
def c_s_B10Pair : ACode :=
  .seq (.ops [⟨0, some 2, .new 26 [.slice none 0 0], none, []⟩])
  (.seq (.ops [⟨0, some 4, .mv (.tmp 0), none, []⟩, ⟨1, some 5, .call n_s_l00From [.tmp 4], none, []⟩, ⟨2, some 3, .mv (.tmp 5), none, []⟩])
  (.seq (.seq (.ops [⟨0, some 6, .mv (.tmp 3), none, []⟩, ⟨1, some 7, .call n_s_l00Src_one [.tmp 6, .const (.int .i64 2)], none, []⟩])
  (.cond (.tmp 7) (.seq (.keep [2] (.ops [⟨0, some 8, .call n_s_FourPair [], none, []⟩, ⟨1, none, .stn 1 (.tmp 2) (.tmp 8), none, []⟩]))
  (.ret)) (.skip)))
  (.seq (.keep [2] (.ops [⟨0, some 9, .call n_s_HaarPair [], none, []⟩, ⟨1, none, .stn 1 (.tmp 2) (.tmp 9), none, []⟩]))
  (.ret))))
theorem k_s_B10Pair : FnOk Try.prog n_s_B10Pair 1 c_s_B10Pair [.celln 2 1] := ⟨by kernel_rfl⟩
def c_w_b10At : ACode :=
  .seq (.ops [⟨0, some 6, .mv (.const (.int .i64 0)), none, []⟩])
  (.seq (.seq (.ops [⟨0, some 7, .mv (.tmp 2), none, []⟩, ⟨1, some 8, .bin .leq (.tmp 7) (.const (.int .i64 1)), none, []⟩])
  (.cond (.tmp 8) (.seq (.keep [] (.ops [⟨0, some 6, .mv (.const (.int .i64 0)), none, []⟩]))
  (.ret)) (.skip)))
  (.seq (.seq (.ops [⟨0, some 9, .mv (.tmp 1), none, []⟩, ⟨1, some 10, .mv (.tmp 0), none, []⟩, ⟨2, some 11, .len (.tmp 10), none, []⟩, ⟨3, some 12, .bin .lss (.tmp 9) (.tmp 11), none, []⟩])
  (.cond (.tmp 12) (.seq (.keep [0, 1, 2] (.ops [⟨0, some 13, .mv (.tmp 0), none, []⟩, ⟨1, some 14, .mv (.tmp 1), none, []⟩, ⟨2, some 15, .ia (.tmp 13) (.tmp 14), none, []⟩, ⟨3, some 16, .ld (.tmp 15), none, []⟩, ⟨4, some 17, .cv (.i .i64) (.tmp 16), none, []⟩, ⟨5, some 18, .mv (.tmp 2), none, []⟩, ⟨6, some 19, .bin .rem (.tmp 17) (.tmp 18), none, []⟩, ⟨7, some 6, .mv (.tmp 19), none, []⟩]))
  (.ret)) (.skip)))
  (.seq (.keep [1, 2] (.ops [⟨0, some 20, .mv (.tmp 1), none, []⟩, ⟨1, some 21, .bin .mul (.tmp 20) (.const (.int .i64 37)), none, []⟩, ⟨2, some 22, .bin .add (.tmp 21) (.const (.int .i64 11)), none, []⟩, ⟨3, some 23, .mv (.tmp 2), none, []⟩, ⟨4, some 24, .bin .rem (.tmp 22) (.tmp 23), none, []⟩, ⟨5, some 6, .mv (.tmp 24), none, []⟩]))
  (.ret))))
theorem k_w_b10At : FnOk Try.prog n_w_b10At 3 c_w_b10At [.tmp 6] := ⟨by kernel_rfl⟩
def c_s_B10Signal : ACode :=
  .seq (.ops [⟨0, some 4, .mv (.const (.slice none 0 0)), none, []⟩])
  (.seq (.ops [⟨0, some 7, .mv (.tmp 0), none, []⟩, ⟨1, some 8, .call n_s_l00From [.tmp 7], none, []⟩, ⟨2, some 5, .mv (.tmp 8), none, []⟩])
  (.seq (.ops [⟨0, some 9, .bsl 41 0 (.float .f32 0) [], none, []⟩, ⟨1, some 6, .mv (.tmp 9), none, []⟩])
  (.seq (.block 0 (.loop [1, 5, 6] (.seq (.seq (.ops [⟨0, some 10, .mv (.tmp 1), none, []⟩, ⟨1, some 11, .bin .gtr (.tmp 10) (.const (.int .i64 0)), none, []⟩])
  (.cond (.tmp 11) (.skip) (.exit 0)))
  (.seq (.block 1 (.ops [⟨0, some 14, .mv (.tmp 6), none, []⟩, ⟨1, some 15, .mv (.tmp 5), none, []⟩, ⟨2, some 16, .call n_s_l00Src_pick [.tmp 15, .const (.int .i64 65)], none, []⟩, ⟨3, some 17, .bin .sub (.tmp 16) (.const (.int .i64 32)), none, []⟩, ⟨4, some 18, .cv (.f .f32) (.tmp 17), none, []⟩, ⟨5, some 19, .bin .quo (.tmp 18) (.const (.float .f32 1082130432)), none, []⟩, ⟨6, some 20, .bsl 41 1 (.float .f32 0) [(0, .tmp 19)], none, []⟩, ⟨7, some 21, .app 41 4 (.tmp 14) (.tmp 20), none, []⟩, ⟨8, some 6, .mv (.tmp 21), none, []⟩]))
  (.keep [1, 5, 6] (.ops [⟨0, some 12, .mv (.tmp 1), none, []⟩, ⟨1, some 13, .bin .sub (.tmp 12) (.const (.int .i64 1)), none, []⟩, ⟨2, some 1, .mv (.tmp 13), none, []⟩]))))))
  (.seq (.ops [⟨0, some 22, .mv (.tmp 6), none, []⟩, ⟨1, some 4, .mv (.tmp 22), none, []⟩])
  (.ret)))))
theorem k_s_B10Signal : FnOk Try.prog n_s_B10Signal 2 c_s_B10Signal [.tmp 4] := ⟨by kernel_rfl⟩
def c_i_SplitLevels : ACode :=
  .seq (.ops [⟨0, some 4, .box 26 (.tmp 1), none, []⟩, ⟨1, some 6, .new 32 [.slice none 0 0, .slice none 0 0], none, []⟩, ⟨2, some 7, .mv (.const (.bool false)), none, []⟩])
  (.seq (.seq (.ops [⟨0, some 12, .mv (.tmp 0), none, []⟩, ⟨1, some 13, .call n_i_isLong [.tmp 12], none, []⟩, ⟨2, some 14, .un .not (.tmp 13), none, []⟩, ⟨3, some 15, .mv (.tmp 14), none, []⟩, ⟨4, some 16, .ldn 1 (.tmp 4), (some (15, false)), []⟩, ⟨5, some 17, .call n_i_ValidPair [.tmp 16], (some (15, false)), []⟩, ⟨6, some 18, .un .not (.tmp 17), (some (15, false)), []⟩, ⟨7, some 19, .pick (.tmp 15) (.const (.bool true)) (.tmp 18), none, []⟩, ⟨8, some 20, .mv (.tmp 19), none, []⟩, ⟨9, some 21, .mv (.tmp 2), (some (20, false)), []⟩, ⟨10, some 22, .call n_i_within [.tmp 21, .const (.int .i64 1), .const (.int .i64 6)], (some (20, false)), []⟩, ⟨11, some 23, .un .not (.tmp 22), (some (20, false)), []⟩, ⟨12, some 24, .pick (.tmp 20) (.const (.bool true)) (.tmp 23), none, []⟩, ⟨13, some 25, .mv (.tmp 24), none, []⟩, ⟨14, some 26, .mv (.tmp 0), (some (25, false)), []⟩, ⟨15, some 27, .len (.tmp 26), (some (25, false)), []⟩, ⟨16, some 28, .mv (.tmp 2), (some (25, false)), []⟩, ⟨17, some 29, .bin .shl (.const (.int .i64 1)) (.tmp 28), (some (25, false)), []⟩, ⟨18, some 30, .bin .rem (.tmp 27) (.tmp 29), (some (25, false)), []⟩, ⟨19, some 31, .bin .neq (.tmp 30) (.const (.int .i64 0)), (some (25, false)), []⟩, ⟨20, some 32, .pick (.tmp 25) (.const (.bool true)) (.tmp 31), none, []⟩])
  (.cond (.tmp 32) (.seq (.keep [6] (.ops [⟨0, some 33, .bld [.slice none 0 0, .slice none 0 0] [], none, []⟩, ⟨1, none, .stn 2 (.tmp 6) (.tmp 33), none, []⟩, ⟨2, some 7, .mv (.const (.bool false)), none, []⟩]))
  (.ret)) (.skip)))
  (.seq (.keep [0, 2, 4, 6] (.ops [⟨0, some 34, .mv (.tmp 0), none, []⟩, ⟨1, some 35, .call n_i_copyOf [.tmp 34], none, []⟩, ⟨2, some 36, .bld [.slice none 0 0, .slice none 0 0] [(0, 1, .tmp 35)], none, []⟩, ⟨3, some 8, .new 32 [.slice none 0 0, .slice none 0 0], none, []⟩, ⟨4, none, .stn 2 (.tmp 8) (.tmp 36), none, []⟩]))
  (.seq (.seq (.ops [⟨0, some 37, .mv (.tmp 2), none, []⟩, ⟨1, some 38, .mv (.const (.int .i64 0)), none, []⟩])
  (.block 0 (.loop [4, 6, 8, 37, 38] (.seq (.ops [⟨0, some 39, .bin .lss (.tmp 38) (.tmp 37), none, []⟩])
  (.seq (.cond (.tmp 39) (.skip) (.exit 0))
  (.seq (.block 1 (.seq (.ops [⟨0, some 41, .fa 0 (.tmp 8), none, []⟩, ⟨1, some 42, .ld (.tmp 41), none, []⟩, ⟨2, some 43, .ldn 1 (.tmp 4), none, []⟩, ⟨3, some 44, .call n_i_SplitRing [.tmp 42, .tmp 43], none, []⟩, ⟨4, some 40, .mv (.tmp 44), none, []⟩, ⟨5, some 45, .ext (.tmp 40) 0, none, []⟩, ⟨6, some 46, .ext (.tmp 40) 1, none, []⟩, ⟨7, some 47, .ext (.tmp 40) 2, none, []⟩, ⟨8, some 9, .mv (.tmp 45), none, []⟩, ⟨9, some 10, .mv (.tmp 46), none, []⟩, ⟨10, some 11, .mv (.tmp 47), none, []⟩])
  (.seq (.seq (.keep [4, 6, 8, 9, 10, 11, 37, 38] (.ops [⟨0, some 48, .mv (.tmp 11), none, []⟩, ⟨1, some 49, .un .not (.tmp 48), none, []⟩]))
  (.cond (.tmp 49) (.seq (.keep [6] (.ops [⟨0, some 50, .bld [.slice none 0 0, .slice none 0 0] [], none, []⟩, ⟨1, none, .stn 2 (.tmp 6) (.tmp 50), none, []⟩, ⟨2, some 7, .mv (.const (.bool false)), none, []⟩]))
  (.ret)) (.skip)))
  (.seq (.ops [⟨0, some 51, .mv (.tmp 9), none, []⟩, ⟨1, some 52, .fa 0 (.tmp 8), none, []⟩, ⟨2, none, .st (.tmp 52) (.tmp 51), none, []⟩])
  (.keep [4, 6, 8, 10, 37, 38] (.ops [⟨0, some 53, .fa 1 (.tmp 8), none, []⟩, ⟨1, some 54, .ld (.tmp 53), none, []⟩, ⟨2, some 55, .mv (.tmp 10), none, []⟩, ⟨3, some 56, .bsl 24 1 (.slice none 0 0) [(0, .tmp 55)], none, []⟩, ⟨4, some 57, .app 24 24 (.tmp 54) (.tmp 56), none, []⟩, ⟨5, some 58, .fa 1 (.tmp 8), none, []⟩, ⟨6, none, .st (.tmp 58) (.tmp 57), none, []⟩]))))))
  (.keep [4, 6, 8, 37, 38] (.ops [⟨0, some 59, .bin .add (.tmp 38) (.const (.int .i64 1)), none, []⟩, ⟨1, some 38, .mv (.tmp 59), none, []⟩]))))))))
  (.seq (.ops [⟨0, some 60, .ldn 2 (.tmp 8), none, []⟩, ⟨1, none, .stn 2 (.tmp 6) (.tmp 60), none, []⟩, ⟨2, some 7, .mv (.const (.bool true)), none, []⟩])
  (.ret)))))
theorem k_i_SplitLevels : FnOk Try.prog n_i_SplitLevels 3 c_i_SplitLevels [.celln 6 2, .tmp 7] := ⟨by kernel_rfl⟩
def c_i_JoinLevels : ACode :=
  .seq (.ops [⟨0, some 2, .box 32 (.tmp 0), none, []⟩, ⟨1, some 3, .box 26 (.tmp 1), none, []⟩, ⟨2, some 4, .mv (.const (.slice none 0 0)), none, []⟩, ⟨3, some 5, .mv (.const (.bool false)), none, []⟩])
  (.seq (.seq (.ops [⟨0, some 10, .ldn 2 (.tmp 2), none, []⟩, ⟨1, some 11, .call n_i_ValidBands [.tmp 10], none, []⟩, ⟨2, some 12, .un .not (.tmp 11), none, []⟩, ⟨3, some 13, .mv (.tmp 12), none, []⟩, ⟨4, some 14, .ldn 1 (.tmp 3), (some (13, false)), []⟩, ⟨5, some 15, .call n_i_ValidPair [.tmp 14], (some (13, false)), []⟩, ⟨6, some 16, .un .not (.tmp 15), (some (13, false)), []⟩, ⟨7, some 17, .pick (.tmp 13) (.const (.bool true)) (.tmp 16), none, []⟩])
  (.cond (.tmp 17) (.seq (.keep [] (.ops [⟨0, some 4, .mv (.const (.slice none 0 0)), none, []⟩, ⟨1, some 5, .mv (.const (.bool false)), none, []⟩]))
  (.ret)) (.skip)))
  (.seq (.keep [2, 3] (.ops [⟨0, some 18, .fa 0 (.tmp 2), none, []⟩, ⟨1, some 19, .ld (.tmp 18), none, []⟩, ⟨2, some 6, .mv (.tmp 19), none, []⟩]))
  (.seq (.seq (.ops [⟨0, some 20, .fa 1 (.tmp 2), none, []⟩, ⟨1, some 21, .ld (.tmp 20), none, []⟩, ⟨2, some 22, .len (.tmp 21), none, []⟩, ⟨3, some 23, .bin .sub (.tmp 22) (.const (.int .i64 1)), none, []⟩, ⟨4, some 7, .mv (.tmp 23), none, []⟩])
  (.block 0 (.loop [2, 3, 6, 7] (.seq (.seq (.ops [⟨0, some 24, .mv (.tmp 7), none, []⟩, ⟨1, some 25, .bin .geq (.tmp 24) (.const (.int .i64 0)), none, []⟩])
  (.cond (.tmp 25) (.skip) (.exit 0)))
  (.seq (.block 1 (.seq (.ops [⟨0, some 29, .mv (.tmp 6), none, []⟩, ⟨1, some 30, .fa 1 (.tmp 2), none, []⟩, ⟨2, some 31, .ld (.tmp 30), none, []⟩, ⟨3, some 32, .mv (.tmp 7), none, []⟩, ⟨4, some 33, .ia (.tmp 31) (.tmp 32), none, []⟩, ⟨5, some 34, .ld (.tmp 33), none, []⟩, ⟨6, some 35, .ldn 1 (.tmp 3), none, []⟩, ⟨7, some 36, .call n_i_JoinRing [.tmp 29, .tmp 34, .tmp 35], none, []⟩, ⟨8, some 28, .mv (.tmp 36), none, []⟩, ⟨9, some 37, .ext (.tmp 28) 0, none, []⟩, ⟨10, some 38, .ext (.tmp 28) 1, none, []⟩, ⟨11, some 8, .mv (.tmp 37), none, []⟩, ⟨12, some 9, .mv (.tmp 38), none, []⟩])
  (.seq (.seq (.keep [2, 3, 7, 8, 9] (.ops [⟨0, some 39, .mv (.tmp 9), none, []⟩, ⟨1, some 40, .un .not (.tmp 39), none, []⟩]))
  (.cond (.tmp 40) (.seq (.keep [] (.ops [⟨0, some 4, .mv (.const (.slice none 0 0)), none, []⟩, ⟨1, some 5, .mv (.const (.bool false)), none, []⟩]))
  (.ret)) (.skip)))
  (.ops [⟨0, some 41, .mv (.tmp 8), none, []⟩, ⟨1, some 6, .mv (.tmp 41), none, []⟩]))))
  (.keep [2, 3, 6, 7] (.ops [⟨0, some 26, .mv (.tmp 7), none, []⟩, ⟨1, some 27, .bin .sub (.tmp 26) (.const (.int .i64 1)), none, []⟩, ⟨2, some 7, .mv (.tmp 27), none, []⟩])))))))
  (.seq (.keep [6] (.ops [⟨0, some 42, .mv (.tmp 6), none, []⟩, ⟨1, some 4, .mv (.tmp 42), none, []⟩, ⟨2, some 5, .mv (.const (.bool true)), none, []⟩]))
  (.ret)))))
theorem k_i_JoinLevels : FnOk Try.prog n_i_JoinLevels 2 c_i_JoinLevels [.tmp 4, .tmp 5] := ⟨by kernel_rfl⟩
def c_i_PowersOfBands : ACode :=
  .seq (.ops [⟨0, some 1, .box 32 (.tmp 0), none, []⟩, ⟨1, some 2, .mv (.const (.slice none 0 0)), none, []⟩, ⟨2, some 3, .mv (.const (.bool false)), none, []⟩])
  (.seq (.seq (.ops [⟨0, some 7, .ldn 2 (.tmp 1), none, []⟩, ⟨1, some 8, .call n_i_ValidBands [.tmp 7], none, []⟩, ⟨2, some 9, .un .not (.tmp 8), none, []⟩])
  (.cond (.tmp 9) (.seq (.keep [] (.ops [⟨0, some 2, .mv (.const (.slice none 0 0)), none, []⟩, ⟨1, some 3, .mv (.const (.bool false)), none, []⟩]))
  (.ret)) (.skip)))
  (.seq (.keep [1] (.ops [⟨0, some 10, .bsl 41 0 (.float .f32 0) [], none, []⟩, ⟨1, some 4, .mv (.tmp 10), none, []⟩]))
  (.seq (.seq (.ops [⟨0, some 11, .fa 1 (.tmp 1), none, []⟩, ⟨1, some 12, .ld (.tmp 11), none, []⟩, ⟨2, some 13, .len (.tmp 12), none, []⟩, ⟨3, some 14, .mv (.const (.int .i64 0)), none, []⟩])
  (.block 0 (.loop [1, 4, 12, 13, 14] (.seq (.ops [⟨0, some 15, .bin .lss (.tmp 14) (.tmp 13), none, []⟩])
  (.seq (.cond (.tmp 15) (.skip) (.exit 0))
  (.seq (.block 1 (.seq (.ops [⟨0, some 16, .ia (.tmp 12) (.tmp 14), none, []⟩, ⟨1, some 17, .ld (.tmp 16), none, []⟩, ⟨2, some 6, .mv (.tmp 17), none, []⟩])
  (.ops [⟨0, some 18, .mv (.tmp 4), none, []⟩, ⟨1, some 19, .mv (.tmp 6), none, []⟩, ⟨2, some 20, .call n_i_squares [.tmp 19], none, []⟩, ⟨3, some 21, .bsl 41 1 (.float .f32 0) [(0, .tmp 20)], none, []⟩, ⟨4, some 22, .app 41 4 (.tmp 18) (.tmp 21), none, []⟩, ⟨5, some 4, .mv (.tmp 22), none, []⟩])))
  (.keep [1, 4, 12, 13, 14] (.ops [⟨0, some 23, .bin .add (.tmp 14) (.const (.int .i64 1)), none, []⟩, ⟨1, some 14, .mv (.tmp 23), none, []⟩]))))))))
  (.seq (.ops [⟨0, some 24, .mv (.tmp 4), none, []⟩, ⟨1, some 25, .fa 0 (.tmp 1), none, []⟩, ⟨2, some 26, .ld (.tmp 25), none, []⟩, ⟨3, some 27, .call n_i_squares [.tmp 26], none, []⟩, ⟨4, some 28, .bsl 41 1 (.float .f32 0) [(0, .tmp 27)], none, []⟩, ⟨5, some 29, .app 41 4 (.tmp 24) (.tmp 28), none, []⟩, ⟨6, some 30, .call n_i_finiteList [.tmp 29], none, []⟩, ⟨7, some 31, .ext (.tmp 30) 0, none, []⟩, ⟨8, some 32, .ext (.tmp 30) 1, none, []⟩, ⟨9, some 2, .mv (.tmp 31), none, []⟩, ⟨10, some 3, .mv (.tmp 32), none, []⟩])
  (.ret)))))
theorem k_i_PowersOfBands : FnOk Try.prog n_i_PowersOfBands 1 c_i_PowersOfBands [.tmp 2, .tmp 3] := ⟨by kernel_rfl⟩
def c_s_ValidBands : ACode :=
  .seq (.ops [⟨0, some 1, .box 32 (.tmp 0), none, []⟩, ⟨1, some 2, .mv (.const (.bool false)), none, []⟩])
  (.seq (.ops [⟨0, some 3, .call n_s_l03Bands [.tmp 1], none, []⟩, ⟨1, some 2, .mv (.tmp 3), none, []⟩])
  (.ret))
theorem k_s_ValidBands : FnOk Try.prog n_s_ValidBands 1 c_s_ValidBands [.tmp 2] := ⟨by kernel_rfl⟩
def c_i_ValidBands : ACode :=
  .seq (.ops [⟨0, some 1, .box 32 (.tmp 0), none, []⟩, ⟨1, some 2, .mv (.const (.bool false)), none, []⟩])
  (.seq (.ops [⟨0, some 6, .fa 1 (.tmp 1), none, []⟩, ⟨1, some 7, .ld (.tmp 6), none, []⟩, ⟨2, some 8, .len (.tmp 7), none, []⟩, ⟨3, some 3, .mv (.tmp 8), none, []⟩])
  (.seq (.seq (.keep [1, 3] (.ops [⟨0, some 9, .mv (.tmp 3), none, []⟩, ⟨1, some 10, .call n_i_within [.tmp 9, .const (.int .i64 1), .const (.int .i64 6)], none, []⟩, ⟨2, some 11, .un .not (.tmp 10), none, []⟩, ⟨3, some 12, .mv (.tmp 11), none, []⟩, ⟨4, some 13, .fa 1 (.tmp 1), (some (12, false)), []⟩, ⟨5, some 14, .ld (.tmp 13), (some (12, false)), []⟩, ⟨6, some 15, .ia (.tmp 14) (.const (.int .i64 0)), (some (12, false)), []⟩, ⟨7, some 16, .ld (.tmp 15), (some (12, false)), []⟩, ⟨8, some 17, .len (.tmp 16), (some (12, false)), []⟩, ⟨9, some 18, .bin .gtr (.tmp 17) (.const (.int .i64 64)), (some (12, false)), []⟩, ⟨10, some 19, .pick (.tmp 12) (.const (.bool true)) (.tmp 18), none, []⟩, ⟨11, some 20, .mv (.tmp 19), none, []⟩, ⟨12, some 21, .fa 1 (.tmp 1), (some (20, false)), []⟩, ⟨13, some 22, .ld (.tmp 21), (some (20, false)), []⟩, ⟨14, some 23, .call n_i_areFinite [.tmp 22], (some (20, false)), []⟩, ⟨15, some 24, .un .not (.tmp 23), (some (20, false)), []⟩, ⟨16, some 25, .pick (.tmp 20) (.const (.bool true)) (.tmp 24), none, []⟩, ⟨17, some 26, .mv (.tmp 25), none, []⟩, ⟨18, some 27, .fa 0 (.tmp 1), (some (26, false)), []⟩, ⟨19, some 28, .ld (.tmp 27), (some (26, false)), []⟩, ⟨20, some 29, .bsl 24 1 (.slice none 0 0) [(0, .tmp 28)], (some (26, false)), []⟩, ⟨21, some 30, .call n_i_areFinite [.tmp 29], (some (26, false)), []⟩, ⟨22, some 31, .un .not (.tmp 30), (some (26, false)), []⟩, ⟨23, some 32, .pick (.tmp 26) (.const (.bool true)) (.tmp 31), none, []⟩]))
  (.cond (.tmp 32) (.seq (.keep [] (.ops [⟨0, some 2, .mv (.const (.bool false)), none, []⟩]))
  (.ret)) (.skip)))
  (.seq (.seq (.keep [1, 3] (.ops [⟨0, some 33, .fa 1 (.tmp 1), none, []⟩, ⟨1, some 34, .ld (.tmp 33), none, []⟩, ⟨2, some 35, .len (.tmp 34), none, []⟩, ⟨3, some 36, .mv (.const (.int .i64 0)), none, []⟩]))
  (.block 0 (.loop [1, 3, 34, 35, 36] (.seq (.ops [⟨0, some 37, .bin .lss (.tmp 36) (.tmp 35), none, []⟩])
  (.seq (.cond (.tmp 37) (.skip) (.exit 0))
  (.seq (.block 1 (.seq (.ops [⟨0, some 38, .mv (.tmp 36), none, []⟩, ⟨1, some 39, .ia (.tmp 34) (.tmp 36), none, []⟩, ⟨2, some 40, .ld (.tmp 39), none, []⟩, ⟨3, some 4, .mv (.tmp 38), none, []⟩, ⟨4, some 5, .mv (.tmp 40), none, []⟩])
  (.seq (.ops [⟨0, some 41, .mv (.tmp 5), none, []⟩, ⟨1, some 42, .len (.tmp 41), none, []⟩, ⟨2, some 43, .bin .eql (.tmp 42) (.const (.int .i64 0)), none, []⟩, ⟨3, some 44, .mv (.tmp 43), none, []⟩, ⟨4, some 45, .mv (.tmp 4), (some (44, false)), []⟩, ⟨5, some 46, .bin .gtr (.tmp 45) (.const (.int .i64 0)), (some (44, false)), []⟩, ⟨6, some 47, .mv (.tmp 46), (some (44, false)), []⟩, ⟨7, some 48, .mv (.tmp 5), (some (47, true)), []⟩, ⟨8, some 49, .len (.tmp 48), (some (47, true)), []⟩, ⟨9, some 50, .bin .mul (.const (.int .i64 2)) (.tmp 49), (some (47, true)), []⟩, ⟨10, some 51, .fa 1 (.tmp 1), (some (47, true)), []⟩, ⟨11, some 52, .ld (.tmp 51), (some (47, true)), []⟩, ⟨12, some 53, .mv (.tmp 4), (some (47, true)), []⟩, ⟨13, some 54, .bin .sub (.tmp 53) (.const (.int .i64 1)), (some (47, true)), []⟩, ⟨14, some 55, .ia (.tmp 52) (.tmp 54), (some (47, true)), []⟩, ⟨15, some 56, .ld (.tmp 55), (some (47, true)), []⟩, ⟨16, some 57, .len (.tmp 56), (some (47, true)), []⟩, ⟨17, some 58, .bin .neq (.tmp 50) (.tmp 57), (some (47, true)), []⟩, ⟨18, some 59, .pick (.tmp 47) (.tmp 58) (.const (.bool false)), (some (44, false)), []⟩, ⟨19, some 60, .pick (.tmp 44) (.const (.bool true)) (.tmp 59), none, []⟩])
  (.cond (.tmp 60) (.seq (.keep [] (.ops [⟨0, some 2, .mv (.const (.bool false)), none, []⟩]))
  (.ret)) (.skip)))))
  (.keep [1, 3, 34, 35, 36] (.ops [⟨0, some 61, .bin .add (.tmp 36) (.const (.int .i64 1)), none, []⟩, ⟨1, some 36, .mv (.tmp 61), none, []⟩]))))))))
  (.seq (.ops [⟨0, some 62, .fa 0 (.tmp 1), none, []⟩, ⟨1, some 63, .ld (.tmp 62), none, []⟩, ⟨2, some 64, .len (.tmp 63), none, []⟩, ⟨3, some 65, .fa 1 (.tmp 1), none, []⟩, ⟨4, some 66, .ld (.tmp 65), none, []⟩, ⟨5, some 67, .mv (.tmp 3), none, []⟩, ⟨6, some 68, .bin .sub (.tmp 67) (.const (.int .i64 1)), none, []⟩, ⟨7, some 69, .ia (.tmp 66) (.tmp 68), none, []⟩, ⟨8, some 70, .ld (.tmp 69), none, []⟩, ⟨9, some 71, .len (.tmp 70), none, []⟩, ⟨10, some 72, .bin .eql (.tmp 64) (.tmp 71), none, []⟩, ⟨11, some 2, .mv (.tmp 72), none, []⟩])
  (.ret)))))
theorem k_i_ValidBands : FnOk Try.prog n_i_ValidBands 1 c_i_ValidBands [.tmp 2] := ⟨by kernel_rfl⟩
def c_w_b10Apart : ACode :=
  .seq (.ops [⟨0, some 6, .mv (.const (.bool false)), none, []⟩])
  (.seq (.seq (.ops [⟨0, some 8, .mv (.tmp 0), none, []⟩, ⟨1, some 9, .len (.tmp 8), none, []⟩, ⟨2, some 10, .mv (.tmp 1), none, []⟩, ⟨3, some 11, .len (.tmp 10), none, []⟩, ⟨4, some 12, .bin .neq (.tmp 9) (.tmp 11), none, []⟩])
  (.cond (.tmp 12) (.seq (.keep [] (.ops [⟨0, some 6, .mv (.const (.bool true)), none, []⟩]))
  (.ret)) (.skip)))
  (.seq (.seq (.keep [0, 1, 2] (.ops [⟨0, some 13, .mv (.tmp 0), none, []⟩, ⟨1, some 14, .len (.tmp 13), none, []⟩, ⟨2, some 15, .mv (.const (.int .i64 0)), none, []⟩]))
  (.block 0 (.loop [0, 1, 2, 14, 15] (.seq (.ops [⟨0, some 16, .bin .lss (.tmp 15) (.tmp 14), none, []⟩])
  (.seq (.cond (.tmp 16) (.skip) (.exit 0))
  (.seq (.block 1 (.seq (.ops [⟨0, some 17, .mv (.tmp 15), none, []⟩, ⟨1, some 7, .mv (.tmp 17), none, []⟩])
  (.seq (.ops [⟨0, some 18, .mv (.tmp 0), none, []⟩, ⟨1, some 19, .mv (.tmp 7), none, []⟩, ⟨2, some 20, .ia (.tmp 18) (.tmp 19), none, []⟩, ⟨3, some 21, .ld (.tmp 20), none, []⟩, ⟨4, some 22, .cv (.f .f64) (.tmp 21), none, []⟩, ⟨5, some 23, .mv (.tmp 1), none, []⟩, ⟨6, some 24, .mv (.tmp 7), none, []⟩, ⟨7, some 25, .ia (.tmp 23) (.tmp 24), none, []⟩, ⟨8, some 26, .ld (.tmp 25), none, []⟩, ⟨9, some 27, .cv (.f .f64) (.tmp 26), none, []⟩, ⟨11, some 29, .mv (.tmp 2), none, []⟩, ⟨10, some 28, .call n_w_b10Gap [.tmp 22, .tmp 27], none, []⟩, ⟨12, some 30, .bin .leq (.tmp 28) (.tmp 29), none, []⟩, ⟨13, some 31, .un .not (.tmp 30), none, []⟩])
  (.cond (.tmp 31) (.seq (.keep [] (.ops [⟨0, some 6, .mv (.const (.bool true)), none, []⟩]))
  (.ret)) (.skip)))))
  (.keep [0, 1, 2, 14, 15] (.ops [⟨0, some 32, .bin .add (.tmp 15) (.const (.int .i64 1)), none, []⟩, ⟨1, some 15, .mv (.tmp 32), none, []⟩]))))))))
  (.seq (.keep [] (.ops [⟨0, some 6, .mv (.const (.bool false)), none, []⟩]))
  (.ret))))
theorem k_w_b10Apart : FnOk Try.prog n_w_b10Apart 3 c_w_b10Apart [.tmp 6] := ⟨by kernel_rfl⟩
def c_w_b10Squares : ACode :=
  .seq (.ops [⟨0, some 2, .mv (.const (.float .f64 0)), none, []⟩])
  (.seq (.ops [⟨0, some 3, .mv (.const (.float .f64 0)), none, []⟩])
  (.seq (.seq (.ops [⟨0, some 5, .mv (.tmp 0), none, []⟩, ⟨1, some 6, .len (.tmp 5), none, []⟩, ⟨2, some 7, .mv (.const (.int .i64 0)), none, []⟩])
  (.block 0 (.loop [0, 3, 6, 7] (.seq (.ops [⟨0, some 8, .bin .lss (.tmp 7) (.tmp 6), none, []⟩])
  (.seq (.cond (.tmp 8) (.skip) (.exit 0))
  (.seq (.block 1 (.seq (.ops [⟨0, some 9, .mv (.tmp 7), none, []⟩, ⟨1, some 4, .mv (.tmp 9), none, []⟩])
  (.ops [⟨0, some 10, .mv (.tmp 3), none, []⟩, ⟨1, some 11, .mv (.tmp 0), none, []⟩, ⟨2, some 12, .mv (.tmp 4), none, []⟩, ⟨3, some 13, .ia (.tmp 11) (.tmp 12), none, []⟩, ⟨4, some 14, .ld (.tmp 13), none, []⟩, ⟨5, some 15, .cv (.f .f64) (.tmp 14), none, []⟩, ⟨6, some 16, .mv (.tmp 0), none, []⟩, ⟨7, some 17, .mv (.tmp 4), none, []⟩, ⟨8, some 18, .ia (.tmp 16) (.tmp 17), none, []⟩, ⟨9, some 19, .ld (.tmp 18), none, []⟩, ⟨10, some 20, .cv (.f .f64) (.tmp 19), none, []⟩, ⟨11, some 21, .bin .mul (.tmp 15) (.tmp 20), none, []⟩, ⟨12, some 22, .bin .add (.tmp 10) (.tmp 21), none, []⟩, ⟨13, some 3, .mv (.tmp 22), none, []⟩])))
  (.keep [0, 3, 6, 7] (.ops [⟨0, some 23, .bin .add (.tmp 7) (.const (.int .i64 1)), none, []⟩, ⟨1, some 7, .mv (.tmp 23), none, []⟩]))))))))
  (.seq (.ops [⟨0, some 24, .mv (.tmp 3), none, []⟩, ⟨1, some 2, .mv (.tmp 24), none, []⟩])
  (.ret))))
theorem k_w_b10Squares : FnOk Try.prog n_w_b10Squares 1 c_w_b10Squares [.tmp 2] := ⟨by kernel_rfl⟩
def c_w_b10Gap : ACode :=
  .seq (.ops [⟨0, some 4, .mv (.const (.float .f64 0)), none, []⟩])
  (.seq (.seq (.ops [⟨0, some 5, .mv (.tmp 0), none, []⟩, ⟨1, some 6, .mv (.tmp 1), none, []⟩, ⟨2, some 7, .bin .lss (.tmp 5) (.tmp 6), none, []⟩])
  (.cond (.tmp 7) (.seq (.ops [⟨0, some 8, .mv (.tmp 1), none, []⟩, ⟨1, some 9, .mv (.tmp 0), none, []⟩, ⟨2, some 10, .bin .sub (.tmp 8) (.tmp 9), none, []⟩, ⟨3, some 4, .mv (.tmp 10), none, []⟩])
  (.ret)) (.skip)))
  (.seq (.ops [⟨0, some 11, .mv (.tmp 0), none, []⟩, ⟨1, some 12, .mv (.tmp 1), none, []⟩, ⟨2, some 13, .bin .sub (.tmp 11) (.tmp 12), none, []⟩, ⟨3, some 4, .mv (.tmp 13), none, []⟩])
  (.ret)))
theorem k_w_b10Gap : FnOk Try.prog n_w_b10Gap 2 c_w_b10Gap [.tmp 4] := ⟨by kernel_rfl⟩
def c_i_BandAlone : ACode :=
  .seq (.ops [⟨0, some 3, .box 32 (.tmp 0), none, []⟩, ⟨1, some 4, .box 26 (.tmp 1), none, []⟩, ⟨2, some 6, .mv (.const (.slice none 0 0)), none, []⟩, ⟨3, some 7, .mv (.const (.bool false)), none, []⟩])
  (.seq (.ops [⟨0, some 12, .fa 1 (.tmp 3), none, []⟩, ⟨1, some 13, .ld (.tmp 12), none, []⟩, ⟨2, some 14, .len (.tmp 13), none, []⟩, ⟨3, some 8, .mv (.tmp 14), none, []⟩])
  (.seq (.seq (.keep [2, 3, 4, 8] (.ops [⟨0, some 15, .mv (.tmp 2), none, []⟩, ⟨1, some 16, .mv (.tmp 8), none, []⟩, ⟨2, some 17, .call n_i_within [.tmp 15, .const (.int .i64 0), .tmp 16], none, []⟩, ⟨3, some 18, .un .not (.tmp 17), none, []⟩]))
  (.cond (.tmp 18) (.seq (.keep [] (.ops [⟨0, some 6, .mv (.const (.slice none 0 0)), none, []⟩, ⟨1, some 7, .mv (.const (.bool false)), none, []⟩]))
  (.ret)) (.skip)))
  (.seq (.ops [⟨0, some 19, .mv (.tmp 8), none, []⟩, ⟨1, some 20, .mks 4 1 (.bool false) (.tmp 19) (.tmp 19), none, []⟩, ⟨2, some 9, .mv (.tmp 20), none, []⟩])
  (.seq (.seq (.keep [2, 3, 4, 8, 9] (.ops [⟨0, some 21, .mv (.tmp 2), none, []⟩, ⟨1, some 22, .mv (.tmp 8), none, []⟩, ⟨2, some 23, .bin .lss (.tmp 21) (.tmp 22), none, []⟩]))
  (.cond (.tmp 23) (.ops [⟨0, some 24, .mv (.tmp 9), none, []⟩, ⟨1, some 25, .mv (.tmp 2), none, []⟩, ⟨2, some 26, .ia (.tmp 24) (.tmp 25), none, []⟩, ⟨3, none, .st (.tmp 26) (.const (.bool true)), none, []⟩]) (.skip)))
  (.seq (.keep [2, 3, 4, 8, 9] (.ops [⟨0, some 28, .ldn 2 (.tmp 3), none, []⟩, ⟨1, some 29, .mv (.tmp 2), none, []⟩, ⟨2, some 30, .mv (.tmp 8), none, []⟩, ⟨3, some 31, .bin .eql (.tmp 29) (.tmp 30), none, []⟩, ⟨4, some 32, .mv (.tmp 9), none, []⟩, ⟨5, some 33, .call n_i_KeepBands [.tmp 28, .tmp 31, .tmp 32], none, []⟩, ⟨6, some 27, .mv (.tmp 33), none, []⟩, ⟨7, some 34, .ext (.tmp 27) 0, none, []⟩, ⟨8, some 35, .ext (.tmp 27) 1, none, []⟩, ⟨9, some 10, .new 32 [.slice none 0 0, .slice none 0 0], none, []⟩, ⟨10, none, .stn 2 (.tmp 10) (.tmp 34), none, []⟩, ⟨11, some 11, .mv (.tmp 35), none, []⟩]))
  (.seq (.seq (.keep [4, 10, 11] (.ops [⟨0, some 36, .mv (.tmp 11), none, []⟩, ⟨1, some 37, .un .not (.tmp 36), none, []⟩]))
  (.cond (.tmp 37) (.seq (.keep [] (.ops [⟨0, some 6, .mv (.const (.slice none 0 0)), none, []⟩, ⟨1, some 7, .mv (.const (.bool false)), none, []⟩]))
  (.ret)) (.skip)))
  (.seq (.ops [⟨0, some 38, .ldn 2 (.tmp 10), none, []⟩, ⟨1, some 39, .ldn 1 (.tmp 4), none, []⟩, ⟨2, some 40, .call n_i_JoinLevels [.tmp 38, .tmp 39], none, []⟩, ⟨3, some 41, .ext (.tmp 40) 0, none, []⟩, ⟨4, some 42, .ext (.tmp 40) 1, none, []⟩, ⟨5, some 6, .mv (.tmp 41), none, []⟩, ⟨6, some 7, .mv (.tmp 42), none, []⟩])
  (.ret))))))))
theorem k_i_BandAlone : FnOk Try.prog n_i_BandAlone 3 c_i_BandAlone [.tmp 6, .tmp 7] := ⟨by kernel_rfl⟩
def c_i_KeepBands : ACode :=
  .seq (.ops [⟨0, some 3, .box 32 (.tmp 0), none, []⟩, ⟨1, some 6, .new 32 [.slice none 0 0, .slice none 0 0], none, []⟩, ⟨2, some 7, .mv (.const (.bool false)), none, []⟩])
  (.seq (.seq (.ops [⟨0, some 11, .ldn 2 (.tmp 3), none, []⟩, ⟨1, some 12, .call n_i_ValidBands [.tmp 11], none, []⟩, ⟨2, some 13, .un .not (.tmp 12), none, []⟩, ⟨3, some 14, .mv (.tmp 13), none, []⟩, ⟨4, some 15, .mv (.tmp 2), (some (14, false)), []⟩, ⟨5, some 16, .len (.tmp 15), (some (14, false)), []⟩, ⟨6, some 17, .fa 1 (.tmp 3), (some (14, false)), []⟩, ⟨7, some 18, .ld (.tmp 17), (some (14, false)), []⟩, ⟨8, some 19, .len (.tmp 18), (some (14, false)), []⟩, ⟨9, some 20, .bin .neq (.tmp 16) (.tmp 19), (some (14, false)), []⟩, ⟨10, some 21, .pick (.tmp 14) (.const (.bool true)) (.tmp 20), none, []⟩])
  (.cond (.tmp 21) (.seq (.keep [6] (.ops [⟨0, some 22, .bld [.slice none 0 0, .slice none 0 0] [], none, []⟩, ⟨1, none, .stn 2 (.tmp 6) (.tmp 22), none, []⟩, ⟨2, some 7, .mv (.const (.bool false)), none, []⟩]))
  (.ret)) (.skip)))
  (.seq (.keep [1, 2, 3, 6] (.ops [⟨0, some 23, .fa 0 (.tmp 3), none, []⟩, ⟨1, some 24, .ld (.tmp 23), none, []⟩, ⟨2, some 25, .mv (.tmp 1), none, []⟩, ⟨3, some 26, .call n_i_kept [.tmp 24, .tmp 25], none, []⟩, ⟨4, some 27, .bld [.slice none 0 0, .slice none 0 0] [(0, 1, .tmp 26)], none, []⟩, ⟨5, some 8, .new 32 [.slice none 0 0, .slice none 0 0], none, []⟩, ⟨6, none, .stn 2 (.tmp 8) (.tmp 27), none, []⟩]))
  (.seq (.seq (.keep [2, 3, 6, 8] (.ops [⟨0, some 28, .fa 1 (.tmp 3), none, []⟩, ⟨1, some 29, .ld (.tmp 28), none, []⟩, ⟨2, some 30, .len (.tmp 29), none, []⟩, ⟨3, some 31, .mv (.const (.int .i64 0)), none, []⟩]))
  (.block 0 (.loop [2, 6, 8, 29, 30, 31] (.seq (.ops [⟨0, some 32, .bin .lss (.tmp 31) (.tmp 30), none, []⟩])
  (.seq (.cond (.tmp 32) (.skip) (.exit 0))
  (.seq (.block 1 (.seq (.ops [⟨0, some 33, .mv (.tmp 31), none, []⟩, ⟨1, some 34, .ia (.tmp 29) (.tmp 31), none, []⟩, ⟨2, some 35, .ld (.tmp 34), none, []⟩, ⟨3, some 9, .mv (.tmp 33), none, []⟩, ⟨4, some 10, .mv (.tmp 35), none, []⟩])
  (.ops [⟨0, some 36, .fa 1 (.tmp 8), none, []⟩, ⟨1, some 37, .ld (.tmp 36), none, []⟩, ⟨2, some 38, .mv (.tmp 10), none, []⟩, ⟨3, some 39, .mv (.tmp 2), none, []⟩, ⟨4, some 40, .mv (.tmp 9), none, []⟩, ⟨5, some 41, .ia (.tmp 39) (.tmp 40), none, []⟩, ⟨6, some 42, .ld (.tmp 41), none, []⟩, ⟨7, some 43, .call n_i_kept [.tmp 38, .tmp 42], none, [(some 37, .ld (.tmp 36), none)]⟩, ⟨8, some 44, .bsl 24 1 (.slice none 0 0) [(0, .tmp 43)], none, [(some 37, .ld (.tmp 36), none)]⟩, ⟨9, some 45, .app 24 24 (.tmp 37) (.tmp 44), none, []⟩, ⟨10, some 46, .fa 1 (.tmp 8), none, []⟩, ⟨11, none, .st (.tmp 46) (.tmp 45), none, []⟩])))
  (.keep [2, 6, 8, 29, 30, 31] (.ops [⟨0, some 47, .bin .add (.tmp 31) (.const (.int .i64 1)), none, []⟩, ⟨1, some 31, .mv (.tmp 47), none, []⟩]))))))))
  (.seq (.keep [6, 8] (.ops [⟨0, some 48, .ldn 2 (.tmp 8), none, []⟩, ⟨1, none, .stn 2 (.tmp 6) (.tmp 48), none, []⟩, ⟨2, some 7, .mv (.const (.bool true)), none, []⟩]))
  (.ret)))))
theorem k_i_KeepBands : FnOk Try.prog n_i_KeepBands 3 c_i_KeepBands [.celln 6 2, .tmp 7] := ⟨by kernel_rfl⟩
def c_i_SameBands : ACode :=
  .seq (.ops [⟨0, some 2, .box 32 (.tmp 0), none, []⟩, ⟨1, some 3, .box 32 (.tmp 1), none, []⟩, ⟨2, some 4, .mv (.const (.bool false)), none, []⟩])
  (.seq (.ops [⟨0, some 5, .fa 0 (.tmp 2), none, []⟩, ⟨1, some 6, .ld (.tmp 5), none, []⟩, ⟨2, some 7, .fa 0 (.tmp 3), none, []⟩, ⟨3, some 8, .ld (.tmp 7), none, []⟩, ⟨4, some 9, .call n_i_sameNumbers [.tmp 6, .tmp 8], none, []⟩, ⟨5, some 10, .mv (.tmp 9), none, []⟩, ⟨6, some 11, .fa 1 (.tmp 2), (some (10, true)), []⟩, ⟨7, some 12, .ld (.tmp 11), (some (10, true)), []⟩, ⟨8, some 13, .fa 1 (.tmp 3), (some (10, true)), []⟩, ⟨9, some 14, .ld (.tmp 13), (some (10, true)), []⟩, ⟨10, some 15, .call n_i_sameLists [.tmp 12, .tmp 14], (some (10, true)), []⟩, ⟨11, some 16, .pick (.tmp 10) (.tmp 15) (.const (.bool false)), none, []⟩, ⟨12, some 4, .mv (.tmp 16), none, []⟩])
  (.ret))
theorem k_i_SameBands : FnOk Try.prog n_i_SameBands 2 c_i_SameBands [.tmp 4] := ⟨by kernel_rfl⟩
def c_i_SplitRing : ACode :=
  .seq (.ops [⟨0, some 3, .box 26 (.tmp 1), none, []⟩, ⟨1, some 4, .mv (.const (.slice none 0 0)), none, []⟩, ⟨2, some 5, .mv (.const (.slice none 0 0)), none, []⟩, ⟨3, some 6, .mv (.const (.bool false)), none, []⟩])
  (.seq (.ops [⟨0, some 17, .mv (.tmp 0), none, []⟩, ⟨1, some 18, .len (.tmp 17), none, []⟩, ⟨2, some 7, .mv (.tmp 18), none, []⟩])
  (.seq (.seq (.keep [0, 3, 7] (.ops [⟨0, some 19, .mv (.tmp 0), none, []⟩, ⟨1, some 20, .call n_i_isLong [.tmp 19], none, []⟩, ⟨2, some 21, .un .not (.tmp 20), none, []⟩, ⟨3, some 22, .mv (.tmp 21), none, []⟩, ⟨4, some 23, .mv (.tmp 7), (some (22, false)), []⟩, ⟨5, some 24, .bin .rem (.tmp 23) (.const (.int .i64 2)), (some (22, false)), []⟩, ⟨6, some 25, .bin .eql (.tmp 24) (.const (.int .i64 1)), (some (22, false)), []⟩, ⟨7, some 26, .pick (.tmp 22) (.const (.bool true)) (.tmp 25), none, []⟩, ⟨8, some 27, .mv (.tmp 26), none, []⟩, ⟨9, some 28, .ldn 1 (.tmp 3), (some (27, false)), []⟩, ⟨10, some 29, .call n_i_ValidPair [.tmp 28], (some (27, false)), []⟩, ⟨11, some 30, .un .not (.tmp 29), (some (27, false)), []⟩, ⟨12, some 31, .pick (.tmp 27) (.const (.bool true)) (.tmp 30), none, []⟩]))
  (.cond (.tmp 31) (.seq (.keep [] (.ops [⟨0, some 4, .mv (.const (.slice none 0 0)), none, []⟩, ⟨1, some 5, .mv (.const (.slice none 0 0)), none, []⟩, ⟨2, some 6, .mv (.const (.bool false)), none, []⟩]))
  (.ret)) (.skip)))
  (.seq (.keep [0, 3, 7] (.ops [⟨0, some 32, .ldn 1 (.tmp 3), none, []⟩, ⟨1, some 33, .call n_i_highOf [.tmp 32], none, []⟩, ⟨2, some 8, .mv (.tmp 33), none, []⟩]))
  (.seq (.ops [⟨0, some 34, .bsl 41 0 (.float .f32 0) [], none, []⟩, ⟨1, some 35, .bsl 41 0 (.float .f32 0) [], none, []⟩, ⟨2, some 9, .mv (.tmp 34), none, []⟩, ⟨3, some 10, .mv (.tmp 35), none, []⟩])
  (.seq (.seq (.ops [⟨0, some 36, .mv (.tmp 7), none, []⟩, ⟨1, some 37, .bin .quo (.tmp 36) (.const (.int .i64 2)), none, []⟩, ⟨2, some 38, .mv (.const (.int .i64 0)), none, []⟩])
  (.block 0 (.loop [0, 3, 7, 8, 9, 10, 37, 38] (.seq (.ops [⟨0, some 39, .bin .lss (.tmp 38) (.tmp 37), none, []⟩])
  (.seq (.cond (.tmp 39) (.skip) (.exit 0))
  (.seq (.block 1 (.seq (.ops [⟨0, some 40, .mv (.tmp 38), none, []⟩, ⟨1, some 11, .mv (.tmp 40), none, []⟩])
  (.seq (.ops [⟨0, some 12, .mv (.const (.float .f32 0)), none, []⟩, ⟨1, some 13, .mv (.const (.float .f32 0)), none, []⟩])
  (.seq (.seq (.ops [⟨0, some 41, .fa 0 (.tmp 3), none, []⟩, ⟨1, some 42, .ld (.tmp 41), none, []⟩, ⟨2, some 43, .len (.tmp 42), none, []⟩, ⟨3, some 44, .mv (.const (.int .i64 0)), none, []⟩])
  (.block 2 (.loop [0, 3, 7, 8, 9, 10, 11, 12, 13, 37, 38, 42, 43, 44] (.seq (.ops [⟨0, some 45, .bin .lss (.tmp 44) (.tmp 43), none, []⟩])
  (.seq (.cond (.tmp 45) (.skip) (.exit 2))
  (.seq (.block 3 (.seq (.ops [⟨0, some 46, .mv (.tmp 44), none, []⟩, ⟨1, some 47, .ia (.tmp 42) (.tmp 44), none, []⟩, ⟨2, some 48, .ld (.tmp 47), none, []⟩, ⟨3, some 14, .mv (.tmp 46), none, []⟩, ⟨4, some 15, .mv (.tmp 48), none, []⟩])
  (.seq (.ops [⟨0, some 49, .mv (.tmp 0), none, []⟩, ⟨1, some 50, .mv (.tmp 11), none, []⟩, ⟨2, some 51, .bin .mul (.const (.int .i64 2)) (.tmp 50), none, []⟩, ⟨3, some 52, .mv (.tmp 14), none, []⟩, ⟨4, some 53, .bin .add (.tmp 51) (.tmp 52), none, []⟩, ⟨5, some 54, .mv (.tmp 7), none, []⟩, ⟨6, some 55, .bin .rem (.tmp 53) (.tmp 54), none, []⟩, ⟨7, some 56, .ia (.tmp 49) (.tmp 55), none, []⟩, ⟨8, some 57, .ld (.tmp 56), none, []⟩, ⟨9, some 16, .mv (.tmp 57), none, []⟩])
  (.seq (.keep [0, 3, 7, 8, 9, 10, 11, 12, 13, 14, 15, 16, 37, 38, 42, 43, 44] (.ops [⟨0, some 58, .mv (.tmp 12), none, []⟩, ⟨1, some 59, .mv (.tmp 15), none, []⟩, ⟨2, some 60, .mv (.tmp 16), none, []⟩, ⟨3, some 61, .bin .mul (.tmp 59) (.tmp 60), none, []⟩, ⟨4, some 62, .bin .add (.tmp 58) (.tmp 61), none, []⟩, ⟨5, some 12, .mv (.tmp 62), none, []⟩]))
  (.keep [0, 3, 7, 8, 9, 10, 11, 12, 13, 14, 16, 37, 38, 42, 43, 44] (.ops [⟨0, some 63, .mv (.tmp 13), none, []⟩, ⟨1, some 64, .mv (.tmp 8), none, []⟩, ⟨2, some 65, .mv (.tmp 14), none, []⟩, ⟨3, some 66, .ia (.tmp 64) (.tmp 65), none, []⟩, ⟨4, some 67, .ld (.tmp 66), none, []⟩, ⟨5, some 68, .mv (.tmp 16), none, []⟩, ⟨6, some 69, .bin .mul (.tmp 67) (.tmp 68), none, []⟩, ⟨7, some 70, .bin .add (.tmp 63) (.tmp 69), none, []⟩, ⟨8, some 13, .mv (.tmp 70), none, []⟩]))))))
  (.keep [0, 3, 7, 8, 9, 10, 11, 12, 13, 37, 38, 42, 43, 44] (.ops [⟨0, some 71, .bin .add (.tmp 44) (.const (.int .i64 1)), none, []⟩, ⟨1, some 44, .mv (.tmp 71), none, []⟩]))))))))
  (.keep [0, 3, 7, 8, 9, 10, 12, 13, 37, 38] (.ops [⟨0, some 72, .mv (.tmp 9), none, []⟩, ⟨1, some 73, .mv (.tmp 12), none, []⟩, ⟨2, some 74, .bsl 41 1 (.float .f32 0) [(0, .tmp 73)], none, []⟩, ⟨3, some 75, .app 41 4 (.tmp 72) (.tmp 74), none, []⟩, ⟨4, some 76, .mv (.tmp 10), none, []⟩, ⟨5, some 77, .mv (.tmp 13), none, []⟩, ⟨6, some 78, .bsl 41 1 (.float .f32 0) [(0, .tmp 77)], none, []⟩, ⟨7, some 79, .app 41 4 (.tmp 76) (.tmp 78), none, []⟩, ⟨8, some 9, .mv (.tmp 75), none, []⟩, ⟨9, some 10, .mv (.tmp 79), none, []⟩]))))))
  (.keep [0, 3, 7, 8, 9, 10, 37, 38] (.ops [⟨0, some 80, .bin .add (.tmp 38) (.const (.int .i64 1)), none, []⟩, ⟨1, some 38, .mv (.tmp 80), none, []⟩]))))))))
  (.seq (.seq (.keep [9, 10] (.ops [⟨0, some 81, .mv (.tmp 9), none, []⟩, ⟨1, some 82, .mv (.tmp 10), none, []⟩, ⟨2, some 83, .bsl 24 2 (.slice none 0 0) [(0, .tmp 81), (1, .tmp 82)], none, []⟩, ⟨3, some 84, .call n_i_areFinite [.tmp 83], none, []⟩, ⟨4, some 85, .un .not (.tmp 84), none, []⟩]))
  (.cond (.tmp 85) (.seq (.keep [] (.ops [⟨0, some 4, .mv (.const (.slice none 0 0)), none, []⟩, ⟨1, some 5, .mv (.const (.slice none 0 0)), none, []⟩, ⟨2, some 6, .mv (.const (.bool false)), none, []⟩]))
  (.ret)) (.skip)))
  (.seq (.keep [9, 10] (.ops [⟨0, some 86, .mv (.tmp 9), none, []⟩, ⟨1, some 87, .mv (.tmp 10), none, []⟩, ⟨2, some 4, .mv (.tmp 86), none, []⟩, ⟨3, some 5, .mv (.tmp 87), none, []⟩, ⟨4, some 6, .mv (.const (.bool true)), none, []⟩]))
  (.ret))))))))
theorem k_i_SplitRing : FnOk Try.prog n_i_SplitRing 2 c_i_SplitRing [.tmp 4, .tmp 5, .tmp 6] := ⟨by kernel_rfl⟩
def c_i_JoinRing : ACode :=
  .seq (.ops [⟨0, some 5, .box 26 (.tmp 2), none, []⟩, ⟨1, some 6, .mv (.const (.slice none 0 0)), none, []⟩, ⟨2, some 7, .mv (.const (.bool false)), none, []⟩])
  (.seq (.seq (.ops [⟨0, some 14, .mv (.tmp 0), none, []⟩, ⟨1, some 15, .len (.tmp 14), none, []⟩, ⟨2, some 16, .call n_i_within [.tmp 15, .const (.int .i64 1), .const (.int .i64 64)], none, []⟩, ⟨3, some 17, .un .not (.tmp 16), none, []⟩, ⟨4, some 18, .mv (.tmp 17), none, []⟩, ⟨5, some 19, .mv (.tmp 1), (some (18, false)), []⟩, ⟨6, some 20, .len (.tmp 19), (some (18, false)), []⟩, ⟨7, some 21, .mv (.tmp 0), (some (18, false)), []⟩, ⟨8, some 22, .len (.tmp 21), (some (18, false)), []⟩, ⟨9, some 23, .bin .neq (.tmp 20) (.tmp 22), (some (18, false)), []⟩, ⟨10, some 24, .pick (.tmp 18) (.const (.bool true)) (.tmp 23), none, []⟩, ⟨11, some 25, .mv (.tmp 24), none, []⟩, ⟨12, some 26, .mv (.tmp 0), (some (25, false)), []⟩, ⟨13, some 27, .mv (.tmp 1), (some (25, false)), []⟩, ⟨14, some 28, .bsl 24 2 (.slice none 0 0) [(0, .tmp 26), (1, .tmp 27)], (some (25, false)), []⟩, ⟨15, some 29, .call n_i_areFinite [.tmp 28], (some (25, false)), []⟩, ⟨16, some 30, .un .not (.tmp 29), (some (25, false)), []⟩, ⟨17, some 31, .pick (.tmp 25) (.const (.bool true)) (.tmp 30), none, []⟩, ⟨18, some 32, .mv (.tmp 31), none, []⟩, ⟨19, some 33, .ldn 1 (.tmp 5), (some (32, false)), []⟩, ⟨20, some 34, .call n_i_ValidPair [.tmp 33], (some (32, false)), []⟩, ⟨21, some 35, .un .not (.tmp 34), (some (32, false)), []⟩, ⟨22, some 36, .pick (.tmp 32) (.const (.bool true)) (.tmp 35), none, []⟩])
  (.cond (.tmp 36) (.seq (.keep [] (.ops [⟨0, some 6, .mv (.const (.slice none 0 0)), none, []⟩, ⟨1, some 7, .mv (.const (.bool false)), none, []⟩]))
  (.ret)) (.skip)))
  (.seq (.keep [0, 1, 5] (.ops [⟨0, some 37, .ldn 1 (.tmp 5), none, []⟩, ⟨1, some 38, .call n_i_highOf [.tmp 37], none, []⟩, ⟨2, some 8, .mv (.tmp 38), none, []⟩]))
  (.seq (.ops [⟨0, some 39, .mv (.tmp 0), none, []⟩, ⟨1, some 40, .len (.tmp 39), none, []⟩, ⟨2, some 41, .bin .mul (.const (.int .i64 2)) (.tmp 40), none, []⟩, ⟨3, some 9, .mv (.tmp 41), none, []⟩])
  (.seq (.keep [0, 1, 5, 8, 9] (.ops [⟨0, some 42, .mv (.tmp 9), none, []⟩, ⟨1, some 43, .mks 41 4 (.float .f32 0) (.tmp 42) (.tmp 42), none, []⟩, ⟨2, some 10, .mv (.tmp 43), none, []⟩]))
  (.seq (.seq (.ops [⟨0, some 44, .mv (.tmp 0), none, []⟩, ⟨1, some 45, .len (.tmp 44), none, []⟩, ⟨2, some 46, .mv (.const (.int .i64 0)), none, []⟩])
  (.block 0 (.loop [0, 1, 5, 8, 9, 10, 45, 46] (.seq (.ops [⟨0, some 47, .bin .lss (.tmp 46) (.tmp 45), none, []⟩])
  (.seq (.cond (.tmp 47) (.skip) (.exit 0))
  (.seq (.block 1 (.seq (.ops [⟨0, some 48, .mv (.tmp 46), none, []⟩, ⟨1, some 11, .mv (.tmp 48), none, []⟩])
  (.seq (.ops [⟨0, some 49, .fa 0 (.tmp 5), none, []⟩, ⟨1, some 50, .ld (.tmp 49), none, []⟩, ⟨2, some 51, .len (.tmp 50), none, []⟩, ⟨3, some 52, .mv (.const (.int .i64 0)), none, []⟩])
  (.block 2 (.loop [0, 1, 5, 8, 9, 10, 11, 45, 46, 50, 51, 52] (.seq (.ops [⟨0, some 53, .bin .lss (.tmp 52) (.tmp 51), none, []⟩])
  (.seq (.cond (.tmp 53) (.skip) (.exit 2))
  (.seq (.block 3 (.seq (.ops [⟨0, some 54, .mv (.tmp 52), none, []⟩, ⟨1, some 55, .ia (.tmp 50) (.tmp 52), none, []⟩, ⟨2, some 56, .ld (.tmp 55), none, []⟩, ⟨3, some 12, .mv (.tmp 54), none, []⟩, ⟨4, some 13, .mv (.tmp 56), none, []⟩])
  (.ops [⟨0, some 57, .mv (.tmp 10), none, []⟩, ⟨1, some 58, .mv (.tmp 11), none, []⟩, ⟨2, some 59, .bin .mul (.const (.int .i64 2)) (.tmp 58), none, []⟩, ⟨3, some 60, .mv (.tmp 12), none, []⟩, ⟨4, some 61, .bin .add (.tmp 59) (.tmp 60), none, []⟩, ⟨5, some 62, .mv (.tmp 9), none, []⟩, ⟨6, some 63, .bin .rem (.tmp 61) (.tmp 62), none, []⟩, ⟨7, some 64, .ia (.tmp 57) (.tmp 63), none, []⟩, ⟨8, some 65, .ld (.tmp 64), none, []⟩, ⟨9, some 66, .mv (.tmp 13), none, []⟩, ⟨10, some 67, .mv (.tmp 0), none, []⟩, ⟨11, some 68, .mv (.tmp 11), none, []⟩, ⟨12, some 69, .ia (.tmp 67) (.tmp 68), none, []⟩, ⟨13, some 70, .ld (.tmp 69), none, []⟩, ⟨14, some 71, .bin .mul (.tmp 66) (.tmp 70), none, []⟩, ⟨15, some 72, .mv (.tmp 8), none, []⟩, ⟨16, some 73, .mv (.tmp 12), none, []⟩, ⟨17, some 74, .ia (.tmp 72) (.tmp 73), none, []⟩, ⟨18, some 75, .ld (.tmp 74), none, []⟩, ⟨19, some 76, .mv (.tmp 1), none, []⟩, ⟨20, some 77, .mv (.tmp 11), none, []⟩, ⟨21, some 78, .ia (.tmp 76) (.tmp 77), none, []⟩, ⟨22, some 79, .ld (.tmp 78), none, []⟩, ⟨23, some 80, .bin .mul (.tmp 75) (.tmp 79), none, []⟩, ⟨24, some 81, .bin .add (.tmp 71) (.tmp 80), none, []⟩, ⟨25, some 82, .bin .add (.tmp 65) (.tmp 81), none, []⟩, ⟨26, some 83, .ia (.tmp 57) (.tmp 63), none, []⟩, ⟨27, none, .st (.tmp 83) (.tmp 82), none, []⟩])))
  (.keep [0, 1, 5, 8, 9, 10, 11, 45, 46, 50, 51, 52] (.ops [⟨0, some 84, .bin .add (.tmp 52) (.const (.int .i64 1)), none, []⟩, ⟨1, some 52, .mv (.tmp 84), none, []⟩]))))))))))
  (.keep [0, 1, 5, 8, 9, 10, 45, 46] (.ops [⟨0, some 85, .bin .add (.tmp 46) (.const (.int .i64 1)), none, []⟩, ⟨1, some 46, .mv (.tmp 85), none, []⟩]))))))))
  (.seq (.keep [10] (.ops [⟨0, some 86, .mv (.tmp 10), none, []⟩, ⟨1, some 87, .call n_i_finiteList [.tmp 86], none, []⟩, ⟨2, some 88, .ext (.tmp 87) 0, none, []⟩, ⟨3, some 89, .ext (.tmp 87) 1, none, []⟩, ⟨4, some 6, .mv (.tmp 88), none, []⟩, ⟨5, some 7, .mv (.tmp 89), none, []⟩]))
  (.ret)))))))
theorem k_i_JoinRing : FnOk Try.prog n_i_JoinRing 3 c_i_JoinRing [.tmp 6, .tmp 7] := ⟨by kernel_rfl⟩
def c_i_ValidPair : ACode :=
  .seq (.ops [⟨0, some 1, .box 26 (.tmp 0), none, []⟩, ⟨1, some 2, .mv (.const (.bool false)), none, []⟩])
  (.seq (.ops [⟨0, some 7, .fa 0 (.tmp 1), none, []⟩, ⟨1, some 8, .ld (.tmp 7), none, []⟩, ⟨2, some 9, .len (.tmp 8), none, []⟩, ⟨3, some 3, .mv (.tmp 9), none, []⟩])
  (.seq (.seq (.keep [1, 3] (.ops [⟨0, some 10, .mv (.tmp 3), none, []⟩, ⟨1, some 11, .call n_i_within [.tmp 10, .const (.int .i64 2), .const (.int .i64 8)], none, []⟩, ⟨2, some 12, .un .not (.tmp 11), none, []⟩, ⟨3, some 13, .mv (.tmp 12), none, []⟩, ⟨4, some 14, .mv (.tmp 3), (some (13, false)), []⟩, ⟨5, some 15, .bin .rem (.tmp 14) (.const (.int .i64 2)), (some (13, false)), []⟩, ⟨6, some 16, .bin .eql (.tmp 15) (.const (.int .i64 1)), (some (13, false)), []⟩, ⟨7, some 17, .pick (.tmp 13) (.const (.bool true)) (.tmp 16), none, []⟩, ⟨8, some 18, .mv (.tmp 17), none, []⟩, ⟨9, some 19, .fa 0 (.tmp 1), (some (18, false)), []⟩, ⟨10, some 20, .ld (.tmp 19), (some (18, false)), []⟩, ⟨11, some 21, .bsl 24 1 (.slice none 0 0) [(0, .tmp 20)], (some (18, false)), []⟩, ⟨12, some 22, .call n_i_areFinite [.tmp 21], (some (18, false)), []⟩, ⟨13, some 23, .un .not (.tmp 22), (some (18, false)), []⟩, ⟨14, some 24, .pick (.tmp 18) (.const (.bool true)) (.tmp 23), none, []⟩, ⟨15, some 25, .mv (.tmp 24), none, []⟩, ⟨16, some 26, .fa 0 (.tmp 1), (some (25, false)), []⟩, ⟨17, some 27, .ld (.tmp 26), (some (25, false)), []⟩, ⟨18, some 28, .call n_i_squares [.tmp 27], (some (25, false)), []⟩, ⟨19, some 29, .bin .sub (.tmp 28) (.const (.float .f32 1065353216)), (some (25, false)), []⟩, ⟨20, some 30, .call n_i_size [.tmp 29], (some (25, false)), []⟩, ⟨21, some 31, .bin .leq (.tmp 30) (.const (.float .f32 981668463)), (some (25, false)), []⟩, ⟨22, some 32, .un .not (.tmp 31), (some (25, false)), []⟩, ⟨23, some 33, .pick (.tmp 25) (.const (.bool true)) (.tmp 32), none, []⟩]))
  (.cond (.tmp 33) (.seq (.keep [] (.ops [⟨0, some 2, .mv (.const (.bool false)), none, []⟩]))
  (.ret)) (.skip)))
  (.seq (.seq (.keep [1, 3] (.ops [⟨0, some 4, .mv (.const (.int .i64 2)), none, []⟩]))
  (.block 0 (.loop [1, 3, 4] (.seq (.seq (.ops [⟨0, some 34, .mv (.tmp 4), none, []⟩, ⟨1, some 35, .mv (.tmp 3), none, []⟩, ⟨2, some 36, .bin .lss (.tmp 34) (.tmp 35), none, []⟩])
  (.cond (.tmp 36) (.skip) (.exit 0)))
  (.seq (.block 1 (.seq (.ops [⟨0, some 5, .mv (.const (.float .f32 0)), none, []⟩])
  (.seq (.seq (.ops [⟨0, some 6, .mv (.const (.int .i64 0)), none, []⟩])
  (.block 2 (.loop [1, 3, 4, 5, 6] (.seq (.seq (.ops [⟨0, some 39, .mv (.tmp 6), none, []⟩, ⟨1, some 40, .mv (.tmp 4), none, []⟩, ⟨2, some 41, .bin .add (.tmp 39) (.tmp 40), none, []⟩, ⟨3, some 42, .mv (.tmp 3), none, []⟩, ⟨4, some 43, .bin .lss (.tmp 41) (.tmp 42), none, []⟩])
  (.cond (.tmp 43) (.skip) (.exit 2)))
  (.seq (.block 3 (.keep [1, 3, 4, 5, 6] (.ops [⟨0, some 46, .mv (.tmp 5), none, []⟩, ⟨1, some 47, .fa 0 (.tmp 1), none, []⟩, ⟨2, some 48, .ld (.tmp 47), none, []⟩, ⟨3, some 49, .mv (.tmp 6), none, []⟩, ⟨4, some 50, .ia (.tmp 48) (.tmp 49), none, []⟩, ⟨5, some 51, .ld (.tmp 50), none, []⟩, ⟨6, some 52, .fa 0 (.tmp 1), none, []⟩, ⟨7, some 53, .ld (.tmp 52), none, []⟩, ⟨8, some 54, .mv (.tmp 6), none, []⟩, ⟨9, some 55, .mv (.tmp 4), none, []⟩, ⟨10, some 56, .bin .add (.tmp 54) (.tmp 55), none, []⟩, ⟨11, some 57, .ia (.tmp 53) (.tmp 56), none, []⟩, ⟨12, some 58, .ld (.tmp 57), none, []⟩, ⟨13, some 59, .bin .mul (.tmp 51) (.tmp 58), none, []⟩, ⟨14, some 60, .bin .add (.tmp 46) (.tmp 59), none, []⟩, ⟨15, some 5, .mv (.tmp 60), none, []⟩])))
  (.keep [1, 3, 4, 5, 6] (.ops [⟨0, some 44, .mv (.tmp 6), none, []⟩, ⟨1, some 45, .bin .add (.tmp 44) (.const (.int .i64 1)), none, []⟩, ⟨2, some 6, .mv (.tmp 45), none, []⟩])))))))
  (.seq (.keep [1, 3, 4, 5] (.ops [⟨0, some 61, .mv (.tmp 5), none, []⟩, ⟨1, some 62, .call n_i_size [.tmp 61], none, []⟩, ⟨2, some 63, .bin .leq (.tmp 62) (.const (.float .f32 981668463)), none, []⟩, ⟨3, some 64, .un .not (.tmp 63), none, []⟩]))
  (.cond (.tmp 64) (.seq (.keep [] (.ops [⟨0, some 2, .mv (.const (.bool false)), none, []⟩]))
  (.ret)) (.skip))))))
  (.keep [1, 3, 4] (.ops [⟨0, some 37, .mv (.tmp 4), none, []⟩, ⟨1, some 38, .bin .add (.tmp 37) (.const (.int .i64 2)), none, []⟩, ⟨2, some 4, .mv (.tmp 38), none, []⟩])))))))
  (.seq (.keep [] (.ops [⟨0, some 2, .mv (.const (.bool true)), none, []⟩]))
  (.ret)))))
theorem k_i_ValidPair : FnOk Try.prog n_i_ValidPair 1 c_i_ValidPair [.tmp 2] := ⟨by kernel_rfl⟩
def c_s_HaarPair : ACode :=
  .seq (.ops [⟨0, some 0, .new 26 [.slice none 0 0], none, []⟩])
  (.seq (.ops [⟨0, some 1, .bsl 41 2 (.float .f32 0) [(0, .const (.float .f32 1060439283)), (1, .const (.float .f32 1060439283))], none, []⟩, ⟨1, some 2, .bld [.slice none 0 0] [(0, 1, .tmp 1)], none, []⟩, ⟨2, none, .stn 1 (.tmp 0) (.tmp 2), none, []⟩])
  (.ret))
theorem k_s_HaarPair : FnOk Try.prog n_s_HaarPair 0 c_s_HaarPair [.celln 0 1] := ⟨by kernel_rfl⟩
def c_s_FourPair : ACode :=
  .seq (.ops [⟨0, some 0, .new 26 [.slice none 0 0], none, []⟩])
  (.seq (.ops [⟨0, some 1, .bsl 41 4 (.float .f32 0) [(0, .const (.float .f32 1056392938)), (1, .const (.float .f32 1062610415)), (2, .const (.float .f32 1046840824)), (3, .const (.float .f32 3187966958))], none, []⟩, ⟨1, some 2, .bld [.slice none 0 0] [(0, 1, .tmp 1)], none, []⟩, ⟨2, none, .stn 1 (.tmp 0) (.tmp 2), none, []⟩])
  (.ret))
theorem k_s_FourPair : FnOk Try.prog n_s_FourPair 0 c_s_FourPair [.celln 0 1] := ⟨by kernel_rfl⟩
def c_s_l00From : ACode :=
  .seq (.ops [⟨0, some 2, .mv (.const (.pointer none)), none, []⟩])
  (.seq (.ops [⟨0, some 3, .mv (.tmp 0), none, []⟩, ⟨1, some 4, .bld [.slice none 0 0, .int .i64 0, .int .u64 0] [(0, 1, .tmp 3)], none, []⟩, ⟨2, some 5, .box 140 (.tmp 4), none, []⟩, ⟨3, some 2, .mv (.tmp 5), none, []⟩])
  (.ret))
theorem k_s_l00From : FnOk Try.prog n_s_l00From 1 c_s_l00From [.tmp 2] := ⟨by kernel_rfl⟩
def c_s_l00Src_one : ACode :=
  .seq (.ops [⟨0, some 4, .mv (.const (.bool false)), none, []⟩])
  (.seq (.ops [⟨0, some 5, .mv (.tmp 0), none, []⟩, ⟨1, some 6, .mv (.tmp 1), none, []⟩, ⟨2, some 7, .call n_s_l00Src_pick [.tmp 5, .tmp 6], none, []⟩, ⟨3, some 8, .bin .eql (.tmp 7) (.const (.int .i64 0)), none, []⟩, ⟨4, some 4, .mv (.tmp 8), none, []⟩])
  (.ret))
theorem k_s_l00Src_one : FnOk Try.prog n_s_l00Src_one 2 c_s_l00Src_one [.tmp 4] := ⟨by kernel_rfl⟩
def c_s_l00Src_pick : ACode :=
  .seq (.ops [⟨0, some 4, .mv (.const (.int .i64 0)), none, []⟩])
  (.seq (.seq (.ops [⟨0, some 6, .mv (.tmp 1), none, []⟩, ⟨1, some 7, .bin .leq (.tmp 6) (.const (.int .i64 1)), none, []⟩])
  (.cond (.tmp 7) (.seq (.keep [] (.ops [⟨0, some 4, .mv (.const (.int .i64 0)), none, []⟩]))
  (.ret)) (.skip)))
  (.seq (.ops [⟨0, some 8, .mv (.tmp 0), none, []⟩, ⟨1, some 9, .call n_s_l00Src_next [.tmp 8], none, []⟩, ⟨2, some 5, .mv (.tmp 9), none, []⟩])
  (.seq (.seq (.keep [0, 1, 5] (.ops [⟨0, some 10, .mv (.tmp 1), none, []⟩, ⟨1, some 11, .bin .gtr (.tmp 10) (.const (.int .i64 200)), none, []⟩]))
  (.cond (.tmp 11) (.ops [⟨0, some 12, .mv (.tmp 5), none, []⟩, ⟨1, some 13, .bin .mul (.tmp 12) (.const (.int .i64 256)), none, []⟩, ⟨2, some 14, .mv (.tmp 0), none, []⟩, ⟨3, some 15, .call n_s_l00Src_next [.tmp 14], none, []⟩, ⟨4, some 16, .bin .add (.tmp 13) (.tmp 15), none, []⟩, ⟨5, some 5, .mv (.tmp 16), none, []⟩]) (.skip)))
  (.seq (.keep [1, 5] (.ops [⟨0, some 17, .mv (.tmp 5), none, []⟩, ⟨1, some 18, .mv (.tmp 1), none, []⟩, ⟨2, some 19, .bin .rem (.tmp 17) (.tmp 18), none, []⟩, ⟨3, some 4, .mv (.tmp 19), none, []⟩]))
  (.ret)))))
theorem k_s_l00Src_pick : FnOk Try.prog n_s_l00Src_pick 2 c_s_l00Src_pick [.tmp 4] := ⟨by kernel_rfl⟩
def c_i_isLong : ACode :=
  .seq (.ops [⟨0, some 2, .mv (.const (.bool false)), none, []⟩])
  (.seq (.ops [⟨0, some 3, .mv (.tmp 0), none, []⟩, ⟨1, some 4, .len (.tmp 3), none, []⟩, ⟨2, some 5, .call n_i_within [.tmp 4, .const (.int .i64 1), .const (.int .i64 128)], none, []⟩, ⟨3, some 6, .mv (.tmp 5), none, []⟩, ⟨4, some 7, .mv (.tmp 0), (some (6, true)), []⟩, ⟨5, some 8, .bsl 24 1 (.slice none 0 0) [(0, .tmp 7)], (some (6, true)), []⟩, ⟨6, some 9, .call n_i_areFinite [.tmp 8], (some (6, true)), []⟩, ⟨7, some 10, .pick (.tmp 6) (.tmp 9) (.const (.bool false)), none, []⟩, ⟨8, some 2, .mv (.tmp 10), none, []⟩])
  (.ret))
theorem k_i_isLong : FnOk Try.prog n_i_isLong 1 c_i_isLong [.tmp 2] := ⟨by kernel_rfl⟩
def c_i_within : ACode :=
  .seq (.ops [⟨0, some 6, .mv (.const (.bool false)), none, []⟩])
  (.seq (.ops [⟨0, some 7, .mv (.tmp 0), none, []⟩, ⟨1, some 8, .mv (.tmp 1), none, []⟩, ⟨2, some 9, .bin .geq (.tmp 7) (.tmp 8), none, []⟩, ⟨3, some 10, .mv (.tmp 9), none, []⟩, ⟨4, some 11, .mv (.tmp 0), (some (10, true)), []⟩, ⟨5, some 12, .mv (.tmp 2), (some (10, true)), []⟩, ⟨6, some 13, .bin .leq (.tmp 11) (.tmp 12), (some (10, true)), []⟩, ⟨7, some 14, .pick (.tmp 10) (.tmp 13) (.const (.bool false)), none, []⟩, ⟨8, some 6, .mv (.tmp 14), none, []⟩])
  (.ret))
theorem k_i_within : FnOk Try.prog n_i_within 3 c_i_within [.tmp 6] := ⟨by kernel_rfl⟩
def c_i_copyOf : ACode :=
  .seq (.ops [⟨0, some 2, .mv (.const (.slice none 0 0)), none, []⟩])
  (.seq (.ops [⟨0, some 3, .bsl 41 0 (.float .f32 0) [], none, []⟩, ⟨1, some 4, .mv (.tmp 0), none, []⟩, ⟨2, some 5, .app 41 4 (.tmp 3) (.tmp 4), none, []⟩, ⟨3, some 2, .mv (.tmp 5), none, []⟩])
  (.ret))
theorem k_i_copyOf : FnOk Try.prog n_i_copyOf 1 c_i_copyOf [.tmp 2] := ⟨by kernel_rfl⟩
def c_i_squares : ACode :=
  .seq (.ops [⟨0, some 2, .mv (.const (.float .f32 0)), none, []⟩])
  (.seq (.ops [⟨0, some 3, .mv (.const (.float .f32 0)), none, []⟩])
  (.seq (.seq (.ops [⟨0, some 6, .mv (.tmp 0), none, []⟩, ⟨1, some 7, .len (.tmp 6), none, []⟩, ⟨2, some 8, .mv (.const (.int .i64 0)), none, []⟩])
  (.block 0 (.loop [3, 6, 7, 8] (.seq (.ops [⟨0, some 9, .bin .lss (.tmp 8) (.tmp 7), none, []⟩])
  (.seq (.cond (.tmp 9) (.skip) (.exit 0))
  (.seq (.block 1 (.seq (.ops [⟨0, some 10, .ia (.tmp 6) (.tmp 8), none, []⟩, ⟨1, some 11, .ld (.tmp 10), none, []⟩, ⟨2, some 5, .mv (.tmp 11), none, []⟩])
  (.ops [⟨0, some 12, .mv (.tmp 3), none, []⟩, ⟨1, some 13, .mv (.tmp 5), none, []⟩, ⟨2, some 14, .mv (.tmp 5), none, []⟩, ⟨3, some 15, .bin .mul (.tmp 13) (.tmp 14), none, []⟩, ⟨4, some 16, .bin .add (.tmp 12) (.tmp 15), none, []⟩, ⟨5, some 3, .mv (.tmp 16), none, []⟩])))
  (.keep [3, 6, 7, 8] (.ops [⟨0, some 17, .bin .add (.tmp 8) (.const (.int .i64 1)), none, []⟩, ⟨1, some 8, .mv (.tmp 17), none, []⟩]))))))))
  (.seq (.ops [⟨0, some 18, .mv (.tmp 3), none, []⟩, ⟨1, some 2, .mv (.tmp 18), none, []⟩])
  (.ret))))
theorem k_i_squares : FnOk Try.prog n_i_squares 1 c_i_squares [.tmp 2] := ⟨by kernel_rfl⟩
def c_i_finiteList : ACode :=
  .seq (.ops [⟨0, some 2, .mv (.const (.slice none 0 0)), none, []⟩, ⟨1, some 3, .mv (.const (.bool false)), none, []⟩])
  (.seq (.seq (.ops [⟨0, some 4, .mv (.tmp 0), none, []⟩, ⟨1, some 5, .bsl 24 1 (.slice none 0 0) [(0, .tmp 4)], none, []⟩, ⟨2, some 6, .call n_i_areFinite [.tmp 5], none, []⟩, ⟨3, some 7, .un .not (.tmp 6), none, []⟩])
  (.cond (.tmp 7) (.seq (.keep [] (.ops [⟨0, some 2, .mv (.const (.slice none 0 0)), none, []⟩, ⟨1, some 3, .mv (.const (.bool false)), none, []⟩]))
  (.ret)) (.skip)))
  (.seq (.keep [0] (.ops [⟨0, some 8, .mv (.tmp 0), none, []⟩, ⟨1, some 2, .mv (.tmp 8), none, []⟩, ⟨2, some 3, .mv (.const (.bool true)), none, []⟩]))
  (.ret)))
theorem k_i_finiteList : FnOk Try.prog n_i_finiteList 1 c_i_finiteList [.tmp 2, .tmp 3] := ⟨by kernel_rfl⟩
def c_s_l03Bands : ACode :=
  .seq (.ops [⟨0, some 2, .mv (.const (.bool false)), none, []⟩])
  (.seq (.ops [⟨0, some 5, .mv (.tmp 0), none, []⟩, ⟨1, some 6, .nc (.tmp 5), none, []⟩, ⟨2, some 7, .fa 1 (.tmp 6), none, []⟩, ⟨3, some 8, .ld (.tmp 7), none, []⟩, ⟨4, some 9, .len (.tmp 8), none, []⟩, ⟨5, some 3, .mv (.tmp 9), none, []⟩])
  (.seq (.seq (.keep [0, 3] (.ops [⟨0, some 10, .mv (.tmp 3), none, []⟩, ⟨1, some 11, .bin .lss (.tmp 10) (.const (.int .i64 1)), none, []⟩, ⟨2, some 12, .mv (.tmp 11), none, []⟩, ⟨3, some 13, .mv (.tmp 3), (some (12, false)), []⟩, ⟨4, some 14, .bin .gtr (.tmp 13) (.const (.int .i64 6)), (some (12, false)), []⟩, ⟨5, some 15, .pick (.tmp 12) (.const (.bool true)) (.tmp 14), none, []⟩, ⟨6, some 16, .mv (.tmp 15), none, []⟩, ⟨7, some 17, .mv (.tmp 0), (some (16, false)), []⟩, ⟨8, some 18, .nc (.tmp 17), (some (16, false)), []⟩, ⟨9, some 19, .fa 1 (.tmp 18), (some (16, false)), []⟩, ⟨10, some 20, .ld (.tmp 19), (some (16, false)), []⟩, ⟨11, some 21, .ia (.tmp 20) (.const (.int .i64 0)), (some (16, false)), []⟩, ⟨12, some 22, .ld (.tmp 21), (some (16, false)), []⟩, ⟨13, some 23, .len (.tmp 22), (some (16, false)), []⟩, ⟨14, some 24, .bin .gtr (.tmp 23) (.const (.int .i64 64)), (some (16, false)), []⟩, ⟨15, some 25, .pick (.tmp 16) (.const (.bool true)) (.tmp 24), none, []⟩, ⟨16, some 26, .mv (.tmp 25), none, []⟩, ⟨17, some 27, .mv (.tmp 0), (some (26, false)), []⟩, ⟨18, some 28, .nc (.tmp 27), (some (26, false)), []⟩, ⟨19, some 29, .fa 0 (.tmp 28), (some (26, false)), []⟩, ⟨20, some 30, .ld (.tmp 29), (some (26, false)), []⟩, ⟨21, some 31, .call n_s_l02Finite [.tmp 30], (some (26, false)), []⟩, ⟨22, some 32, .un .not (.tmp 31), (some (26, false)), []⟩, ⟨23, some 33, .pick (.tmp 26) (.const (.bool true)) (.tmp 32), none, []⟩]))
  (.cond (.tmp 33) (.seq (.keep [] (.ops [⟨0, some 2, .mv (.const (.bool false)), none, []⟩]))
  (.ret)) (.skip)))
  (.seq (.seq (.keep [0, 3] (.ops [⟨0, some 34, .mv (.tmp 0), none, []⟩, ⟨1, some 35, .nc (.tmp 34), none, []⟩, ⟨2, some 36, .fa 1 (.tmp 35), none, []⟩, ⟨3, some 37, .ld (.tmp 36), none, []⟩, ⟨4, some 38, .len (.tmp 37), none, []⟩, ⟨5, some 39, .mv (.const (.int .i64 0)), none, []⟩]))
  (.block 0 (.loop [0, 3, 38, 39] (.seq (.ops [⟨0, some 40, .bin .lss (.tmp 39) (.tmp 38), none, []⟩])
  (.seq (.cond (.tmp 40) (.skip) (.exit 0))
  (.seq (.block 1 (.seq (.ops [⟨0, some 41, .mv (.tmp 39), none, []⟩, ⟨1, some 4, .mv (.tmp 41), none, []⟩])
  (.seq (.ops [⟨0, some 42, .mv (.tmp 0), none, []⟩, ⟨1, some 43, .nc (.tmp 42), none, []⟩, ⟨2, some 44, .fa 1 (.tmp 43), none, []⟩, ⟨3, some 45, .ld (.tmp 44), none, []⟩, ⟨4, some 46, .mv (.tmp 4), none, []⟩, ⟨5, some 47, .ia (.tmp 45) (.tmp 46), none, []⟩, ⟨6, some 48, .ld (.tmp 47), none, []⟩, ⟨7, some 49, .len (.tmp 48), none, []⟩, ⟨8, some 50, .bin .lss (.tmp 49) (.const (.int .i64 1)), none, []⟩, ⟨9, some 51, .mv (.tmp 50), none, []⟩, ⟨10, some 52, .mv (.tmp 0), (some (51, false)), []⟩, ⟨11, some 53, .nc (.tmp 52), (some (51, false)), []⟩, ⟨12, some 54, .fa 1 (.tmp 53), (some (51, false)), []⟩, ⟨13, some 55, .ld (.tmp 54), (some (51, false)), []⟩, ⟨14, some 56, .mv (.tmp 4), (some (51, false)), []⟩, ⟨15, some 57, .ia (.tmp 55) (.tmp 56), (some (51, false)), []⟩, ⟨16, some 58, .ld (.tmp 57), (some (51, false)), []⟩, ⟨17, some 59, .call n_s_l02Finite [.tmp 58], (some (51, false)), []⟩, ⟨18, some 60, .un .not (.tmp 59), (some (51, false)), []⟩, ⟨19, some 61, .pick (.tmp 51) (.const (.bool true)) (.tmp 60), none, []⟩, ⟨20, some 62, .mv (.tmp 61), none, []⟩, ⟨21, some 63, .mv (.tmp 4), (some (62, false)), []⟩, ⟨22, some 64, .bin .gtr (.tmp 63) (.const (.int .i64 0)), (some (62, false)), []⟩, ⟨23, some 65, .mv (.tmp 64), (some (62, false)), []⟩, ⟨24, some 66, .mv (.tmp 0), (some (65, true)), []⟩, ⟨25, some 67, .nc (.tmp 66), (some (65, true)), []⟩, ⟨26, some 68, .fa 1 (.tmp 67), (some (65, true)), []⟩, ⟨27, some 69, .ld (.tmp 68), (some (65, true)), []⟩, ⟨28, some 70, .mv (.tmp 4), (some (65, true)), []⟩, ⟨29, some 71, .bin .sub (.tmp 70) (.const (.int .i64 1)), (some (65, true)), []⟩, ⟨30, some 72, .ia (.tmp 69) (.tmp 71), (some (65, true)), []⟩, ⟨31, some 73, .ld (.tmp 72), (some (65, true)), []⟩, ⟨32, some 74, .len (.tmp 73), (some (65, true)), []⟩, ⟨33, some 75, .mv (.tmp 0), (some (65, true)), []⟩, ⟨34, some 76, .nc (.tmp 75), (some (65, true)), []⟩, ⟨35, some 77, .fa 1 (.tmp 76), (some (65, true)), []⟩, ⟨36, some 78, .ld (.tmp 77), (some (65, true)), []⟩, ⟨37, some 79, .mv (.tmp 4), (some (65, true)), []⟩, ⟨38, some 80, .ia (.tmp 78) (.tmp 79), (some (65, true)), []⟩, ⟨39, some 81, .ld (.tmp 80), (some (65, true)), []⟩, ⟨40, some 82, .len (.tmp 81), (some (65, true)), []⟩, ⟨41, some 83, .bin .mul (.const (.int .i64 2)) (.tmp 82), (some (65, true)), []⟩, ⟨42, some 84, .bin .neq (.tmp 74) (.tmp 83), (some (65, true)), []⟩, ⟨43, some 85, .pick (.tmp 65) (.tmp 84) (.const (.bool false)), (some (62, false)), []⟩, ⟨44, some 86, .pick (.tmp 62) (.const (.bool true)) (.tmp 85), none, []⟩])
  (.cond (.tmp 86) (.seq (.keep [] (.ops [⟨0, some 2, .mv (.const (.bool false)), none, []⟩]))
  (.ret)) (.skip)))))
  (.keep [0, 3, 38, 39] (.ops [⟨0, some 87, .bin .add (.tmp 39) (.const (.int .i64 1)), none, []⟩, ⟨1, some 39, .mv (.tmp 87), none, []⟩]))))))))
  (.seq (.ops [⟨0, some 88, .mv (.tmp 0), none, []⟩, ⟨1, some 89, .nc (.tmp 88), none, []⟩, ⟨2, some 90, .fa 0 (.tmp 89), none, []⟩, ⟨3, some 91, .ld (.tmp 90), none, []⟩, ⟨4, some 92, .len (.tmp 91), none, []⟩, ⟨5, some 93, .mv (.tmp 0), none, []⟩, ⟨6, some 94, .nc (.tmp 93), none, []⟩, ⟨7, some 95, .fa 1 (.tmp 94), none, []⟩, ⟨8, some 96, .ld (.tmp 95), none, []⟩, ⟨9, some 97, .mv (.tmp 3), none, []⟩, ⟨10, some 98, .bin .sub (.tmp 97) (.const (.int .i64 1)), none, []⟩, ⟨11, some 99, .ia (.tmp 96) (.tmp 98), none, []⟩, ⟨12, some 100, .ld (.tmp 99), none, []⟩, ⟨13, some 101, .len (.tmp 100), none, []⟩, ⟨14, some 102, .bin .eql (.tmp 92) (.tmp 101), none, []⟩, ⟨15, some 2, .mv (.tmp 102), none, []⟩])
  (.ret)))))
theorem k_s_l03Bands : FnOk Try.prog n_s_l03Bands 1 c_s_l03Bands [.tmp 2] := ⟨by kernel_rfl⟩
def c_i_areFinite : ACode :=
  .seq (.ops [⟨0, some 2, .mv (.const (.bool false)), none, []⟩])
  (.seq (.seq (.ops [⟨0, some 7, .mv (.tmp 0), none, []⟩, ⟨1, some 8, .len (.tmp 7), none, []⟩, ⟨2, some 9, .mv (.const (.int .i64 0)), none, []⟩])
  (.block 0 (.loop [7, 8, 9] (.seq (.ops [⟨0, some 10, .bin .lss (.tmp 9) (.tmp 8), none, []⟩])
  (.seq (.cond (.tmp 10) (.skip) (.exit 0))
  (.seq (.block 1 (.seq (.ops [⟨0, some 11, .ia (.tmp 7) (.tmp 9), none, []⟩, ⟨1, some 12, .ld (.tmp 11), none, []⟩, ⟨2, some 4, .mv (.tmp 12), none, []⟩])
  (.seq (.ops [⟨0, some 13, .mv (.tmp 4), none, []⟩, ⟨1, some 14, .len (.tmp 13), none, []⟩, ⟨2, some 15, .mv (.const (.int .i64 0)), none, []⟩])
  (.block 2 (.loop [7, 8, 9, 13, 14, 15] (.seq (.ops [⟨0, some 16, .bin .lss (.tmp 15) (.tmp 14), none, []⟩])
  (.seq (.cond (.tmp 16) (.skip) (.exit 2))
  (.seq (.block 3 (.seq (.ops [⟨0, some 17, .ia (.tmp 13) (.tmp 15), none, []⟩, ⟨1, some 18, .ld (.tmp 17), none, []⟩, ⟨2, some 6, .mv (.tmp 18), none, []⟩])
  (.seq (.ops [⟨0, some 19, .mv (.tmp 6), none, []⟩, ⟨1, some 20, .call n_i_IsFinite [.tmp 19], none, []⟩, ⟨2, some 21, .un .not (.tmp 20), none, []⟩])
  (.cond (.tmp 21) (.seq (.keep [] (.ops [⟨0, some 2, .mv (.const (.bool false)), none, []⟩]))
  (.ret)) (.skip)))))
  (.keep [7, 8, 9, 13, 14, 15] (.ops [⟨0, some 22, .bin .add (.tmp 15) (.const (.int .i64 1)), none, []⟩, ⟨1, some 15, .mv (.tmp 22), none, []⟩]))))))))))
  (.ops [⟨0, some 23, .bin .add (.tmp 9) (.const (.int .i64 1)), none, []⟩, ⟨1, some 9, .mv (.tmp 23), none, []⟩])))))))
  (.seq (.ops [⟨0, some 2, .mv (.const (.bool true)), none, []⟩])
  (.ret)))
theorem k_i_areFinite : FnOk Try.prog n_i_areFinite 1 c_i_areFinite [.tmp 2] := ⟨by kernel_rfl⟩
def c_i_kept : ACode :=
  .seq (.ops [⟨0, some 4, .mv (.const (.slice none 0 0)), none, []⟩])
  (.seq (.seq (.ops [⟨0, some 5, .mv (.tmp 1), none, []⟩])
  (.cond (.tmp 5) (.seq (.ops [⟨0, some 6, .mv (.tmp 0), none, []⟩, ⟨1, some 7, .call n_i_copyOf [.tmp 6], none, []⟩, ⟨2, some 4, .mv (.tmp 7), none, []⟩])
  (.ret)) (.skip)))
  (.seq (.ops [⟨0, some 8, .mv (.tmp 0), none, []⟩, ⟨1, some 9, .len (.tmp 8), none, []⟩, ⟨2, some 10, .mks 41 4 (.float .f32 0) (.tmp 9) (.tmp 9), none, []⟩, ⟨3, some 4, .mv (.tmp 10), none, []⟩])
  (.ret)))
theorem k_i_kept : FnOk Try.prog n_i_kept 2 c_i_kept [.tmp 4] := ⟨by kernel_rfl⟩
def c_i_sameNumbers : ACode :=
  .seq (.ops [⟨0, some 4, .mv (.const (.bool false)), none, []⟩])
  (.seq (.seq (.ops [⟨0, some 6, .mv (.tmp 0), none, []⟩, ⟨1, some 7, .len (.tmp 6), none, []⟩, ⟨2, some 8, .mv (.tmp 1), none, []⟩, ⟨3, some 9, .len (.tmp 8), none, []⟩, ⟨4, some 10, .bin .neq (.tmp 7) (.tmp 9), none, []⟩])
  (.cond (.tmp 10) (.seq (.keep [] (.ops [⟨0, some 4, .mv (.const (.bool false)), none, []⟩]))
  (.ret)) (.skip)))
  (.seq (.seq (.keep [0, 1] (.ops [⟨0, some 11, .mv (.tmp 0), none, []⟩, ⟨1, some 12, .len (.tmp 11), none, []⟩, ⟨2, some 13, .mv (.const (.int .i64 0)), none, []⟩]))
  (.block 0 (.loop [0, 1, 12, 13] (.seq (.ops [⟨0, some 14, .bin .lss (.tmp 13) (.tmp 12), none, []⟩])
  (.seq (.cond (.tmp 14) (.skip) (.exit 0))
  (.seq (.block 1 (.seq (.ops [⟨0, some 15, .mv (.tmp 13), none, []⟩, ⟨1, some 5, .mv (.tmp 15), none, []⟩])
  (.seq (.ops [⟨0, some 16, .mv (.tmp 0), none, []⟩, ⟨1, some 17, .mv (.tmp 5), none, []⟩, ⟨2, some 18, .ia (.tmp 16) (.tmp 17), none, []⟩, ⟨3, some 19, .ld (.tmp 18), none, []⟩, ⟨4, some 20, .mv (.tmp 1), none, []⟩, ⟨5, some 21, .mv (.tmp 5), none, []⟩, ⟨6, some 22, .ia (.tmp 20) (.tmp 21), none, []⟩, ⟨7, some 23, .ld (.tmp 22), none, []⟩, ⟨8, some 24, .call n_i_SameNumber [.tmp 19, .tmp 23], none, []⟩, ⟨9, some 25, .un .not (.tmp 24), none, []⟩])
  (.cond (.tmp 25) (.seq (.keep [] (.ops [⟨0, some 4, .mv (.const (.bool false)), none, []⟩]))
  (.ret)) (.skip)))))
  (.keep [0, 1, 12, 13] (.ops [⟨0, some 26, .bin .add (.tmp 13) (.const (.int .i64 1)), none, []⟩, ⟨1, some 13, .mv (.tmp 26), none, []⟩]))))))))
  (.seq (.keep [] (.ops [⟨0, some 4, .mv (.const (.bool true)), none, []⟩]))
  (.ret))))
theorem k_i_sameNumbers : FnOk Try.prog n_i_sameNumbers 2 c_i_sameNumbers [.tmp 4] := ⟨by kernel_rfl⟩
def c_i_sameLists : ACode :=
  .seq (.ops [⟨0, some 4, .mv (.const (.bool false)), none, []⟩])
  (.seq (.seq (.ops [⟨0, some 6, .mv (.tmp 0), none, []⟩, ⟨1, some 7, .len (.tmp 6), none, []⟩, ⟨2, some 8, .mv (.tmp 1), none, []⟩, ⟨3, some 9, .len (.tmp 8), none, []⟩, ⟨4, some 10, .bin .neq (.tmp 7) (.tmp 9), none, []⟩])
  (.cond (.tmp 10) (.seq (.keep [] (.ops [⟨0, some 4, .mv (.const (.bool false)), none, []⟩]))
  (.ret)) (.skip)))
  (.seq (.seq (.keep [0, 1] (.ops [⟨0, some 11, .mv (.tmp 0), none, []⟩, ⟨1, some 12, .len (.tmp 11), none, []⟩, ⟨2, some 13, .mv (.const (.int .i64 0)), none, []⟩]))
  (.block 0 (.loop [0, 1, 12, 13] (.seq (.ops [⟨0, some 14, .bin .lss (.tmp 13) (.tmp 12), none, []⟩])
  (.seq (.cond (.tmp 14) (.skip) (.exit 0))
  (.seq (.block 1 (.seq (.ops [⟨0, some 15, .mv (.tmp 13), none, []⟩, ⟨1, some 5, .mv (.tmp 15), none, []⟩])
  (.seq (.ops [⟨0, some 16, .mv (.tmp 0), none, []⟩, ⟨1, some 17, .mv (.tmp 5), none, []⟩, ⟨2, some 18, .ia (.tmp 16) (.tmp 17), none, []⟩, ⟨3, some 19, .ld (.tmp 18), none, []⟩, ⟨4, some 20, .mv (.tmp 1), none, []⟩, ⟨5, some 21, .mv (.tmp 5), none, []⟩, ⟨6, some 22, .ia (.tmp 20) (.tmp 21), none, []⟩, ⟨7, some 23, .ld (.tmp 22), none, []⟩, ⟨8, some 24, .call n_i_sameNumbers [.tmp 19, .tmp 23], none, []⟩, ⟨9, some 25, .un .not (.tmp 24), none, []⟩])
  (.cond (.tmp 25) (.seq (.keep [] (.ops [⟨0, some 4, .mv (.const (.bool false)), none, []⟩]))
  (.ret)) (.skip)))))
  (.keep [0, 1, 12, 13] (.ops [⟨0, some 26, .bin .add (.tmp 13) (.const (.int .i64 1)), none, []⟩, ⟨1, some 13, .mv (.tmp 26), none, []⟩]))))))))
  (.seq (.keep [] (.ops [⟨0, some 4, .mv (.const (.bool true)), none, []⟩]))
  (.ret))))
theorem k_i_sameLists : FnOk Try.prog n_i_sameLists 2 c_i_sameLists [.tmp 4] := ⟨by kernel_rfl⟩
def c_i_highOf : ACode :=
  .seq (.ops [⟨0, some 1, .box 26 (.tmp 0), none, []⟩, ⟨1, some 2, .mv (.const (.slice none 0 0)), none, []⟩])
  (.seq (.ops [⟨0, some 6, .bsl 41 0 (.float .f32 0) [], none, []⟩, ⟨1, some 3, .mv (.tmp 6), none, []⟩])
  (.seq (.seq (.ops [⟨0, some 7, .fa 0 (.tmp 1), none, []⟩, ⟨1, some 8, .ld (.tmp 7), none, []⟩, ⟨2, some 9, .len (.tmp 8), none, []⟩, ⟨3, some 10, .mv (.const (.int .i64 0)), none, []⟩])
  (.block 0 (.loop [1, 3, 9, 10] (.seq (.ops [⟨0, some 11, .bin .lss (.tmp 10) (.tmp 9), none, []⟩])
  (.seq (.cond (.tmp 11) (.skip) (.exit 0))
  (.seq (.block 1 (.seq (.ops [⟨0, some 12, .mv (.tmp 10), none, []⟩, ⟨1, some 4, .mv (.tmp 12), none, []⟩])
  (.seq (.ops [⟨0, some 13, .fa 0 (.tmp 1), none, []⟩, ⟨1, some 14, .ld (.tmp 13), none, []⟩, ⟨2, some 15, .fa 0 (.tmp 1), none, []⟩, ⟨3, some 16, .ld (.tmp 15), none, []⟩, ⟨4, some 17, .len (.tmp 16), none, []⟩, ⟨5, some 18, .bin .sub (.tmp 17) (.const (.int .i64 1)), none, []⟩, ⟨6, some 19, .mv (.tmp 4), none, []⟩, ⟨7, some 20, .bin .sub (.tmp 18) (.tmp 19), none, []⟩, ⟨8, some 21, .ia (.tmp 14) (.tmp 20), none, []⟩, ⟨9, some 22, .ld (.tmp 21), none, []⟩, ⟨10, some 5, .mv (.tmp 22), none, []⟩])
  (.seq (.seq (.keep [1, 3, 4, 5, 9, 10] (.ops [⟨0, some 23, .mv (.tmp 4), none, []⟩, ⟨1, some 24, .bin .rem (.tmp 23) (.const (.int .i64 2)), none, []⟩, ⟨2, some 25, .bin .eql (.tmp 24) (.const (.int .i64 1)), none, []⟩]))
  (.cond (.tmp 25) (.ops [⟨0, some 26, .mv (.tmp 5), none, []⟩, ⟨1, some 27, .un .neg (.tmp 26), none, []⟩, ⟨2, some 5, .mv (.tmp 27), none, []⟩]) (.skip)))
  (.keep [1, 3, 5, 9, 10] (.ops [⟨0, some 28, .mv (.tmp 3), none, []⟩, ⟨1, some 29, .mv (.tmp 5), none, []⟩, ⟨2, some 30, .bsl 41 1 (.float .f32 0) [(0, .tmp 29)], none, []⟩, ⟨3, some 31, .app 41 4 (.tmp 28) (.tmp 30), none, []⟩, ⟨4, some 3, .mv (.tmp 31), none, []⟩]))))))
  (.keep [1, 3, 9, 10] (.ops [⟨0, some 32, .bin .add (.tmp 10) (.const (.int .i64 1)), none, []⟩, ⟨1, some 10, .mv (.tmp 32), none, []⟩]))))))))
  (.seq (.ops [⟨0, some 33, .mv (.tmp 3), none, []⟩, ⟨1, some 2, .mv (.tmp 33), none, []⟩])
  (.ret))))
theorem k_i_highOf : FnOk Try.prog n_i_highOf 1 c_i_highOf [.tmp 2] := ⟨by kernel_rfl⟩
def c_i_size : ACode :=
  .seq (.ops [⟨0, some 2, .mv (.const (.float .f32 0)), none, []⟩])
  (.seq (.seq (.ops [⟨0, some 3, .mv (.tmp 0), none, []⟩, ⟨1, some 4, .bin .lss (.tmp 3) (.const (.float .f32 0)), none, []⟩])
  (.cond (.tmp 4) (.seq (.ops [⟨0, some 5, .mv (.tmp 0), none, []⟩, ⟨1, some 6, .un .neg (.tmp 5), none, []⟩, ⟨2, some 2, .mv (.tmp 6), none, []⟩])
  (.ret)) (.skip)))
  (.seq (.seq (.ops [⟨0, some 7, .mv (.tmp 0), none, []⟩, ⟨1, some 8, .bin .eql (.tmp 7) (.const (.float .f32 0)), none, []⟩])
  (.cond (.tmp 8) (.seq (.keep [] (.ops [⟨0, some 2, .mv (.const (.float .f32 0)), none, []⟩]))
  (.ret)) (.skip)))
  (.seq (.keep [0] (.ops [⟨0, some 9, .mv (.tmp 0), none, []⟩, ⟨1, some 2, .mv (.tmp 9), none, []⟩]))
  (.ret))))
theorem k_i_size : FnOk Try.prog n_i_size 1 c_i_size [.tmp 2] := ⟨by kernel_rfl⟩
def c_s_l00Src_next : ACode :=
  .seq (.ops [⟨0, some 2, .mv (.const (.int .i64 0)), none, []⟩])
  (.seq (.ops [⟨0, some 3, .mv (.const (.int .i64 0)), none, []⟩])
  (.seq (.seq (.ops [⟨0, some 4, .mv (.tmp 0), none, []⟩, ⟨1, some 5, .nc (.tmp 4), none, []⟩, ⟨2, some 6, .fa 1 (.tmp 5), none, []⟩, ⟨3, some 7, .ld (.tmp 6), none, []⟩, ⟨4, some 8, .mv (.tmp 0), none, []⟩, ⟨5, some 9, .nc (.tmp 8), none, []⟩, ⟨6, some 10, .fa 0 (.tmp 9), none, []⟩, ⟨7, some 11, .ld (.tmp 10), none, []⟩, ⟨8, some 12, .len (.tmp 11), none, []⟩, ⟨9, some 13, .bin .lss (.tmp 7) (.tmp 12), none, []⟩])
  (.cond (.tmp 13) (.keep [0] (.ops [⟨0, some 14, .mv (.tmp 0), none, []⟩, ⟨1, some 15, .nc (.tmp 14), none, []⟩, ⟨2, some 16, .fa 0 (.tmp 15), none, []⟩, ⟨3, some 17, .ld (.tmp 16), none, []⟩, ⟨4, some 18, .mv (.tmp 0), none, []⟩, ⟨5, some 19, .nc (.tmp 18), none, []⟩, ⟨6, some 20, .fa 1 (.tmp 19), none, []⟩, ⟨7, some 21, .ld (.tmp 20), none, []⟩, ⟨8, some 22, .ia (.tmp 17) (.tmp 21), none, []⟩, ⟨9, some 23, .ld (.tmp 22), none, []⟩, ⟨10, some 24, .cv (.i .i64) (.tmp 23), none, []⟩, ⟨11, some 3, .mv (.tmp 24), none, []⟩])) (.skip)))
  (.seq (.keep [0, 3] (.ops [⟨0, some 25, .mv (.tmp 0), none, []⟩, ⟨1, some 26, .nc (.tmp 25), none, []⟩, ⟨2, some 27, .fa 1 (.tmp 26), none, []⟩, ⟨3, some 28, .ld (.tmp 27), none, []⟩, ⟨4, some 29, .bin .add (.tmp 28) (.const (.int .i64 1)), none, []⟩, ⟨5, some 30, .nc (.tmp 25), none, []⟩, ⟨6, some 31, .fa 1 (.tmp 30), none, []⟩, ⟨7, none, .st (.tmp 31) (.tmp 29), none, []⟩]))
  (.seq (.keep [0, 3] (.ops [⟨0, some 32, .mv (.tmp 0), none, []⟩, ⟨1, some 33, .mv (.tmp 0), none, []⟩, ⟨2, some 34, .nc (.tmp 33), none, []⟩, ⟨3, some 35, .fa 2 (.tmp 34), none, []⟩, ⟨4, some 36, .ld (.tmp 35), none, []⟩, ⟨5, some 37, .bin .mul (.tmp 36) (.const (.int .u64 6364136223846793005)), none, []⟩, ⟨6, some 38, .mv (.tmp 3), none, []⟩, ⟨7, some 39, .cv (.i .u64) (.tmp 38), none, []⟩, ⟨8, some 40, .bin .add (.tmp 37) (.tmp 39), none, []⟩, ⟨9, some 41, .bin .add (.tmp 40) (.const (.int .u64 1442695040888963407)), none, []⟩, ⟨10, some 42, .nc (.tmp 32), none, []⟩, ⟨11, some 43, .fa 2 (.tmp 42), none, []⟩, ⟨12, none, .st (.tmp 43) (.tmp 41), none, []⟩]))
  (.seq (.seq (.keep [0, 3] (.ops [⟨0, some 44, .mv (.tmp 0), none, []⟩, ⟨1, some 45, .nc (.tmp 44), none, []⟩, ⟨2, some 46, .fa 1 (.tmp 45), none, []⟩, ⟨3, some 47, .ld (.tmp 46), none, []⟩, ⟨4, some 48, .mv (.tmp 0), none, []⟩, ⟨5, some 49, .nc (.tmp 48), none, []⟩, ⟨6, some 50, .fa 0 (.tmp 49), none, []⟩, ⟨7, some 51, .ld (.tmp 50), none, []⟩, ⟨8, some 52, .len (.tmp 51), none, []⟩, ⟨9, some 53, .bin .leq (.tmp 47) (.tmp 52), none, []⟩]))
  (.cond (.tmp 53) (.seq (.keep [3] (.ops [⟨0, some 54, .mv (.tmp 3), none, []⟩, ⟨1, some 2, .mv (.tmp 54), none, []⟩]))
  (.ret)) (.skip)))
  (.seq (.keep [0] (.ops [⟨0, some 55, .mv (.tmp 0), none, []⟩, ⟨1, some 56, .nc (.tmp 55), none, []⟩, ⟨2, some 57, .fa 2 (.tmp 56), none, []⟩, ⟨3, some 58, .ld (.tmp 57), none, []⟩, ⟨4, some 59, .bin .shr (.tmp 58) (.const (.int .u64 40)), none, []⟩, ⟨5, some 60, .bin .and (.tmp 59) (.const (.int .u64 255)), none, []⟩, ⟨6, some 61, .cv (.i .i64) (.tmp 60), none, []⟩, ⟨7, some 2, .mv (.tmp 61), none, []⟩]))
  (.ret)))))))
theorem k_s_l00Src_next : FnOk Try.prog n_s_l00Src_next 1 c_s_l00Src_next [.tmp 2] := ⟨by kernel_rfl⟩
def c_s_l02Finite : ACode :=
  .seq (.ops [⟨0, some 2, .mv (.const (.bool false)), none, []⟩])
  (.seq (.seq (.ops [⟨0, some 3, .mv (.const (.int .i64 0)), none, []⟩])
  (.block 0 (.loop [0, 3] (.seq (.seq (.ops [⟨0, some 4, .mv (.tmp 3), none, []⟩, ⟨1, some 5, .mv (.tmp 0), none, []⟩, ⟨2, some 6, .len (.tmp 5), none, []⟩, ⟨3, some 7, .bin .lss (.tmp 4) (.tmp 6), none, []⟩])
  (.cond (.tmp 7) (.skip) (.exit 0)))
  (.seq (.block 1 (.seq (.ops [⟨0, some 10, .mv (.tmp 0), none, []⟩, ⟨1, some 11, .mv (.tmp 3), none, []⟩, ⟨2, some 12, .ia (.tmp 10) (.tmp 11), none, []⟩, ⟨3, some 13, .ld (.tmp 12), none, []⟩, ⟨4, some 14, .call n_s_l01Finite [.tmp 13], none, []⟩, ⟨5, some 15, .un .not (.tmp 14), none, []⟩])
  (.cond (.tmp 15) (.seq (.keep [] (.ops [⟨0, some 2, .mv (.const (.bool false)), none, []⟩]))
  (.ret)) (.skip))))
  (.keep [0, 3] (.ops [⟨0, some 8, .mv (.tmp 3), none, []⟩, ⟨1, some 9, .bin .add (.tmp 8) (.const (.int .i64 1)), none, []⟩, ⟨2, some 3, .mv (.tmp 9), none, []⟩])))))))
  (.seq (.keep [] (.ops [⟨0, some 2, .mv (.const (.bool true)), none, []⟩]))
  (.ret)))
theorem k_s_l02Finite : FnOk Try.prog n_s_l02Finite 1 c_s_l02Finite [.tmp 2] := ⟨by kernel_rfl⟩
def c_i_IsFinite : ACode :=
  .seq (.ops [⟨0, some 2, .mv (.const (.bool false)), none, []⟩])
  (.seq (.ops [⟨0, some 3, .mv (.tmp 0), none, []⟩, ⟨1, some 4, .mv (.tmp 0), none, []⟩, ⟨2, some 5, .bin .sub (.tmp 3) (.tmp 4), none, []⟩, ⟨3, some 6, .bin .eql (.tmp 5) (.const (.float .f32 0)), none, []⟩, ⟨4, some 2, .mv (.tmp 6), none, []⟩])
  (.ret))
theorem k_i_IsFinite : FnOk Try.prog n_i_IsFinite 1 c_i_IsFinite [.tmp 2] := ⟨by kernel_rfl⟩
def c_i_SameNumber : ACode :=
  .seq (.ops [⟨0, some 4, .mv (.const (.bool false)), none, []⟩])
  (.seq (.seq (.ops [⟨0, some 5, .mv (.tmp 0), none, []⟩, ⟨1, some 6, .mv (.tmp 0), none, []⟩, ⟨2, some 7, .bin .neq (.tmp 5) (.tmp 6), none, []⟩, ⟨3, some 8, .mv (.tmp 7), none, []⟩, ⟨4, some 9, .mv (.tmp 1), (some (8, false)), []⟩, ⟨5, some 10, .mv (.tmp 1), (some (8, false)), []⟩, ⟨6, some 11, .bin .neq (.tmp 9) (.tmp 10), (some (8, false)), []⟩, ⟨7, some 12, .pick (.tmp 8) (.const (.bool true)) (.tmp 11), none, []⟩])
  (.cond (.tmp 12) (.seq (.keep [0, 1] (.ops [⟨0, some 13, .mv (.tmp 0), none, []⟩, ⟨1, some 14, .mv (.tmp 0), none, []⟩, ⟨2, some 15, .bin .neq (.tmp 13) (.tmp 14), none, []⟩, ⟨3, some 16, .mv (.tmp 15), none, []⟩, ⟨4, some 17, .mv (.tmp 1), (some (16, true)), []⟩, ⟨5, some 18, .mv (.tmp 1), (some (16, true)), []⟩, ⟨6, some 19, .bin .neq (.tmp 17) (.tmp 18), (some (16, true)), []⟩, ⟨7, some 20, .pick (.tmp 16) (.tmp 19) (.const (.bool false)), none, []⟩, ⟨8, some 4, .mv (.tmp 20), none, []⟩]))
  (.ret)) (.skip)))
  (.seq (.keep [0, 1] (.ops [⟨0, some 21, .mv (.tmp 0), none, []⟩, ⟨1, some 22, .mv (.tmp 1), none, []⟩, ⟨2, some 23, .bin .eql (.tmp 21) (.tmp 22), none, []⟩, ⟨3, some 24, .mv (.tmp 23), none, []⟩, ⟨4, some 25, .mv (.tmp 0), (some (24, true)), []⟩, ⟨5, some 26, .cv (.f .f64) (.tmp 25), (some (24, true)), []⟩, ⟨6, some 27, .call n_m_Signbit [.tmp 26], (some (24, true)), []⟩, ⟨7, some 28, .mv (.tmp 1), (some (24, true)), []⟩, ⟨8, some 29, .cv (.f .f64) (.tmp 28), (some (24, true)), []⟩, ⟨9, some 30, .call n_m_Signbit [.tmp 29], (some (24, true)), []⟩, ⟨10, some 31, .beq false (.tmp 27) (.tmp 30), (some (24, true)), []⟩, ⟨11, some 32, .pick (.tmp 24) (.tmp 31) (.const (.bool false)), none, []⟩, ⟨12, some 4, .mv (.tmp 32), none, []⟩]))
  (.ret)))
theorem k_i_SameNumber : FnOk Try.prog n_i_SameNumber 2 c_i_SameNumber [.tmp 4] := ⟨by kernel_rfl⟩
def c_s_l01Finite : ACode :=
  .seq (.ops [⟨0, some 2, .mv (.const (.bool false)), none, []⟩])
  (.seq (.ops [⟨0, some 3, .mv (.tmp 0), none, []⟩, ⟨1, some 4, .mv (.tmp 0), none, []⟩, ⟨2, some 5, .bin .sub (.tmp 3) (.tmp 4), none, []⟩, ⟨3, some 6, .bin .eql (.tmp 5) (.const (.float .f32 0)), none, []⟩, ⟨4, some 2, .mv (.tmp 6), none, []⟩])
  (.ret))
theorem k_s_l01Finite : FnOk Try.prog n_s_l01Finite 1 c_s_l01Finite [.tmp 2] := ⟨by kernel_rfl⟩
def c_m_Signbit : ACode :=
  .seq (.ops [⟨0, some 2, .mv (.const (.bool false)), none, []⟩])
  (.seq (.ops [⟨0, some 3, .mv (.tmp 0), none, []⟩, ⟨1, some 4, .f64bits (.tmp 3), none, []⟩, ⟨2, some 5, .cv (.i .i64) (.tmp 4), none, []⟩, ⟨3, some 6, .bin .lss (.tmp 5) (.const (.int .i64 0)), none, []⟩, ⟨4, some 2, .mv (.tmp 6), none, []⟩])
  (.ret))
theorem k_m_Signbit : FnOk Try.prog n_m_Signbit 1 c_m_Signbit [.tmp 2] := ⟨by kernel_rfl⟩
end Go.Proofs.Ytddekdgggpifmaa

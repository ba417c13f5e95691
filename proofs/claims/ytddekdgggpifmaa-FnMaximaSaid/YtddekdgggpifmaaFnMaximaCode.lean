/- The code of functions, for the abstract machine; printed by a program (gen.py). -/
import Derived.Test.YtddekdgggpifmaaGxFn
import Derived.Test.YtddekdgggpifmaaProg
namespace Go.Proofs.Ytddekdgggpifmaa
open Go.Gx
set_option maxRecDepth 100000
abbrev t_int64 : Nat := 2
abbrev t_int : Nat := 3
abbrev t_bool : Nat := 4
abbrev t_uint8 : Nat := 5
abbrev t_suint8 : Nat := 22
abbrev t_sfloat32 : Nat := 24
abbrev t_ssfloat32 : Nat := 30
abbrev t_float64 : Nat := 40
abbrev t_float32 : Nat := 41
abbrev t_sbool : Nat := 44
abbrev t_sint64 : Nat := 55
abbrev t_ssint64 : Nat := 62
abbrev t_sint : Nat := 78
abbrev t_Pair : Nat := 26
abbrev t_Bands : Nat := 32
abbrev t_Scheme : Nat := 71
abbrev n_w_FnMaxima : Nat := 8
abbrev n_w_b10Long : Nat := 9
abbrev n_s_B10Pair : Nat := 10
abbrev n_w_b10At : Nat := 11
abbrev n_s_B10Signal : Nat := 12
abbrev n_i_PowersOfBands : Nat := 15
abbrev n_i_ValidBands : Nat := 17
abbrev n_w_b10Gap : Nat := 20
abbrev n_s_HaarPair : Nat := 32
abbrev n_s_FourPair : Nat := 33
abbrev n_i_MaximaOf : Nat := 62
abbrev n_i_LinkMaxima : Nat := 63
abbrev n_s_LinkMaxima : Nat := 64
abbrev n_w_b10Ints : Nat := 65
abbrev n_s_SplitLevels : Nat := 66
abbrev n_s_RoughnessOf : Nat := 67
abbrev n_i_RoughnessOf : Nat := 68
abbrev n_s_l00From : Nat := 69
abbrev n_s_l00Src_one : Nat := 70
abbrev n_s_l00Src_pick : Nat := 71
abbrev n_i_isLong : Nat := 72
abbrev n_i_within : Nat := 73
abbrev n_i_squares : Nat := 75
abbrev n_i_finiteList : Nat := 76
abbrev n_s_l03Bands : Nat := 77
abbrev n_i_areFinite : Nat := 78
abbrev n_i_size : Nat := 83
abbrev n_i_finite : Nat := 102
abbrev n_i_maximaOf : Nat := 104
abbrev n_i_areRows : Nat := 105
abbrev n_i_nearest : Nat := 106
abbrev n_s_l03Rows : Nat := 107
abbrev n_s_l00In : Nat := 108
abbrev n_s_l03Maxima : Nat := 109
abbrev n_s_l03Apart : Nat := 110
abbrev n_s_l03Long : Nat := 111
abbrev n_s_l03Pair : Nat := 112
abbrev n_s_SplitRing : Nat := 113
abbrev n_s_PowersOfBands : Nat := 114
abbrev n_s_l01Log : Nat := 115
abbrev n_s_l02Number : Nat := 116
abbrev n_i_LogNumber : Nat := 117
abbrev n_s_l00Src_next : Nat := 118
abbrev n_s_l02Finite : Nat := 119
abbrev n_i_IsFinite : Nat := 120
abbrev n_s_l03Size : Nat := 133
abbrev n_s_l03Taps : Nat := 134
abbrev n_s_l03High : Nat := 135
abbrev n_s_l03Energy : Nat := 136
abbrev n_s_l01Narrow : Nat := 137
abbrev n_s_l01LogWide : Nat := 138
abbrev n_s_l01Finite : Nat := 139
abbrev n_m_Inf : Nat := 140
abbrev n_m_NaN : Nat := 141
abbrev n_i_naturalLog : Nat := 142
abbrev n_m_IsInf : Nat := 145
abbrev n_m_Float64frombits : Nat := 146
abbrev n_m_Float64bits : Nat := 147
abbrev n_m_Abs : Nat := 149
def c_w_FnMaxima : ACode :=
  .seq (.ops [⟨0, some 4, .mv (.const (.bool false)), none, []⟩])
  (.seq (.seq (.ops [⟨0, some 37, .mv (.tmp 0), none, []⟩, ⟨1, some 38, .mv (.tmp 1), none, []⟩, ⟨2, some 39, .call n_w_b10Long [.tmp 37, .tmp 38], none, []⟩])
  (.cond (.tmp 39) (.seq (.keep [] (.ops [⟨0, some 4, .mv (.const (.bool true)), none, []⟩]))
  (.ret)) (.skip)))
  (.seq (.ops [⟨0, some 40, .mv (.tmp 1), none, []⟩, ⟨1, some 41, .call n_w_b10At [.tmp 40, .const (.int .i64 0), .const (.int .i64 20)], none, []⟩, ⟨2, some 42, .bin .add (.const (.int .i64 1)) (.tmp 41), none, []⟩, ⟨3, some 5, .mv (.tmp 42), none, []⟩])
  (.seq (.keep [0, 1, 5] (.ops [⟨0, some 43, .mv (.tmp 0), none, []⟩, ⟨1, some 44, .mv (.tmp 5), none, []⟩, ⟨2, some 45, .call n_s_B10Signal [.tmp 43, .tmp 44], none, []⟩, ⟨3, some 6, .mv (.tmp 45), none, []⟩]))
  (.seq (.ops [⟨0, some 46, .mv (.tmp 1), none, []⟩, ⟨1, some 47, .mv (.tmp 5), none, []⟩, ⟨2, some 48, .call n_s_B10Signal [.tmp 46, .tmp 47], none, []⟩, ⟨3, some 7, .mv (.tmp 48), none, []⟩])
  (.seq (.keep [0, 1, 5, 6, 7] (.ops [⟨0, some 50, .mv (.tmp 6), none, []⟩, ⟨1, some 51, .call n_i_MaximaOf [.tmp 50], none, []⟩, ⟨2, some 49, .mv (.tmp 51), none, []⟩, ⟨3, some 52, .ext (.tmp 49) 0, none, []⟩, ⟨4, some 53, .ext (.tmp 49) 1, none, []⟩, ⟨5, some 8, .mv (.tmp 52), none, []⟩, ⟨6, some 9, .mv (.tmp 53), none, []⟩]))
  (.seq (.keep [0, 1, 5, 6, 7, 8, 9] (.ops [⟨0, some 55, .mv (.tmp 6), none, []⟩, ⟨1, some 56, .mv (.tmp 6), none, []⟩, ⟨2, some 57, .mv (.tmp 6), none, []⟩, ⟨3, some 58, .bsl 24 3 (.slice none 0 0) [(0, .tmp 55), (1, .tmp 56), (2, .tmp 57)], none, []⟩, ⟨4, some 59, .call n_i_LinkMaxima [.tmp 58, .const (.int .i64 0)], none, []⟩, ⟨5, some 54, .mv (.tmp 59), none, []⟩, ⟨6, some 60, .ext (.tmp 54) 0, none, []⟩, ⟨7, some 61, .ext (.tmp 54) 1, none, []⟩, ⟨8, some 10, .mv (.tmp 60), none, []⟩, ⟨9, some 11, .mv (.tmp 61), none, []⟩]))
  (.seq (.keep [0, 1, 5, 6, 7, 8, 9, 10, 11] (.ops [⟨0, some 63, .mv (.tmp 6), none, []⟩, ⟨1, some 64, .mv (.tmp 7), none, []⟩, ⟨2, some 65, .bsl 24 2 (.slice none 0 0) [(0, .tmp 63), (1, .tmp 64)], none, []⟩, ⟨3, some 66, .call n_i_LinkMaxima [.tmp 65, .const (.int .i64 2)], none, []⟩, ⟨4, some 62, .mv (.tmp 66), none, []⟩, ⟨5, some 67, .ext (.tmp 62) 0, none, []⟩, ⟨6, some 68, .ext (.tmp 62) 1, none, []⟩, ⟨7, some 12, .mv (.tmp 67), none, []⟩, ⟨8, some 13, .mv (.tmp 68), none, []⟩]))
  (.seq (.keep [0, 1, 5, 6, 7, 8, 9, 10, 11, 12, 13] (.ops [⟨0, some 70, .mv (.tmp 6), none, []⟩, ⟨1, some 71, .mv (.tmp 7), none, []⟩, ⟨2, some 72, .bsl 24 2 (.slice none 0 0) [(0, .tmp 70), (1, .tmp 71)], none, []⟩, ⟨3, some 73, .call n_s_LinkMaxima [.tmp 72, .const (.int .i64 2)], none, []⟩, ⟨4, some 69, .mv (.tmp 73), none, []⟩, ⟨5, some 74, .ext (.tmp 69) 0, none, []⟩, ⟨6, some 75, .ext (.tmp 69) 1, none, []⟩, ⟨7, some 14, .mv (.tmp 74), none, []⟩, ⟨8, some 15, .mv (.tmp 75), none, []⟩]))
  (.seq (.seq (.keep [0, 1, 5, 6, 8, 9, 10, 11, 12, 13, 14, 15] (.ops [⟨0, some 76, .mv (.tmp 9), none, []⟩, ⟨1, some 77, .un .not (.tmp 76), none, []⟩, ⟨2, some 78, .mv (.tmp 77), none, []⟩, ⟨3, some 79, .mv (.tmp 11), (some (78, false)), []⟩, ⟨4, some 80, .un .not (.tmp 79), (some (78, false)), []⟩, ⟨5, some 81, .pick (.tmp 78) (.const (.bool true)) (.tmp 80), none, []⟩, ⟨6, some 82, .mv (.tmp 81), none, []⟩, ⟨7, some 83, .mv (.tmp 13), (some (82, false)), []⟩, ⟨8, some 84, .un .not (.tmp 83), (some (82, false)), []⟩, ⟨9, some 85, .pick (.tmp 82) (.const (.bool true)) (.tmp 84), none, []⟩, ⟨10, some 86, .mv (.tmp 85), none, []⟩, ⟨11, some 87, .mv (.tmp 15), (some (86, false)), []⟩, ⟨12, some 88, .un .not (.tmp 87), (some (86, false)), []⟩, ⟨13, some 89, .pick (.tmp 86) (.const (.bool true)) (.tmp 88), none, []⟩, ⟨14, some 90, .mv (.tmp 89), none, []⟩, ⟨15, some 91, .mv (.tmp 10), (some (90, false)), []⟩, ⟨16, some 92, .mv (.tmp 8), (some (90, false)), []⟩, ⟨17, some 93, .call n_w_b10Ints [.tmp 91, .tmp 92], (some (90, false)), []⟩, ⟨18, some 94, .un .not (.tmp 93), (some (90, false)), []⟩, ⟨19, some 95, .pick (.tmp 90) (.const (.bool true)) (.tmp 94), none, []⟩, ⟨20, some 96, .mv (.tmp 95), none, []⟩, ⟨21, some 97, .mv (.tmp 12), (some (96, false)), []⟩, ⟨22, some 98, .mv (.tmp 14), (some (96, false)), []⟩, ⟨23, some 99, .call n_w_b10Ints [.tmp 97, .tmp 98], (some (96, false)), []⟩, ⟨24, some 100, .un .not (.tmp 99), (some (96, false)), []⟩, ⟨25, some 101, .pick (.tmp 96) (.const (.bool true)) (.tmp 100), none, []⟩]))
  (.cond (.tmp 101) (.seq (.keep [] (.ops [⟨0, some 4, .mv (.const (.bool false)), none, []⟩]))
  (.ret)) (.skip)))
  (.seq (.keep [0, 1, 5, 6, 8] (.ops [⟨0, some 102, .mv (.tmp 5), none, []⟩, ⟨1, some 103, .mks 4 1 (.bool false) (.tmp 102) (.tmp 102), none, []⟩, ⟨2, some 16, .mv (.tmp 103), none, []⟩]))
  (.seq (.seq (.ops [⟨0, some 104, .mv (.tmp 8), none, []⟩, ⟨1, some 105, .len (.tmp 104), none, []⟩, ⟨2, some 106, .mv (.const (.int .i64 0)), none, []⟩])
  (.block 0 (.loop [0, 1, 5, 6, 8, 16, 105, 106] (.seq (.ops [⟨0, some 107, .bin .lss (.tmp 106) (.tmp 105), none, []⟩])
  (.seq (.cond (.tmp 107) (.skip) (.exit 0))
  (.seq (.block 1 (.seq (.ops [⟨0, some 108, .mv (.tmp 106), none, []⟩, ⟨1, some 17, .mv (.tmp 108), none, []⟩])
  (.seq (.seq (.ops [⟨0, some 109, .mv (.tmp 8), none, []⟩, ⟨1, some 110, .mv (.tmp 17), none, []⟩, ⟨2, some 111, .ia (.tmp 109) (.tmp 110), none, []⟩, ⟨3, some 112, .ld (.tmp 111), none, []⟩, ⟨4, some 113, .bin .lss (.tmp 112) (.const (.int .i64 0)), none, []⟩, ⟨5, some 114, .mv (.tmp 113), none, []⟩, ⟨6, some 115, .mv (.tmp 8), (some (114, false)), []⟩, ⟨7, some 116, .mv (.tmp 17), (some (114, false)), []⟩, ⟨8, some 117, .ia (.tmp 115) (.tmp 116), (some (114, false)), []⟩, ⟨9, some 118, .ld (.tmp 117), (some (114, false)), []⟩, ⟨10, some 119, .mv (.tmp 5), (some (114, false)), []⟩, ⟨11, some 120, .bin .geq (.tmp 118) (.tmp 119), (some (114, false)), []⟩, ⟨12, some 121, .pick (.tmp 114) (.const (.bool true)) (.tmp 120), none, []⟩, ⟨13, some 122, .mv (.tmp 121), none, []⟩, ⟨14, some 123, .mv (.tmp 17), (some (122, false)), []⟩, ⟨15, some 124, .bin .gtr (.tmp 123) (.const (.int .i64 0)), (some (122, false)), []⟩, ⟨16, some 125, .mv (.tmp 124), (some (122, false)), []⟩, ⟨17, some 126, .mv (.tmp 8), (some (125, true)), []⟩, ⟨18, some 127, .mv (.tmp 17), (some (125, true)), []⟩, ⟨19, some 128, .ia (.tmp 126) (.tmp 127), (some (125, true)), []⟩, ⟨20, some 129, .ld (.tmp 128), (some (125, true)), []⟩, ⟨21, some 130, .mv (.tmp 8), (some (125, true)), []⟩, ⟨22, some 131, .mv (.tmp 17), (some (125, true)), []⟩, ⟨23, some 132, .bin .sub (.tmp 131) (.const (.int .i64 1)), (some (125, true)), []⟩, ⟨24, some 133, .ia (.tmp 130) (.tmp 132), (some (125, true)), []⟩, ⟨25, some 134, .ld (.tmp 133), (some (125, true)), []⟩, ⟨26, some 135, .bin .leq (.tmp 129) (.tmp 134), (some (125, true)), []⟩, ⟨27, some 136, .pick (.tmp 125) (.tmp 135) (.const (.bool false)), (some (122, false)), []⟩, ⟨28, some 137, .pick (.tmp 122) (.const (.bool true)) (.tmp 136), none, []⟩])
  (.cond (.tmp 137) (.seq (.keep [] (.ops [⟨0, some 4, .mv (.const (.bool false)), none, []⟩]))
  (.ret)) (.skip)))
  (.keep [0, 1, 5, 6, 8, 16, 17, 105, 106] (.ops [⟨0, some 138, .mv (.tmp 16), none, []⟩, ⟨1, some 139, .mv (.tmp 8), none, []⟩, ⟨2, some 140, .mv (.tmp 17), none, []⟩, ⟨3, some 141, .ia (.tmp 139) (.tmp 140), none, []⟩, ⟨4, some 142, .ld (.tmp 141), none, []⟩, ⟨5, some 143, .ia (.tmp 138) (.tmp 142), none, []⟩, ⟨6, none, .st (.tmp 143) (.const (.bool true)), none, []⟩])))))
  (.keep [0, 1, 5, 6, 8, 16, 105, 106] (.ops [⟨0, some 144, .bin .add (.tmp 106) (.const (.int .i64 1)), none, []⟩, ⟨1, some 106, .mv (.tmp 144), none, []⟩]))))))))
  (.seq (.seq (.keep [0, 1, 6, 16] (.ops [⟨0, some 145, .mv (.tmp 6), none, []⟩, ⟨1, some 146, .len (.tmp 145), none, []⟩, ⟨2, some 147, .mv (.const (.int .i64 0)), none, []⟩]))
  (.block 2 (.loop [0, 1, 6, 16, 146, 147] (.seq (.ops [⟨0, some 148, .bin .lss (.tmp 147) (.tmp 146), none, []⟩])
  (.seq (.cond (.tmp 148) (.skip) (.exit 2))
  (.seq (.block 3 (.seq (.ops [⟨0, some 149, .mv (.tmp 147), none, []⟩, ⟨1, some 18, .mv (.tmp 149), none, []⟩])
  (.seq (.ops [⟨0, some 150, .mv (.tmp 6), none, []⟩, ⟨1, some 151, .mv (.tmp 18), none, []⟩, ⟨2, some 152, .ia (.tmp 150) (.tmp 151), none, []⟩, ⟨3, some 153, .ld (.tmp 152), none, []⟩, ⟨4, some 154, .cv (.f .f64) (.tmp 153), none, []⟩, ⟨5, some 155, .call n_w_b10Gap [.tmp 154, .const (.float .f64 0)], none, []⟩, ⟨6, some 19, .mv (.tmp 155), none, []⟩])
  (.seq (.keep [0, 1, 6, 16, 18, 19, 146, 147] (.ops [⟨0, some 156, .mv (.tmp 19), none, []⟩, ⟨1, some 157, .bin .gtr (.tmp 156) (.const (.float .f64 0)), none, []⟩, ⟨2, some 158, .mv (.tmp 157), none, []⟩, ⟨3, some 159, .mv (.tmp 18), (some (158, true)), []⟩, ⟨4, some 160, .bin .eql (.tmp 159) (.const (.int .i64 0)), (some (158, true)), []⟩, ⟨5, some 161, .mv (.tmp 160), (some (158, true)), []⟩, ⟨6, some 162, .mv (.tmp 19), (some (161, false)), []⟩, ⟨7, some 163, .mv (.tmp 6), (some (161, false)), []⟩, ⟨8, some 164, .mv (.tmp 18), (some (161, false)), []⟩, ⟨9, some 165, .bin .sub (.tmp 164) (.const (.int .i64 1)), (some (161, false)), []⟩, ⟨10, some 166, .ia (.tmp 163) (.tmp 165), (some (161, false)), []⟩, ⟨11, some 167, .ld (.tmp 166), (some (161, false)), []⟩, ⟨12, some 168, .cv (.f .f64) (.tmp 167), (some (161, false)), []⟩, ⟨13, some 169, .call n_w_b10Gap [.tmp 168, .const (.float .f64 0)], (some (161, false)), []⟩, ⟨14, some 170, .bin .gtr (.tmp 162) (.tmp 169), (some (161, false)), []⟩, ⟨15, some 171, .pick (.tmp 161) (.const (.bool true)) (.tmp 170), (some (158, true)), []⟩, ⟨16, some 172, .pick (.tmp 158) (.tmp 171) (.const (.bool false)), none, []⟩, ⟨17, some 173, .mv (.tmp 172), none, []⟩, ⟨18, some 174, .mv (.tmp 18), (some (173, true)), []⟩, ⟨19, some 175, .bin .add (.tmp 174) (.const (.int .i64 1)), (some (173, true)), []⟩, ⟨20, some 176, .mv (.tmp 6), (some (173, true)), []⟩, ⟨21, some 177, .len (.tmp 176), (some (173, true)), []⟩, ⟨22, some 178, .bin .eql (.tmp 175) (.tmp 177), (some (173, true)), []⟩, ⟨23, some 179, .mv (.tmp 178), (some (173, true)), []⟩, ⟨24, some 180, .mv (.tmp 19), (some (179, false)), []⟩, ⟨25, some 181, .mv (.tmp 6), (some (179, false)), []⟩, ⟨26, some 182, .mv (.tmp 18), (some (179, false)), []⟩, ⟨27, some 183, .bin .add (.tmp 182) (.const (.int .i64 1)), (some (179, false)), []⟩, ⟨28, some 184, .ia (.tmp 181) (.tmp 183), (some (179, false)), []⟩, ⟨29, some 185, .ld (.tmp 184), (some (179, false)), []⟩, ⟨30, some 186, .cv (.f .f64) (.tmp 185), (some (179, false)), []⟩, ⟨31, some 187, .call n_w_b10Gap [.tmp 186, .const (.float .f64 0)], (some (179, false)), []⟩, ⟨32, some 188, .bin .geq (.tmp 180) (.tmp 187), (some (179, false)), []⟩, ⟨33, some 189, .pick (.tmp 179) (.const (.bool true)) (.tmp 188), (some (173, true)), []⟩, ⟨34, some 190, .pick (.tmp 173) (.tmp 189) (.const (.bool false)), none, []⟩, ⟨35, some 20, .mv (.tmp 190), none, []⟩]))
  (.seq (.keep [0, 1, 6, 16, 18, 20, 146, 147] (.ops [⟨0, some 191, .mv (.tmp 20), none, []⟩, ⟨1, some 192, .mv (.tmp 16), none, []⟩, ⟨2, some 193, .mv (.tmp 18), none, []⟩, ⟨3, some 194, .ia (.tmp 192) (.tmp 193), none, []⟩, ⟨4, some 195, .ld (.tmp 194), none, []⟩, ⟨5, some 196, .beq true (.tmp 191) (.tmp 195), none, []⟩]))
  (.cond (.tmp 196) (.seq (.keep [] (.ops [⟨0, some 4, .mv (.const (.bool false)), none, []⟩]))
  (.ret)) (.skip)))))))
  (.keep [0, 1, 6, 16, 146, 147] (.ops [⟨0, some 197, .bin .add (.tmp 147) (.const (.int .i64 1)), none, []⟩, ⟨1, some 147, .mv (.tmp 197), none, []⟩]))))))))
  (.seq (.keep [0, 1] (.ops [⟨0, some 198, .mv (.tmp 1), none, []⟩, ⟨1, some 199, .call n_s_B10Signal [.tmp 198, .const (.int .i64 16)], none, []⟩, ⟨2, some 21, .mv (.tmp 199), none, []⟩]))
  (.seq (.ops [⟨0, some 200, .bsl 41 0 (.float .f32 0) [], none, []⟩, ⟨1, some 22, .mv (.tmp 200), none, []⟩])
  (.seq (.seq (.ops [⟨0, some 201, .mv (.tmp 21), none, []⟩, ⟨1, some 202, .len (.tmp 201), none, []⟩, ⟨2, some 203, .mv (.const (.int .i64 0)), none, []⟩])
  (.block 4 (.loop [0, 21, 22, 202, 203] (.seq (.ops [⟨0, some 204, .bin .lss (.tmp 203) (.tmp 202), none, []⟩])
  (.seq (.cond (.tmp 204) (.skip) (.exit 4))
  (.seq (.block 5 (.seq (.ops [⟨0, some 205, .mv (.tmp 203), none, []⟩, ⟨1, some 23, .mv (.tmp 205), none, []⟩])
  (.ops [⟨0, some 206, .mv (.tmp 22), none, []⟩, ⟨1, some 207, .mv (.tmp 21), none, []⟩, ⟨2, some 208, .mv (.tmp 23), none, []⟩, ⟨3, some 209, .ia (.tmp 207) (.tmp 208), none, []⟩, ⟨4, some 210, .ld (.tmp 209), none, []⟩, ⟨5, some 211, .bin .mul (.const (.float .f32 1073741824)) (.tmp 210), none, []⟩, ⟨6, some 212, .bsl 41 1 (.float .f32 0) [(0, .tmp 211)], none, []⟩, ⟨7, some 213, .app 41 4 (.tmp 206) (.tmp 212), none, []⟩, ⟨8, some 22, .mv (.tmp 213), none, []⟩])))
  (.keep [0, 21, 22, 202, 203] (.ops [⟨0, some 214, .bin .add (.tmp 203) (.const (.int .i64 1)), none, []⟩, ⟨1, some 203, .mv (.tmp 214), none, []⟩]))))))))
  (.seq (.ops [⟨0, some 215, .mv (.tmp 0), none, []⟩, ⟨1, some 216, .call n_s_B10Pair [.tmp 215], none, []⟩, ⟨2, some 24, .new 26 [.slice none 0 0], none, []⟩, ⟨3, none, .stn 1 (.tmp 24) (.tmp 216), none, []⟩])
  (.seq (.keep [21, 22, 24] (.ops [⟨0, some 218, .mv (.tmp 21), none, []⟩, ⟨1, some 219, .ldn 1 (.tmp 24), none, []⟩, ⟨2, some 220, .call n_s_SplitLevels [.tmp 218, .tmp 219, .const (.int .i64 3)], none, []⟩, ⟨3, some 217, .mv (.tmp 220), none, []⟩, ⟨4, some 221, .ext (.tmp 217) 0, none, []⟩, ⟨5, some 222, .ext (.tmp 217) 1, none, []⟩, ⟨6, some 25, .new 32 [.slice none 0 0, .slice none 0 0], none, []⟩, ⟨7, none, .stn 2 (.tmp 25) (.tmp 221), none, []⟩, ⟨8, some 26, .mv (.tmp 222), none, []⟩]))
  (.seq (.keep [22, 24, 25, 26] (.ops [⟨0, some 224, .mv (.tmp 22), none, []⟩, ⟨1, some 225, .ldn 1 (.tmp 24), none, []⟩, ⟨2, some 226, .call n_s_SplitLevels [.tmp 224, .tmp 225, .const (.int .i64 3)], none, []⟩, ⟨3, some 223, .mv (.tmp 226), none, []⟩, ⟨4, some 227, .ext (.tmp 223) 0, none, []⟩, ⟨5, some 228, .ext (.tmp 223) 1, none, []⟩, ⟨6, some 27, .new 32 [.slice none 0 0, .slice none 0 0], none, []⟩, ⟨7, none, .stn 2 (.tmp 27) (.tmp 227), none, []⟩, ⟨8, some 28, .mv (.tmp 228), none, []⟩]))
  (.seq (.seq (.keep [25, 26, 27, 28] (.ops [⟨0, some 229, .mv (.tmp 26), none, []⟩, ⟨1, some 230, .un .not (.tmp 229), none, []⟩, ⟨2, some 231, .mv (.tmp 230), none, []⟩, ⟨3, some 232, .mv (.tmp 28), (some (231, false)), []⟩, ⟨4, some 233, .un .not (.tmp 232), (some (231, false)), []⟩, ⟨5, some 234, .pick (.tmp 231) (.const (.bool true)) (.tmp 233), none, []⟩]))
  (.cond (.tmp 234) (.seq (.keep [] (.ops [⟨0, some 4, .mv (.const (.bool true)), none, []⟩]))
  (.ret)) (.skip)))
  (.seq (.keep [25, 27] (.ops [⟨0, some 236, .ldn 2 (.tmp 25), none, []⟩, ⟨1, some 237, .call n_s_RoughnessOf [.tmp 236], none, []⟩, ⟨2, some 235, .mv (.tmp 237), none, []⟩, ⟨3, some 238, .ext (.tmp 235) 0, none, []⟩, ⟨4, some 239, .ext (.tmp 235) 1, none, []⟩, ⟨5, some 29, .mv (.tmp 238), none, []⟩, ⟨6, some 30, .mv (.tmp 239), none, []⟩]))
  (.seq (.keep [25, 27, 30] (.ops [⟨0, some 241, .ldn 2 (.tmp 27), none, []⟩, ⟨1, some 242, .call n_s_RoughnessOf [.tmp 241], none, []⟩, ⟨2, some 240, .mv (.tmp 242), none, []⟩, ⟨3, some 243, .ext (.tmp 240) 0, none, []⟩, ⟨4, some 244, .ext (.tmp 240) 1, none, []⟩, ⟨5, some 31, .mv (.tmp 243), none, []⟩, ⟨6, some 32, .mv (.tmp 244), none, []⟩]))
  (.seq (.keep [25, 27, 30, 32] (.ops [⟨0, some 246, .ldn 2 (.tmp 25), none, []⟩, ⟨1, some 247, .call n_i_RoughnessOf [.tmp 246], none, []⟩, ⟨2, some 245, .mv (.tmp 247), none, []⟩, ⟨3, some 248, .ext (.tmp 245) 0, none, []⟩, ⟨4, some 249, .ext (.tmp 245) 1, none, []⟩, ⟨5, some 33, .mv (.tmp 248), none, []⟩, ⟨6, some 34, .mv (.tmp 249), none, []⟩]))
  (.seq (.keep [27, 30, 32, 33, 34] (.ops [⟨0, some 251, .ldn 2 (.tmp 27), none, []⟩, ⟨1, some 252, .call n_i_RoughnessOf [.tmp 251], none, []⟩, ⟨2, some 250, .mv (.tmp 252), none, []⟩, ⟨3, some 253, .ext (.tmp 250) 0, none, []⟩, ⟨4, some 254, .ext (.tmp 250) 1, none, []⟩, ⟨5, some 35, .mv (.tmp 253), none, []⟩, ⟨6, some 36, .mv (.tmp 254), none, []⟩]))
  (.seq (.keep [30, 32, 33, 34, 35, 36] (.ops [⟨0, some 255, .mv (.tmp 34), none, []⟩, ⟨1, some 256, .mv (.tmp 30), none, []⟩, ⟨2, some 257, .beq false (.tmp 255) (.tmp 256), none, []⟩, ⟨3, some 258, .mv (.tmp 257), none, []⟩, ⟨4, some 259, .mv (.tmp 36), (some (258, true)), []⟩, ⟨5, some 260, .mv (.tmp 32), (some (258, true)), []⟩, ⟨6, some 261, .beq false (.tmp 259) (.tmp 260), (some (258, true)), []⟩, ⟨7, some 262, .pick (.tmp 258) (.tmp 261) (.const (.bool false)), none, []⟩, ⟨8, some 263, .mv (.tmp 262), none, []⟩, ⟨9, some 264, .mv (.tmp 34), (some (263, true)), []⟩, ⟨10, some 265, .un .not (.tmp 264), (some (263, true)), []⟩, ⟨11, some 266, .mv (.tmp 265), (some (263, true)), []⟩, ⟨12, some 267, .mv (.tmp 36), (some (266, false)), []⟩, ⟨13, some 268, .un .not (.tmp 267), (some (266, false)), []⟩, ⟨14, some 269, .pick (.tmp 266) (.const (.bool true)) (.tmp 268), (some (263, true)), []⟩, ⟨15, some 270, .mv (.tmp 269), (some (263, true)), []⟩, ⟨16, some 271, .mv (.tmp 33), (some (270, false)), []⟩, ⟨17, some 272, .cv (.f .f64) (.tmp 271), (some (270, false)), []⟩, ⟨18, some 273, .mv (.tmp 35), (some (270, false)), []⟩, ⟨19, some 274, .cv (.f .f64) (.tmp 273), (some (270, false)), []⟩, ⟨20, some 275, .call n_w_b10Gap [.tmp 272, .tmp 274], (some (270, false)), []⟩, ⟨21, some 276, .mv (.tmp 33), (some (270, false)), []⟩, ⟨22, some 277, .cv (.f .f64) (.tmp 276), (some (270, false)), []⟩, ⟨23, some 278, .call n_w_b10Gap [.tmp 277, .const (.float .f64 0)], (some (270, false)), []⟩, ⟨24, some 279, .bin .add (.const (.float .f64 4607182418800017408)) (.tmp 278), (some (270, false)), []⟩, ⟨25, some 280, .bin .mul (.const (.float .f64 4576918229304087675)) (.tmp 279), (some (270, false)), []⟩, ⟨26, some 281, .bin .lss (.tmp 275) (.tmp 280), (some (270, false)), []⟩, ⟨27, some 282, .pick (.tmp 270) (.const (.bool true)) (.tmp 281), (some (263, true)), []⟩, ⟨28, some 283, .pick (.tmp 263) (.tmp 282) (.const (.bool false)), none, []⟩, ⟨29, some 4, .mv (.tmp 283), none, []⟩]))
  (.ret)))))))))))))))))))))))))
theorem k_w_FnMaxima : FnOk Try.prog n_w_FnMaxima 2 c_w_FnMaxima [.tmp 4] := ⟨by kernel_rfl⟩
def c_w_b10Long : ACode :=
  .seq (.ops [⟨0, some 4, .mv (.const (.bool false)), none, []⟩])
  (.seq (.ops [⟨0, some 5, .mv (.tmp 0), none, []⟩, ⟨1, some 6, .len (.tmp 5), none, []⟩, ⟨2, some 7, .bin .gtr (.tmp 6) (.const (.int .i64 1048576)), none, []⟩, ⟨3, some 8, .mv (.tmp 7), none, []⟩, ⟨4, some 9, .mv (.tmp 1), (some (8, false)), []⟩, ⟨5, some 10, .len (.tmp 9), (some (8, false)), []⟩, ⟨6, some 11, .bin .gtr (.tmp 10) (.const (.int .i64 1048576)), (some (8, false)), []⟩, ⟨7, some 12, .pick (.tmp 8) (.const (.bool true)) (.tmp 11), none, []⟩, ⟨8, some 4, .mv (.tmp 12), none, []⟩])
  (.ret))
theorem k_w_b10Long : FnOk Try.prog n_w_b10Long 2 c_w_b10Long [.tmp 4] := ⟨by kernel_rfl⟩
def c_s_B10Pair : ACode :=
  .seq (.ops [⟨0, some 2, .new 26 [.slice none 0 0], none, []⟩])
  (.seq (.ops [⟨0, some 4, .mv (.tmp 0), none, []⟩, ⟨1, some 5, .call n_s_l00From [.tmp 4], none, []⟩, ⟨2, some 3, .mv (.tmp 5), none, []⟩])
  (.seq (.seq (.ops [⟨0, some 6, .mv (.tmp 3), none, []⟩, ⟨1, some 7, .call n_s_l00Src_one [.tmp 6, .const (.int .i64 2)], none, []⟩])
  (.cond (.tmp 7) (.seq (.keep [2] (.ops [⟨0, some 8, .call n_s_FourPair [], none, []⟩, ⟨1, none, .stn 1 (.tmp 2) (.tmp 8), none, []⟩]))
  (.ret)) (.skip)))
  (.seq (.keep [2] (.ops [⟨0, some 9, .call n_s_HaarPair [], none, []⟩, ⟨1, none, .stn 1 (.tmp 2) (.tmp 9), none, []⟩]))
  (.ret))))
theorem k_s_B10Pair : FnOk Try.prog n_s_B10Pair 1 c_s_B10Pair [.celln 2 1] := ⟨by kernel_rfl⟩
def c_w_b10At : ACode :=
  .seq (.ops [⟨0, some 6, .mv (.const (.int .i64 0)), none, []⟩])
  (.seq (.seq (.ops [⟨0, some 7, .mv (.tmp 2), none, []⟩, ⟨1, some 8, .bin .leq (.tmp 7) (.const (.int .i64 1)), none, []⟩])
  (.cond (.tmp 8) (.seq (.keep [] (.ops [⟨0, some 6, .mv (.const (.int .i64 0)), none, []⟩]))
  (.ret)) (.skip)))
  (.seq (.seq (.ops [⟨0, some 9, .mv (.tmp 1), none, []⟩, ⟨1, some 10, .mv (.tmp 0), none, []⟩, ⟨2, some 11, .len (.tmp 10), none, []⟩, ⟨3, some 12, .bin .lss (.tmp 9) (.tmp 11), none, []⟩])
  (.cond (.tmp 12) (.seq (.keep [0, 1, 2] (.ops [⟨0, some 13, .mv (.tmp 0), none, []⟩, ⟨1, some 14, .mv (.tmp 1), none, []⟩, ⟨2, some 15, .ia (.tmp 13) (.tmp 14), none, []⟩, ⟨3, some 16, .ld (.tmp 15), none, []⟩, ⟨4, some 17, .cv (.i .i64) (.tmp 16), none, []⟩, ⟨5, some 18, .mv (.tmp 2), none, []⟩, ⟨6, some 19, .bin .rem (.tmp 17) (.tmp 18), none, []⟩, ⟨7, some 6, .mv (.tmp 19), none, []⟩]))
  (.ret)) (.skip)))
  (.seq (.keep [1, 2] (.ops [⟨0, some 20, .mv (.tmp 1), none, []⟩, ⟨1, some 21, .bin .mul (.tmp 20) (.const (.int .i64 37)), none, []⟩, ⟨2, some 22, .bin .add (.tmp 21) (.const (.int .i64 11)), none, []⟩, ⟨3, some 23, .mv (.tmp 2), none, []⟩, ⟨4, some 24, .bin .rem (.tmp 22) (.tmp 23), none, []⟩, ⟨5, some 6, .mv (.tmp 24), none, []⟩]))
  (.ret))))
theorem k_w_b10At : FnOk Try.prog n_w_b10At 3 c_w_b10At [.tmp 6] := ⟨by kernel_rfl⟩
def c_s_B10Signal : ACode :=
  .seq (.ops [⟨0, some 4, .mv (.const (.slice none 0 0)), none, []⟩])
  (.seq (.ops [⟨0, some 7, .mv (.tmp 0), none, []⟩, ⟨1, some 8, .call n_s_l00From [.tmp 7], none, []⟩, ⟨2, some 5, .mv (.tmp 8), none, []⟩])
  (.seq (.ops [⟨0, some 9, .bsl 41 0 (.float .f32 0) [], none, []⟩, ⟨1, some 6, .mv (.tmp 9), none, []⟩])
  (.seq (.block 0 (.loop [1, 5, 6] (.seq (.seq (.ops [⟨0, some 10, .mv (.tmp 1), none, []⟩, ⟨1, some 11, .bin .gtr (.tmp 10) (.const (.int .i64 0)), none, []⟩])
  (.cond (.tmp 11) (.skip) (.exit 0)))
  (.seq (.block 1 (.ops [⟨0, some 14, .mv (.tmp 6), none, []⟩, ⟨1, some 15, .mv (.tmp 5), none, []⟩, ⟨2, some 16, .call n_s_l00Src_pick [.tmp 15, .const (.int .i64 65)], none, []⟩, ⟨3, some 17, .bin .sub (.tmp 16) (.const (.int .i64 32)), none, []⟩, ⟨4, some 18, .cv (.f .f32) (.tmp 17), none, []⟩, ⟨5, some 19, .bin .quo (.tmp 18) (.const (.float .f32 1082130432)), none, []⟩, ⟨6, some 20, .bsl 41 1 (.float .f32 0) [(0, .tmp 19)], none, []⟩, ⟨7, some 21, .app 41 4 (.tmp 14) (.tmp 20), none, []⟩, ⟨8, some 6, .mv (.tmp 21), none, []⟩]))
  (.keep [1, 5, 6] (.ops [⟨0, some 12, .mv (.tmp 1), none, []⟩, ⟨1, some 13, .bin .sub (.tmp 12) (.const (.int .i64 1)), none, []⟩, ⟨2, some 1, .mv (.tmp 13), none, []⟩]))))))
  (.seq (.ops [⟨0, some 22, .mv (.tmp 6), none, []⟩, ⟨1, some 4, .mv (.tmp 22), none, []⟩])
  (.ret)))))
theorem k_s_B10Signal : FnOk Try.prog n_s_B10Signal 2 c_s_B10Signal [.tmp 4] := ⟨by kernel_rfl⟩
def c_i_PowersOfBands : ACode :=
  .seq (.ops [⟨0, some 1, .box 32 (.tmp 0), none, []⟩, ⟨1, some 2, .mv (.const (.slice none 0 0)), none, []⟩, ⟨2, some 3, .mv (.const (.bool false)), none, []⟩])
  (.seq (.seq (.ops [⟨0, some 7, .ldn 2 (.tmp 1), none, []⟩, ⟨1, some 8, .call n_i_ValidBands [.tmp 7], none, []⟩, ⟨2, some 9, .un .not (.tmp 8), none, []⟩])
  (.cond (.tmp 9) (.seq (.keep [] (.ops [⟨0, some 2, .mv (.const (.slice none 0 0)), none, []⟩, ⟨1, some 3, .mv (.const (.bool false)), none, []⟩]))
  (.ret)) (.skip)))
  (.seq (.keep [1] (.ops [⟨0, some 10, .bsl 41 0 (.float .f32 0) [], none, []⟩, ⟨1, some 4, .mv (.tmp 10), none, []⟩]))
  (.seq (.seq (.ops [⟨0, some 11, .fa 1 (.tmp 1), none, []⟩, ⟨1, some 12, .ld (.tmp 11), none, []⟩, ⟨2, some 13, .len (.tmp 12), none, []⟩, ⟨3, some 14, .mv (.const (.int .i64 0)), none, []⟩])
  (.block 0 (.loop [1, 4, 12, 13, 14] (.seq (.ops [⟨0, some 15, .bin .lss (.tmp 14) (.tmp 13), none, []⟩])
  (.seq (.cond (.tmp 15) (.skip) (.exit 0))
  (.seq (.block 1 (.seq (.ops [⟨0, some 16, .ia (.tmp 12) (.tmp 14), none, []⟩, ⟨1, some 17, .ld (.tmp 16), none, []⟩, ⟨2, some 6, .mv (.tmp 17), none, []⟩])
  (.ops [⟨0, some 18, .mv (.tmp 4), none, []⟩, ⟨1, some 19, .mv (.tmp 6), none, []⟩, ⟨2, some 20, .call n_i_squares [.tmp 19], none, []⟩, ⟨3, some 21, .bsl 41 1 (.float .f32 0) [(0, .tmp 20)], none, []⟩, ⟨4, some 22, .app 41 4 (.tmp 18) (.tmp 21), none, []⟩, ⟨5, some 4, .mv (.tmp 22), none, []⟩])))
  (.keep [1, 4, 12, 13, 14] (.ops [⟨0, some 23, .bin .add (.tmp 14) (.const (.int .i64 1)), none, []⟩, ⟨1, some 14, .mv (.tmp 23), none, []⟩]))))))))
  (.seq (.ops [⟨0, some 24, .mv (.tmp 4), none, []⟩, ⟨1, some 25, .fa 0 (.tmp 1), none, []⟩, ⟨2, some 26, .ld (.tmp 25), none, []⟩, ⟨3, some 27, .call n_i_squares [.tmp 26], none, []⟩, ⟨4, some 28, .bsl 41 1 (.float .f32 0) [(0, .tmp 27)], none, []⟩, ⟨5, some 29, .app 41 4 (.tmp 24) (.tmp 28), none, []⟩, ⟨6, some 30, .call n_i_finiteList [.tmp 29], none, []⟩, ⟨7, some 31, .ext (.tmp 30) 0, none, []⟩, ⟨8, some 32, .ext (.tmp 30) 1, none, []⟩, ⟨9, some 2, .mv (.tmp 31), none, []⟩, ⟨10, some 3, .mv (.tmp 32), none, []⟩])
  (.ret)))))
theorem k_i_PowersOfBands : FnOk Try.prog n_i_PowersOfBands 1 c_i_PowersOfBands [.tmp 2, .tmp 3] := ⟨by kernel_rfl⟩
def c_i_ValidBands : ACode :=
  .seq (.ops [⟨0, some 1, .box 32 (.tmp 0), none, []⟩, ⟨1, some 2, .mv (.const (.bool false)), none, []⟩])
  (.seq (.ops [⟨0, some 6, .fa 1 (.tmp 1), none, []⟩, ⟨1, some 7, .ld (.tmp 6), none, []⟩, ⟨2, some 8, .len (.tmp 7), none, []⟩, ⟨3, some 3, .mv (.tmp 8), none, []⟩])
  (.seq (.seq (.keep [1, 3] (.ops [⟨0, some 9, .mv (.tmp 3), none, []⟩, ⟨1, some 10, .call n_i_within [.tmp 9, .const (.int .i64 1), .const (.int .i64 6)], none, []⟩, ⟨2, some 11, .un .not (.tmp 10), none, []⟩, ⟨3, some 12, .mv (.tmp 11), none, []⟩, ⟨4, some 13, .fa 1 (.tmp 1), (some (12, false)), []⟩, ⟨5, some 14, .ld (.tmp 13), (some (12, false)), []⟩, ⟨6, some 15, .ia (.tmp 14) (.const (.int .i64 0)), (some (12, false)), []⟩, ⟨7, some 16, .ld (.tmp 15), (some (12, false)), []⟩, ⟨8, some 17, .len (.tmp 16), (some (12, false)), []⟩, ⟨9, some 18, .bin .gtr (.tmp 17) (.const (.int .i64 64)), (some (12, false)), []⟩, ⟨10, some 19, .pick (.tmp 12) (.const (.bool true)) (.tmp 18), none, []⟩, ⟨11, some 20, .mv (.tmp 19), none, []⟩, ⟨12, some 21, .fa 1 (.tmp 1), (some (20, false)), []⟩, ⟨13, some 22, .ld (.tmp 21), (some (20, false)), []⟩, ⟨14, some 23, .call n_i_areFinite [.tmp 22], (some (20, false)), []⟩, ⟨15, some 24, .un .not (.tmp 23), (some (20, false)), []⟩, ⟨16, some 25, .pick (.tmp 20) (.const (.bool true)) (.tmp 24), none, []⟩, ⟨17, some 26, .mv (.tmp 25), none, []⟩, ⟨18, some 27, .fa 0 (.tmp 1), (some (26, false)), []⟩, ⟨19, some 28, .ld (.tmp 27), (some (26, false)), []⟩, ⟨20, some 29, .bsl 24 1 (.slice none 0 0) [(0, .tmp 28)], (some (26, false)), []⟩, ⟨21, some 30, .call n_i_areFinite [.tmp 29], (some (26, false)), []⟩, ⟨22, some 31, .un .not (.tmp 30), (some (26, false)), []⟩, ⟨23, some 32, .pick (.tmp 26) (.const (.bool true)) (.tmp 31), none, []⟩]))
  (.cond (.tmp 32) (.seq (.keep [] (.ops [⟨0, some 2, .mv (.const (.bool false)), none, []⟩]))
  (.ret)) (.skip)))
  (.seq (.seq (.keep [1, 3] (.ops [⟨0, some 33, .fa 1 (.tmp 1), none, []⟩, ⟨1, some 34, .ld (.tmp 33), none, []⟩, ⟨2, some 35, .len (.tmp 34), none, []⟩, ⟨3, some 36, .mv (.const (.int .i64 0)), none, []⟩]))
  (.block 0 (.loop [1, 3, 34, 35, 36] (.seq (.ops [⟨0, some 37, .bin .lss (.tmp 36) (.tmp 35), none, []⟩])
  (.seq (.cond (.tmp 37) (.skip) (.exit 0))
  (.seq (.block 1 (.seq (.ops [⟨0, some 38, .mv (.tmp 36), none, []⟩, ⟨1, some 39, .ia (.tmp 34) (.tmp 36), none, []⟩, ⟨2, some 40, .ld (.tmp 39), none, []⟩, ⟨3, some 4, .mv (.tmp 38), none, []⟩, ⟨4, some 5, .mv (.tmp 40), none, []⟩])
  (.seq (.ops [⟨0, some 41, .mv (.tmp 5), none, []⟩, ⟨1, some 42, .len (.tmp 41), none, []⟩, ⟨2, some 43, .bin .eql (.tmp 42) (.const (.int .i64 0)), none, []⟩, ⟨3, some 44, .mv (.tmp 43), none, []⟩, ⟨4, some 45, .mv (.tmp 4), (some (44, false)), []⟩, ⟨5, some 46, .bin .gtr (.tmp 45) (.const (.int .i64 0)), (some (44, false)), []⟩, ⟨6, some 47, .mv (.tmp 46), (some (44, false)), []⟩, ⟨7, some 48, .mv (.tmp 5), (some (47, true)), []⟩, ⟨8, some 49, .len (.tmp 48), (some (47, true)), []⟩, ⟨9, some 50, .bin .mul (.const (.int .i64 2)) (.tmp 49), (some (47, true)), []⟩, ⟨10, some 51, .fa 1 (.tmp 1), (some (47, true)), []⟩, ⟨11, some 52, .ld (.tmp 51), (some (47, true)), []⟩, ⟨12, some 53, .mv (.tmp 4), (some (47, true)), []⟩, ⟨13, some 54, .bin .sub (.tmp 53) (.const (.int .i64 1)), (some (47, true)), []⟩, ⟨14, some 55, .ia (.tmp 52) (.tmp 54), (some (47, true)), []⟩, ⟨15, some 56, .ld (.tmp 55), (some (47, true)), []⟩, ⟨16, some 57, .len (.tmp 56), (some (47, true)), []⟩, ⟨17, some 58, .bin .neq (.tmp 50) (.tmp 57), (some (47, true)), []⟩, ⟨18, some 59, .pick (.tmp 47) (.tmp 58) (.const (.bool false)), (some (44, false)), []⟩, ⟨19, some 60, .pick (.tmp 44) (.const (.bool true)) (.tmp 59), none, []⟩])
  (.cond (.tmp 60) (.seq (.keep [] (.ops [⟨0, some 2, .mv (.const (.bool false)), none, []⟩]))
  (.ret)) (.skip)))))
  (.keep [1, 3, 34, 35, 36] (.ops [⟨0, some 61, .bin .add (.tmp 36) (.const (.int .i64 1)), none, []⟩, ⟨1, some 36, .mv (.tmp 61), none, []⟩]))))))))
  (.seq (.ops [⟨0, some 62, .fa 0 (.tmp 1), none, []⟩, ⟨1, some 63, .ld (.tmp 62), none, []⟩, ⟨2, some 64, .len (.tmp 63), none, []⟩, ⟨3, some 65, .fa 1 (.tmp 1), none, []⟩, ⟨4, some 66, .ld (.tmp 65), none, []⟩, ⟨5, some 67, .mv (.tmp 3), none, []⟩, ⟨6, some 68, .bin .sub (.tmp 67) (.const (.int .i64 1)), none, []⟩, ⟨7, some 69, .ia (.tmp 66) (.tmp 68), none, []⟩, ⟨8, some 70, .ld (.tmp 69), none, []⟩, ⟨9, some 71, .len (.tmp 70), none, []⟩, ⟨10, some 72, .bin .eql (.tmp 64) (.tmp 71), none, []⟩, ⟨11, some 2, .mv (.tmp 72), none, []⟩])
  (.ret)))))
theorem k_i_ValidBands : FnOk Try.prog n_i_ValidBands 1 c_i_ValidBands [.tmp 2] := ⟨by kernel_rfl⟩
def c_w_b10Gap : ACode :=
  .seq (.ops [⟨0, some 4, .mv (.const (.float .f64 0)), none, []⟩])
  (.seq (.seq (.ops [⟨0, some 5, .mv (.tmp 0), none, []⟩, ⟨1, some 6, .mv (.tmp 1), none, []⟩, ⟨2, some 7, .bin .lss (.tmp 5) (.tmp 6), none, []⟩])
  (.cond (.tmp 7) (.seq (.ops [⟨0, some 8, .mv (.tmp 1), none, []⟩, ⟨1, some 9, .mv (.tmp 0), none, []⟩, ⟨2, some 10, .bin .sub (.tmp 8) (.tmp 9), none, []⟩, ⟨3, some 4, .mv (.tmp 10), none, []⟩])
  (.ret)) (.skip)))
  (.seq (.ops [⟨0, some 11, .mv (.tmp 0), none, []⟩, ⟨1, some 12, .mv (.tmp 1), none, []⟩, ⟨2, some 13, .bin .sub (.tmp 11) (.tmp 12), none, []⟩, ⟨3, some 4, .mv (.tmp 13), none, []⟩])
  (.ret)))
theorem k_w_b10Gap : FnOk Try.prog n_w_b10Gap 2 c_w_b10Gap [.tmp 4] := ⟨by kernel_rfl⟩
def c_s_HaarPair : ACode :=
  .seq (.ops [⟨0, some 0, .new 26 [.slice none 0 0], none, []⟩])
  (.seq (.ops [⟨0, some 1, .bsl 41 2 (.float .f32 0) [(0, .const (.float .f32 1060439283)), (1, .const (.float .f32 1060439283))], none, []⟩, ⟨1, some 2, .bld [.slice none 0 0] [(0, 1, .tmp 1)], none, []⟩, ⟨2, none, .stn 1 (.tmp 0) (.tmp 2), none, []⟩])
  (.ret))
theorem k_s_HaarPair : FnOk Try.prog n_s_HaarPair 0 c_s_HaarPair [.celln 0 1] := ⟨by kernel_rfl⟩
def c_s_FourPair : ACode :=
  .seq (.ops [⟨0, some 0, .new 26 [.slice none 0 0], none, []⟩])
  (.seq (.ops [⟨0, some 1, .bsl 41 4 (.float .f32 0) [(0, .const (.float .f32 1056392938)), (1, .const (.float .f32 1062610415)), (2, .const (.float .f32 1046840824)), (3, .const (.float .f32 3187966958))], none, []⟩, ⟨1, some 2, .bld [.slice none 0 0] [(0, 1, .tmp 1)], none, []⟩, ⟨2, none, .stn 1 (.tmp 0) (.tmp 2), none, []⟩])
  (.ret))
theorem k_s_FourPair : FnOk Try.prog n_s_FourPair 0 c_s_FourPair [.celln 0 1] := ⟨by kernel_rfl⟩
def c_i_MaximaOf : ACode :=
  .seq (.ops [⟨0, some 2, .mv (.const (.slice none 0 0)), none, []⟩, ⟨1, some 3, .mv (.const (.bool false)), none, []⟩])
  (.seq (.seq (.ops [⟨0, some 4, .mv (.tmp 0), none, []⟩, ⟨1, some 5, .call n_i_isLong [.tmp 4], none, []⟩, ⟨2, some 6, .un .not (.tmp 5), none, []⟩])
  (.cond (.tmp 6) (.seq (.keep [] (.ops [⟨0, some 2, .mv (.const (.slice none 0 0)), none, []⟩, ⟨1, some 3, .mv (.const (.bool false)), none, []⟩]))
  (.ret)) (.skip)))
  (.seq (.keep [0] (.ops [⟨0, some 7, .mv (.tmp 0), none, []⟩, ⟨1, some 8, .call n_i_maximaOf [.tmp 7], none, []⟩, ⟨2, some 2, .mv (.tmp 8), none, []⟩, ⟨3, some 3, .mv (.const (.bool true)), none, []⟩]))
  (.ret)))
theorem k_i_MaximaOf : FnOk Try.prog n_i_MaximaOf 1 c_i_MaximaOf [.tmp 2, .tmp 3] := ⟨by kernel_rfl⟩
def c_i_LinkMaxima : ACode :=
  .seq (.ops [⟨0, some 4, .mv (.const (.slice none 0 0)), none, []⟩, ⟨1, some 5, .mv (.const (.bool false)), none, []⟩])
  (.seq (.seq (.ops [⟨0, some 12, .mv (.tmp 0), none, []⟩, ⟨1, some 13, .call n_i_areRows [.tmp 12, .const (.int .i64 12)], none, []⟩, ⟨2, some 14, .un .not (.tmp 13), none, []⟩, ⟨3, some 15, .mv (.tmp 14), none, []⟩, ⟨4, some 16, .mv (.tmp 1), (some (15, false)), []⟩, ⟨5, some 17, .call n_i_within [.tmp 16, .const (.int .i64 0), .const (.int .i64 128)], (some (15, false)), []⟩, ⟨6, some 18, .un .not (.tmp 17), (some (15, false)), []⟩, ⟨7, some 19, .pick (.tmp 15) (.const (.bool true)) (.tmp 18), none, []⟩])
  (.cond (.tmp 19) (.seq (.keep [] (.ops [⟨0, some 4, .mv (.const (.slice none 0 0)), none, []⟩, ⟨1, some 5, .mv (.const (.bool false)), none, []⟩]))
  (.ret)) (.skip)))
  (.seq (.keep [0, 1] (.ops [⟨0, some 20, .bsl 2 0 (.int .i64 0) [], none, []⟩, ⟨1, some 6, .mv (.tmp 20), none, []⟩]))
  (.seq (.seq (.ops [⟨0, some 21, .mv (.tmp 0), none, []⟩, ⟨1, some 22, .ia (.tmp 21) (.const (.int .i64 0)), none, []⟩, ⟨2, some 23, .ld (.tmp 22), none, []⟩, ⟨3, some 24, .call n_i_maximaOf [.tmp 23], none, []⟩, ⟨4, some 25, .len (.tmp 24), none, []⟩, ⟨5, some 26, .mv (.const (.int .i64 0)), none, []⟩])
  (.block 0 (.loop [0, 1, 6, 24, 25, 26] (.seq (.ops [⟨0, some 27, .bin .lss (.tmp 26) (.tmp 25), none, []⟩])
  (.seq (.cond (.tmp 27) (.skip) (.exit 0))
  (.seq (.block 1 (.seq (.ops [⟨0, some 28, .ia (.tmp 24) (.tmp 26), none, []⟩, ⟨1, some 29, .ld (.tmp 28), none, []⟩, ⟨2, some 8, .mv (.tmp 29), none, []⟩])
  (.seq (.ops [⟨0, some 30, .mv (.tmp 8), none, []⟩, ⟨1, some 9, .mv (.tmp 30), none, []⟩, ⟨2, some 10, .mv (.const (.bool true)), none, []⟩])
  (.seq (.seq (.ops [⟨0, some 11, .mv (.const (.int .i64 1)), none, []⟩])
  (.block 2 (.loop [0, 1, 6, 8, 9, 10, 11, 24, 25, 26] (.seq (.seq (.ops [⟨0, some 31, .mv (.tmp 11), none, []⟩, ⟨1, some 32, .mv (.tmp 0), none, []⟩, ⟨2, some 33, .len (.tmp 32), none, []⟩, ⟨3, some 34, .bin .lss (.tmp 31) (.tmp 33), none, []⟩, ⟨4, some 35, .mv (.tmp 34), none, []⟩, ⟨5, some 36, .mv (.tmp 10), (some (35, true)), []⟩, ⟨6, some 37, .pick (.tmp 35) (.tmp 36) (.const (.bool false)), none, []⟩])
  (.cond (.tmp 37) (.skip) (.exit 2)))
  (.seq (.block 3 (.keep [0, 1, 6, 8, 9, 11, 24, 25, 26] (.ops [⟨0, some 41, .mv (.tmp 0), none, []⟩, ⟨1, some 42, .mv (.tmp 11), none, []⟩, ⟨2, some 43, .ia (.tmp 41) (.tmp 42), none, []⟩, ⟨3, some 44, .ld (.tmp 43), none, []⟩, ⟨4, some 45, .call n_i_maximaOf [.tmp 44], none, []⟩, ⟨5, some 46, .mv (.tmp 9), none, []⟩, ⟨6, some 47, .mv (.tmp 1), none, []⟩, ⟨7, some 48, .call n_i_nearest [.tmp 45, .tmp 46, .tmp 47], none, []⟩, ⟨8, some 40, .mv (.tmp 48), none, []⟩, ⟨9, some 49, .ext (.tmp 40) 0, none, []⟩, ⟨10, some 50, .ext (.tmp 40) 1, none, []⟩, ⟨11, some 9, .mv (.tmp 49), none, []⟩, ⟨12, some 10, .mv (.tmp 50), none, []⟩])))
  (.keep [0, 1, 6, 8, 9, 10, 11, 24, 25, 26] (.ops [⟨0, some 38, .mv (.tmp 11), none, []⟩, ⟨1, some 39, .bin .add (.tmp 38) (.const (.int .i64 1)), none, []⟩, ⟨2, some 11, .mv (.tmp 39), none, []⟩])))))))
  (.seq (.keep [0, 1, 6, 8, 10, 24, 25, 26] (.ops [⟨0, some 51, .mv (.tmp 10), none, []⟩]))
  (.cond (.tmp 51) (.ops [⟨0, some 52, .mv (.tmp 6), none, []⟩, ⟨1, some 53, .mv (.tmp 8), none, []⟩, ⟨2, some 54, .bsl 2 1 (.int .i64 0) [(0, .tmp 53)], none, []⟩, ⟨3, some 55, .app 2 8 (.tmp 52) (.tmp 54), none, []⟩, ⟨4, some 6, .mv (.tmp 55), none, []⟩]) (.skip)))))))
  (.keep [0, 1, 6, 24, 25, 26] (.ops [⟨0, some 56, .bin .add (.tmp 26) (.const (.int .i64 1)), none, []⟩, ⟨1, some 26, .mv (.tmp 56), none, []⟩]))))))))
  (.seq (.keep [6] (.ops [⟨0, some 57, .mv (.tmp 6), none, []⟩, ⟨1, some 4, .mv (.tmp 57), none, []⟩, ⟨2, some 5, .mv (.const (.bool true)), none, []⟩]))
  (.ret)))))
theorem k_i_LinkMaxima : FnOk Try.prog n_i_LinkMaxima 2 c_i_LinkMaxima [.tmp 4, .tmp 5] := ⟨by kernel_rfl⟩
def c_s_LinkMaxima : ACode :=
  .seq (.ops [⟨0, some 4, .mv (.const (.slice none 0 0)), none, []⟩, ⟨1, some 5, .mv (.const (.bool false)), none, []⟩])
  (.seq (.seq (.ops [⟨0, some 15, .mv (.tmp 0), none, []⟩, ⟨1, some 16, .call n_s_l03Rows [.tmp 15, .const (.int .i64 12)], none, []⟩, ⟨2, some 17, .un .not (.tmp 16), none, []⟩, ⟨3, some 18, .mv (.tmp 17), none, []⟩, ⟨4, some 19, .mv (.tmp 1), (some (18, false)), []⟩, ⟨5, some 20, .call n_s_l00In [.tmp 19, .const (.int .i64 0), .const (.int .i64 128)], (some (18, false)), []⟩, ⟨6, some 21, .un .not (.tmp 20), (some (18, false)), []⟩, ⟨7, some 22, .pick (.tmp 18) (.const (.bool true)) (.tmp 21), none, []⟩])
  (.cond (.tmp 22) (.seq (.keep [] (.ops [⟨0, some 4, .mv (.const (.slice none 0 0)), none, []⟩, ⟨1, some 5, .mv (.const (.bool false)), none, []⟩]))
  (.ret)) (.skip)))
  (.seq (.keep [0, 1] (.ops [⟨0, some 23, .mv (.tmp 0), none, []⟩, ⟨1, some 24, .ia (.tmp 23) (.const (.int .i64 0)), none, []⟩, ⟨2, some 25, .ld (.tmp 24), none, []⟩, ⟨3, some 26, .call n_s_l03Maxima [.tmp 25], none, []⟩, ⟨4, some 6, .mv (.tmp 26), none, []⟩]))
  (.seq (.ops [⟨0, some 27, .bsl 2 0 (.int .i64 0) [], none, []⟩, ⟨1, some 28, .mv (.tmp 6), none, []⟩, ⟨2, some 29, .app 2 8 (.tmp 27) (.tmp 28), none, []⟩, ⟨3, some 7, .mv (.tmp 29), none, []⟩])
  (.seq (.seq (.keep [0, 1, 6, 7] (.ops [⟨0, some 8, .mv (.const (.int .i64 1)), none, []⟩]))
  (.block 0 (.loop [0, 1, 6, 7, 8] (.seq (.seq (.ops [⟨0, some 30, .mv (.tmp 8), none, []⟩, ⟨1, some 31, .mv (.tmp 0), none, []⟩, ⟨2, some 32, .len (.tmp 31), none, []⟩, ⟨3, some 33, .bin .lss (.tmp 30) (.tmp 32), none, []⟩])
  (.cond (.tmp 33) (.skip) (.exit 0)))
  (.seq (.block 1 (.seq (.ops [⟨0, some 36, .mv (.tmp 0), none, []⟩, ⟨1, some 37, .mv (.tmp 8), none, []⟩, ⟨2, some 38, .ia (.tmp 36) (.tmp 37), none, []⟩, ⟨3, some 39, .ld (.tmp 38), none, []⟩, ⟨4, some 40, .call n_s_l03Maxima [.tmp 39], none, []⟩, ⟨5, some 9, .mv (.tmp 40), none, []⟩])
  (.seq (.keep [0, 1, 6, 7, 8, 9] (.ops [⟨0, some 41, .bsl 2 0 (.int .i64 0) [], none, []⟩, ⟨1, some 10, .mv (.tmp 41), none, []⟩]))
  (.seq (.ops [⟨0, some 42, .bsl 2 0 (.int .i64 0) [], none, []⟩, ⟨1, some 11, .mv (.tmp 42), none, []⟩])
  (.seq (.seq (.ops [⟨0, some 43, .mv (.tmp 7), none, []⟩, ⟨1, some 44, .len (.tmp 43), none, []⟩, ⟨2, some 45, .mv (.const (.int .i64 0)), none, []⟩])
  (.block 2 (.loop [0, 1, 6, 7, 8, 9, 10, 11, 44, 45] (.seq (.ops [⟨0, some 46, .bin .lss (.tmp 45) (.tmp 44), none, []⟩])
  (.seq (.cond (.tmp 46) (.skip) (.exit 2))
  (.seq (.block 3 (.seq (.ops [⟨0, some 47, .mv (.tmp 45), none, []⟩, ⟨1, some 12, .mv (.tmp 47), none, []⟩])
  (.seq (.ops [⟨0, some 13, .mv (.const (.int .i64 (-1))), none, []⟩])
  (.seq (.seq (.ops [⟨0, some 48, .mv (.tmp 9), none, []⟩, ⟨1, some 49, .len (.tmp 48), none, []⟩, ⟨2, some 50, .mv (.const (.int .i64 0)), none, []⟩])
  (.block 4 (.loop [0, 1, 6, 7, 8, 9, 10, 11, 12, 13, 44, 45, 49, 50] (.seq (.ops [⟨0, some 51, .bin .lss (.tmp 50) (.tmp 49), none, []⟩])
  (.seq (.cond (.tmp 51) (.skip) (.exit 4))
  (.seq (.block 5 (.seq (.ops [⟨0, some 52, .mv (.tmp 50), none, []⟩, ⟨1, some 14, .mv (.tmp 52), none, []⟩])
  (.seq (.ops [⟨0, some 53, .mv (.tmp 13), none, []⟩, ⟨1, some 54, .bin .lss (.tmp 53) (.const (.int .i64 0)), none, []⟩, ⟨2, some 55, .mv (.tmp 54), none, []⟩, ⟨3, some 56, .mv (.tmp 9), (some (55, false)), []⟩, ⟨4, some 57, .mv (.tmp 14), (some (55, false)), []⟩, ⟨5, some 58, .ia (.tmp 56) (.tmp 57), (some (55, false)), []⟩, ⟨6, some 59, .ld (.tmp 58), (some (55, false)), []⟩, ⟨7, some 60, .mv (.tmp 7), (some (55, false)), []⟩, ⟨8, some 61, .mv (.tmp 12), (some (55, false)), []⟩, ⟨9, some 62, .ia (.tmp 60) (.tmp 61), (some (55, false)), []⟩, ⟨10, some 63, .ld (.tmp 62), (some (55, false)), []⟩, ⟨12, some 65, .mv (.tmp 9), (some (55, false)), []⟩, ⟨13, some 66, .mv (.tmp 13), (some (55, false)), []⟩, ⟨14, some 67, .ia (.tmp 65) (.tmp 66), (some (55, false)), []⟩, ⟨15, some 68, .ld (.tmp 67), (some (55, false)), []⟩, ⟨16, some 69, .mv (.tmp 7), (some (55, false)), []⟩, ⟨17, some 70, .mv (.tmp 12), (some (55, false)), []⟩, ⟨18, some 71, .ia (.tmp 69) (.tmp 70), (some (55, false)), []⟩, ⟨19, some 72, .ld (.tmp 71), (some (55, false)), []⟩, ⟨11, some 64, .call n_s_l03Apart [.tmp 59, .tmp 63], (some (55, false)), [(some 67, .ia (.tmp 65) (.tmp 66), (some (55, false))), (some 68, .ld (.tmp 67), (some (55, false))), (some 71, .ia (.tmp 69) (.tmp 70), (some (55, false))), (some 72, .ld (.tmp 71), (some (55, false)))]⟩, ⟨20, some 73, .call n_s_l03Apart [.tmp 68, .tmp 72], (some (55, false)), []⟩, ⟨21, some 74, .bin .lss (.tmp 64) (.tmp 73), (some (55, false)), []⟩, ⟨22, some 75, .pick (.tmp 55) (.const (.bool true)) (.tmp 74), none, []⟩])
  (.cond (.tmp 75) (.keep [0, 1, 6, 7, 8, 9, 10, 11, 12, 14, 44, 45, 49, 50] (.ops [⟨0, some 76, .mv (.tmp 14), none, []⟩, ⟨1, some 13, .mv (.tmp 76), none, []⟩])) (.skip)))))
  (.keep [0, 1, 6, 7, 8, 9, 10, 11, 12, 13, 44, 45, 49, 50] (.ops [⟨0, some 77, .bin .add (.tmp 50) (.const (.int .i64 1)), none, []⟩, ⟨1, some 50, .mv (.tmp 77), none, []⟩]))))))))
  (.seq (.ops [⟨0, some 78, .mv (.tmp 13), none, []⟩, ⟨1, some 79, .bin .geq (.tmp 78) (.const (.int .i64 0)), none, []⟩, ⟨2, some 80, .mv (.tmp 79), none, []⟩, ⟨3, some 81, .mv (.tmp 9), (some (80, true)), []⟩, ⟨4, some 82, .mv (.tmp 13), (some (80, true)), []⟩, ⟨5, some 83, .ia (.tmp 81) (.tmp 82), (some (80, true)), []⟩, ⟨6, some 84, .ld (.tmp 83), (some (80, true)), []⟩, ⟨7, some 85, .mv (.tmp 7), (some (80, true)), []⟩, ⟨8, some 86, .mv (.tmp 12), (some (80, true)), []⟩, ⟨9, some 87, .ia (.tmp 85) (.tmp 86), (some (80, true)), []⟩, ⟨10, some 88, .ld (.tmp 87), (some (80, true)), []⟩, ⟨12, some 90, .mv (.tmp 1), (some (80, true)), []⟩, ⟨11, some 89, .call n_s_l03Apart [.tmp 84, .tmp 88], (some (80, true)), []⟩, ⟨13, some 91, .bin .leq (.tmp 89) (.tmp 90), (some (80, true)), []⟩, ⟨14, some 92, .pick (.tmp 80) (.tmp 91) (.const (.bool false)), none, []⟩])
  (.cond (.tmp 92) (.seq (.keep [0, 1, 6, 7, 8, 9, 10, 11, 12, 13, 44, 45] (.ops [⟨0, some 93, .mv (.tmp 10), none, []⟩, ⟨1, some 94, .mv (.tmp 6), none, []⟩, ⟨2, some 95, .mv (.tmp 12), none, []⟩, ⟨3, some 96, .ia (.tmp 94) (.tmp 95), none, []⟩, ⟨4, some 97, .ld (.tmp 96), none, []⟩, ⟨5, some 98, .bsl 2 1 (.int .i64 0) [(0, .tmp 97)], none, []⟩, ⟨6, some 99, .app 2 8 (.tmp 93) (.tmp 98), none, []⟩, ⟨7, some 10, .mv (.tmp 99), none, []⟩]))
  (.keep [0, 1, 6, 7, 8, 9, 10, 11, 13, 44, 45] (.ops [⟨0, some 100, .mv (.tmp 11), none, []⟩, ⟨1, some 101, .mv (.tmp 9), none, []⟩, ⟨2, some 102, .mv (.tmp 13), none, []⟩, ⟨3, some 103, .ia (.tmp 101) (.tmp 102), none, []⟩, ⟨4, some 104, .ld (.tmp 103), none, []⟩, ⟨5, some 105, .bsl 2 1 (.int .i64 0) [(0, .tmp 104)], none, []⟩, ⟨6, some 106, .app 2 8 (.tmp 100) (.tmp 105), none, []⟩, ⟨7, some 11, .mv (.tmp 106), none, []⟩]))) (.skip)))))))
  (.keep [0, 1, 6, 7, 8, 9, 10, 11, 44, 45] (.ops [⟨0, some 107, .bin .add (.tmp 45) (.const (.int .i64 1)), none, []⟩, ⟨1, some 45, .mv (.tmp 107), none, []⟩]))))))))
  (.seq (.keep [0, 1, 8, 10, 11] (.ops [⟨0, some 108, .mv (.tmp 10), none, []⟩, ⟨1, some 6, .mv (.tmp 108), none, []⟩]))
  (.ops [⟨0, some 109, .mv (.tmp 11), none, []⟩, ⟨1, some 7, .mv (.tmp 109), none, []⟩])))))))
  (.ops [⟨0, some 34, .mv (.tmp 8), none, []⟩, ⟨1, some 35, .bin .add (.tmp 34) (.const (.int .i64 1)), none, []⟩, ⟨2, some 8, .mv (.tmp 35), none, []⟩]))))))
  (.seq (.keep [6] (.ops [⟨0, some 110, .mv (.tmp 6), none, []⟩, ⟨1, some 4, .mv (.tmp 110), none, []⟩, ⟨2, some 5, .mv (.const (.bool true)), none, []⟩]))
  (.ret))))))
theorem k_s_LinkMaxima : FnOk Try.prog n_s_LinkMaxima 2 c_s_LinkMaxima [.tmp 4, .tmp 5] := ⟨by kernel_rfl⟩
def c_w_b10Ints : ACode :=
  .seq (.ops [⟨0, some 4, .mv (.const (.bool false)), none, []⟩])
  (.seq (.seq (.ops [⟨0, some 6, .mv (.tmp 0), none, []⟩, ⟨1, some 7, .len (.tmp 6), none, []⟩, ⟨2, some 8, .mv (.tmp 1), none, []⟩, ⟨3, some 9, .len (.tmp 8), none, []⟩, ⟨4, some 10, .bin .neq (.tmp 7) (.tmp 9), none, []⟩])
  (.cond (.tmp 10) (.seq (.keep [] (.ops [⟨0, some 4, .mv (.const (.bool false)), none, []⟩]))
  (.ret)) (.skip)))
  (.seq (.seq (.keep [0, 1] (.ops [⟨0, some 11, .mv (.tmp 0), none, []⟩, ⟨1, some 12, .len (.tmp 11), none, []⟩, ⟨2, some 13, .mv (.const (.int .i64 0)), none, []⟩]))
  (.block 0 (.loop [0, 1, 12, 13] (.seq (.ops [⟨0, some 14, .bin .lss (.tmp 13) (.tmp 12), none, []⟩])
  (.seq (.cond (.tmp 14) (.skip) (.exit 0))
  (.seq (.block 1 (.seq (.ops [⟨0, some 15, .mv (.tmp 13), none, []⟩, ⟨1, some 5, .mv (.tmp 15), none, []⟩])
  (.seq (.ops [⟨0, some 16, .mv (.tmp 0), none, []⟩, ⟨1, some 17, .mv (.tmp 5), none, []⟩, ⟨2, some 18, .ia (.tmp 16) (.tmp 17), none, []⟩, ⟨3, some 19, .ld (.tmp 18), none, []⟩, ⟨4, some 20, .mv (.tmp 1), none, []⟩, ⟨5, some 21, .mv (.tmp 5), none, []⟩, ⟨6, some 22, .ia (.tmp 20) (.tmp 21), none, []⟩, ⟨7, some 23, .ld (.tmp 22), none, []⟩, ⟨8, some 24, .bin .neq (.tmp 19) (.tmp 23), none, []⟩])
  (.cond (.tmp 24) (.seq (.keep [] (.ops [⟨0, some 4, .mv (.const (.bool false)), none, []⟩]))
  (.ret)) (.skip)))))
  (.keep [0, 1, 12, 13] (.ops [⟨0, some 25, .bin .add (.tmp 13) (.const (.int .i64 1)), none, []⟩, ⟨1, some 13, .mv (.tmp 25), none, []⟩]))))))))
  (.seq (.keep [] (.ops [⟨0, some 4, .mv (.const (.bool true)), none, []⟩]))
  (.ret))))
theorem k_w_b10Ints : FnOk Try.prog n_w_b10Ints 2 c_w_b10Ints [.tmp 4] := ⟨by kernel_rfl⟩
def c_s_SplitLevels : ACode :=
  .seq (.ops [⟨0, some 4, .box 26 (.tmp 1), none, []⟩, ⟨1, some 6, .new 32 [.slice none 0 0, .slice none 0 0], none, []⟩, ⟨2, some 7, .mv (.const (.bool false)), none, []⟩])
  (.seq (.seq (.ops [⟨0, some 12, .mv (.tmp 0), none, []⟩, ⟨1, some 13, .call n_s_l03Long [.tmp 12], none, []⟩, ⟨2, some 14, .un .not (.tmp 13), none, []⟩, ⟨3, some 15, .mv (.tmp 14), none, []⟩, ⟨4, some 16, .call n_s_l03Pair [.tmp 4], (some (15, false)), []⟩, ⟨5, some 17, .un .not (.tmp 16), (some (15, false)), []⟩, ⟨6, some 18, .pick (.tmp 15) (.const (.bool true)) (.tmp 17), none, []⟩, ⟨7, some 19, .mv (.tmp 18), none, []⟩, ⟨8, some 20, .mv (.tmp 2), (some (19, false)), []⟩, ⟨9, some 21, .call n_s_l00In [.tmp 20, .const (.int .i64 1), .const (.int .i64 6)], (some (19, false)), []⟩, ⟨10, some 22, .un .not (.tmp 21), (some (19, false)), []⟩, ⟨11, some 23, .pick (.tmp 19) (.const (.bool true)) (.tmp 22), none, []⟩, ⟨12, some 24, .mv (.tmp 23), none, []⟩, ⟨13, some 25, .mv (.tmp 0), (some (24, false)), []⟩, ⟨14, some 26, .len (.tmp 25), (some (24, false)), []⟩, ⟨15, some 27, .mv (.tmp 2), (some (24, false)), []⟩, ⟨16, some 28, .bin .shl (.const (.int .i64 1)) (.tmp 27), (some (24, false)), []⟩, ⟨17, some 29, .bin .rem (.tmp 26) (.tmp 28), (some (24, false)), []⟩, ⟨18, some 30, .bin .neq (.tmp 29) (.const (.int .i64 0)), (some (24, false)), []⟩, ⟨19, some 31, .pick (.tmp 24) (.const (.bool true)) (.tmp 30), none, []⟩])
  (.cond (.tmp 31) (.seq (.keep [6] (.ops [⟨0, some 32, .bld [.slice none 0 0, .slice none 0 0] [], none, []⟩, ⟨1, none, .stn 2 (.tmp 6) (.tmp 32), none, []⟩, ⟨2, some 7, .mv (.const (.bool false)), none, []⟩]))
  (.ret)) (.skip)))
  (.seq (.keep [0, 2, 4, 6] (.ops [⟨0, some 33, .bsl 41 0 (.float .f32 0) [], none, []⟩, ⟨1, some 34, .mv (.tmp 0), none, []⟩, ⟨2, some 35, .app 41 4 (.tmp 33) (.tmp 34), none, []⟩, ⟨3, some 36, .bld [.slice none 0 0, .slice none 0 0] [(0, 1, .tmp 35)], none, []⟩, ⟨4, some 8, .new 32 [.slice none 0 0, .slice none 0 0], none, []⟩, ⟨5, none, .stn 2 (.tmp 8) (.tmp 36), none, []⟩]))
  (.seq (.block 0 (.loop [2, 4, 6, 8] (.seq (.seq (.ops [⟨0, some 37, .mv (.tmp 2), none, []⟩, ⟨1, some 38, .bin .gtr (.tmp 37) (.const (.int .i64 0)), none, []⟩])
  (.cond (.tmp 38) (.skip) (.exit 0)))
  (.seq (.block 1 (.seq (.ops [⟨0, some 42, .fa 0 (.tmp 8), none, []⟩, ⟨1, some 43, .ld (.tmp 42), none, []⟩, ⟨2, some 44, .ldn 1 (.tmp 4), none, []⟩, ⟨3, some 45, .call n_s_SplitRing [.tmp 43, .tmp 44], none, []⟩, ⟨4, some 41, .mv (.tmp 45), none, []⟩, ⟨5, some 46, .ext (.tmp 41) 0, none, []⟩, ⟨6, some 47, .ext (.tmp 41) 1, none, []⟩, ⟨7, some 48, .ext (.tmp 41) 2, none, []⟩, ⟨8, some 9, .mv (.tmp 46), none, []⟩, ⟨9, some 10, .mv (.tmp 47), none, []⟩, ⟨10, some 11, .mv (.tmp 48), none, []⟩])
  (.seq (.seq (.keep [2, 4, 6, 8, 9, 10, 11] (.ops [⟨0, some 49, .mv (.tmp 11), none, []⟩, ⟨1, some 50, .un .not (.tmp 49), none, []⟩]))
  (.cond (.tmp 50) (.seq (.keep [6] (.ops [⟨0, some 51, .bld [.slice none 0 0, .slice none 0 0] [], none, []⟩, ⟨1, none, .stn 2 (.tmp 6) (.tmp 51), none, []⟩, ⟨2, some 7, .mv (.const (.bool false)), none, []⟩]))
  (.ret)) (.skip)))
  (.seq (.ops [⟨0, some 52, .mv (.tmp 9), none, []⟩, ⟨1, some 53, .fa 0 (.tmp 8), none, []⟩, ⟨2, none, .st (.tmp 53) (.tmp 52), none, []⟩])
  (.keep [2, 4, 6, 8, 10] (.ops [⟨0, some 54, .fa 1 (.tmp 8), none, []⟩, ⟨1, some 55, .ld (.tmp 54), none, []⟩, ⟨2, some 56, .mv (.tmp 10), none, []⟩, ⟨3, some 57, .bsl 24 1 (.slice none 0 0) [(0, .tmp 56)], none, []⟩, ⟨4, some 58, .app 24 24 (.tmp 55) (.tmp 57), none, []⟩, ⟨5, some 59, .fa 1 (.tmp 8), none, []⟩, ⟨6, none, .st (.tmp 59) (.tmp 58), none, []⟩]))))))
  (.keep [2, 4, 6, 8] (.ops [⟨0, some 39, .mv (.tmp 2), none, []⟩, ⟨1, some 40, .bin .sub (.tmp 39) (.const (.int .i64 1)), none, []⟩, ⟨2, some 2, .mv (.tmp 40), none, []⟩]))))))
  (.seq (.ops [⟨0, some 60, .ldn 2 (.tmp 8), none, []⟩, ⟨1, none, .stn 2 (.tmp 6) (.tmp 60), none, []⟩, ⟨2, some 7, .mv (.const (.bool true)), none, []⟩])
  (.ret)))))
theorem k_s_SplitLevels : FnOk Try.prog n_s_SplitLevels 3 c_s_SplitLevels [.celln 6 2, .tmp 7] := ⟨by kernel_rfl⟩
def c_s_RoughnessOf : ACode :=
  .seq (.ops [⟨0, some 1, .box 32 (.tmp 0), none, []⟩, ⟨1, some 2, .mv (.const (.float .f32 0)), none, []⟩, ⟨2, some 3, .mv (.const (.bool false)), none, []⟩])
  (.seq (.ops [⟨0, some 16, .ldn 2 (.tmp 1), none, []⟩, ⟨1, some 17, .call n_s_PowersOfBands [.tmp 16], none, []⟩, ⟨2, some 15, .mv (.tmp 17), none, []⟩, ⟨3, some 18, .ext (.tmp 15) 0, none, []⟩, ⟨4, some 19, .ext (.tmp 15) 1, none, []⟩, ⟨5, some 4, .mv (.tmp 18), none, []⟩, ⟨6, some 5, .mv (.tmp 19), none, []⟩])
  (.seq (.keep [1, 4, 5] (.ops [⟨0, some 20, .fa 1 (.tmp 1), none, []⟩, ⟨1, some 21, .ld (.tmp 20), none, []⟩, ⟨2, some 22, .len (.tmp 21), none, []⟩, ⟨3, some 6, .mv (.tmp 22), none, []⟩]))
  (.seq (.seq (.ops [⟨0, some 23, .mv (.tmp 5), none, []⟩, ⟨1, some 24, .un .not (.tmp 23), none, []⟩, ⟨2, some 25, .mv (.tmp 24), none, []⟩, ⟨3, some 26, .mv (.tmp 6), (some (25, false)), []⟩, ⟨4, some 27, .bin .lss (.tmp 26) (.const (.int .i64 2)), (some (25, false)), []⟩, ⟨5, some 28, .pick (.tmp 25) (.const (.bool true)) (.tmp 27), none, []⟩])
  (.cond (.tmp 28) (.seq (.keep [] (.ops [⟨0, some 2, .mv (.const (.float .f32 0)), none, []⟩, ⟨1, some 3, .mv (.const (.bool false)), none, []⟩]))
  (.ret)) (.skip)))
  (.seq (.keep [1, 4, 6] (.ops [⟨0, some 7, .mv (.const (.float .f32 0)), none, []⟩]))
  (.seq (.ops [⟨0, some 8, .mv (.const (.float .f32 0)), none, []⟩])
  (.seq (.ops [⟨0, some 9, .mv (.const (.float .f32 0)), none, []⟩])
  (.seq (.ops [⟨0, some 10, .mv (.const (.float .f32 0)), none, []⟩])
  (.seq (.seq (.ops [⟨0, some 11, .mv (.const (.int .i64 0)), none, []⟩])
  (.block 0 (.loop [1, 4, 6, 7, 8, 9, 10, 11] (.seq (.seq (.ops [⟨0, some 29, .mv (.tmp 11), none, []⟩, ⟨1, some 30, .mv (.tmp 6), none, []⟩, ⟨2, some 31, .bin .lss (.tmp 29) (.tmp 30), none, []⟩])
  (.cond (.tmp 31) (.skip) (.exit 0)))
  (.seq (.block 1 (.seq (.seq (.ops [⟨0, some 34, .mv (.tmp 4), none, []⟩, ⟨1, some 35, .mv (.tmp 11), none, []⟩, ⟨2, some 36, .ia (.tmp 34) (.tmp 35), none, []⟩, ⟨3, some 37, .ld (.tmp 36), none, []⟩, ⟨4, some 38, .bin .gtr (.tmp 37) (.const (.float .f32 0)), none, []⟩, ⟨5, some 39, .un .not (.tmp 38), none, []⟩])
  (.cond (.tmp 39) (.seq (.keep [] (.ops [⟨0, some 2, .mv (.const (.float .f32 0)), none, []⟩, ⟨1, some 3, .mv (.const (.bool false)), none, []⟩]))
  (.ret)) (.skip)))
  (.seq (.keep [1, 4, 6, 7, 8, 9, 10, 11] (.ops [⟨0, some 40, .mv (.tmp 11), none, []⟩, ⟨1, some 41, .cv (.f .f32) (.tmp 40), none, []⟩, ⟨2, some 12, .mv (.tmp 41), none, []⟩]))
  (.seq (.ops [⟨0, some 42, .mv (.tmp 4), none, []⟩, ⟨1, some 43, .mv (.tmp 11), none, []⟩, ⟨2, some 44, .ia (.tmp 42) (.tmp 43), none, []⟩, ⟨3, some 45, .ld (.tmp 44), none, []⟩, ⟨4, some 46, .fa 1 (.tmp 1), none, []⟩, ⟨5, some 47, .ld (.tmp 46), none, []⟩, ⟨6, some 48, .mv (.tmp 11), none, []⟩, ⟨7, some 49, .ia (.tmp 47) (.tmp 48), none, []⟩, ⟨8, some 50, .ld (.tmp 49), none, []⟩, ⟨9, some 51, .len (.tmp 50), none, []⟩, ⟨10, some 52, .cv (.f .f32) (.tmp 51), none, []⟩, ⟨11, some 53, .bin .quo (.tmp 45) (.tmp 52), none, []⟩, ⟨12, some 54, .call n_s_l01Log [.tmp 53], none, []⟩, ⟨13, some 55, .bin .quo (.tmp 54) (.const (.float .f32 1060205080)), none, []⟩, ⟨14, some 13, .mv (.tmp 55), none, []⟩])
  (.seq (.keep [1, 4, 6, 7, 8, 9, 10, 11, 12, 13] (.ops [⟨0, some 56, .mv (.tmp 7), none, []⟩, ⟨1, some 57, .mv (.tmp 12), none, []⟩, ⟨2, some 58, .bin .add (.tmp 56) (.tmp 57), none, []⟩, ⟨3, some 7, .mv (.tmp 58), none, []⟩]))
  (.seq (.ops [⟨0, some 59, .mv (.tmp 8), none, []⟩, ⟨1, some 60, .mv (.tmp 13), none, []⟩, ⟨2, some 61, .bin .add (.tmp 59) (.tmp 60), none, []⟩, ⟨3, some 8, .mv (.tmp 61), none, []⟩])
  (.seq (.keep [1, 4, 6, 7, 8, 9, 10, 11, 12, 13] (.ops [⟨0, some 62, .mv (.tmp 9), none, []⟩, ⟨1, some 63, .mv (.tmp 12), none, []⟩, ⟨2, some 64, .mv (.tmp 12), none, []⟩, ⟨3, some 65, .bin .mul (.tmp 63) (.tmp 64), none, []⟩, ⟨4, some 66, .bin .add (.tmp 62) (.tmp 65), none, []⟩, ⟨5, some 9, .mv (.tmp 66), none, []⟩]))
  (.keep [1, 4, 6, 7, 8, 9, 10, 11, 12, 13] (.ops [⟨0, some 67, .mv (.tmp 10), none, []⟩, ⟨1, some 68, .mv (.tmp 12), none, []⟩, ⟨2, some 69, .mv (.tmp 13), none, []⟩, ⟨3, some 70, .bin .mul (.tmp 68) (.tmp 69), none, []⟩, ⟨4, some 71, .bin .add (.tmp 67) (.tmp 70), none, []⟩, ⟨5, some 10, .mv (.tmp 71), none, []⟩])))))))))
  (.keep [1, 4, 6, 7, 8, 9, 10, 11] (.ops [⟨0, some 32, .mv (.tmp 11), none, []⟩, ⟨1, some 33, .bin .add (.tmp 32) (.const (.int .i64 1)), none, []⟩, ⟨2, some 11, .mv (.tmp 33), none, []⟩])))))))
  (.seq (.keep [6, 7, 8, 9, 10] (.ops [⟨0, some 72, .mv (.tmp 6), none, []⟩, ⟨1, some 73, .cv (.f .f32) (.tmp 72), none, []⟩, ⟨2, some 14, .mv (.tmp 73), none, []⟩]))
  (.seq (.ops [⟨0, some 74, .mv (.tmp 14), none, []⟩, ⟨1, some 75, .mv (.tmp 10), none, []⟩, ⟨2, some 76, .bin .mul (.tmp 74) (.tmp 75), none, []⟩, ⟨3, some 77, .mv (.tmp 7), none, []⟩, ⟨4, some 78, .mv (.tmp 8), none, []⟩, ⟨5, some 79, .bin .mul (.tmp 77) (.tmp 78), none, []⟩, ⟨6, some 80, .bin .sub (.tmp 76) (.tmp 79), none, []⟩, ⟨7, some 81, .mv (.tmp 14), none, []⟩, ⟨8, some 82, .mv (.tmp 9), none, []⟩, ⟨9, some 83, .bin .mul (.tmp 81) (.tmp 82), none, []⟩, ⟨10, some 84, .mv (.tmp 7), none, []⟩, ⟨11, some 85, .mv (.tmp 7), none, []⟩, ⟨12, some 86, .bin .mul (.tmp 84) (.tmp 85), none, []⟩, ⟨13, some 87, .bin .sub (.tmp 83) (.tmp 86), none, []⟩, ⟨14, some 88, .bin .quo (.tmp 80) (.tmp 87), none, []⟩, ⟨15, some 89, .call n_s_l02Number [.tmp 88], none, []⟩, ⟨16, some 90, .ext (.tmp 89) 0, none, []⟩, ⟨17, some 91, .ext (.tmp 89) 1, none, []⟩, ⟨18, some 2, .mv (.tmp 90), none, []⟩, ⟨19, some 3, .mv (.tmp 91), none, []⟩])
  (.ret)))))))))))
theorem k_s_RoughnessOf : FnOk Try.prog n_s_RoughnessOf 1 c_s_RoughnessOf [.tmp 2, .tmp 3] := ⟨by kernel_rfl⟩
def c_i_RoughnessOf : ACode :=
  .seq (.ops [⟨0, some 1, .box 32 (.tmp 0), none, []⟩, ⟨1, some 2, .mv (.const (.float .f32 0)), none, []⟩, ⟨2, some 3, .mv (.const (.bool false)), none, []⟩])
  (.seq (.ops [⟨0, some 17, .ldn 2 (.tmp 1), none, []⟩, ⟨1, some 18, .call n_i_PowersOfBands [.tmp 17], none, []⟩, ⟨2, some 16, .mv (.tmp 18), none, []⟩, ⟨3, some 19, .ext (.tmp 16) 0, none, []⟩, ⟨4, some 20, .ext (.tmp 16) 1, none, []⟩, ⟨5, some 4, .mv (.tmp 19), none, []⟩, ⟨6, some 5, .mv (.tmp 20), none, []⟩])
  (.seq (.keep [1, 4, 5] (.ops [⟨0, some 21, .fa 1 (.tmp 1), none, []⟩, ⟨1, some 22, .ld (.tmp 21), none, []⟩, ⟨2, some 23, .len (.tmp 22), none, []⟩, ⟨3, some 6, .mv (.tmp 23), none, []⟩]))
  (.seq (.seq (.ops [⟨0, some 24, .mv (.tmp 5), none, []⟩, ⟨1, some 25, .un .not (.tmp 24), none, []⟩, ⟨2, some 26, .mv (.tmp 25), none, []⟩, ⟨3, some 27, .mv (.tmp 6), (some (26, false)), []⟩, ⟨4, some 28, .bin .lss (.tmp 27) (.const (.int .i64 2)), (some (26, false)), []⟩, ⟨5, some 29, .pick (.tmp 26) (.const (.bool true)) (.tmp 28), none, []⟩])
  (.cond (.tmp 29) (.seq (.keep [] (.ops [⟨0, some 2, .mv (.const (.float .f32 0)), none, []⟩, ⟨1, some 3, .mv (.const (.bool false)), none, []⟩]))
  (.ret)) (.skip)))
  (.seq (.keep [1, 4, 6] (.ops [⟨0, some 7, .mv (.const (.float .f32 0)), none, []⟩, ⟨1, some 8, .mv (.const (.float .f32 0)), none, []⟩, ⟨2, some 9, .mv (.const (.float .f32 0)), none, []⟩, ⟨3, some 10, .mv (.const (.float .f32 0)), none, []⟩]))
  (.seq (.seq (.ops [⟨0, some 30, .fa 1 (.tmp 1), none, []⟩, ⟨1, some 31, .ld (.tmp 30), none, []⟩, ⟨2, some 32, .len (.tmp 31), none, []⟩, ⟨3, some 33, .mv (.const (.int .i64 0)), none, []⟩])
  (.block 0 (.loop [4, 6, 7, 8, 9, 10, 31, 32, 33] (.seq (.ops [⟨0, some 34, .bin .lss (.tmp 33) (.tmp 32), none, []⟩])
  (.seq (.cond (.tmp 34) (.skip) (.exit 0))
  (.seq (.block 1 (.seq (.ops [⟨0, some 35, .mv (.tmp 33), none, []⟩, ⟨1, some 36, .ia (.tmp 31) (.tmp 33), none, []⟩, ⟨2, some 37, .ld (.tmp 36), none, []⟩, ⟨3, some 11, .mv (.tmp 35), none, []⟩, ⟨4, some 12, .mv (.tmp 37), none, []⟩])
  (.seq (.seq (.ops [⟨0, some 38, .mv (.tmp 4), none, []⟩, ⟨1, some 39, .mv (.tmp 11), none, []⟩, ⟨2, some 40, .ia (.tmp 38) (.tmp 39), none, []⟩, ⟨3, some 41, .ld (.tmp 40), none, []⟩, ⟨4, some 42, .bin .gtr (.tmp 41) (.const (.float .f32 0)), none, []⟩, ⟨5, some 43, .un .not (.tmp 42), none, []⟩])
  (.cond (.tmp 43) (.seq (.keep [] (.ops [⟨0, some 2, .mv (.const (.float .f32 0)), none, []⟩, ⟨1, some 3, .mv (.const (.bool false)), none, []⟩]))
  (.ret)) (.skip)))
  (.seq (.keep [4, 6, 7, 8, 9, 10, 11, 12, 31, 32, 33] (.ops [⟨0, some 44, .mv (.tmp 11), none, []⟩, ⟨1, some 45, .cv (.f .f32) (.tmp 44), none, []⟩, ⟨2, some 46, .mv (.tmp 4), none, []⟩, ⟨3, some 47, .mv (.tmp 11), none, []⟩, ⟨4, some 48, .ia (.tmp 46) (.tmp 47), none, []⟩, ⟨5, some 49, .ld (.tmp 48), none, []⟩, ⟨6, some 50, .mv (.tmp 12), none, []⟩, ⟨7, some 51, .len (.tmp 50), none, []⟩, ⟨8, some 52, .cv (.f .f32) (.tmp 51), none, []⟩, ⟨9, some 53, .bin .quo (.tmp 49) (.tmp 52), none, []⟩, ⟨10, some 54, .call n_i_LogNumber [.tmp 53], none, []⟩, ⟨11, some 55, .bin .quo (.tmp 54) (.const (.float .f32 1060205080)), none, []⟩, ⟨12, some 13, .mv (.tmp 45), none, []⟩, ⟨13, some 14, .mv (.tmp 55), none, []⟩]))
  (.seq (.keep [4, 6, 7, 8, 9, 10, 13, 14, 31, 32, 33] (.ops [⟨0, some 56, .mv (.tmp 7), none, []⟩, ⟨1, some 57, .mv (.tmp 13), none, []⟩, ⟨2, some 58, .bin .add (.tmp 56) (.tmp 57), none, []⟩, ⟨3, some 7, .mv (.tmp 58), none, []⟩]))
  (.seq (.ops [⟨0, some 59, .mv (.tmp 8), none, []⟩, ⟨1, some 60, .mv (.tmp 14), none, []⟩, ⟨2, some 61, .bin .add (.tmp 59) (.tmp 60), none, []⟩, ⟨3, some 8, .mv (.tmp 61), none, []⟩])
  (.seq (.keep [4, 6, 7, 8, 9, 10, 13, 14, 31, 32, 33] (.ops [⟨0, some 62, .mv (.tmp 9), none, []⟩, ⟨1, some 63, .mv (.tmp 13), none, []⟩, ⟨2, some 64, .mv (.tmp 13), none, []⟩, ⟨3, some 65, .bin .mul (.tmp 63) (.tmp 64), none, []⟩, ⟨4, some 66, .bin .add (.tmp 62) (.tmp 65), none, []⟩, ⟨5, some 9, .mv (.tmp 66), none, []⟩]))
  (.keep [4, 6, 7, 8, 9, 10, 13, 14, 31, 32, 33] (.ops [⟨0, some 67, .mv (.tmp 10), none, []⟩, ⟨1, some 68, .mv (.tmp 13), none, []⟩, ⟨2, some 69, .mv (.tmp 14), none, []⟩, ⟨3, some 70, .bin .mul (.tmp 68) (.tmp 69), none, []⟩, ⟨4, some 71, .bin .add (.tmp 67) (.tmp 70), none, []⟩, ⟨5, some 10, .mv (.tmp 71), none, []⟩])))))))))
  (.keep [4, 6, 7, 8, 9, 10, 31, 32, 33] (.ops [⟨0, some 72, .bin .add (.tmp 33) (.const (.int .i64 1)), none, []⟩, ⟨1, some 33, .mv (.tmp 72), none, []⟩]))))))))
  (.seq (.keep [6, 7, 8, 9, 10] (.ops [⟨0, some 73, .mv (.tmp 6), none, []⟩, ⟨1, some 74, .cv (.f .f32) (.tmp 73), none, []⟩, ⟨2, some 15, .mv (.tmp 74), none, []⟩]))
  (.seq (.ops [⟨0, some 75, .mv (.tmp 15), none, []⟩, ⟨1, some 76, .mv (.tmp 10), none, []⟩, ⟨2, some 77, .bin .mul (.tmp 75) (.tmp 76), none, []⟩, ⟨3, some 78, .mv (.tmp 7), none, []⟩, ⟨4, some 79, .mv (.tmp 8), none, []⟩, ⟨5, some 80, .bin .mul (.tmp 78) (.tmp 79), none, []⟩, ⟨6, some 81, .bin .sub (.tmp 77) (.tmp 80), none, []⟩, ⟨7, some 82, .mv (.tmp 15), none, []⟩, ⟨8, some 83, .mv (.tmp 9), none, []⟩, ⟨9, some 84, .bin .mul (.tmp 82) (.tmp 83), none, []⟩, ⟨10, some 85, .mv (.tmp 7), none, []⟩, ⟨11, some 86, .mv (.tmp 7), none, []⟩, ⟨12, some 87, .bin .mul (.tmp 85) (.tmp 86), none, []⟩, ⟨13, some 88, .bin .sub (.tmp 84) (.tmp 87), none, []⟩, ⟨14, some 89, .bin .quo (.tmp 81) (.tmp 88), none, []⟩, ⟨15, some 90, .call n_i_finite [.tmp 89], none, []⟩, ⟨16, some 91, .ext (.tmp 90) 0, none, []⟩, ⟨17, some 92, .ext (.tmp 90) 1, none, []⟩, ⟨18, some 2, .mv (.tmp 91), none, []⟩, ⟨19, some 3, .mv (.tmp 92), none, []⟩])
  (.ret))))))))
theorem k_i_RoughnessOf : FnOk Try.prog n_i_RoughnessOf 1 c_i_RoughnessOf [.tmp 2, .tmp 3] := ⟨by kernel_rfl⟩
def c_s_l00From : ACode :=
  .seq (.ops [⟨0, some 2, .mv (.const (.pointer none)), none, []⟩])
  (.seq (.ops [⟨0, some 3, .mv (.tmp 0), none, []⟩, ⟨1, some 4, .bld [.slice none 0 0, .int .i64 0, .int .u64 0] [(0, 1, .tmp 3)], none, []⟩, ⟨2, some 5, .box 140 (.tmp 4), none, []⟩, ⟨3, some 2, .mv (.tmp 5), none, []⟩])
  (.ret))
theorem k_s_l00From : FnOk Try.prog n_s_l00From 1 c_s_l00From [.tmp 2] := ⟨by kernel_rfl⟩
def c_s_l00Src_one : ACode :=
  .seq (.ops [⟨0, some 4, .mv (.const (.bool false)), none, []⟩])
  (.seq (.ops [⟨0, some 5, .mv (.tmp 0), none, []⟩, ⟨1, some 6, .mv (.tmp 1), none, []⟩, ⟨2, some 7, .call n_s_l00Src_pick [.tmp 5, .tmp 6], none, []⟩, ⟨3, some 8, .bin .eql (.tmp 7) (.const (.int .i64 0)), none, []⟩, ⟨4, some 4, .mv (.tmp 8), none, []⟩])
  (.ret))
theorem k_s_l00Src_one : FnOk Try.prog n_s_l00Src_one 2 c_s_l00Src_one [.tmp 4] := ⟨by kernel_rfl⟩
def c_s_l00Src_pick : ACode :=
  .seq (.ops [⟨0, some 4, .mv (.const (.int .i64 0)), none, []⟩])
  (.seq (.seq (.ops [⟨0, some 6, .mv (.tmp 1), none, []⟩, ⟨1, some 7, .bin .leq (.tmp 6) (.const (.int .i64 1)), none, []⟩])
  (.cond (.tmp 7) (.seq (.keep [] (.ops [⟨0, some 4, .mv (.const (.int .i64 0)), none, []⟩]))
  (.ret)) (.skip)))
  (.seq (.ops [⟨0, some 8, .mv (.tmp 0), none, []⟩, ⟨1, some 9, .call n_s_l00Src_next [.tmp 8], none, []⟩, ⟨2, some 5, .mv (.tmp 9), none, []⟩])
  (.seq (.seq (.keep [0, 1, 5] (.ops [⟨0, some 10, .mv (.tmp 1), none, []⟩, ⟨1, some 11, .bin .gtr (.tmp 10) (.const (.int .i64 200)), none, []⟩]))
  (.cond (.tmp 11) (.ops [⟨0, some 12, .mv (.tmp 5), none, []⟩, ⟨1, some 13, .bin .mul (.tmp 12) (.const (.int .i64 256)), none, []⟩, ⟨2, some 14, .mv (.tmp 0), none, []⟩, ⟨3, some 15, .call n_s_l00Src_next [.tmp 14], none, []⟩, ⟨4, some 16, .bin .add (.tmp 13) (.tmp 15), none, []⟩, ⟨5, some 5, .mv (.tmp 16), none, []⟩]) (.skip)))
  (.seq (.keep [1, 5] (.ops [⟨0, some 17, .mv (.tmp 5), none, []⟩, ⟨1, some 18, .mv (.tmp 1), none, []⟩, ⟨2, some 19, .bin .rem (.tmp 17) (.tmp 18), none, []⟩, ⟨3, some 4, .mv (.tmp 19), none, []⟩]))
  (.ret)))))
theorem k_s_l00Src_pick : FnOk Try.prog n_s_l00Src_pick 2 c_s_l00Src_pick [.tmp 4] := ⟨by kernel_rfl⟩
def c_i_isLong : ACode :=
  .seq (.ops [⟨0, some 2, .mv (.const (.bool false)), none, []⟩])
  (.seq (.ops [⟨0, some 3, .mv (.tmp 0), none, []⟩, ⟨1, some 4, .len (.tmp 3), none, []⟩, ⟨2, some 5, .call n_i_within [.tmp 4, .const (.int .i64 1), .const (.int .i64 128)], none, []⟩, ⟨3, some 6, .mv (.tmp 5), none, []⟩, ⟨4, some 7, .mv (.tmp 0), (some (6, true)), []⟩, ⟨5, some 8, .bsl 24 1 (.slice none 0 0) [(0, .tmp 7)], (some (6, true)), []⟩, ⟨6, some 9, .call n_i_areFinite [.tmp 8], (some (6, true)), []⟩, ⟨7, some 10, .pick (.tmp 6) (.tmp 9) (.const (.bool false)), none, []⟩, ⟨8, some 2, .mv (.tmp 10), none, []⟩])
  (.ret))
theorem k_i_isLong : FnOk Try.prog n_i_isLong 1 c_i_isLong [.tmp 2] := ⟨by kernel_rfl⟩
def c_i_within : ACode :=
  .seq (.ops [⟨0, some 6, .mv (.const (.bool false)), none, []⟩])
  (.seq (.ops [⟨0, some 7, .mv (.tmp 0), none, []⟩, ⟨1, some 8, .mv (.tmp 1), none, []⟩, ⟨2, some 9, .bin .geq (.tmp 7) (.tmp 8), none, []⟩, ⟨3, some 10, .mv (.tmp 9), none, []⟩, ⟨4, some 11, .mv (.tmp 0), (some (10, true)), []⟩, ⟨5, some 12, .mv (.tmp 2), (some (10, true)), []⟩, ⟨6, some 13, .bin .leq (.tmp 11) (.tmp 12), (some (10, true)), []⟩, ⟨7, some 14, .pick (.tmp 10) (.tmp 13) (.const (.bool false)), none, []⟩, ⟨8, some 6, .mv (.tmp 14), none, []⟩])
  (.ret))
theorem k_i_within : FnOk Try.prog n_i_within 3 c_i_within [.tmp 6] := ⟨by kernel_rfl⟩
def c_i_squares : ACode :=
  .seq (.ops [⟨0, some 2, .mv (.const (.float .f32 0)), none, []⟩])
  (.seq (.ops [⟨0, some 3, .mv (.const (.float .f32 0)), none, []⟩])
  (.seq (.seq (.ops [⟨0, some 6, .mv (.tmp 0), none, []⟩, ⟨1, some 7, .len (.tmp 6), none, []⟩, ⟨2, some 8, .mv (.const (.int .i64 0)), none, []⟩])
  (.block 0 (.loop [3, 6, 7, 8] (.seq (.ops [⟨0, some 9, .bin .lss (.tmp 8) (.tmp 7), none, []⟩])
  (.seq (.cond (.tmp 9) (.skip) (.exit 0))
  (.seq (.block 1 (.seq (.ops [⟨0, some 10, .ia (.tmp 6) (.tmp 8), none, []⟩, ⟨1, some 11, .ld (.tmp 10), none, []⟩, ⟨2, some 5, .mv (.tmp 11), none, []⟩])
  (.ops [⟨0, some 12, .mv (.tmp 3), none, []⟩, ⟨1, some 13, .mv (.tmp 5), none, []⟩, ⟨2, some 14, .mv (.tmp 5), none, []⟩, ⟨3, some 15, .bin .mul (.tmp 13) (.tmp 14), none, []⟩, ⟨4, some 16, .bin .add (.tmp 12) (.tmp 15), none, []⟩, ⟨5, some 3, .mv (.tmp 16), none, []⟩])))
  (.keep [3, 6, 7, 8] (.ops [⟨0, some 17, .bin .add (.tmp 8) (.const (.int .i64 1)), none, []⟩, ⟨1, some 8, .mv (.tmp 17), none, []⟩]))))))))
  (.seq (.ops [⟨0, some 18, .mv (.tmp 3), none, []⟩, ⟨1, some 2, .mv (.tmp 18), none, []⟩])
  (.ret))))
theorem k_i_squares : FnOk Try.prog n_i_squares 1 c_i_squares [.tmp 2] := ⟨by kernel_rfl⟩
def c_i_finiteList : ACode :=
  .seq (.ops [⟨0, some 2, .mv (.const (.slice none 0 0)), none, []⟩, ⟨1, some 3, .mv (.const (.bool false)), none, []⟩])
  (.seq (.seq (.ops [⟨0, some 4, .mv (.tmp 0), none, []⟩, ⟨1, some 5, .bsl 24 1 (.slice none 0 0) [(0, .tmp 4)], none, []⟩, ⟨2, some 6, .call n_i_areFinite [.tmp 5], none, []⟩, ⟨3, some 7, .un .not (.tmp 6), none, []⟩])
  (.cond (.tmp 7) (.seq (.keep [] (.ops [⟨0, some 2, .mv (.const (.slice none 0 0)), none, []⟩, ⟨1, some 3, .mv (.const (.bool false)), none, []⟩]))
  (.ret)) (.skip)))
  (.seq (.keep [0] (.ops [⟨0, some 8, .mv (.tmp 0), none, []⟩, ⟨1, some 2, .mv (.tmp 8), none, []⟩, ⟨2, some 3, .mv (.const (.bool true)), none, []⟩]))
  (.ret)))
theorem k_i_finiteList : FnOk Try.prog n_i_finiteList 1 c_i_finiteList [.tmp 2, .tmp 3] := ⟨by kernel_rfl⟩
def c_s_l03Bands : ACode :=
  .seq (.ops [⟨0, some 2, .mv (.const (.bool false)), none, []⟩])
  (.seq (.ops [⟨0, some 5, .mv (.tmp 0), none, []⟩, ⟨1, some 6, .nc (.tmp 5), none, []⟩, ⟨2, some 7, .fa 1 (.tmp 6), none, []⟩, ⟨3, some 8, .ld (.tmp 7), none, []⟩, ⟨4, some 9, .len (.tmp 8), none, []⟩, ⟨5, some 3, .mv (.tmp 9), none, []⟩])
  (.seq (.seq (.keep [0, 3] (.ops [⟨0, some 10, .mv (.tmp 3), none, []⟩, ⟨1, some 11, .bin .lss (.tmp 10) (.const (.int .i64 1)), none, []⟩, ⟨2, some 12, .mv (.tmp 11), none, []⟩, ⟨3, some 13, .mv (.tmp 3), (some (12, false)), []⟩, ⟨4, some 14, .bin .gtr (.tmp 13) (.const (.int .i64 6)), (some (12, false)), []⟩, ⟨5, some 15, .pick (.tmp 12) (.const (.bool true)) (.tmp 14), none, []⟩, ⟨6, some 16, .mv (.tmp 15), none, []⟩, ⟨7, some 17, .mv (.tmp 0), (some (16, false)), []⟩, ⟨8, some 18, .nc (.tmp 17), (some (16, false)), []⟩, ⟨9, some 19, .fa 1 (.tmp 18), (some (16, false)), []⟩, ⟨10, some 20, .ld (.tmp 19), (some (16, false)), []⟩, ⟨11, some 21, .ia (.tmp 20) (.const (.int .i64 0)), (some (16, false)), []⟩, ⟨12, some 22, .ld (.tmp 21), (some (16, false)), []⟩, ⟨13, some 23, .len (.tmp 22), (some (16, false)), []⟩, ⟨14, some 24, .bin .gtr (.tmp 23) (.const (.int .i64 64)), (some (16, false)), []⟩, ⟨15, some 25, .pick (.tmp 16) (.const (.bool true)) (.tmp 24), none, []⟩, ⟨16, some 26, .mv (.tmp 25), none, []⟩, ⟨17, some 27, .mv (.tmp 0), (some (26, false)), []⟩, ⟨18, some 28, .nc (.tmp 27), (some (26, false)), []⟩, ⟨19, some 29, .fa 0 (.tmp 28), (some (26, false)), []⟩, ⟨20, some 30, .ld (.tmp 29), (some (26, false)), []⟩, ⟨21, some 31, .call n_s_l02Finite [.tmp 30], (some (26, false)), []⟩, ⟨22, some 32, .un .not (.tmp 31), (some (26, false)), []⟩, ⟨23, some 33, .pick (.tmp 26) (.const (.bool true)) (.tmp 32), none, []⟩]))
  (.cond (.tmp 33) (.seq (.keep [] (.ops [⟨0, some 2, .mv (.const (.bool false)), none, []⟩]))
  (.ret)) (.skip)))
  (.seq (.seq (.keep [0, 3] (.ops [⟨0, some 34, .mv (.tmp 0), none, []⟩, ⟨1, some 35, .nc (.tmp 34), none, []⟩, ⟨2, some 36, .fa 1 (.tmp 35), none, []⟩, ⟨3, some 37, .ld (.tmp 36), none, []⟩, ⟨4, some 38, .len (.tmp 37), none, []⟩, ⟨5, some 39, .mv (.const (.int .i64 0)), none, []⟩]))
  (.block 0 (.loop [0, 3, 38, 39] (.seq (.ops [⟨0, some 40, .bin .lss (.tmp 39) (.tmp 38), none, []⟩])
  (.seq (.cond (.tmp 40) (.skip) (.exit 0))
  (.seq (.block 1 (.seq (.ops [⟨0, some 41, .mv (.tmp 39), none, []⟩, ⟨1, some 4, .mv (.tmp 41), none, []⟩])
  (.seq (.ops [⟨0, some 42, .mv (.tmp 0), none, []⟩, ⟨1, some 43, .nc (.tmp 42), none, []⟩, ⟨2, some 44, .fa 1 (.tmp 43), none, []⟩, ⟨3, some 45, .ld (.tmp 44), none, []⟩, ⟨4, some 46, .mv (.tmp 4), none, []⟩, ⟨5, some 47, .ia (.tmp 45) (.tmp 46), none, []⟩, ⟨6, some 48, .ld (.tmp 47), none, []⟩, ⟨7, some 49, .len (.tmp 48), none, []⟩, ⟨8, some 50, .bin .lss (.tmp 49) (.const (.int .i64 1)), none, []⟩, ⟨9, some 51, .mv (.tmp 50), none, []⟩, ⟨10, some 52, .mv (.tmp 0), (some (51, false)), []⟩, ⟨11, some 53, .nc (.tmp 52), (some (51, false)), []⟩, ⟨12, some 54, .fa 1 (.tmp 53), (some (51, false)), []⟩, ⟨13, some 55, .ld (.tmp 54), (some (51, false)), []⟩, ⟨14, some 56, .mv (.tmp 4), (some (51, false)), []⟩, ⟨15, some 57, .ia (.tmp 55) (.tmp 56), (some (51, false)), []⟩, ⟨16, some 58, .ld (.tmp 57), (some (51, false)), []⟩, ⟨17, some 59, .call n_s_l02Finite [.tmp 58], (some (51, false)), []⟩, ⟨18, some 60, .un .not (.tmp 59), (some (51, false)), []⟩, ⟨19, some 61, .pick (.tmp 51) (.const (.bool true)) (.tmp 60), none, []⟩, ⟨20, some 62, .mv (.tmp 61), none, []⟩, ⟨21, some 63, .mv (.tmp 4), (some (62, false)), []⟩, ⟨22, some 64, .bin .gtr (.tmp 63) (.const (.int .i64 0)), (some (62, false)), []⟩, ⟨23, some 65, .mv (.tmp 64), (some (62, false)), []⟩, ⟨24, some 66, .mv (.tmp 0), (some (65, true)), []⟩, ⟨25, some 67, .nc (.tmp 66), (some (65, true)), []⟩, ⟨26, some 68, .fa 1 (.tmp 67), (some (65, true)), []⟩, ⟨27, some 69, .ld (.tmp 68), (some (65, true)), []⟩, ⟨28, some 70, .mv (.tmp 4), (some (65, true)), []⟩, ⟨29, some 71, .bin .sub (.tmp 70) (.const (.int .i64 1)), (some (65, true)), []⟩, ⟨30, some 72, .ia (.tmp 69) (.tmp 71), (some (65, true)), []⟩, ⟨31, some 73, .ld (.tmp 72), (some (65, true)), []⟩, ⟨32, some 74, .len (.tmp 73), (some (65, true)), []⟩, ⟨33, some 75, .mv (.tmp 0), (some (65, true)), []⟩, ⟨34, some 76, .nc (.tmp 75), (some (65, true)), []⟩, ⟨35, some 77, .fa 1 (.tmp 76), (some (65, true)), []⟩, ⟨36, some 78, .ld (.tmp 77), (some (65, true)), []⟩, ⟨37, some 79, .mv (.tmp 4), (some (65, true)), []⟩, ⟨38, some 80, .ia (.tmp 78) (.tmp 79), (some (65, true)), []⟩, ⟨39, some 81, .ld (.tmp 80), (some (65, true)), []⟩, ⟨40, some 82, .len (.tmp 81), (some (65, true)), []⟩, ⟨41, some 83, .bin .mul (.const (.int .i64 2)) (.tmp 82), (some (65, true)), []⟩, ⟨42, some 84, .bin .neq (.tmp 74) (.tmp 83), (some (65, true)), []⟩, ⟨43, some 85, .pick (.tmp 65) (.tmp 84) (.const (.bool false)), (some (62, false)), []⟩, ⟨44, some 86, .pick (.tmp 62) (.const (.bool true)) (.tmp 85), none, []⟩])
  (.cond (.tmp 86) (.seq (.keep [] (.ops [⟨0, some 2, .mv (.const (.bool false)), none, []⟩]))
  (.ret)) (.skip)))))
  (.keep [0, 3, 38, 39] (.ops [⟨0, some 87, .bin .add (.tmp 39) (.const (.int .i64 1)), none, []⟩, ⟨1, some 39, .mv (.tmp 87), none, []⟩]))))))))
  (.seq (.ops [⟨0, some 88, .mv (.tmp 0), none, []⟩, ⟨1, some 89, .nc (.tmp 88), none, []⟩, ⟨2, some 90, .fa 0 (.tmp 89), none, []⟩, ⟨3, some 91, .ld (.tmp 90), none, []⟩, ⟨4, some 92, .len (.tmp 91), none, []⟩, ⟨5, some 93, .mv (.tmp 0), none, []⟩, ⟨6, some 94, .nc (.tmp 93), none, []⟩, ⟨7, some 95, .fa 1 (.tmp 94), none, []⟩, ⟨8, some 96, .ld (.tmp 95), none, []⟩, ⟨9, some 97, .mv (.tmp 3), none, []⟩, ⟨10, some 98, .bin .sub (.tmp 97) (.const (.int .i64 1)), none, []⟩, ⟨11, some 99, .ia (.tmp 96) (.tmp 98), none, []⟩, ⟨12, some 100, .ld (.tmp 99), none, []⟩, ⟨13, some 101, .len (.tmp 100), none, []⟩, ⟨14, some 102, .bin .eql (.tmp 92) (.tmp 101), none, []⟩, ⟨15, some 2, .mv (.tmp 102), none, []⟩])
  (.ret)))))
theorem k_s_l03Bands : FnOk Try.prog n_s_l03Bands 1 c_s_l03Bands [.tmp 2] := ⟨by kernel_rfl⟩
def c_i_areFinite : ACode :=
  .seq (.ops [⟨0, some 2, .mv (.const (.bool false)), none, []⟩])
  (.seq (.seq (.ops [⟨0, some 7, .mv (.tmp 0), none, []⟩, ⟨1, some 8, .len (.tmp 7), none, []⟩, ⟨2, some 9, .mv (.const (.int .i64 0)), none, []⟩])
  (.block 0 (.loop [7, 8, 9] (.seq (.ops [⟨0, some 10, .bin .lss (.tmp 9) (.tmp 8), none, []⟩])
  (.seq (.cond (.tmp 10) (.skip) (.exit 0))
  (.seq (.block 1 (.seq (.ops [⟨0, some 11, .ia (.tmp 7) (.tmp 9), none, []⟩, ⟨1, some 12, .ld (.tmp 11), none, []⟩, ⟨2, some 4, .mv (.tmp 12), none, []⟩])
  (.seq (.ops [⟨0, some 13, .mv (.tmp 4), none, []⟩, ⟨1, some 14, .len (.tmp 13), none, []⟩, ⟨2, some 15, .mv (.const (.int .i64 0)), none, []⟩])
  (.block 2 (.loop [7, 8, 9, 13, 14, 15] (.seq (.ops [⟨0, some 16, .bin .lss (.tmp 15) (.tmp 14), none, []⟩])
  (.seq (.cond (.tmp 16) (.skip) (.exit 2))
  (.seq (.block 3 (.seq (.ops [⟨0, some 17, .ia (.tmp 13) (.tmp 15), none, []⟩, ⟨1, some 18, .ld (.tmp 17), none, []⟩, ⟨2, some 6, .mv (.tmp 18), none, []⟩])
  (.seq (.ops [⟨0, some 19, .mv (.tmp 6), none, []⟩, ⟨1, some 20, .call n_i_IsFinite [.tmp 19], none, []⟩, ⟨2, some 21, .un .not (.tmp 20), none, []⟩])
  (.cond (.tmp 21) (.seq (.keep [] (.ops [⟨0, some 2, .mv (.const (.bool false)), none, []⟩]))
  (.ret)) (.skip)))))
  (.keep [7, 8, 9, 13, 14, 15] (.ops [⟨0, some 22, .bin .add (.tmp 15) (.const (.int .i64 1)), none, []⟩, ⟨1, some 15, .mv (.tmp 22), none, []⟩]))))))))))
  (.ops [⟨0, some 23, .bin .add (.tmp 9) (.const (.int .i64 1)), none, []⟩, ⟨1, some 9, .mv (.tmp 23), none, []⟩])))))))
  (.seq (.ops [⟨0, some 2, .mv (.const (.bool true)), none, []⟩])
  (.ret)))
theorem k_i_areFinite : FnOk Try.prog n_i_areFinite 1 c_i_areFinite [.tmp 2] := ⟨by kernel_rfl⟩
def c_i_size : ACode :=
  .seq (.ops [⟨0, some 2, .mv (.const (.float .f32 0)), none, []⟩])
  (.seq (.seq (.ops [⟨0, some 3, .mv (.tmp 0), none, []⟩, ⟨1, some 4, .bin .lss (.tmp 3) (.const (.float .f32 0)), none, []⟩])
  (.cond (.tmp 4) (.seq (.ops [⟨0, some 5, .mv (.tmp 0), none, []⟩, ⟨1, some 6, .un .neg (.tmp 5), none, []⟩, ⟨2, some 2, .mv (.tmp 6), none, []⟩])
  (.ret)) (.skip)))
  (.seq (.seq (.ops [⟨0, some 7, .mv (.tmp 0), none, []⟩, ⟨1, some 8, .bin .eql (.tmp 7) (.const (.float .f32 0)), none, []⟩])
  (.cond (.tmp 8) (.seq (.keep [] (.ops [⟨0, some 2, .mv (.const (.float .f32 0)), none, []⟩]))
  (.ret)) (.skip)))
  (.seq (.keep [0] (.ops [⟨0, some 9, .mv (.tmp 0), none, []⟩, ⟨1, some 2, .mv (.tmp 9), none, []⟩]))
  (.ret))))
theorem k_i_size : FnOk Try.prog n_i_size 1 c_i_size [.tmp 2] := ⟨by kernel_rfl⟩
def c_i_finite : ACode :=
  .seq (.ops [⟨0, some 2, .mv (.const (.float .f32 0)), none, []⟩, ⟨1, some 3, .mv (.const (.bool false)), none, []⟩])
  (.seq (.seq (.ops [⟨0, some 4, .mv (.tmp 0), none, []⟩, ⟨1, some 5, .call n_i_IsFinite [.tmp 4], none, []⟩, ⟨2, some 6, .un .not (.tmp 5), none, []⟩])
  (.cond (.tmp 6) (.seq (.keep [] (.ops [⟨0, some 2, .mv (.const (.float .f32 0)), none, []⟩, ⟨1, some 3, .mv (.const (.bool false)), none, []⟩]))
  (.ret)) (.skip)))
  (.seq (.keep [0] (.ops [⟨0, some 7, .mv (.tmp 0), none, []⟩, ⟨1, some 2, .mv (.tmp 7), none, []⟩, ⟨2, some 3, .mv (.const (.bool true)), none, []⟩]))
  (.ret)))
theorem k_i_finite : FnOk Try.prog n_i_finite 1 c_i_finite [.tmp 2, .tmp 3] := ⟨by kernel_rfl⟩
def c_i_maximaOf : ACode :=
  .seq (.ops [⟨0, some 2, .mv (.const (.slice none 0 0)), none, []⟩])
  (.seq (.ops [⟨0, some 7, .bsl 2 0 (.int .i64 0) [], none, []⟩, ⟨1, some 3, .mv (.tmp 7), none, []⟩])
  (.seq (.seq (.ops [⟨0, some 8, .mv (.tmp 0), none, []⟩, ⟨1, some 9, .len (.tmp 8), none, []⟩, ⟨2, some 10, .mv (.const (.int .i64 0)), none, []⟩])
  (.block 0 (.loop [0, 3, 8, 9, 10] (.seq (.ops [⟨0, some 11, .bin .lss (.tmp 10) (.tmp 9), none, []⟩])
  (.seq (.cond (.tmp 11) (.skip) (.exit 0))
  (.seq (.block 1 (.seq (.ops [⟨0, some 12, .mv (.tmp 10), none, []⟩, ⟨1, some 13, .ia (.tmp 8) (.tmp 10), none, []⟩, ⟨2, some 14, .ld (.tmp 13), none, []⟩, ⟨3, some 4, .mv (.tmp 12), none, []⟩, ⟨4, some 5, .mv (.tmp 14), none, []⟩])
  (.seq (.ops [⟨0, some 15, .mv (.tmp 5), none, []⟩, ⟨1, some 16, .call n_i_size [.tmp 15], none, []⟩, ⟨2, some 6, .mv (.tmp 16), none, []⟩])
  (.seq (.keep [0, 3, 4, 6, 8, 9, 10] (.ops [⟨0, some 17, .mv (.tmp 6), none, []⟩, ⟨1, some 18, .bin .gtr (.tmp 17) (.const (.float .f32 0)), none, []⟩, ⟨2, some 19, .mv (.tmp 18), none, []⟩, ⟨3, some 20, .mv (.tmp 4), (some (19, true)), []⟩, ⟨4, some 21, .bin .eql (.tmp 20) (.const (.int .i64 0)), (some (19, true)), []⟩, ⟨5, some 22, .mv (.tmp 21), (some (19, true)), []⟩, ⟨6, some 23, .mv (.tmp 6), (some (22, false)), []⟩, ⟨7, some 24, .mv (.tmp 0), (some (22, false)), []⟩, ⟨8, some 25, .mv (.tmp 4), (some (22, false)), []⟩, ⟨9, some 26, .bin .sub (.tmp 25) (.const (.int .i64 1)), (some (22, false)), []⟩, ⟨10, some 27, .ia (.tmp 24) (.tmp 26), (some (22, false)), []⟩, ⟨11, some 28, .ld (.tmp 27), (some (22, false)), []⟩, ⟨12, some 29, .call n_i_size [.tmp 28], (some (22, false)), []⟩, ⟨13, some 30, .bin .gtr (.tmp 23) (.tmp 29), (some (22, false)), []⟩, ⟨14, some 31, .pick (.tmp 22) (.const (.bool true)) (.tmp 30), (some (19, true)), []⟩, ⟨15, some 32, .pick (.tmp 19) (.tmp 31) (.const (.bool false)), none, []⟩, ⟨16, some 33, .mv (.tmp 32), none, []⟩, ⟨17, some 34, .mv (.tmp 4), (some (33, true)), []⟩, ⟨18, some 35, .bin .add (.tmp 34) (.const (.int .i64 1)), (some (33, true)), []⟩, ⟨19, some 36, .mv (.tmp 0), (some (33, true)), []⟩, ⟨20, some 37, .len (.tmp 36), (some (33, true)), []⟩, ⟨21, some 38, .bin .eql (.tmp 35) (.tmp 37), (some (33, true)), []⟩, ⟨22, some 39, .mv (.tmp 38), (some (33, true)), []⟩, ⟨23, some 40, .mv (.tmp 6), (some (39, false)), []⟩, ⟨24, some 41, .mv (.tmp 0), (some (39, false)), []⟩, ⟨25, some 42, .mv (.tmp 4), (some (39, false)), []⟩, ⟨26, some 43, .bin .add (.tmp 42) (.const (.int .i64 1)), (some (39, false)), []⟩, ⟨27, some 44, .ia (.tmp 41) (.tmp 43), (some (39, false)), []⟩, ⟨28, some 45, .ld (.tmp 44), (some (39, false)), []⟩, ⟨29, some 46, .call n_i_size [.tmp 45], (some (39, false)), []⟩, ⟨30, some 47, .bin .geq (.tmp 40) (.tmp 46), (some (39, false)), []⟩, ⟨31, some 48, .pick (.tmp 39) (.const (.bool true)) (.tmp 47), (some (33, true)), []⟩, ⟨32, some 49, .pick (.tmp 33) (.tmp 48) (.const (.bool false)), none, []⟩]))
  (.cond (.tmp 49) (.keep [0, 3, 4, 8, 9, 10] (.ops [⟨0, some 50, .mv (.tmp 3), none, []⟩, ⟨1, some 51, .mv (.tmp 4), none, []⟩, ⟨2, some 52, .bsl 2 1 (.int .i64 0) [(0, .tmp 51)], none, []⟩, ⟨3, some 53, .app 2 8 (.tmp 50) (.tmp 52), none, []⟩, ⟨4, some 3, .mv (.tmp 53), none, []⟩])) (.skip))))))
  (.keep [0, 3, 8, 9, 10] (.ops [⟨0, some 54, .bin .add (.tmp 10) (.const (.int .i64 1)), none, []⟩, ⟨1, some 10, .mv (.tmp 54), none, []⟩]))))))))
  (.seq (.keep [3] (.ops [⟨0, some 55, .mv (.tmp 3), none, []⟩, ⟨1, some 2, .mv (.tmp 55), none, []⟩]))
  (.ret))))
theorem k_i_maximaOf : FnOk Try.prog n_i_maximaOf 1 c_i_maximaOf [.tmp 2] := ⟨by kernel_rfl⟩
def c_i_areRows : ACode :=
  .seq (.ops [⟨0, some 4, .mv (.const (.bool false)), none, []⟩])
  (.seq (.seq (.ops [⟨0, some 7, .mv (.tmp 0), none, []⟩, ⟨1, some 8, .len (.tmp 7), none, []⟩, ⟨2, some 9, .mv (.tmp 1), none, []⟩, ⟨3, some 10, .call n_i_within [.tmp 8, .const (.int .i64 1), .tmp 9], none, []⟩, ⟨4, some 11, .un .not (.tmp 10), none, []⟩, ⟨5, some 12, .mv (.tmp 11), none, []⟩, ⟨6, some 13, .mv (.tmp 0), (some (12, false)), []⟩, ⟨7, some 14, .call n_i_areFinite [.tmp 13], (some (12, false)), []⟩, ⟨8, some 15, .un .not (.tmp 14), (some (12, false)), []⟩, ⟨9, some 16, .pick (.tmp 12) (.const (.bool true)) (.tmp 15), none, []⟩])
  (.cond (.tmp 16) (.seq (.keep [] (.ops [⟨0, some 4, .mv (.const (.bool false)), none, []⟩]))
  (.ret)) (.skip)))
  (.seq (.seq (.keep [0] (.ops [⟨0, some 17, .mv (.tmp 0), none, []⟩, ⟨1, some 18, .len (.tmp 17), none, []⟩, ⟨2, some 19, .mv (.const (.int .i64 0)), none, []⟩]))
  (.block 0 (.loop [0, 17, 18, 19] (.seq (.ops [⟨0, some 20, .bin .lss (.tmp 19) (.tmp 18), none, []⟩])
  (.seq (.cond (.tmp 20) (.skip) (.exit 0))
  (.seq (.block 1 (.seq (.ops [⟨0, some 21, .ia (.tmp 17) (.tmp 19), none, []⟩, ⟨1, some 22, .ld (.tmp 21), none, []⟩, ⟨2, some 6, .mv (.tmp 22), none, []⟩])
  (.seq (.ops [⟨0, some 23, .mv (.tmp 6), none, []⟩, ⟨1, some 24, .len (.tmp 23), none, []⟩, ⟨2, some 25, .mv (.tmp 0), none, []⟩, ⟨3, some 26, .ia (.tmp 25) (.const (.int .i64 0)), none, []⟩, ⟨4, some 27, .ld (.tmp 26), none, []⟩, ⟨5, some 28, .len (.tmp 27), none, []⟩, ⟨6, some 29, .bin .neq (.tmp 24) (.tmp 28), none, []⟩, ⟨7, some 30, .mv (.tmp 29), none, []⟩, ⟨8, some 31, .mv (.tmp 6), (some (30, false)), []⟩, ⟨9, some 32, .len (.tmp 31), (some (30, false)), []⟩, ⟨10, some 33, .call n_i_within [.tmp 32, .const (.int .i64 1), .const (.int .i64 128)], (some (30, false)), []⟩, ⟨11, some 34, .un .not (.tmp 33), (some (30, false)), []⟩, ⟨12, some 35, .pick (.tmp 30) (.const (.bool true)) (.tmp 34), none, []⟩])
  (.cond (.tmp 35) (.seq (.keep [] (.ops [⟨0, some 4, .mv (.const (.bool false)), none, []⟩]))
  (.ret)) (.skip)))))
  (.keep [0, 17, 18, 19] (.ops [⟨0, some 36, .bin .add (.tmp 19) (.const (.int .i64 1)), none, []⟩, ⟨1, some 19, .mv (.tmp 36), none, []⟩]))))))))
  (.seq (.keep [] (.ops [⟨0, some 4, .mv (.const (.bool true)), none, []⟩]))
  (.ret))))
theorem k_i_areRows : FnOk Try.prog n_i_areRows 2 c_i_areRows [.tmp 4] := ⟨by kernel_rfl⟩
def c_i_nearest : ACode :=
  .seq (.ops [⟨0, some 6, .mv (.const (.int .i64 0)), none, []⟩, ⟨1, some 7, .mv (.const (.bool false)), none, []⟩])
  (.seq (.ops [⟨0, some 8, .mv (.const (.int .i64 0)), none, []⟩, ⟨1, some 9, .mv (.const (.bool false)), none, []⟩])
  (.seq (.seq (.ops [⟨0, some 13, .mv (.tmp 0), none, []⟩, ⟨1, some 14, .len (.tmp 13), none, []⟩, ⟨2, some 15, .mv (.const (.int .i64 0)), none, []⟩])
  (.block 0 (.loop [1, 2, 8, 9, 13, 14, 15] (.seq (.ops [⟨0, some 16, .bin .lss (.tmp 15) (.tmp 14), none, []⟩])
  (.seq (.cond (.tmp 16) (.skip) (.exit 0))
  (.seq (.block 1 (.seq (.ops [⟨0, some 17, .ia (.tmp 13) (.tmp 15), none, []⟩, ⟨1, some 18, .ld (.tmp 17), none, []⟩, ⟨2, some 11, .mv (.tmp 18), none, []⟩])
  (.seq (.ops [⟨0, some 19, .mv (.tmp 11), none, []⟩, ⟨1, some 20, .mv (.tmp 1), none, []⟩, ⟨2, some 21, .bin .sub (.tmp 19) (.tmp 20), none, []⟩, ⟨3, some 22, .mv (.tmp 1), none, []⟩, ⟨4, some 23, .mv (.tmp 11), none, []⟩, ⟨5, some 24, .bin .sub (.tmp 22) (.tmp 23), none, []⟩, ⟨6, some 25, .mnx true (.tmp 21) (.tmp 24), none, []⟩, ⟨7, some 12, .mv (.tmp 25), none, []⟩])
  (.seq (.keep [1, 2, 8, 9, 11, 12, 13, 14, 15] (.ops [⟨0, some 26, .mv (.tmp 12), none, []⟩, ⟨1, some 27, .mv (.tmp 2), none, []⟩, ⟨2, some 28, .bin .leq (.tmp 26) (.tmp 27), none, []⟩, ⟨3, some 29, .mv (.tmp 28), none, []⟩, ⟨4, some 30, .mv (.tmp 9), (some (29, true)), []⟩, ⟨5, some 31, .un .not (.tmp 30), (some (29, true)), []⟩, ⟨6, some 32, .mv (.tmp 31), (some (29, true)), []⟩, ⟨7, some 33, .mv (.tmp 12), (some (32, false)), []⟩, ⟨8, some 34, .mv (.tmp 8), (some (32, false)), []⟩, ⟨9, some 35, .mv (.tmp 1), (some (32, false)), []⟩, ⟨10, some 36, .bin .sub (.tmp 34) (.tmp 35), (some (32, false)), []⟩, ⟨11, some 37, .mv (.tmp 1), (some (32, false)), []⟩, ⟨12, some 38, .mv (.tmp 8), (some (32, false)), []⟩, ⟨13, some 39, .bin .sub (.tmp 37) (.tmp 38), (some (32, false)), []⟩, ⟨14, some 40, .mnx true (.tmp 36) (.tmp 39), (some (32, false)), []⟩, ⟨15, some 41, .bin .lss (.tmp 33) (.tmp 40), (some (32, false)), []⟩, ⟨16, some 42, .pick (.tmp 32) (.const (.bool true)) (.tmp 41), (some (29, true)), []⟩, ⟨17, some 43, .pick (.tmp 29) (.tmp 42) (.const (.bool false)), none, []⟩]))
  (.cond (.tmp 43) (.keep [1, 2, 11, 13, 14, 15] (.ops [⟨0, some 44, .mv (.tmp 11), none, []⟩, ⟨1, some 8, .mv (.tmp 44), none, []⟩, ⟨2, some 9, .mv (.const (.bool true)), none, []⟩])) (.skip))))))
  (.keep [1, 2, 8, 9, 13, 14, 15] (.ops [⟨0, some 45, .bin .add (.tmp 15) (.const (.int .i64 1)), none, []⟩, ⟨1, some 15, .mv (.tmp 45), none, []⟩]))))))))
  (.seq (.keep [8, 9] (.ops [⟨0, some 46, .mv (.tmp 8), none, []⟩, ⟨1, some 47, .mv (.tmp 9), none, []⟩, ⟨2, some 6, .mv (.tmp 46), none, []⟩, ⟨3, some 7, .mv (.tmp 47), none, []⟩]))
  (.ret))))
theorem k_i_nearest : FnOk Try.prog n_i_nearest 3 c_i_nearest [.tmp 6, .tmp 7] := ⟨by kernel_rfl⟩
def c_s_l03Rows : ACode :=
  .seq (.ops [⟨0, some 4, .mv (.const (.bool false)), none, []⟩])
  (.seq (.seq (.ops [⟨0, some 6, .mv (.tmp 0), none, []⟩, ⟨1, some 7, .len (.tmp 6), none, []⟩, ⟨2, some 8, .bin .lss (.tmp 7) (.const (.int .i64 1)), none, []⟩, ⟨3, some 9, .mv (.tmp 8), none, []⟩, ⟨4, some 10, .mv (.tmp 0), (some (9, false)), []⟩, ⟨5, some 11, .len (.tmp 10), (some (9, false)), []⟩, ⟨6, some 12, .mv (.tmp 1), (some (9, false)), []⟩, ⟨7, some 13, .bin .gtr (.tmp 11) (.tmp 12), (some (9, false)), []⟩, ⟨8, some 14, .pick (.tmp 9) (.const (.bool true)) (.tmp 13), none, []⟩])
  (.cond (.tmp 14) (.seq (.keep [] (.ops [⟨0, some 4, .mv (.const (.bool false)), none, []⟩]))
  (.ret)) (.skip)))
  (.seq (.seq (.keep [0] (.ops [⟨0, some 15, .mv (.tmp 0), none, []⟩, ⟨1, some 16, .len (.tmp 15), none, []⟩, ⟨2, some 17, .mv (.const (.int .i64 0)), none, []⟩]))
  (.block 0 (.loop [0, 16, 17] (.seq (.ops [⟨0, some 18, .bin .lss (.tmp 17) (.tmp 16), none, []⟩])
  (.seq (.cond (.tmp 18) (.skip) (.exit 0))
  (.seq (.block 1 (.seq (.ops [⟨0, some 19, .mv (.tmp 17), none, []⟩, ⟨1, some 5, .mv (.tmp 19), none, []⟩])
  (.seq (.ops [⟨0, some 20, .mv (.tmp 0), none, []⟩, ⟨1, some 21, .mv (.tmp 5), none, []⟩, ⟨2, some 22, .ia (.tmp 20) (.tmp 21), none, []⟩, ⟨3, some 23, .ld (.tmp 22), none, []⟩, ⟨4, some 24, .call n_s_l03Long [.tmp 23], none, []⟩, ⟨5, some 25, .un .not (.tmp 24), none, []⟩, ⟨6, some 26, .mv (.tmp 25), none, []⟩, ⟨7, some 27, .mv (.tmp 0), (some (26, false)), []⟩, ⟨8, some 28, .mv (.tmp 5), (some (26, false)), []⟩, ⟨9, some 29, .ia (.tmp 27) (.tmp 28), (some (26, false)), []⟩, ⟨10, some 30, .ld (.tmp 29), (some (26, false)), []⟩, ⟨11, some 31, .len (.tmp 30), (some (26, false)), []⟩, ⟨12, some 32, .mv (.tmp 0), (some (26, false)), []⟩, ⟨13, some 33, .ia (.tmp 32) (.const (.int .i64 0)), (some (26, false)), []⟩, ⟨14, some 34, .ld (.tmp 33), (some (26, false)), []⟩, ⟨15, some 35, .len (.tmp 34), (some (26, false)), []⟩, ⟨16, some 36, .bin .neq (.tmp 31) (.tmp 35), (some (26, false)), []⟩, ⟨17, some 37, .pick (.tmp 26) (.const (.bool true)) (.tmp 36), none, []⟩])
  (.cond (.tmp 37) (.seq (.keep [] (.ops [⟨0, some 4, .mv (.const (.bool false)), none, []⟩]))
  (.ret)) (.skip)))))
  (.keep [0, 16, 17] (.ops [⟨0, some 38, .bin .add (.tmp 17) (.const (.int .i64 1)), none, []⟩, ⟨1, some 17, .mv (.tmp 38), none, []⟩]))))))))
  (.seq (.ops [⟨0, some 4, .mv (.const (.bool true)), none, []⟩])
  (.ret))))
theorem k_s_l03Rows : FnOk Try.prog n_s_l03Rows 2 c_s_l03Rows [.tmp 4] := ⟨by kernel_rfl⟩
def c_s_l00In : ACode :=
  .seq (.ops [⟨0, some 6, .mv (.const (.bool false)), none, []⟩])
  (.seq (.ops [⟨0, some 7, .mv (.tmp 0), none, []⟩, ⟨1, some 8, .mv (.tmp 1), none, []⟩, ⟨2, some 9, .bin .geq (.tmp 7) (.tmp 8), none, []⟩, ⟨3, some 10, .mv (.tmp 9), none, []⟩, ⟨4, some 11, .mv (.tmp 0), (some (10, true)), []⟩, ⟨5, some 12, .mv (.tmp 2), (some (10, true)), []⟩, ⟨6, some 13, .bin .leq (.tmp 11) (.tmp 12), (some (10, true)), []⟩, ⟨7, some 14, .pick (.tmp 10) (.tmp 13) (.const (.bool false)), none, []⟩, ⟨8, some 6, .mv (.tmp 14), none, []⟩])
  (.ret))
theorem k_s_l00In : FnOk Try.prog n_s_l00In 3 c_s_l00In [.tmp 6] := ⟨by kernel_rfl⟩
def c_s_l03Maxima : ACode :=
  .seq (.ops [⟨0, some 2, .mv (.const (.slice none 0 0)), none, []⟩])
  (.seq (.ops [⟨0, some 6, .bsl 2 0 (.int .i64 0) [], none, []⟩, ⟨1, some 3, .mv (.tmp 6), none, []⟩])
  (.seq (.seq (.ops [⟨0, some 7, .mv (.tmp 0), none, []⟩, ⟨1, some 8, .len (.tmp 7), none, []⟩, ⟨2, some 9, .mv (.const (.int .i64 0)), none, []⟩])
  (.block 0 (.loop [0, 3, 8, 9] (.seq (.ops [⟨0, some 10, .bin .lss (.tmp 9) (.tmp 8), none, []⟩])
  (.seq (.cond (.tmp 10) (.skip) (.exit 0))
  (.seq (.block 1 (.seq (.ops [⟨0, some 11, .mv (.tmp 9), none, []⟩, ⟨1, some 4, .mv (.tmp 11), none, []⟩])
  (.seq (.ops [⟨0, some 12, .mv (.tmp 0), none, []⟩, ⟨1, some 13, .mv (.tmp 4), none, []⟩, ⟨2, some 14, .ia (.tmp 12) (.tmp 13), none, []⟩, ⟨3, some 15, .ld (.tmp 14), none, []⟩, ⟨4, some 16, .call n_s_l03Size [.tmp 15], none, []⟩, ⟨5, some 5, .mv (.tmp 16), none, []⟩])
  (.seq (.keep [0, 3, 4, 5, 8, 9] (.ops [⟨0, some 17, .mv (.tmp 5), none, []⟩, ⟨1, some 18, .bin .gtr (.tmp 17) (.const (.float .f32 0)), none, []⟩, ⟨2, some 19, .mv (.tmp 18), none, []⟩, ⟨3, some 20, .mv (.tmp 4), (some (19, true)), []⟩, ⟨4, some 21, .bin .eql (.tmp 20) (.const (.int .i64 0)), (some (19, true)), []⟩, ⟨5, some 22, .mv (.tmp 21), (some (19, true)), []⟩, ⟨6, some 23, .mv (.tmp 5), (some (22, false)), []⟩, ⟨7, some 24, .mv (.tmp 0), (some (22, false)), []⟩, ⟨8, some 25, .mv (.tmp 4), (some (22, false)), []⟩, ⟨9, some 26, .bin .sub (.tmp 25) (.const (.int .i64 1)), (some (22, false)), []⟩, ⟨10, some 27, .ia (.tmp 24) (.tmp 26), (some (22, false)), []⟩, ⟨11, some 28, .ld (.tmp 27), (some (22, false)), []⟩, ⟨12, some 29, .call n_s_l03Size [.tmp 28], (some (22, false)), []⟩, ⟨13, some 30, .bin .gtr (.tmp 23) (.tmp 29), (some (22, false)), []⟩, ⟨14, some 31, .pick (.tmp 22) (.const (.bool true)) (.tmp 30), (some (19, true)), []⟩, ⟨15, some 32, .pick (.tmp 19) (.tmp 31) (.const (.bool false)), none, []⟩, ⟨16, some 33, .mv (.tmp 32), none, []⟩, ⟨17, some 34, .mv (.tmp 4), (some (33, true)), []⟩, ⟨18, some 35, .bin .add (.tmp 34) (.const (.int .i64 1)), (some (33, true)), []⟩, ⟨19, some 36, .mv (.tmp 0), (some (33, true)), []⟩, ⟨20, some 37, .len (.tmp 36), (some (33, true)), []⟩, ⟨21, some 38, .bin .eql (.tmp 35) (.tmp 37), (some (33, true)), []⟩, ⟨22, some 39, .mv (.tmp 38), (some (33, true)), []⟩, ⟨23, some 40, .mv (.tmp 5), (some (39, false)), []⟩, ⟨24, some 41, .mv (.tmp 0), (some (39, false)), []⟩, ⟨25, some 42, .mv (.tmp 4), (some (39, false)), []⟩, ⟨26, some 43, .bin .add (.tmp 42) (.const (.int .i64 1)), (some (39, false)), []⟩, ⟨27, some 44, .ia (.tmp 41) (.tmp 43), (some (39, false)), []⟩, ⟨28, some 45, .ld (.tmp 44), (some (39, false)), []⟩, ⟨29, some 46, .call n_s_l03Size [.tmp 45], (some (39, false)), []⟩, ⟨30, some 47, .bin .geq (.tmp 40) (.tmp 46), (some (39, false)), []⟩, ⟨31, some 48, .pick (.tmp 39) (.const (.bool true)) (.tmp 47), (some (33, true)), []⟩, ⟨32, some 49, .pick (.tmp 33) (.tmp 48) (.const (.bool false)), none, []⟩]))
  (.cond (.tmp 49) (.keep [0, 3, 4, 8, 9] (.ops [⟨0, some 50, .mv (.tmp 3), none, []⟩, ⟨1, some 51, .mv (.tmp 4), none, []⟩, ⟨2, some 52, .bsl 2 1 (.int .i64 0) [(0, .tmp 51)], none, []⟩, ⟨3, some 53, .app 2 8 (.tmp 50) (.tmp 52), none, []⟩, ⟨4, some 3, .mv (.tmp 53), none, []⟩])) (.skip))))))
  (.keep [0, 3, 8, 9] (.ops [⟨0, some 54, .bin .add (.tmp 9) (.const (.int .i64 1)), none, []⟩, ⟨1, some 9, .mv (.tmp 54), none, []⟩]))))))))
  (.seq (.ops [⟨0, some 55, .mv (.tmp 3), none, []⟩, ⟨1, some 2, .mv (.tmp 55), none, []⟩])
  (.ret))))
theorem k_s_l03Maxima : FnOk Try.prog n_s_l03Maxima 1 c_s_l03Maxima [.tmp 2] := ⟨by kernel_rfl⟩
def c_s_l03Apart : ACode :=
  .seq (.ops [⟨0, some 4, .mv (.const (.int .i64 0)), none, []⟩])
  (.seq (.seq (.ops [⟨0, some 5, .mv (.tmp 0), none, []⟩, ⟨1, some 6, .mv (.tmp 1), none, []⟩, ⟨2, some 7, .bin .lss (.tmp 5) (.tmp 6), none, []⟩])
  (.cond (.tmp 7) (.seq (.ops [⟨0, some 8, .mv (.tmp 1), none, []⟩, ⟨1, some 9, .mv (.tmp 0), none, []⟩, ⟨2, some 10, .bin .sub (.tmp 8) (.tmp 9), none, []⟩, ⟨3, some 4, .mv (.tmp 10), none, []⟩])
  (.ret)) (.skip)))
  (.seq (.ops [⟨0, some 11, .mv (.tmp 0), none, []⟩, ⟨1, some 12, .mv (.tmp 1), none, []⟩, ⟨2, some 13, .bin .sub (.tmp 11) (.tmp 12), none, []⟩, ⟨3, some 4, .mv (.tmp 13), none, []⟩])
  (.ret)))
theorem k_s_l03Apart : FnOk Try.prog n_s_l03Apart 2 c_s_l03Apart [.tmp 4] := ⟨by kernel_rfl⟩
def c_s_l03Long : ACode :=
  .seq (.ops [⟨0, some 2, .mv (.const (.bool false)), none, []⟩])
  (.seq (.ops [⟨0, some 3, .mv (.tmp 0), none, []⟩, ⟨1, some 4, .len (.tmp 3), none, []⟩, ⟨2, some 5, .bin .geq (.tmp 4) (.const (.int .i64 1)), none, []⟩, ⟨3, some 6, .mv (.tmp 5), none, []⟩, ⟨4, some 7, .mv (.tmp 0), (some (6, true)), []⟩, ⟨5, some 8, .len (.tmp 7), (some (6, true)), []⟩, ⟨6, some 9, .bin .leq (.tmp 8) (.const (.int .i64 128)), (some (6, true)), []⟩, ⟨7, some 10, .pick (.tmp 6) (.tmp 9) (.const (.bool false)), none, []⟩, ⟨8, some 11, .mv (.tmp 10), none, []⟩, ⟨9, some 12, .mv (.tmp 0), (some (11, true)), []⟩, ⟨10, some 13, .call n_s_l02Finite [.tmp 12], (some (11, true)), []⟩, ⟨11, some 14, .pick (.tmp 11) (.tmp 13) (.const (.bool false)), none, []⟩, ⟨12, some 2, .mv (.tmp 14), none, []⟩])
  (.ret))
theorem k_s_l03Long : FnOk Try.prog n_s_l03Long 1 c_s_l03Long [.tmp 2] := ⟨by kernel_rfl⟩
def c_s_l03Pair : ACode :=
  .seq (.ops [⟨0, some 2, .mv (.const (.bool false)), none, []⟩])
  (.seq (.ops [⟨0, some 7, .mv (.tmp 0), none, []⟩, ⟨1, some 8, .nc (.tmp 7), none, []⟩, ⟨2, some 9, .fa 0 (.tmp 8), none, []⟩, ⟨3, some 10, .ld (.tmp 9), none, []⟩, ⟨4, some 11, .len (.tmp 10), none, []⟩, ⟨5, some 3, .mv (.tmp 11), none, []⟩])
  (.seq (.seq (.keep [0, 3] (.ops [⟨0, some 12, .mv (.tmp 3), none, []⟩, ⟨1, some 13, .bin .lss (.tmp 12) (.const (.int .i64 2)), none, []⟩, ⟨2, some 14, .mv (.tmp 13), none, []⟩, ⟨3, some 15, .mv (.tmp 3), (some (14, false)), []⟩, ⟨4, some 16, .bin .gtr (.tmp 15) (.const (.int .i64 8)), (some (14, false)), []⟩, ⟨5, some 17, .pick (.tmp 14) (.const (.bool true)) (.tmp 16), none, []⟩, ⟨6, some 18, .mv (.tmp 17), none, []⟩, ⟨7, some 19, .mv (.tmp 3), (some (18, false)), []⟩, ⟨8, some 20, .bin .rem (.tmp 19) (.const (.int .i64 2)), (some (18, false)), []⟩, ⟨9, some 21, .bin .neq (.tmp 20) (.const (.int .i64 0)), (some (18, false)), []⟩, ⟨10, some 22, .pick (.tmp 18) (.const (.bool true)) (.tmp 21), none, []⟩, ⟨11, some 23, .mv (.tmp 22), none, []⟩, ⟨12, some 24, .mv (.tmp 0), (some (23, false)), []⟩, ⟨13, some 25, .nc (.tmp 24), (some (23, false)), []⟩, ⟨14, some 26, .fa 0 (.tmp 25), (some (23, false)), []⟩, ⟨15, some 27, .ld (.tmp 26), (some (23, false)), []⟩, ⟨16, some 28, .call n_s_l02Finite [.tmp 27], (some (23, false)), []⟩, ⟨17, some 29, .un .not (.tmp 28), (some (23, false)), []⟩, ⟨18, some 30, .pick (.tmp 23) (.const (.bool true)) (.tmp 29), none, []⟩]))
  (.cond (.tmp 30) (.seq (.keep [] (.ops [⟨0, some 2, .mv (.const (.bool false)), none, []⟩]))
  (.ret)) (.skip)))
  (.seq (.seq (.keep [0, 3] (.ops [⟨0, some 4, .mv (.const (.int .i64 0)), none, []⟩]))
  (.block 0 (.loop [0, 3, 4] (.seq (.seq (.ops [⟨0, some 31, .mv (.tmp 4), none, []⟩, ⟨1, some 32, .mv (.tmp 3), none, []⟩, ⟨2, some 33, .bin .lss (.tmp 31) (.tmp 32), none, []⟩])
  (.cond (.tmp 33) (.skip) (.exit 0)))
  (.seq (.block 1 (.seq (.ops [⟨0, some 5, .mv (.const (.float .f32 0)), none, []⟩])
  (.seq (.seq (.ops [⟨0, some 6, .mv (.const (.int .i64 0)), none, []⟩])
  (.block 2 (.loop [0, 3, 4, 5, 6] (.seq (.seq (.ops [⟨0, some 36, .mv (.tmp 6), none, []⟩, ⟨1, some 37, .mv (.tmp 4), none, []⟩, ⟨2, some 38, .bin .add (.tmp 36) (.tmp 37), none, []⟩, ⟨3, some 39, .mv (.tmp 3), none, []⟩, ⟨4, some 40, .bin .lss (.tmp 38) (.tmp 39), none, []⟩])
  (.cond (.tmp 40) (.skip) (.exit 2)))
  (.seq (.block 3 (.keep [0, 3, 4, 5, 6] (.ops [⟨0, some 43, .mv (.tmp 5), none, []⟩, ⟨1, some 44, .mv (.tmp 0), none, []⟩, ⟨2, some 45, .nc (.tmp 44), none, []⟩, ⟨3, some 46, .fa 0 (.tmp 45), none, []⟩, ⟨4, some 47, .ld (.tmp 46), none, []⟩, ⟨5, some 48, .mv (.tmp 6), none, []⟩, ⟨6, some 49, .ia (.tmp 47) (.tmp 48), none, []⟩, ⟨7, some 50, .ld (.tmp 49), none, []⟩, ⟨8, some 51, .mv (.tmp 0), none, []⟩, ⟨9, some 52, .nc (.tmp 51), none, []⟩, ⟨10, some 53, .fa 0 (.tmp 52), none, []⟩, ⟨11, some 54, .ld (.tmp 53), none, []⟩, ⟨12, some 55, .mv (.tmp 6), none, []⟩, ⟨13, some 56, .mv (.tmp 4), none, []⟩, ⟨14, some 57, .bin .add (.tmp 55) (.tmp 56), none, []⟩, ⟨15, some 58, .ia (.tmp 54) (.tmp 57), none, []⟩, ⟨16, some 59, .ld (.tmp 58), none, []⟩, ⟨17, some 60, .bin .mul (.tmp 50) (.tmp 59), none, []⟩, ⟨18, some 61, .bin .add (.tmp 43) (.tmp 60), none, []⟩, ⟨19, some 5, .mv (.tmp 61), none, []⟩])))
  (.keep [0, 3, 4, 5, 6] (.ops [⟨0, some 41, .mv (.tmp 6), none, []⟩, ⟨1, some 42, .bin .add (.tmp 41) (.const (.int .i64 1)), none, []⟩, ⟨2, some 6, .mv (.tmp 42), none, []⟩])))))))
  (.seq (.seq (.keep [0, 3, 4, 5] (.ops [⟨0, some 62, .mv (.tmp 4), none, []⟩, ⟨1, some 63, .bin .eql (.tmp 62) (.const (.int .i64 0)), none, []⟩]))
  (.cond (.tmp 63) (.ops [⟨0, some 64, .mv (.tmp 5), none, []⟩, ⟨1, some 65, .bin .sub (.tmp 64) (.const (.float .f32 1065353216)), none, []⟩, ⟨2, some 5, .mv (.tmp 65), none, []⟩]) (.skip)))
  (.seq (.ops [⟨0, some 66, .mv (.tmp 5), none, []⟩, ⟨1, some 67, .bin .leq (.tmp 66) (.const (.float .f32 981668463)), none, []⟩, ⟨2, some 68, .mv (.tmp 67), none, []⟩, ⟨3, some 69, .mv (.tmp 5), (some (68, true)), []⟩, ⟨4, some 70, .bin .geq (.tmp 69) (.const (.float .f32 3129152111)), (some (68, true)), []⟩, ⟨5, some 71, .pick (.tmp 68) (.tmp 70) (.const (.bool false)), none, []⟩, ⟨6, some 72, .un .not (.tmp 71), none, []⟩])
  (.cond (.tmp 72) (.seq (.keep [] (.ops [⟨0, some 2, .mv (.const (.bool false)), none, []⟩]))
  (.ret)) (.skip)))))))
  (.keep [0, 3, 4] (.ops [⟨0, some 34, .mv (.tmp 4), none, []⟩, ⟨1, some 35, .bin .add (.tmp 34) (.const (.int .i64 2)), none, []⟩, ⟨2, some 4, .mv (.tmp 35), none, []⟩])))))))
  (.seq (.keep [] (.ops [⟨0, some 2, .mv (.const (.bool true)), none, []⟩]))
  (.ret)))))
theorem k_s_l03Pair : FnOk Try.prog n_s_l03Pair 1 c_s_l03Pair [.tmp 2] := ⟨by kernel_rfl⟩
def c_s_SplitRing : ACode :=
  .seq (.ops [⟨0, some 3, .box 26 (.tmp 1), none, []⟩, ⟨1, some 4, .mv (.const (.slice none 0 0)), none, []⟩, ⟨2, some 5, .mv (.const (.slice none 0 0)), none, []⟩, ⟨3, some 6, .mv (.const (.bool false)), none, []⟩])
  (.seq (.seq (.ops [⟨0, some 9, .mv (.tmp 0), none, []⟩, ⟨1, some 10, .call n_s_l03Long [.tmp 9], none, []⟩, ⟨2, some 11, .un .not (.tmp 10), none, []⟩, ⟨3, some 12, .mv (.tmp 11), none, []⟩, ⟨4, some 13, .mv (.tmp 0), (some (12, false)), []⟩, ⟨5, some 14, .len (.tmp 13), (some (12, false)), []⟩, ⟨6, some 15, .bin .rem (.tmp 14) (.const (.int .i64 2)), (some (12, false)), []⟩, ⟨7, some 16, .bin .neq (.tmp 15) (.const (.int .i64 0)), (some (12, false)), []⟩, ⟨8, some 17, .pick (.tmp 12) (.const (.bool true)) (.tmp 16), none, []⟩, ⟨9, some 18, .mv (.tmp 17), none, []⟩, ⟨10, some 19, .call n_s_l03Pair [.tmp 3], (some (18, false)), []⟩, ⟨11, some 20, .un .not (.tmp 19), (some (18, false)), []⟩, ⟨12, some 21, .pick (.tmp 18) (.const (.bool true)) (.tmp 20), none, []⟩])
  (.cond (.tmp 21) (.seq (.keep [] (.ops [⟨0, some 4, .mv (.const (.slice none 0 0)), none, []⟩, ⟨1, some 5, .mv (.const (.slice none 0 0)), none, []⟩, ⟨2, some 6, .mv (.const (.bool false)), none, []⟩]))
  (.ret)) (.skip)))
  (.seq (.keep [0, 3] (.ops [⟨0, some 22, .mv (.tmp 0), none, []⟩, ⟨1, some 23, .fa 0 (.tmp 3), none, []⟩, ⟨2, some 24, .ld (.tmp 23), none, []⟩, ⟨3, some 25, .call n_s_l03Taps [.tmp 22, .tmp 24], none, []⟩, ⟨4, some 7, .mv (.tmp 25), none, []⟩]))
  (.seq (.ops [⟨0, some 26, .mv (.tmp 0), none, []⟩, ⟨1, some 27, .call n_s_l03High [.tmp 3], none, []⟩, ⟨2, some 28, .call n_s_l03Taps [.tmp 26, .tmp 27], none, []⟩, ⟨3, some 8, .mv (.tmp 28), none, []⟩])
  (.seq (.seq (.keep [7, 8] (.ops [⟨0, some 29, .mv (.tmp 7), none, []⟩, ⟨1, some 30, .call n_s_l02Finite [.tmp 29], none, []⟩, ⟨2, some 31, .un .not (.tmp 30), none, []⟩, ⟨3, some 32, .mv (.tmp 31), none, []⟩, ⟨4, some 33, .mv (.tmp 8), (some (32, false)), []⟩, ⟨5, some 34, .call n_s_l02Finite [.tmp 33], (some (32, false)), []⟩, ⟨6, some 35, .un .not (.tmp 34), (some (32, false)), []⟩, ⟨7, some 36, .pick (.tmp 32) (.const (.bool true)) (.tmp 35), none, []⟩]))
  (.cond (.tmp 36) (.seq (.keep [] (.ops [⟨0, some 4, .mv (.const (.slice none 0 0)), none, []⟩, ⟨1, some 5, .mv (.const (.slice none 0 0)), none, []⟩, ⟨2, some 6, .mv (.const (.bool false)), none, []⟩]))
  (.ret)) (.skip)))
  (.seq (.keep [7, 8] (.ops [⟨0, some 37, .mv (.tmp 7), none, []⟩, ⟨1, some 38, .mv (.tmp 8), none, []⟩, ⟨2, some 4, .mv (.tmp 37), none, []⟩, ⟨3, some 5, .mv (.tmp 38), none, []⟩, ⟨4, some 6, .mv (.const (.bool true)), none, []⟩]))
  (.ret))))))
theorem k_s_SplitRing : FnOk Try.prog n_s_SplitRing 2 c_s_SplitRing [.tmp 4, .tmp 5, .tmp 6] := ⟨by kernel_rfl⟩
def c_s_PowersOfBands : ACode :=
  .seq (.ops [⟨0, some 1, .box 32 (.tmp 0), none, []⟩, ⟨1, some 2, .mv (.const (.slice none 0 0)), none, []⟩, ⟨2, some 3, .mv (.const (.bool false)), none, []⟩])
  (.seq (.seq (.ops [⟨0, some 6, .call n_s_l03Bands [.tmp 1], none, []⟩, ⟨1, some 7, .un .not (.tmp 6), none, []⟩])
  (.cond (.tmp 7) (.seq (.keep [] (.ops [⟨0, some 2, .mv (.const (.slice none 0 0)), none, []⟩, ⟨1, some 3, .mv (.const (.bool false)), none, []⟩]))
  (.ret)) (.skip)))
  (.seq (.keep [1] (.ops [⟨0, some 8, .bsl 41 0 (.float .f32 0) [], none, []⟩, ⟨1, some 4, .mv (.tmp 8), none, []⟩]))
  (.seq (.seq (.ops [⟨0, some 9, .fa 1 (.tmp 1), none, []⟩, ⟨1, some 10, .ld (.tmp 9), none, []⟩, ⟨2, some 11, .len (.tmp 10), none, []⟩, ⟨3, some 12, .mv (.const (.int .i64 0)), none, []⟩])
  (.block 0 (.loop [1, 4, 11, 12] (.seq (.ops [⟨0, some 13, .bin .lss (.tmp 12) (.tmp 11), none, []⟩])
  (.seq (.cond (.tmp 13) (.skip) (.exit 0))
  (.seq (.block 1 (.seq (.ops [⟨0, some 14, .mv (.tmp 12), none, []⟩, ⟨1, some 5, .mv (.tmp 14), none, []⟩])
  (.ops [⟨0, some 15, .mv (.tmp 4), none, []⟩, ⟨1, some 16, .fa 1 (.tmp 1), none, []⟩, ⟨2, some 17, .ld (.tmp 16), none, []⟩, ⟨3, some 18, .mv (.tmp 5), none, []⟩, ⟨4, some 19, .ia (.tmp 17) (.tmp 18), none, []⟩, ⟨5, some 20, .ld (.tmp 19), none, []⟩, ⟨6, some 21, .call n_s_l03Energy [.tmp 20], none, []⟩, ⟨7, some 22, .bsl 41 1 (.float .f32 0) [(0, .tmp 21)], none, []⟩, ⟨8, some 23, .app 41 4 (.tmp 15) (.tmp 22), none, []⟩, ⟨9, some 4, .mv (.tmp 23), none, []⟩])))
  (.keep [1, 4, 11, 12] (.ops [⟨0, some 24, .bin .add (.tmp 12) (.const (.int .i64 1)), none, []⟩, ⟨1, some 12, .mv (.tmp 24), none, []⟩]))))))))
  (.seq (.ops [⟨0, some 25, .mv (.tmp 4), none, []⟩, ⟨1, some 26, .fa 0 (.tmp 1), none, []⟩, ⟨2, some 27, .ld (.tmp 26), none, []⟩, ⟨3, some 28, .call n_s_l03Energy [.tmp 27], none, []⟩, ⟨4, some 29, .bsl 41 1 (.float .f32 0) [(0, .tmp 28)], none, []⟩, ⟨5, some 30, .app 41 4 (.tmp 25) (.tmp 29), none, []⟩, ⟨6, some 4, .mv (.tmp 30), none, []⟩])
  (.seq (.seq (.keep [4] (.ops [⟨0, some 31, .mv (.tmp 4), none, []⟩, ⟨1, some 32, .call n_s_l02Finite [.tmp 31], none, []⟩, ⟨2, some 33, .un .not (.tmp 32), none, []⟩]))
  (.cond (.tmp 33) (.seq (.ops [⟨0, some 2, .mv (.const (.slice none 0 0)), none, []⟩, ⟨1, some 3, .mv (.const (.bool false)), none, []⟩])
  (.ret)) (.skip)))
  (.seq (.ops [⟨0, some 34, .mv (.tmp 4), none, []⟩, ⟨1, some 2, .mv (.tmp 34), none, []⟩, ⟨2, some 3, .mv (.const (.bool true)), none, []⟩])
  (.ret)))))))
theorem k_s_PowersOfBands : FnOk Try.prog n_s_PowersOfBands 1 c_s_PowersOfBands [.tmp 2, .tmp 3] := ⟨by kernel_rfl⟩
def c_s_l01Log : ACode :=
  .seq (.ops [⟨0, some 2, .mv (.const (.float .f32 0)), none, []⟩])
  (.seq (.ops [⟨0, some 3, .mv (.tmp 0), none, []⟩, ⟨1, some 4, .cv (.f .f64) (.tmp 3), none, []⟩, ⟨2, some 5, .call n_s_l01LogWide [.tmp 4], none, []⟩, ⟨3, some 6, .call n_s_l01Narrow [.tmp 5], none, []⟩, ⟨4, some 2, .mv (.tmp 6), none, []⟩])
  (.ret))
theorem k_s_l01Log : FnOk Try.prog n_s_l01Log 1 c_s_l01Log [.tmp 2] := ⟨by kernel_rfl⟩
def c_s_l02Number : ACode :=
  .seq (.ops [⟨0, some 2, .mv (.const (.float .f32 0)), none, []⟩, ⟨1, some 3, .mv (.const (.bool false)), none, []⟩])
  (.seq (.seq (.ops [⟨0, some 4, .mv (.tmp 0), none, []⟩, ⟨1, some 5, .call n_s_l01Finite [.tmp 4], none, []⟩, ⟨2, some 6, .un .not (.tmp 5), none, []⟩])
  (.cond (.tmp 6) (.seq (.keep [] (.ops [⟨0, some 2, .mv (.const (.float .f32 0)), none, []⟩, ⟨1, some 3, .mv (.const (.bool false)), none, []⟩]))
  (.ret)) (.skip)))
  (.seq (.keep [0] (.ops [⟨0, some 7, .mv (.tmp 0), none, []⟩, ⟨1, some 2, .mv (.tmp 7), none, []⟩, ⟨2, some 3, .mv (.const (.bool true)), none, []⟩]))
  (.ret)))
theorem k_s_l02Number : FnOk Try.prog n_s_l02Number 1 c_s_l02Number [.tmp 2, .tmp 3] := ⟨by kernel_rfl⟩
def c_i_LogNumber : ACode :=
  .seq (.ops [⟨0, some 2, .mv (.const (.float .f32 0)), none, []⟩])
  (.seq (.block 0 (.seq (.ops [⟨0, some 4, .mv (.tmp 0), none, []⟩, ⟨1, some 5, .bin .eql (.tmp 4) (.const (.float .f32 0)), none, []⟩, ⟨2, some 3, .mv (.tmp 5), none, []⟩])
  (.cond (.tmp 3) (.seq (.keep [] (.ops [⟨0, some 6, .call n_m_Inf [.const (.int .i64 (-1))], none, []⟩, ⟨1, some 7, .cv (.f .f32) (.tmp 6), none, []⟩, ⟨2, some 2, .mv (.tmp 7), none, []⟩]))
  (.ret)) (.seq (.ops [⟨0, some 9, .mv (.tmp 0), none, []⟩, ⟨1, some 10, .bin .lss (.tmp 9) (.const (.float .f32 0)), none, []⟩, ⟨2, some 11, .mv (.tmp 10), none, []⟩, ⟨3, some 12, .mv (.tmp 0), (some (11, false)), []⟩, ⟨4, some 13, .mv (.tmp 0), (some (11, false)), []⟩, ⟨5, some 14, .bin .neq (.tmp 12) (.tmp 13), (some (11, false)), []⟩, ⟨6, some 15, .pick (.tmp 11) (.const (.bool true)) (.tmp 14), none, []⟩, ⟨7, some 8, .mv (.tmp 15), none, []⟩])
  (.cond (.tmp 8) (.seq (.keep [] (.ops [⟨0, some 16, .call n_m_NaN [], none, []⟩, ⟨1, some 17, .cv (.f .f32) (.tmp 16), none, []⟩, ⟨2, some 2, .mv (.tmp 17), none, []⟩]))
  (.ret)) (.seq (.keep [0] (.ops [⟨0, some 19, .mv (.tmp 0), none, []⟩, ⟨1, some 20, .call n_i_IsFinite [.tmp 19], none, []⟩, ⟨2, some 21, .un .not (.tmp 20), none, []⟩, ⟨3, some 18, .mv (.tmp 21), none, []⟩]))
  (.cond (.tmp 18) (.seq (.ops [⟨0, some 22, .mv (.tmp 0), none, []⟩, ⟨1, some 2, .mv (.tmp 22), none, []⟩])
  (.ret)) (.skip))))))))
  (.seq (.ops [⟨0, some 23, .mv (.tmp 0), none, []⟩, ⟨1, some 24, .cv (.f .f64) (.tmp 23), none, []⟩, ⟨2, some 25, .call n_i_naturalLog [.tmp 24], none, []⟩, ⟨3, some 26, .cv (.f .f32) (.tmp 25), none, []⟩, ⟨4, some 2, .mv (.tmp 26), none, []⟩])
  (.ret)))
theorem k_i_LogNumber : FnOk Try.prog n_i_LogNumber 1 c_i_LogNumber [.tmp 2] := ⟨by kernel_rfl⟩
def c_s_l00Src_next : ACode :=
  .seq (.ops [⟨0, some 2, .mv (.const (.int .i64 0)), none, []⟩])
  (.seq (.ops [⟨0, some 3, .mv (.const (.int .i64 0)), none, []⟩])
  (.seq (.seq (.ops [⟨0, some 4, .mv (.tmp 0), none, []⟩, ⟨1, some 5, .nc (.tmp 4), none, []⟩, ⟨2, some 6, .fa 1 (.tmp 5), none, []⟩, ⟨3, some 7, .ld (.tmp 6), none, []⟩, ⟨4, some 8, .mv (.tmp 0), none, []⟩, ⟨5, some 9, .nc (.tmp 8), none, []⟩, ⟨6, some 10, .fa 0 (.tmp 9), none, []⟩, ⟨7, some 11, .ld (.tmp 10), none, []⟩, ⟨8, some 12, .len (.tmp 11), none, []⟩, ⟨9, some 13, .bin .lss (.tmp 7) (.tmp 12), none, []⟩])
  (.cond (.tmp 13) (.keep [0] (.ops [⟨0, some 14, .mv (.tmp 0), none, []⟩, ⟨1, some 15, .nc (.tmp 14), none, []⟩, ⟨2, some 16, .fa 0 (.tmp 15), none, []⟩, ⟨3, some 17, .ld (.tmp 16), none, []⟩, ⟨4, some 18, .mv (.tmp 0), none, []⟩, ⟨5, some 19, .nc (.tmp 18), none, []⟩, ⟨6, some 20, .fa 1 (.tmp 19), none, []⟩, ⟨7, some 21, .ld (.tmp 20), none, []⟩, ⟨8, some 22, .ia (.tmp 17) (.tmp 21), none, []⟩, ⟨9, some 23, .ld (.tmp 22), none, []⟩, ⟨10, some 24, .cv (.i .i64) (.tmp 23), none, []⟩, ⟨11, some 3, .mv (.tmp 24), none, []⟩])) (.skip)))
  (.seq (.keep [0, 3] (.ops [⟨0, some 25, .mv (.tmp 0), none, []⟩, ⟨1, some 26, .nc (.tmp 25), none, []⟩, ⟨2, some 27, .fa 1 (.tmp 26), none, []⟩, ⟨3, some 28, .ld (.tmp 27), none, []⟩, ⟨4, some 29, .bin .add (.tmp 28) (.const (.int .i64 1)), none, []⟩, ⟨5, some 30, .nc (.tmp 25), none, []⟩, ⟨6, some 31, .fa 1 (.tmp 30), none, []⟩, ⟨7, none, .st (.tmp 31) (.tmp 29), none, []⟩]))
  (.seq (.keep [0, 3] (.ops [⟨0, some 32, .mv (.tmp 0), none, []⟩, ⟨1, some 33, .mv (.tmp 0), none, []⟩, ⟨2, some 34, .nc (.tmp 33), none, []⟩, ⟨3, some 35, .fa 2 (.tmp 34), none, []⟩, ⟨4, some 36, .ld (.tmp 35), none, []⟩, ⟨5, some 37, .bin .mul (.tmp 36) (.const (.int .u64 6364136223846793005)), none, []⟩, ⟨6, some 38, .mv (.tmp 3), none, []⟩, ⟨7, some 39, .cv (.i .u64) (.tmp 38), none, []⟩, ⟨8, some 40, .bin .add (.tmp 37) (.tmp 39), none, []⟩, ⟨9, some 41, .bin .add (.tmp 40) (.const (.int .u64 1442695040888963407)), none, []⟩, ⟨10, some 42, .nc (.tmp 32), none, []⟩, ⟨11, some 43, .fa 2 (.tmp 42), none, []⟩, ⟨12, none, .st (.tmp 43) (.tmp 41), none, []⟩]))
  (.seq (.seq (.keep [0, 3] (.ops [⟨0, some 44, .mv (.tmp 0), none, []⟩, ⟨1, some 45, .nc (.tmp 44), none, []⟩, ⟨2, some 46, .fa 1 (.tmp 45), none, []⟩, ⟨3, some 47, .ld (.tmp 46), none, []⟩, ⟨4, some 48, .mv (.tmp 0), none, []⟩, ⟨5, some 49, .nc (.tmp 48), none, []⟩, ⟨6, some 50, .fa 0 (.tmp 49), none, []⟩, ⟨7, some 51, .ld (.tmp 50), none, []⟩, ⟨8, some 52, .len (.tmp 51), none, []⟩, ⟨9, some 53, .bin .leq (.tmp 47) (.tmp 52), none, []⟩]))
  (.cond (.tmp 53) (.seq (.keep [3] (.ops [⟨0, some 54, .mv (.tmp 3), none, []⟩, ⟨1, some 2, .mv (.tmp 54), none, []⟩]))
  (.ret)) (.skip)))
  (.seq (.keep [0] (.ops [⟨0, some 55, .mv (.tmp 0), none, []⟩, ⟨1, some 56, .nc (.tmp 55), none, []⟩, ⟨2, some 57, .fa 2 (.tmp 56), none, []⟩, ⟨3, some 58, .ld (.tmp 57), none, []⟩, ⟨4, some 59, .bin .shr (.tmp 58) (.const (.int .u64 40)), none, []⟩, ⟨5, some 60, .bin .and (.tmp 59) (.const (.int .u64 255)), none, []⟩, ⟨6, some 61, .cv (.i .i64) (.tmp 60), none, []⟩, ⟨7, some 2, .mv (.tmp 61), none, []⟩]))
  (.ret)))))))
theorem k_s_l00Src_next : FnOk Try.prog n_s_l00Src_next 1 c_s_l00Src_next [.tmp 2] := ⟨by kernel_rfl⟩
def c_s_l02Finite : ACode :=
  .seq (.ops [⟨0, some 2, .mv (.const (.bool false)), none, []⟩])
  (.seq (.seq (.ops [⟨0, some 3, .mv (.const (.int .i64 0)), none, []⟩])
  (.block 0 (.loop [0, 3] (.seq (.seq (.ops [⟨0, some 4, .mv (.tmp 3), none, []⟩, ⟨1, some 5, .mv (.tmp 0), none, []⟩, ⟨2, some 6, .len (.tmp 5), none, []⟩, ⟨3, some 7, .bin .lss (.tmp 4) (.tmp 6), none, []⟩])
  (.cond (.tmp 7) (.skip) (.exit 0)))
  (.seq (.block 1 (.seq (.ops [⟨0, some 10, .mv (.tmp 0), none, []⟩, ⟨1, some 11, .mv (.tmp 3), none, []⟩, ⟨2, some 12, .ia (.tmp 10) (.tmp 11), none, []⟩, ⟨3, some 13, .ld (.tmp 12), none, []⟩, ⟨4, some 14, .call n_s_l01Finite [.tmp 13], none, []⟩, ⟨5, some 15, .un .not (.tmp 14), none, []⟩])
  (.cond (.tmp 15) (.seq (.keep [] (.ops [⟨0, some 2, .mv (.const (.bool false)), none, []⟩]))
  (.ret)) (.skip))))
  (.keep [0, 3] (.ops [⟨0, some 8, .mv (.tmp 3), none, []⟩, ⟨1, some 9, .bin .add (.tmp 8) (.const (.int .i64 1)), none, []⟩, ⟨2, some 3, .mv (.tmp 9), none, []⟩])))))))
  (.seq (.keep [] (.ops [⟨0, some 2, .mv (.const (.bool true)), none, []⟩]))
  (.ret)))
theorem k_s_l02Finite : FnOk Try.prog n_s_l02Finite 1 c_s_l02Finite [.tmp 2] := ⟨by kernel_rfl⟩
def c_i_IsFinite : ACode :=
  .seq (.ops [⟨0, some 2, .mv (.const (.bool false)), none, []⟩])
  (.seq (.ops [⟨0, some 3, .mv (.tmp 0), none, []⟩, ⟨1, some 4, .mv (.tmp 0), none, []⟩, ⟨2, some 5, .bin .sub (.tmp 3) (.tmp 4), none, []⟩, ⟨3, some 6, .bin .eql (.tmp 5) (.const (.float .f32 0)), none, []⟩, ⟨4, some 2, .mv (.tmp 6), none, []⟩])
  (.ret))
theorem k_i_IsFinite : FnOk Try.prog n_i_IsFinite 1 c_i_IsFinite [.tmp 2] := ⟨by kernel_rfl⟩
def c_s_l03Size : ACode :=
  .seq (.ops [⟨0, some 2, .mv (.const (.float .f32 0)), none, []⟩])
  (.seq (.seq (.ops [⟨0, some 3, .mv (.tmp 0), none, []⟩, ⟨1, some 4, .bin .leq (.tmp 3) (.const (.float .f32 0)), none, []⟩])
  (.cond (.tmp 4) (.seq (.ops [⟨0, some 5, .mv (.tmp 0), none, []⟩, ⟨1, some 6, .bin .sub (.const (.float .f32 0)) (.tmp 5), none, []⟩, ⟨2, some 2, .mv (.tmp 6), none, []⟩])
  (.ret)) (.skip)))
  (.seq (.ops [⟨0, some 7, .mv (.tmp 0), none, []⟩, ⟨1, some 2, .mv (.tmp 7), none, []⟩])
  (.ret)))
theorem k_s_l03Size : FnOk Try.prog n_s_l03Size 1 c_s_l03Size [.tmp 2] := ⟨by kernel_rfl⟩
def c_s_l03Taps : ACode :=
  .seq (.ops [⟨0, some 4, .mv (.const (.slice none 0 0)), none, []⟩])
  (.seq (.ops [⟨0, some 10, .mv (.tmp 0), none, []⟩, ⟨1, some 11, .len (.tmp 10), none, []⟩, ⟨2, some 5, .mv (.tmp 11), none, []⟩])
  (.seq (.ops [⟨0, some 12, .bsl 41 0 (.float .f32 0) [], none, []⟩, ⟨1, some 6, .mv (.tmp 12), none, []⟩])
  (.seq (.seq (.ops [⟨0, some 7, .mv (.const (.int .i64 0)), none, []⟩])
  (.block 0 (.loop [0, 1, 5, 6, 7] (.seq (.seq (.ops [⟨0, some 13, .mv (.tmp 7), none, []⟩, ⟨1, some 14, .bin .mul (.const (.int .i64 2)) (.tmp 13), none, []⟩, ⟨2, some 15, .mv (.tmp 5), none, []⟩, ⟨3, some 16, .bin .lss (.tmp 14) (.tmp 15), none, []⟩])
  (.cond (.tmp 16) (.skip) (.exit 0)))
  (.seq (.block 1 (.seq (.ops [⟨0, some 8, .mv (.const (.float .f32 0)), none, []⟩])
  (.seq (.seq (.ops [⟨0, some 19, .mv (.tmp 1), none, []⟩, ⟨1, some 20, .len (.tmp 19), none, []⟩, ⟨2, some 21, .mv (.const (.int .i64 0)), none, []⟩])
  (.block 2 (.loop [0, 1, 5, 6, 7, 8, 20, 21] (.seq (.ops [⟨0, some 22, .bin .lss (.tmp 21) (.tmp 20), none, []⟩])
  (.seq (.cond (.tmp 22) (.skip) (.exit 2))
  (.seq (.block 3 (.seq (.ops [⟨0, some 23, .mv (.tmp 21), none, []⟩, ⟨1, some 9, .mv (.tmp 23), none, []⟩])
  (.ops [⟨0, some 24, .mv (.tmp 8), none, []⟩, ⟨1, some 25, .mv (.tmp 1), none, []⟩, ⟨2, some 26, .mv (.tmp 9), none, []⟩, ⟨3, some 27, .ia (.tmp 25) (.tmp 26), none, []⟩, ⟨4, some 28, .ld (.tmp 27), none, []⟩, ⟨5, some 29, .mv (.tmp 0), none, []⟩, ⟨6, some 30, .mv (.tmp 7), none, []⟩, ⟨7, some 31, .bin .mul (.const (.int .i64 2)) (.tmp 30), none, []⟩, ⟨8, some 32, .mv (.tmp 9), none, []⟩, ⟨9, some 33, .bin .add (.tmp 31) (.tmp 32), none, []⟩, ⟨10, some 34, .mv (.tmp 5), none, []⟩, ⟨11, some 35, .bin .rem (.tmp 33) (.tmp 34), none, []⟩, ⟨12, some 36, .ia (.tmp 29) (.tmp 35), none, []⟩, ⟨13, some 37, .ld (.tmp 36), none, []⟩, ⟨14, some 38, .bin .mul (.tmp 28) (.tmp 37), none, []⟩, ⟨15, some 39, .bin .add (.tmp 24) (.tmp 38), none, []⟩, ⟨16, some 8, .mv (.tmp 39), none, []⟩])))
  (.keep [0, 1, 5, 6, 7, 8, 20, 21] (.ops [⟨0, some 40, .bin .add (.tmp 21) (.const (.int .i64 1)), none, []⟩, ⟨1, some 21, .mv (.tmp 40), none, []⟩]))))))))
  (.ops [⟨0, some 41, .mv (.tmp 6), none, []⟩, ⟨1, some 42, .mv (.tmp 8), none, []⟩, ⟨2, some 43, .bsl 41 1 (.float .f32 0) [(0, .tmp 42)], none, []⟩, ⟨3, some 44, .app 41 4 (.tmp 41) (.tmp 43), none, []⟩, ⟨4, some 6, .mv (.tmp 44), none, []⟩]))))
  (.keep [0, 1, 5, 6, 7] (.ops [⟨0, some 17, .mv (.tmp 7), none, []⟩, ⟨1, some 18, .bin .add (.tmp 17) (.const (.int .i64 1)), none, []⟩, ⟨2, some 7, .mv (.tmp 18), none, []⟩])))))))
  (.seq (.keep [6] (.ops [⟨0, some 45, .mv (.tmp 6), none, []⟩, ⟨1, some 4, .mv (.tmp 45), none, []⟩]))
  (.ret)))))
theorem k_s_l03Taps : FnOk Try.prog n_s_l03Taps 2 c_s_l03Taps [.tmp 4] := ⟨by kernel_rfl⟩
def c_s_l03High : ACode :=
  .seq (.ops [⟨0, some 2, .mv (.const (.slice none 0 0)), none, []⟩])
  (.seq (.ops [⟨0, some 7, .bsl 41 0 (.float .f32 0) [], none, []⟩, ⟨1, some 3, .mv (.tmp 7), none, []⟩])
  (.seq (.ops [⟨0, some 8, .mv (.tmp 0), none, []⟩, ⟨1, some 9, .nc (.tmp 8), none, []⟩, ⟨2, some 10, .fa 0 (.tmp 9), none, []⟩, ⟨3, some 11, .ld (.tmp 10), none, []⟩, ⟨4, some 12, .len (.tmp 11), none, []⟩, ⟨5, some 4, .mv (.tmp 12), none, []⟩])
  (.seq (.seq (.keep [0, 3, 4] (.ops [⟨0, some 5, .mv (.const (.int .i64 0)), none, []⟩]))
  (.block 0 (.loop [0, 3, 4, 5] (.seq (.seq (.ops [⟨0, some 13, .mv (.tmp 5), none, []⟩, ⟨1, some 14, .mv (.tmp 4), none, []⟩, ⟨2, some 15, .bin .lss (.tmp 13) (.tmp 14), none, []⟩])
  (.cond (.tmp 15) (.skip) (.exit 0)))
  (.seq (.block 1 (.seq (.ops [⟨0, some 18, .mv (.tmp 0), none, []⟩, ⟨1, some 19, .nc (.tmp 18), none, []⟩, ⟨2, some 20, .fa 0 (.tmp 19), none, []⟩, ⟨3, some 21, .ld (.tmp 20), none, []⟩, ⟨4, some 22, .mv (.tmp 4), none, []⟩, ⟨5, some 23, .bin .sub (.tmp 22) (.const (.int .i64 1)), none, []⟩, ⟨6, some 24, .mv (.tmp 5), none, []⟩, ⟨7, some 25, .bin .sub (.tmp 23) (.tmp 24), none, []⟩, ⟨8, some 26, .ia (.tmp 21) (.tmp 25), none, []⟩, ⟨9, some 27, .ld (.tmp 26), none, []⟩, ⟨10, some 6, .mv (.tmp 27), none, []⟩])
  (.seq (.seq (.keep [0, 3, 4, 5, 6] (.ops [⟨0, some 28, .mv (.tmp 5), none, []⟩, ⟨1, some 29, .bin .rem (.tmp 28) (.const (.int .i64 2)), none, []⟩, ⟨2, some 30, .bin .eql (.tmp 29) (.const (.int .i64 1)), none, []⟩]))
  (.cond (.tmp 30) (.ops [⟨0, some 31, .mv (.tmp 6), none, []⟩, ⟨1, some 32, .un .neg (.tmp 31), none, []⟩, ⟨2, some 6, .mv (.tmp 32), none, []⟩]) (.skip)))
  (.keep [0, 3, 4, 5, 6] (.ops [⟨0, some 33, .mv (.tmp 3), none, []⟩, ⟨1, some 34, .mv (.tmp 6), none, []⟩, ⟨2, some 35, .bsl 41 1 (.float .f32 0) [(0, .tmp 34)], none, []⟩, ⟨3, some 36, .app 41 4 (.tmp 33) (.tmp 35), none, []⟩, ⟨4, some 3, .mv (.tmp 36), none, []⟩])))))
  (.keep [0, 3, 4, 5] (.ops [⟨0, some 16, .mv (.tmp 5), none, []⟩, ⟨1, some 17, .bin .add (.tmp 16) (.const (.int .i64 1)), none, []⟩, ⟨2, some 5, .mv (.tmp 17), none, []⟩])))))))
  (.seq (.keep [3] (.ops [⟨0, some 37, .mv (.tmp 3), none, []⟩, ⟨1, some 2, .mv (.tmp 37), none, []⟩]))
  (.ret)))))
theorem k_s_l03High : FnOk Try.prog n_s_l03High 1 c_s_l03High [.tmp 2] := ⟨by kernel_rfl⟩
def c_s_l03Energy : ACode :=
  .seq (.ops [⟨0, some 2, .mv (.const (.float .f32 0)), none, []⟩])
  (.seq (.ops [⟨0, some 3, .mv (.const (.float .f32 0)), none, []⟩])
  (.seq (.seq (.ops [⟨0, some 5, .mv (.tmp 0), none, []⟩, ⟨1, some 6, .len (.tmp 5), none, []⟩, ⟨2, some 7, .mv (.const (.int .i64 0)), none, []⟩])
  (.block 0 (.loop [0, 3, 6, 7] (.seq (.ops [⟨0, some 8, .bin .lss (.tmp 7) (.tmp 6), none, []⟩])
  (.seq (.cond (.tmp 8) (.skip) (.exit 0))
  (.seq (.block 1 (.seq (.ops [⟨0, some 9, .mv (.tmp 7), none, []⟩, ⟨1, some 4, .mv (.tmp 9), none, []⟩])
  (.ops [⟨0, some 10, .mv (.tmp 3), none, []⟩, ⟨1, some 11, .mv (.tmp 0), none, []⟩, ⟨2, some 12, .mv (.tmp 4), none, []⟩, ⟨3, some 13, .ia (.tmp 11) (.tmp 12), none, []⟩, ⟨4, some 14, .ld (.tmp 13), none, []⟩, ⟨5, some 15, .mv (.tmp 0), none, []⟩, ⟨6, some 16, .mv (.tmp 4), none, []⟩, ⟨7, some 17, .ia (.tmp 15) (.tmp 16), none, []⟩, ⟨8, some 18, .ld (.tmp 17), none, []⟩, ⟨9, some 19, .bin .mul (.tmp 14) (.tmp 18), none, []⟩, ⟨10, some 20, .bin .add (.tmp 10) (.tmp 19), none, []⟩, ⟨11, some 3, .mv (.tmp 20), none, []⟩])))
  (.keep [0, 3, 6, 7] (.ops [⟨0, some 21, .bin .add (.tmp 7) (.const (.int .i64 1)), none, []⟩, ⟨1, some 7, .mv (.tmp 21), none, []⟩]))))))))
  (.seq (.ops [⟨0, some 22, .mv (.tmp 3), none, []⟩, ⟨1, some 2, .mv (.tmp 22), none, []⟩])
  (.ret))))
theorem k_s_l03Energy : FnOk Try.prog n_s_l03Energy 1 c_s_l03Energy [.tmp 2] := ⟨by kernel_rfl⟩
def c_s_l01Narrow : ACode :=
  .seq (.ops [⟨0, some 2, .mv (.const (.float .f32 0)), none, []⟩])
  (.seq (.ops [⟨0, some 3, .mv (.tmp 0), none, []⟩, ⟨1, some 4, .cv (.f .f32) (.tmp 3), none, []⟩, ⟨2, some 2, .mv (.tmp 4), none, []⟩])
  (.ret))
theorem k_s_l01Narrow : FnOk Try.prog n_s_l01Narrow 1 c_s_l01Narrow [.tmp 2] := ⟨by kernel_rfl⟩
def c_s_l01LogWide : ACode :=
  .seq (.ops [⟨0, some 2, .mv (.const (.float .f64 0)), none, []⟩])
  (.seq (.block 0 (.seq (.ops [⟨0, some 9, .mv (.tmp 0), none, []⟩, ⟨1, some 10, .mv (.tmp 0), none, []⟩, ⟨2, some 11, .bin .neq (.tmp 9) (.tmp 10), none, []⟩, ⟨3, some 12, .mv (.tmp 11), none, []⟩, ⟨4, some 13, .mv (.tmp 0), (some (12, false)), []⟩, ⟨5, some 14, .bin .lss (.tmp 13) (.const (.float .f64 0)), (some (12, false)), []⟩, ⟨6, some 15, .pick (.tmp 12) (.const (.bool true)) (.tmp 14), none, []⟩, ⟨7, some 8, .mv (.tmp 15), none, []⟩])
  (.cond (.tmp 8) (.seq (.keep [] (.ops [⟨0, some 16, .call n_m_NaN [], none, []⟩, ⟨1, some 2, .mv (.tmp 16), none, []⟩]))
  (.ret)) (.seq (.keep [0] (.ops [⟨0, some 18, .mv (.tmp 0), none, []⟩, ⟨1, some 19, .bin .eql (.tmp 18) (.const (.float .f64 0)), none, []⟩, ⟨2, some 17, .mv (.tmp 19), none, []⟩]))
  (.cond (.tmp 17) (.seq (.ops [⟨0, some 20, .call n_m_Inf [.const (.int .i64 (-1))], none, []⟩, ⟨1, some 2, .mv (.tmp 20), none, []⟩])
  (.ret)) (.seq (.ops [⟨0, some 22, .mv (.tmp 0), none, []⟩, ⟨1, some 23, .call n_m_IsInf [.tmp 22, .const (.int .i64 1)], none, []⟩, ⟨2, some 21, .mv (.tmp 23), none, []⟩])
  (.cond (.tmp 21) (.seq (.keep [0] (.ops [⟨0, some 24, .mv (.tmp 0), none, []⟩, ⟨1, some 2, .mv (.tmp 24), none, []⟩]))
  (.ret)) (.skip))))))))
  (.seq (.keep [0] (.ops [⟨0, some 3, .mv (.const (.int .i64 0)), none, []⟩]))
  (.seq (.block 1 (.loop [0, 3] (.seq (.seq (.ops [⟨0, some 25, .mv (.tmp 0), none, []⟩, ⟨1, some 26, .bin .geq (.tmp 25) (.const (.float .f64 4609434218613702656)), none, []⟩])
  (.cond (.tmp 26) (.skip) (.exit 1)))
  (.block 2 (.seq (.ops [⟨0, some 27, .mv (.tmp 0), none, []⟩, ⟨1, some 28, .bin .quo (.tmp 27) (.const (.float .f64 4611686018427387904)), none, []⟩, ⟨2, some 0, .mv (.tmp 28), none, []⟩])
  (.ops [⟨0, some 29, .mv (.tmp 3), none, []⟩, ⟨1, some 30, .bin .add (.tmp 29) (.const (.int .i64 1)), none, []⟩, ⟨2, some 3, .mv (.tmp 30), none, []⟩]))))))
  (.seq (.block 3 (.loop [0, 3] (.seq (.seq (.ops [⟨0, some 31, .mv (.tmp 0), none, []⟩, ⟨1, some 32, .bin .lss (.tmp 31) (.const (.float .f64 4604930618986332160)), none, []⟩])
  (.cond (.tmp 32) (.skip) (.exit 3)))
  (.block 4 (.seq (.ops [⟨0, some 33, .mv (.tmp 0), none, []⟩, ⟨1, some 34, .bin .mul (.tmp 33) (.const (.float .f64 4611686018427387904)), none, []⟩, ⟨2, some 0, .mv (.tmp 34), none, []⟩])
  (.ops [⟨0, some 35, .mv (.tmp 3), none, []⟩, ⟨1, some 36, .bin .sub (.tmp 35) (.const (.int .i64 1)), none, []⟩, ⟨2, some 3, .mv (.tmp 36), none, []⟩]))))))
  (.seq (.ops [⟨0, some 37, .mv (.tmp 0), none, []⟩, ⟨1, some 38, .bin .sub (.tmp 37) (.const (.float .f64 4607182418800017408)), none, []⟩, ⟨2, some 39, .mv (.tmp 0), none, []⟩, ⟨3, some 40, .bin .add (.tmp 39) (.const (.float .f64 4607182418800017408)), none, []⟩, ⟨4, some 41, .bin .quo (.tmp 38) (.tmp 40), none, []⟩, ⟨5, some 4, .mv (.tmp 41), none, []⟩])
  (.seq (.keep [3, 4] (.ops [⟨0, some 42, .mv (.tmp 4), none, []⟩, ⟨1, some 43, .mv (.tmp 4), none, []⟩, ⟨2, some 44, .bin .mul (.tmp 42) (.tmp 43), none, []⟩, ⟨3, some 5, .mv (.tmp 44), none, []⟩]))
  (.seq (.ops [⟨0, some 6, .mv (.const (.float .f64 0)), none, []⟩])
  (.seq (.seq (.ops [⟨0, some 7, .mv (.const (.int .i64 25)), none, []⟩])
  (.block 5 (.loop [3, 4, 5, 6, 7] (.seq (.seq (.ops [⟨0, some 45, .mv (.tmp 7), none, []⟩, ⟨1, some 46, .bin .geq (.tmp 45) (.const (.int .i64 1)), none, []⟩])
  (.cond (.tmp 46) (.skip) (.exit 5)))
  (.seq (.block 6 (.ops [⟨0, some 49, .mv (.tmp 7), none, []⟩, ⟨1, some 50, .cv (.f .f64) (.tmp 49), none, []⟩, ⟨2, some 51, .bin .quo (.const (.float .f64 4607182418800017408)) (.tmp 50), none, []⟩, ⟨3, some 52, .mv (.tmp 5), none, []⟩, ⟨4, some 53, .mv (.tmp 6), none, []⟩, ⟨5, some 54, .bin .mul (.tmp 52) (.tmp 53), none, []⟩, ⟨6, some 55, .bin .add (.tmp 51) (.tmp 54), none, []⟩, ⟨7, some 6, .mv (.tmp 55), none, []⟩]))
  (.keep [3, 4, 5, 6, 7] (.ops [⟨0, some 47, .mv (.tmp 7), none, []⟩, ⟨1, some 48, .bin .sub (.tmp 47) (.const (.int .i64 2)), none, []⟩, ⟨2, some 7, .mv (.tmp 48), none, []⟩])))))))
  (.seq (.ops [⟨0, some 56, .mv (.tmp 4), none, []⟩, ⟨1, some 57, .mv (.tmp 6), none, []⟩, ⟨2, some 58, .bin .mul (.tmp 56) (.tmp 57), none, []⟩, ⟨3, some 59, .bin .mul (.const (.float .f64 4611686018427387904)) (.tmp 58), none, []⟩, ⟨4, some 60, .mv (.tmp 3), none, []⟩, ⟨5, some 61, .cv (.f .f64) (.tmp 60), none, []⟩, ⟨6, some 62, .bin .mul (.tmp 61) (.const (.float .f64 4604418534313441775)), none, []⟩, ⟨7, some 63, .bin .add (.tmp 59) (.tmp 62), none, []⟩, ⟨8, some 2, .mv (.tmp 63), none, []⟩])
  (.ret))))))))))
theorem k_s_l01LogWide : FnOk Try.prog n_s_l01LogWide 1 c_s_l01LogWide [.tmp 2] := ⟨by kernel_rfl⟩
def c_s_l01Finite : ACode :=
  .seq (.ops [⟨0, some 2, .mv (.const (.bool false)), none, []⟩])
  (.seq (.ops [⟨0, some 3, .mv (.tmp 0), none, []⟩, ⟨1, some 4, .mv (.tmp 0), none, []⟩, ⟨2, some 5, .bin .sub (.tmp 3) (.tmp 4), none, []⟩, ⟨3, some 6, .bin .eql (.tmp 5) (.const (.float .f32 0)), none, []⟩, ⟨4, some 2, .mv (.tmp 6), none, []⟩])
  (.ret))
theorem k_s_l01Finite : FnOk Try.prog n_s_l01Finite 1 c_s_l01Finite [.tmp 2] := ⟨by kernel_rfl⟩
def c_m_Inf : ACode :=
  .seq (.ops [⟨0, some 2, .mv (.const (.float .f64 0)), none, []⟩])
  (.seq (.ops [⟨0, some 3, .mv (.const (.int .u64 0)), none, []⟩])
  (.seq (.seq (.ops [⟨0, some 4, .mv (.tmp 0), none, []⟩, ⟨1, some 5, .bin .geq (.tmp 4) (.const (.int .i64 0)), none, []⟩])
  (.cond (.tmp 5) (.keep [] (.ops [⟨0, some 3, .mv (.const (.int .u64 9218868437227405312)), none, []⟩])) (.keep [] (.ops [⟨0, some 3, .mv (.const (.int .u64 18442240474082181120)), none, []⟩]))))
  (.seq (.ops [⟨0, some 6, .mv (.tmp 3), none, []⟩, ⟨1, some 7, .f64from (.tmp 6), none, []⟩, ⟨2, some 2, .mv (.tmp 7), none, []⟩])
  (.ret))))
theorem k_m_Inf : FnOk Try.prog n_m_Inf 1 c_m_Inf [.tmp 2] := ⟨by kernel_rfl⟩
def c_m_NaN : ACode :=
  .seq (.ops [⟨0, some 0, .mv (.const (.float .f64 0)), none, []⟩])
  (.seq (.ops [⟨0, some 1, .f64from (.const (.int .u64 9221120237041090561)), none, []⟩, ⟨1, some 0, .mv (.tmp 1), none, []⟩])
  (.ret))
theorem k_m_NaN : FnOk Try.prog n_m_NaN 0 c_m_NaN [.tmp 0] := ⟨by kernel_rfl⟩
def c_i_naturalLog : ACode :=
  .seq (.ops [⟨0, some 2, .mv (.const (.float .f64 0)), none, []⟩])
  (.seq (.ops [⟨0, some 3, .mv (.const (.float .f64 0)), none, []⟩])
  (.seq (.block 0 (.loop [0, 3] (.seq (.seq (.ops [⟨0, some 8, .mv (.tmp 0), none, []⟩, ⟨1, some 9, .bin .geq (.tmp 8) (.const (.float .f64 4609434218613702656)), none, []⟩])
  (.cond (.tmp 9) (.skip) (.exit 0)))
  (.block 1 (.seq (.ops [⟨0, some 10, .mv (.tmp 0), none, []⟩, ⟨1, some 11, .bin .quo (.tmp 10) (.const (.float .f64 4611686018427387904)), none, []⟩, ⟨2, some 0, .mv (.tmp 11), none, []⟩])
  (.ops [⟨0, some 12, .mv (.tmp 3), none, []⟩, ⟨1, some 13, .bin .add (.tmp 12) (.const (.float .f64 4607182418800017408)), none, []⟩, ⟨2, some 3, .mv (.tmp 13), none, []⟩]))))))
  (.seq (.block 2 (.loop [0, 3] (.seq (.seq (.ops [⟨0, some 14, .mv (.tmp 0), none, []⟩, ⟨1, some 15, .bin .lss (.tmp 14) (.const (.float .f64 4604930618986332160)), none, []⟩])
  (.cond (.tmp 15) (.skip) (.exit 2)))
  (.block 3 (.seq (.ops [⟨0, some 16, .mv (.tmp 0), none, []⟩, ⟨1, some 17, .bin .mul (.tmp 16) (.const (.float .f64 4611686018427387904)), none, []⟩, ⟨2, some 0, .mv (.tmp 17), none, []⟩])
  (.ops [⟨0, some 18, .mv (.tmp 3), none, []⟩, ⟨1, some 19, .bin .sub (.tmp 18) (.const (.float .f64 4607182418800017408)), none, []⟩, ⟨2, some 3, .mv (.tmp 19), none, []⟩]))))))
  (.seq (.ops [⟨0, some 20, .mv (.tmp 0), none, []⟩, ⟨1, some 21, .bin .sub (.tmp 20) (.const (.float .f64 4607182418800017408)), none, []⟩, ⟨2, some 22, .mv (.tmp 0), none, []⟩, ⟨3, some 23, .bin .add (.tmp 22) (.const (.float .f64 4607182418800017408)), none, []⟩, ⟨4, some 24, .bin .quo (.tmp 21) (.tmp 23), none, []⟩, ⟨5, some 4, .mv (.tmp 24), none, []⟩])
  (.seq (.keep [3, 4] (.ops [⟨0, some 25, .mv (.tmp 4), none, []⟩, ⟨1, some 26, .mv (.tmp 4), none, []⟩, ⟨2, some 27, .bin .mul (.tmp 25) (.tmp 26), none, []⟩, ⟨3, some 5, .mv (.tmp 27), none, []⟩]))
  (.seq (.ops [⟨0, some 6, .mv (.const (.float .f64 0)), none, []⟩])
  (.seq (.seq (.ops [⟨0, some 7, .mv (.const (.float .f64 4627730092099895296)), none, []⟩])
  (.block 4 (.loop [3, 4, 5, 6, 7] (.seq (.seq (.ops [⟨0, some 28, .mv (.tmp 7), none, []⟩, ⟨1, some 29, .bin .geq (.tmp 28) (.const (.float .f64 4607182418800017408)), none, []⟩])
  (.cond (.tmp 29) (.skip) (.exit 4)))
  (.seq (.block 5 (.ops [⟨0, some 32, .mv (.tmp 7), none, []⟩, ⟨1, some 33, .bin .quo (.const (.float .f64 4607182418800017408)) (.tmp 32), none, []⟩, ⟨2, some 34, .mv (.tmp 5), none, []⟩, ⟨3, some 35, .mv (.tmp 6), none, []⟩, ⟨4, some 36, .bin .mul (.tmp 34) (.tmp 35), none, []⟩, ⟨5, some 37, .bin .add (.tmp 33) (.tmp 36), none, []⟩, ⟨6, some 6, .mv (.tmp 37), none, []⟩]))
  (.keep [3, 4, 5, 6, 7] (.ops [⟨0, some 30, .mv (.tmp 7), none, []⟩, ⟨1, some 31, .bin .sub (.tmp 30) (.const (.float .f64 4611686018427387904)), none, []⟩, ⟨2, some 7, .mv (.tmp 31), none, []⟩])))))))
  (.seq (.ops [⟨0, some 38, .mv (.tmp 4), none, []⟩, ⟨1, some 39, .mv (.tmp 6), none, []⟩, ⟨2, some 40, .bin .mul (.tmp 38) (.tmp 39), none, []⟩, ⟨3, some 41, .bin .mul (.const (.float .f64 4611686018427387904)) (.tmp 40), none, []⟩, ⟨4, some 42, .mv (.tmp 3), none, []⟩, ⟨5, some 43, .bin .mul (.tmp 42) (.const (.float .f64 4604418534313441775)), none, []⟩, ⟨6, some 44, .bin .add (.tmp 41) (.tmp 43), none, []⟩, ⟨7, some 2, .mv (.tmp 44), none, []⟩])
  (.ret)))))))))
theorem k_i_naturalLog : FnOk Try.prog n_i_naturalLog 1 c_i_naturalLog [.tmp 2] := ⟨by kernel_rfl⟩
def c_m_IsInf : ACode :=
  .seq (.ops [⟨0, some 4, .mv (.const (.bool false)), none, []⟩])
  (.seq (.seq (.ops [⟨0, some 5, .mv (.tmp 1), none, []⟩, ⟨1, some 6, .bin .eql (.tmp 5) (.const (.int .i64 0)), none, []⟩])
  (.cond (.tmp 6) (.ops [⟨0, some 7, .mv (.tmp 0), none, []⟩, ⟨1, some 8, .call n_m_Abs [.tmp 7], none, []⟩, ⟨2, some 0, .mv (.tmp 8), none, []⟩]) (.seq (.ops [⟨0, some 9, .mv (.tmp 1), none, []⟩, ⟨1, some 10, .bin .lss (.tmp 9) (.const (.int .i64 0)), none, []⟩])
  (.cond (.tmp 10) (.keep [0] (.ops [⟨0, some 11, .mv (.tmp 0), none, []⟩, ⟨1, some 12, .un .neg (.tmp 11), none, []⟩, ⟨2, some 0, .mv (.tmp 12), none, []⟩])) (.skip)))))
  (.seq (.keep [0] (.ops [⟨0, some 13, .mv (.tmp 0), none, []⟩, ⟨1, some 14, .bin .gtr (.tmp 13) (.const (.float .f64 9218868437227405311)), none, []⟩, ⟨2, some 4, .mv (.tmp 14), none, []⟩]))
  (.ret)))
theorem k_m_IsInf : FnOk Try.prog n_m_IsInf 2 c_m_IsInf [.tmp 4] := ⟨by kernel_rfl⟩
def c_m_Abs : ACode :=
  .seq (.ops [⟨0, some 2, .mv (.const (.float .f64 0)), none, []⟩])
  (.seq (.ops [⟨0, some 3, .mv (.tmp 0), none, []⟩, ⟨1, some 4, .f64bits (.tmp 3), none, []⟩, ⟨2, some 5, .bin .andNot (.tmp 4) (.const (.int .u64 9223372036854775808)), none, []⟩, ⟨3, some 6, .f64from (.tmp 5), none, []⟩, ⟨4, some 2, .mv (.tmp 6), none, []⟩])
  (.ret))
theorem k_m_Abs : FnOk Try.prog n_m_Abs 1 c_m_Abs [.tmp 2] := ⟨by kernel_rfl⟩
end Go.Proofs.Ytddekdgggpifmaa

/- The code of functions, for the abstract machine; printed by a program (gen.py). -/
import Derived.Test.YtddekdgggpifmaaGxFn
import Derived.Test.YtddekdgggpifmaaProg
namespace Go.Proofs.Ytddekdgggpifmaa
open Go.Gx
set_option maxRecDepth 100000
abbrev t_int64 : Nat := 2
abbrev t_int : Nat := 3
abbrev t_bool : Nat := 4
abbrev t_uint8 : Nat := 5
abbrev t_suint8 : Nat := 22
abbrev t_sfloat32 : Nat := 24
abbrev t_ssfloat32 : Nat := 30
abbrev t_float64 : Nat := 40
abbrev t_float32 : Nat := 41
abbrev t_sbool : Nat := 44
abbrev t_sint64 : Nat := 55
abbrev t_ssint64 : Nat := 62
abbrev t_sint : Nat := 78
abbrev t_Pair : Nat := 26
abbrev t_Bands : Nat := 32
abbrev t_Scheme : Nat := 71
abbrev n_w_FnCoarse : Nat := 6
abbrev n_w_r8Long : Nat := 34
abbrev n_w_r8At : Nat := 36
abbrev n_i_BandSizes : Nat := 42
abbrev n_s_R8List : Nat := 44
abbrev n_i_LinesScheme : Nat := 45
abbrev n_i_LiftDeep : Nat := 46
abbrev n_i_SmallOut : Nat := 47
abbrev n_i_CoarseOf : Nat := 48
abbrev n_w_r8Gap : Nat := 49
abbrev n_i_CoverOf : Nat := 50
abbrev n_i_GrowList : Nat := 51
abbrev n_i_LiftOnce : Nat := 52
abbrev n_i_DropOnce : Nat := 54
abbrev n_i_DropDeep : Nat := 55
abbrev n_i_AreBands : Nat := 60
abbrev n_i_IsList : Nat := 61
abbrev n_s_l00From : Nat := 69
abbrev n_s_l00Src_pick : Nat := 71
abbrev n_i_within : Nat := 73
abbrev n_i_copyOf : Nat := 74
abbrev n_i_finiteList : Nat := 76
abbrev n_i_areFinite : Nat := 78
abbrev n_i_size : Nat := 83
abbrev n_i_areSizes : Nat := 92
abbrev n_s_l02DrawOk : Nat := 95
abbrev n_i_ValidScheme : Nat := 96
abbrev n_i_isLeast : Nat := 97
abbrev n_i_split_float32_ : Nat := 98
abbrev n_i_weigh : Nat := 99
abbrev n_i_woven_float32_ : Nat := 101
abbrev n_i_sizesOf_float32_ : Nat := 103
abbrev n_s_l00Src_next : Nat := 118
abbrev n_i_IsFinite : Nat := 120
abbrev n_i_isOver : Nat := 127
abbrev n_i_weigh_1 : Nat := 128
abbrev n_i_besideOdd_float32_ : Nat := 129
abbrev n_i_besideEven_float32_ : Nat := 130
def c_w_FnCoarse : ACode :=
  .seq (.ops [⟨0, some 4, .mv (.const (.bool false)), none, []⟩])
  (.seq (.seq (.ops [⟨0, some 43, .mv (.tmp 0), none, []⟩, ⟨1, some 44, .mv (.tmp 1), none, []⟩, ⟨2, some 45, .call n_w_r8Long [.tmp 43, .tmp 44], none, []⟩])
  (.cond (.tmp 45) (.seq (.keep [] (.ops [⟨0, some 4, .mv (.const (.bool true)), none, []⟩]))
  (.ret)) (.skip)))
  (.seq (.ops [⟨0, some 46, .mv (.tmp 0), none, []⟩, ⟨1, some 47, .call n_s_R8List [.tmp 46], none, []⟩, ⟨2, some 5, .mv (.tmp 47), none, []⟩])
  (.seq (.keep [1, 5] (.ops [⟨0, some 48, .mv (.tmp 1), none, []⟩, ⟨1, some 49, .call n_w_r8At [.tmp 48, .const (.int .i64 0), .const (.int .i64 5)], none, []⟩, ⟨2, some 50, .bin .add (.const (.int .i64 1)) (.tmp 49), none, []⟩, ⟨3, some 6, .mv (.tmp 50), none, []⟩]))
  (.seq (.ops [⟨0, some 51, .mv (.tmp 1), none, []⟩, ⟨1, some 52, .call n_w_r8At [.tmp 51, .const (.int .i64 1), .const (.int .i64 17)], none, []⟩, ⟨2, some 53, .cv (.f .f32) (.tmp 52), none, []⟩, ⟨3, some 54, .bin .quo (.tmp 53) (.const (.float .f32 1082130432)), none, []⟩, ⟨4, some 7, .mv (.tmp 54), none, []⟩])
  (.seq (.keep [5, 6, 7] (.ops [⟨0, some 55, .call n_i_LinesScheme [], none, []⟩, ⟨1, some 8, .new 71 [.slice none 0 0, .float .f32 0], none, []⟩, ⟨2, none, .stn 2 (.tmp 8) (.tmp 55), none, []⟩]))
  (.seq (.ops [⟨0, some 57, .ldn 2 (.tmp 8), none, []⟩, ⟨1, some 58, .mv (.tmp 5), none, []⟩, ⟨2, some 59, .mv (.tmp 6), none, []⟩, ⟨3, some 60, .call n_i_LiftDeep [.tmp 57, .tmp 58, .tmp 59], none, []⟩, ⟨4, some 56, .mv (.tmp 60), none, []⟩, ⟨5, some 61, .ext (.tmp 56) 0, none, []⟩, ⟨6, some 62, .ext (.tmp 56) 1, none, []⟩, ⟨7, some 9, .mv (.tmp 61), none, []⟩, ⟨8, some 10, .mv (.tmp 62), none, []⟩])
  (.seq (.keep [5, 6, 7, 8, 9, 10] (.ops [⟨0, some 64, .mv (.tmp 9), none, []⟩, ⟨1, some 65, .mv (.tmp 7), none, []⟩, ⟨2, some 66, .call n_i_SmallOut [.tmp 64, .tmp 65], none, []⟩, ⟨3, some 63, .mv (.tmp 66), none, []⟩, ⟨4, some 67, .ext (.tmp 63) 0, none, []⟩, ⟨5, some 68, .ext (.tmp 63) 1, none, []⟩, ⟨6, some 69, .ext (.tmp 63) 2, none, []⟩, ⟨7, some 11, .mv (.tmp 67), none, []⟩, ⟨8, some 12, .mv (.tmp 68), none, []⟩, ⟨9, some 13, .mv (.tmp 69), none, []⟩]))
  (.seq (.keep [5, 6, 7, 8, 9, 10, 11, 12, 13] (.ops [⟨0, some 71, .mv (.tmp 9), none, []⟩, ⟨1, some 72, .call n_i_SmallOut [.tmp 71, .const (.float .f32 0)], none, []⟩, ⟨2, some 70, .mv (.tmp 72), none, []⟩, ⟨3, some 73, .ext (.tmp 70) 0, none, []⟩, ⟨4, some 74, .ext (.tmp 70) 1, none, []⟩, ⟨5, some 75, .ext (.tmp 70) 2, none, []⟩, ⟨6, some 14, .mv (.tmp 73), none, []⟩, ⟨7, some 15, .mv (.tmp 74), none, []⟩, ⟨8, some 16, .mv (.tmp 75), none, []⟩]))
  (.seq (.keep [5, 6, 7, 8, 9, 10, 11, 12, 13, 15, 16] (.ops [⟨0, some 77, .ldn 2 (.tmp 8), none, []⟩, ⟨1, some 78, .mv (.tmp 5), none, []⟩, ⟨2, some 79, .mv (.tmp 6), none, []⟩, ⟨3, some 80, .call n_i_CoarseOf [.tmp 77, .tmp 78, .tmp 79, .const (.int .i64 99)], none, []⟩, ⟨4, some 76, .mv (.tmp 80), none, []⟩, ⟨5, some 81, .ext (.tmp 76) 0, none, []⟩, ⟨6, some 82, .ext (.tmp 76) 1, none, []⟩, ⟨7, some 17, .mv (.tmp 81), none, []⟩, ⟨8, some 18, .mv (.tmp 82), none, []⟩]))
  (.seq (.keep [5, 6, 7, 8, 9, 10, 11, 12, 13, 15, 16, 17, 18] (.ops [⟨0, some 84, .ldn 2 (.tmp 8), none, []⟩, ⟨1, some 85, .mv (.tmp 5), none, []⟩, ⟨2, some 86, .mv (.tmp 6), none, []⟩, ⟨3, some 87, .call n_i_CoarseOf [.tmp 84, .tmp 85, .tmp 86, .const (.int .i64 0)], none, []⟩, ⟨4, some 83, .mv (.tmp 87), none, []⟩, ⟨5, some 88, .ext (.tmp 83) 0, none, []⟩, ⟨6, some 89, .ext (.tmp 83) 1, none, []⟩, ⟨7, some 19, .mv (.tmp 88), none, []⟩, ⟨8, some 20, .mv (.tmp 89), none, []⟩]))
  (.seq (.seq (.keep [5, 6, 7, 8, 9, 10, 11, 12, 13, 15, 16, 17, 18, 19, 20] (.ops [⟨0, some 90, .mv (.tmp 10), none, []⟩, ⟨1, some 91, .un .not (.tmp 90), none, []⟩, ⟨2, some 92, .mv (.tmp 91), none, []⟩, ⟨3, some 93, .mv (.tmp 13), (some (92, false)), []⟩, ⟨4, some 94, .un .not (.tmp 93), (some (92, false)), []⟩, ⟨5, some 95, .pick (.tmp 92) (.const (.bool true)) (.tmp 94), none, []⟩, ⟨6, some 96, .mv (.tmp 95), none, []⟩, ⟨7, some 97, .mv (.tmp 16), (some (96, false)), []⟩, ⟨8, some 98, .un .not (.tmp 97), (some (96, false)), []⟩, ⟨9, some 99, .pick (.tmp 96) (.const (.bool true)) (.tmp 98), none, []⟩, ⟨10, some 100, .mv (.tmp 99), none, []⟩, ⟨11, some 101, .mv (.tmp 18), (some (100, false)), []⟩, ⟨12, some 102, .un .not (.tmp 101), (some (100, false)), []⟩, ⟨13, some 103, .pick (.tmp 100) (.const (.bool true)) (.tmp 102), none, []⟩, ⟨14, some 104, .mv (.tmp 103), none, []⟩, ⟨15, some 105, .mv (.tmp 20), (some (104, false)), []⟩, ⟨16, some 106, .un .not (.tmp 105), (some (104, false)), []⟩, ⟨17, some 107, .pick (.tmp 104) (.const (.bool true)) (.tmp 106), none, []⟩, ⟨18, some 108, .mv (.tmp 107), none, []⟩, ⟨19, some 109, .mv (.tmp 11), (some (108, false)), []⟩, ⟨20, some 110, .len (.tmp 109), (some (108, false)), []⟩, ⟨21, some 111, .mv (.tmp 9), (some (108, false)), []⟩, ⟨22, some 112, .len (.tmp 111), (some (108, false)), []⟩, ⟨23, some 113, .bin .neq (.tmp 110) (.tmp 112), (some (108, false)), []⟩, ⟨24, some 114, .pick (.tmp 108) (.const (.bool true)) (.tmp 113), none, []⟩, ⟨25, some 115, .mv (.tmp 114), none, []⟩, ⟨26, some 116, .mv (.tmp 12), (some (115, false)), []⟩, ⟨27, some 117, .mv (.tmp 15), (some (115, false)), []⟩, ⟨28, some 118, .bin .lss (.tmp 116) (.tmp 117), (some (115, false)), []⟩, ⟨29, some 119, .pick (.tmp 115) (.const (.bool true)) (.tmp 118), none, []⟩, ⟨30, some 120, .mv (.tmp 119), none, []⟩, ⟨31, some 121, .mv (.tmp 17), (some (120, false)), []⟩, ⟨32, some 122, .len (.tmp 121), (some (120, false)), []⟩, ⟨33, some 123, .mv (.tmp 5), (some (120, false)), []⟩, ⟨34, some 124, .len (.tmp 123), (some (120, false)), []⟩, ⟨35, some 125, .bin .neq (.tmp 122) (.tmp 124), (some (120, false)), []⟩, ⟨36, some 126, .pick (.tmp 120) (.const (.bool true)) (.tmp 125), none, []⟩, ⟨37, some 127, .mv (.tmp 126), none, []⟩, ⟨38, some 128, .mv (.tmp 19), (some (127, false)), []⟩, ⟨39, some 129, .len (.tmp 128), (some (127, false)), []⟩, ⟨40, some 130, .mv (.tmp 5), (some (127, false)), []⟩, ⟨41, some 131, .len (.tmp 130), (some (127, false)), []⟩, ⟨42, some 132, .bin .neq (.tmp 129) (.tmp 131), (some (127, false)), []⟩, ⟨43, some 133, .pick (.tmp 127) (.const (.bool true)) (.tmp 132), none, []⟩]))
  (.cond (.tmp 133) (.seq (.keep [] (.ops [⟨0, some 4, .mv (.const (.bool false)), none, []⟩]))
  (.ret)) (.skip)))
  (.seq (.keep [5, 6, 7, 8, 9, 11, 12, 17] (.ops [⟨0, some 21, .mv (.const (.int .i64 0)), none, []⟩]))
  (.seq (.seq (.ops [⟨0, some 22, .mv (.const (.int .i64 0)), none, []⟩])
  (.block 0 (.loop [5, 6, 7, 8, 9, 11, 12, 17, 21, 22] (.seq (.seq (.ops [⟨0, some 134, .mv (.tmp 22), none, []⟩, ⟨1, some 135, .mv (.tmp 9), none, []⟩, ⟨2, some 136, .len (.tmp 135), none, []⟩, ⟨3, some 137, .bin .lss (.tmp 134) (.tmp 136), none, []⟩])
  (.cond (.tmp 137) (.skip) (.exit 0)))
  (.seq (.block 1 (.seq (.seq (.ops [⟨0, some 140, .mv (.tmp 11), none, []⟩, ⟨1, some 141, .mv (.tmp 22), none, []⟩, ⟨2, some 142, .ia (.tmp 140) (.tmp 141), none, []⟩, ⟨3, some 143, .ld (.tmp 142), none, []⟩, ⟨4, some 144, .len (.tmp 143), none, []⟩, ⟨5, some 145, .mv (.tmp 9), none, []⟩, ⟨6, some 146, .mv (.tmp 22), none, []⟩, ⟨7, some 147, .ia (.tmp 145) (.tmp 146), none, []⟩, ⟨8, some 148, .ld (.tmp 147), none, []⟩, ⟨9, some 149, .len (.tmp 148), none, []⟩, ⟨10, some 150, .bin .neq (.tmp 144) (.tmp 149), none, []⟩])
  (.cond (.tmp 150) (.seq (.keep [] (.ops [⟨0, some 4, .mv (.const (.bool false)), none, []⟩]))
  (.ret)) (.skip)))
  (.seq (.keep [5, 6, 7, 8, 9, 11, 12, 17, 21, 22] (.ops [⟨0, some 23, .mv (.const (.int .i64 0)), none, []⟩]))
  (.block 2 (.loop [5, 6, 7, 8, 9, 11, 12, 17, 21, 22, 23] (.seq (.seq (.ops [⟨0, some 151, .mv (.tmp 23), none, []⟩, ⟨1, some 152, .mv (.tmp 9), none, []⟩, ⟨2, some 153, .mv (.tmp 22), none, []⟩, ⟨3, some 154, .ia (.tmp 152) (.tmp 153), none, []⟩, ⟨4, some 155, .ld (.tmp 154), none, []⟩, ⟨5, some 156, .len (.tmp 155), none, []⟩, ⟨6, some 157, .bin .lss (.tmp 151) (.tmp 156), none, []⟩])
  (.cond (.tmp 157) (.skip) (.exit 2)))
  (.seq (.block 3 (.seq (.keep [5, 6, 7, 8, 9, 11, 12, 17, 21, 22, 23] (.ops [⟨0, some 160, .mv (.tmp 9), none, []⟩, ⟨1, some 161, .mv (.tmp 22), none, []⟩, ⟨2, some 162, .ia (.tmp 160) (.tmp 161), none, []⟩, ⟨3, some 163, .ld (.tmp 162), none, []⟩, ⟨4, some 164, .mv (.tmp 23), none, []⟩, ⟨5, some 165, .ia (.tmp 163) (.tmp 164), none, []⟩, ⟨6, some 166, .ld (.tmp 165), none, []⟩, ⟨7, some 24, .mv (.tmp 166), none, []⟩]))
  (.seq (.keep [5, 6, 7, 8, 9, 11, 12, 17, 21, 22, 23, 24] (.ops [⟨0, some 167, .mv (.tmp 11), none, []⟩, ⟨1, some 168, .mv (.tmp 22), none, []⟩, ⟨2, some 169, .ia (.tmp 167) (.tmp 168), none, []⟩, ⟨3, some 170, .ld (.tmp 169), none, []⟩, ⟨4, some 171, .mv (.tmp 23), none, []⟩, ⟨5, some 172, .ia (.tmp 170) (.tmp 171), none, []⟩, ⟨6, some 173, .ld (.tmp 172), none, []⟩, ⟨7, some 25, .mv (.tmp 173), none, []⟩]))
  (.seq (.seq (.keep [5, 6, 7, 8, 9, 11, 12, 17, 21, 22, 23, 24, 25] (.ops [⟨0, some 174, .mv (.tmp 22), none, []⟩, ⟨1, some 175, .bin .add (.tmp 174) (.const (.int .i64 1)), none, []⟩, ⟨2, some 176, .mv (.tmp 9), none, []⟩, ⟨3, some 177, .len (.tmp 176), none, []⟩, ⟨4, some 178, .bin .eql (.tmp 175) (.tmp 177), none, []⟩]))
  (.cond (.tmp 178) (.seq (.seq (.keep [5, 6, 7, 8, 9, 11, 12, 17, 21, 22, 23, 24, 25] (.ops [⟨0, some 179, .mv (.tmp 24), none, []⟩, ⟨1, some 180, .mv (.tmp 25), none, []⟩, ⟨2, some 181, .bin .neq (.tmp 179) (.tmp 180), none, []⟩]))
  (.cond (.tmp 181) (.seq (.keep [] (.ops [⟨0, some 4, .mv (.const (.bool false)), none, []⟩]))
  (.ret)) (.skip)))
  (.exit 3)) (.skip)))
  (.seq (.seq (.keep [5, 6, 7, 8, 9, 11, 12, 17, 21, 22, 23, 24, 25] (.ops [⟨0, some 182, .mv (.tmp 25), none, []⟩, ⟨1, some 183, .bin .eql (.tmp 182) (.const (.float .f32 0)), none, []⟩]))
  (.cond (.tmp 183) (.ops [⟨0, some 184, .mv (.tmp 21), none, []⟩, ⟨1, some 185, .bin .add (.tmp 184) (.const (.int .i64 1)), none, []⟩, ⟨2, some 21, .mv (.tmp 185), none, []⟩]) (.skip)))
  (.seq (.ops [⟨0, some 186, .mv (.tmp 25), none, []⟩, ⟨1, some 187, .bin .neq (.tmp 186) (.const (.float .f32 0)), none, []⟩, ⟨2, some 188, .mv (.tmp 187), none, []⟩, ⟨3, some 189, .mv (.tmp 25), (some (188, true)), []⟩, ⟨4, some 190, .mv (.tmp 24), (some (188, true)), []⟩, ⟨5, some 191, .bin .neq (.tmp 189) (.tmp 190), (some (188, true)), []⟩, ⟨6, some 192, .pick (.tmp 188) (.tmp 191) (.const (.bool false)), none, []⟩, ⟨7, some 193, .mv (.tmp 192), none, []⟩, ⟨8, some 194, .mv (.tmp 25), (some (193, false)), []⟩, ⟨9, some 195, .bin .eql (.tmp 194) (.const (.float .f32 0)), (some (193, false)), []⟩, ⟨10, some 196, .mv (.tmp 195), (some (193, false)), []⟩, ⟨11, some 197, .mv (.tmp 24), (some (196, true)), []⟩, ⟨12, some 198, .cv (.f .f64) (.tmp 197), (some (196, true)), []⟩, ⟨13, some 199, .call n_w_r8Gap [.tmp 198, .const (.float .f64 0)], (some (196, true)), []⟩, ⟨14, some 200, .mv (.tmp 7), (some (196, true)), []⟩, ⟨15, some 201, .cv (.f .f64) (.tmp 200), (some (196, true)), []⟩, ⟨16, some 202, .bin .gtr (.tmp 199) (.tmp 201), (some (196, true)), []⟩, ⟨17, some 203, .pick (.tmp 196) (.tmp 202) (.const (.bool false)), (some (193, false)), []⟩, ⟨18, some 204, .pick (.tmp 193) (.const (.bool true)) (.tmp 203), none, []⟩, ⟨19, some 205, .mv (.tmp 204), none, []⟩, ⟨20, some 206, .mv (.tmp 25), (some (205, false)), []⟩, ⟨21, some 207, .bin .neq (.tmp 206) (.const (.float .f32 0)), (some (205, false)), []⟩, ⟨22, some 208, .mv (.tmp 207), (some (205, false)), []⟩, ⟨23, some 209, .mv (.tmp 24), (some (208, true)), []⟩, ⟨24, some 210, .cv (.f .f64) (.tmp 209), (some (208, true)), []⟩, ⟨25, some 211, .call n_w_r8Gap [.tmp 210, .const (.float .f64 0)], (some (208, true)), []⟩, ⟨26, some 212, .mv (.tmp 7), (some (208, true)), []⟩, ⟨27, some 213, .cv (.f .f64) (.tmp 212), (some (208, true)), []⟩, ⟨28, some 214, .bin .leq (.tmp 211) (.tmp 213), (some (208, true)), []⟩, ⟨29, some 215, .pick (.tmp 208) (.tmp 214) (.const (.bool false)), (some (205, false)), []⟩, ⟨30, some 216, .pick (.tmp 205) (.const (.bool true)) (.tmp 215), none, []⟩])
  (.cond (.tmp 216) (.seq (.keep [] (.ops [⟨0, some 4, .mv (.const (.bool false)), none, []⟩]))
  (.ret)) (.skip))))))))
  (.keep [5, 6, 7, 8, 9, 11, 12, 17, 21, 22, 23] (.ops [⟨0, some 158, .mv (.tmp 23), none, []⟩, ⟨1, some 159, .bin .add (.tmp 158) (.const (.int .i64 1)), none, []⟩, ⟨2, some 23, .mv (.tmp 159), none, []⟩])))))))))
  (.keep [5, 6, 7, 8, 9, 11, 12, 17, 21, 22] (.ops [⟨0, some 138, .mv (.tmp 22), none, []⟩, ⟨1, some 139, .bin .add (.tmp 138) (.const (.int .i64 1)), none, []⟩, ⟨2, some 22, .mv (.tmp 139), none, []⟩])))))))
  (.seq (.seq (.keep [5, 6, 8, 12, 17, 21] (.ops [⟨0, some 217, .mv (.tmp 21), none, []⟩, ⟨1, some 218, .mv (.tmp 12), none, []⟩, ⟨2, some 219, .bin .neq (.tmp 217) (.tmp 218), none, []⟩]))
  (.cond (.tmp 219) (.seq (.keep [] (.ops [⟨0, some 4, .mv (.const (.bool false)), none, []⟩]))
  (.ret)) (.skip)))
  (.seq (.seq (.keep [5, 6, 8, 17] (.ops [⟨0, some 26, .mv (.const (.int .i64 0)), none, []⟩]))
  (.block 4 (.loop [5, 6, 8, 17, 26] (.seq (.seq (.ops [⟨0, some 220, .mv (.tmp 26), none, []⟩, ⟨1, some 221, .mv (.tmp 5), none, []⟩, ⟨2, some 222, .len (.tmp 221), none, []⟩, ⟨3, some 223, .bin .lss (.tmp 220) (.tmp 222), none, []⟩])
  (.cond (.tmp 223) (.skip) (.exit 4)))
  (.seq (.block 5 (.seq (.ops [⟨0, some 226, .mv (.tmp 17), none, []⟩, ⟨1, some 227, .mv (.tmp 26), none, []⟩, ⟨2, some 228, .ia (.tmp 226) (.tmp 227), none, []⟩, ⟨3, some 229, .ld (.tmp 228), none, []⟩, ⟨4, some 230, .cv (.f .f64) (.tmp 229), none, []⟩, ⟨5, some 231, .mv (.tmp 5), none, []⟩, ⟨6, some 232, .mv (.tmp 26), none, []⟩, ⟨7, some 233, .ia (.tmp 231) (.tmp 232), none, []⟩, ⟨8, some 234, .ld (.tmp 233), none, []⟩, ⟨9, some 235, .cv (.f .f64) (.tmp 234), none, []⟩, ⟨10, some 236, .call n_w_r8Gap [.tmp 230, .tmp 235], none, []⟩, ⟨11, some 237, .bin .gtr (.tmp 236) (.const (.float .f64 4576918229304087675)), none, []⟩])
  (.cond (.tmp 237) (.seq (.keep [] (.ops [⟨0, some 4, .mv (.const (.bool false)), none, []⟩]))
  (.ret)) (.skip))))
  (.keep [5, 6, 8, 17, 26] (.ops [⟨0, some 224, .mv (.tmp 26), none, []⟩, ⟨1, some 225, .bin .add (.tmp 224) (.const (.int .i64 1)), none, []⟩, ⟨2, some 26, .mv (.tmp 225), none, []⟩])))))))
  (.seq (.keep [5, 6, 8] (.ops [⟨0, some 238, .mv (.tmp 5), none, []⟩, ⟨1, some 239, .len (.tmp 238), none, []⟩, ⟨2, some 27, .mv (.tmp 239), none, []⟩]))
  (.seq (.ops [⟨0, some 240, .mv (.tmp 27), none, []⟩, ⟨1, some 241, .mks 3 8 (.int .i64 0) (.tmp 240) (.tmp 240), none, []⟩, ⟨2, some 28, .mv (.tmp 241), none, []⟩])
  (.seq (.ops [⟨0, some 243, .mv (.tmp 27), none, []⟩, ⟨1, some 244, .mv (.tmp 6), none, []⟩, ⟨2, some 245, .call n_i_BandSizes [.tmp 243, .tmp 244], none, []⟩, ⟨3, some 242, .mv (.tmp 245), none, []⟩, ⟨4, some 246, .ext (.tmp 242) 0, none, []⟩, ⟨5, some 247, .ext (.tmp 242) 1, none, []⟩, ⟨6, some 29, .mv (.tmp 246), none, []⟩, ⟨7, some 30, .mv (.tmp 247), none, []⟩])
  (.seq (.seq (.keep [5, 6, 8, 27, 28, 29, 30] (.ops [⟨0, some 248, .mv (.tmp 30), none, []⟩, ⟨1, some 249, .un .not (.tmp 248), none, []⟩]))
  (.cond (.tmp 249) (.seq (.keep [] (.ops [⟨0, some 4, .mv (.const (.bool false)), none, []⟩]))
  (.ret)) (.skip)))
  (.seq (.seq (.ops [⟨0, some 31, .mv (.const (.int .i64 0)), none, []⟩])
  (.block 6 (.loop [5, 6, 8, 27, 28, 29, 31] (.seq (.seq (.ops [⟨0, some 250, .mv (.tmp 31), none, []⟩, ⟨1, some 251, .mv (.tmp 29), none, []⟩, ⟨2, some 252, .len (.tmp 251), none, []⟩, ⟨3, some 253, .bin .lss (.tmp 250) (.tmp 252), none, []⟩])
  (.cond (.tmp 253) (.skip) (.exit 6)))
  (.seq (.block 7 (.seq (.ops [⟨0, some 32, .mv (.const (.int .i64 0)), none, []⟩])
  (.block 8 (.loop [5, 6, 8, 27, 28, 29, 31, 32] (.seq (.seq (.ops [⟨0, some 256, .mv (.tmp 32), none, []⟩, ⟨1, some 257, .mv (.tmp 29), none, []⟩, ⟨2, some 258, .mv (.tmp 31), none, []⟩, ⟨3, some 259, .ia (.tmp 257) (.tmp 258), none, []⟩, ⟨4, some 260, .ld (.tmp 259), none, []⟩, ⟨5, some 261, .bin .lss (.tmp 256) (.tmp 260), none, []⟩])
  (.cond (.tmp 261) (.skip) (.exit 8)))
  (.seq (.block 9 (.seq (.keep [5, 6, 8, 27, 28, 29, 31, 32] (.ops [⟨0, some 265, .mv (.tmp 27), none, []⟩, ⟨1, some 266, .mv (.tmp 6), none, []⟩, ⟨2, some 267, .mv (.tmp 31), none, []⟩, ⟨3, some 268, .mv (.tmp 32), none, []⟩, ⟨4, some 269, .call n_i_CoverOf [.tmp 265, .tmp 266, .tmp 267, .tmp 268], none, []⟩, ⟨5, some 264, .mv (.tmp 269), none, []⟩, ⟨6, some 270, .ext (.tmp 264) 0, none, []⟩, ⟨7, some 271, .ext (.tmp 264) 1, none, []⟩, ⟨8, some 272, .ext (.tmp 264) 2, none, []⟩, ⟨9, some 33, .mv (.tmp 270), none, []⟩, ⟨10, some 34, .mv (.tmp 271), none, []⟩, ⟨11, some 35, .mv (.tmp 272), none, []⟩]))
  (.seq (.seq (.keep [5, 6, 8, 27, 28, 29, 31, 32, 33, 34, 35] (.ops [⟨0, some 273, .mv (.tmp 35), none, []⟩, ⟨1, some 274, .un .not (.tmp 273), none, []⟩, ⟨2, some 275, .mv (.tmp 274), none, []⟩, ⟨3, some 276, .mv (.tmp 33), (some (275, false)), []⟩, ⟨4, some 277, .bin .lss (.tmp 276) (.const (.int .i64 0)), (some (275, false)), []⟩, ⟨5, some 278, .pick (.tmp 275) (.const (.bool true)) (.tmp 277), none, []⟩, ⟨6, some 279, .mv (.tmp 278), none, []⟩, ⟨7, some 280, .mv (.tmp 33), (some (279, false)), []⟩, ⟨8, some 281, .mv (.tmp 27), (some (279, false)), []⟩, ⟨9, some 282, .bin .geq (.tmp 280) (.tmp 281), (some (279, false)), []⟩, ⟨10, some 283, .pick (.tmp 279) (.const (.bool true)) (.tmp 282), none, []⟩, ⟨11, some 284, .mv (.tmp 283), none, []⟩, ⟨12, some 285, .mv (.tmp 34), (some (284, false)), []⟩, ⟨13, some 286, .bin .lss (.tmp 285) (.const (.int .i64 1)), (some (284, false)), []⟩, ⟨14, some 287, .pick (.tmp 284) (.const (.bool true)) (.tmp 286), none, []⟩]))
  (.cond (.tmp 287) (.seq (.keep [] (.ops [⟨0, some 4, .mv (.const (.bool false)), none, []⟩]))
  (.ret)) (.skip)))
  (.keep [5, 6, 8, 27, 28, 29, 31, 32, 33] (.ops [⟨0, some 288, .mv (.tmp 28), none, []⟩, ⟨1, some 289, .mv (.tmp 33), none, []⟩, ⟨2, some 290, .ia (.tmp 288) (.tmp 289), none, []⟩, ⟨3, some 291, .ld (.tmp 290), none, []⟩, ⟨4, some 292, .bin .add (.tmp 291) (.const (.int .i64 1)), none, []⟩, ⟨5, some 293, .ia (.tmp 288) (.tmp 289), none, []⟩, ⟨6, none, .st (.tmp 293) (.tmp 292), none, []⟩])))))
  (.keep [5, 6, 8, 27, 28, 29, 31, 32] (.ops [⟨0, some 262, .mv (.tmp 32), none, []⟩, ⟨1, some 263, .bin .add (.tmp 262) (.const (.int .i64 1)), none, []⟩, ⟨2, some 32, .mv (.tmp 263), none, []⟩]))))))))
  (.keep [5, 6, 8, 27, 28, 29, 31] (.ops [⟨0, some 254, .mv (.tmp 31), none, []⟩, ⟨1, some 255, .bin .add (.tmp 254) (.const (.int .i64 1)), none, []⟩, ⟨2, some 31, .mv (.tmp 255), none, []⟩])))))))
  (.seq (.seq (.keep [5, 8, 27, 28] (.ops [⟨0, some 36, .mv (.const (.int .i64 0)), none, []⟩]))
  (.block 10 (.loop [5, 8, 27, 28, 36] (.seq (.seq (.ops [⟨0, some 294, .mv (.tmp 36), none, []⟩, ⟨1, some 295, .mv (.tmp 27), none, []⟩, ⟨2, some 296, .bin .lss (.tmp 294) (.tmp 295), none, []⟩])
  (.cond (.tmp 296) (.skip) (.exit 10)))
  (.seq (.block 11 (.seq (.ops [⟨0, some 299, .mv (.tmp 28), none, []⟩, ⟨1, some 300, .mv (.tmp 36), none, []⟩, ⟨2, some 301, .ia (.tmp 299) (.tmp 300), none, []⟩, ⟨3, some 302, .ld (.tmp 301), none, []⟩, ⟨4, some 303, .bin .neq (.tmp 302) (.const (.int .i64 1)), none, []⟩])
  (.cond (.tmp 303) (.seq (.keep [] (.ops [⟨0, some 4, .mv (.const (.bool false)), none, []⟩]))
  (.ret)) (.skip))))
  (.keep [5, 8, 27, 28, 36] (.ops [⟨0, some 297, .mv (.tmp 36), none, []⟩, ⟨1, some 298, .bin .add (.tmp 297) (.const (.int .i64 1)), none, []⟩, ⟨2, some 36, .mv (.tmp 298), none, []⟩])))))))
  (.seq (.keep [5, 8] (.ops [⟨0, some 305, .ldn 2 (.tmp 8), none, []⟩, ⟨1, some 306, .mv (.tmp 5), none, []⟩, ⟨2, some 307, .call n_i_GrowList [.tmp 305, .tmp 306], none, []⟩, ⟨3, some 304, .mv (.tmp 307), none, []⟩, ⟨4, some 308, .ext (.tmp 304) 0, none, []⟩, ⟨5, some 309, .ext (.tmp 304) 1, none, []⟩, ⟨6, some 37, .mv (.tmp 308), none, []⟩, ⟨7, some 38, .mv (.tmp 309), none, []⟩]))
  (.seq (.keep [5, 8, 37, 38] (.ops [⟨0, some 311, .ldn 2 (.tmp 8), none, []⟩, ⟨1, some 312, .mv (.tmp 37), none, []⟩, ⟨2, some 313, .call n_i_LiftOnce [.tmp 311, .tmp 312], none, []⟩, ⟨3, some 310, .mv (.tmp 313), none, []⟩, ⟨4, some 314, .ext (.tmp 310) 0, none, []⟩, ⟨5, some 315, .ext (.tmp 310) 1, none, []⟩, ⟨6, some 316, .ext (.tmp 310) 2, none, []⟩, ⟨7, some 39, .mv (.tmp 314), none, []⟩, ⟨8, some 40, .mv (.tmp 315), none, []⟩, ⟨9, some 41, .mv (.tmp 316), none, []⟩]))
  (.seq (.seq (.keep [5, 37, 38, 39, 40, 41] (.ops [⟨0, some 317, .mv (.tmp 38), none, []⟩, ⟨1, some 318, .un .not (.tmp 317), none, []⟩, ⟨2, some 319, .mv (.tmp 318), none, []⟩, ⟨3, some 320, .mv (.tmp 41), (some (319, false)), []⟩, ⟨4, some 321, .un .not (.tmp 320), (some (319, false)), []⟩, ⟨5, some 322, .pick (.tmp 319) (.const (.bool true)) (.tmp 321), none, []⟩, ⟨6, some 323, .mv (.tmp 322), none, []⟩, ⟨7, some 324, .mv (.tmp 37), (some (323, false)), []⟩, ⟨8, some 325, .len (.tmp 324), (some (323, false)), []⟩, ⟨9, some 326, .mv (.tmp 5), (some (323, false)), []⟩, ⟨10, some 327, .len (.tmp 326), (some (323, false)), []⟩, ⟨11, some 328, .bin .mul (.const (.int .i64 2)) (.tmp 327), (some (323, false)), []⟩, ⟨12, some 329, .bin .neq (.tmp 325) (.tmp 328), (some (323, false)), []⟩, ⟨13, some 330, .pick (.tmp 323) (.const (.bool true)) (.tmp 329), none, []⟩, ⟨14, some 331, .mv (.tmp 330), none, []⟩, ⟨15, some 332, .mv (.tmp 39), (some (331, false)), []⟩, ⟨16, some 333, .len (.tmp 332), (some (331, false)), []⟩, ⟨17, some 334, .mv (.tmp 5), (some (331, false)), []⟩, ⟨18, some 335, .len (.tmp 334), (some (331, false)), []⟩, ⟨19, some 336, .bin .neq (.tmp 333) (.tmp 335), (some (331, false)), []⟩, ⟨20, some 337, .pick (.tmp 331) (.const (.bool true)) (.tmp 336), none, []⟩, ⟨21, some 338, .mv (.tmp 337), none, []⟩, ⟨22, some 339, .mv (.tmp 40), (some (338, false)), []⟩, ⟨23, some 340, .len (.tmp 339), (some (338, false)), []⟩, ⟨24, some 341, .mv (.tmp 5), (some (338, false)), []⟩, ⟨25, some 342, .len (.tmp 341), (some (338, false)), []⟩, ⟨26, some 343, .bin .neq (.tmp 340) (.tmp 342), (some (338, false)), []⟩, ⟨27, some 344, .pick (.tmp 338) (.const (.bool true)) (.tmp 343), none, []⟩]))
  (.cond (.tmp 344) (.seq (.keep [] (.ops [⟨0, some 4, .mv (.const (.bool false)), none, []⟩]))
  (.ret)) (.skip)))
  (.seq (.seq (.keep [5, 37, 40] (.ops [⟨0, some 42, .mv (.const (.int .i64 0)), none, []⟩]))
  (.block 12 (.loop [5, 37, 40, 42] (.seq (.seq (.ops [⟨0, some 345, .mv (.tmp 42), none, []⟩, ⟨1, some 346, .mv (.tmp 5), none, []⟩, ⟨2, some 347, .len (.tmp 346), none, []⟩, ⟨3, some 348, .bin .lss (.tmp 345) (.tmp 347), none, []⟩])
  (.cond (.tmp 348) (.skip) (.exit 12)))
  (.seq (.block 13 (.seq (.ops [⟨0, some 351, .mv (.tmp 37), none, []⟩, ⟨1, some 352, .mv (.tmp 42), none, []⟩, ⟨2, some 353, .bin .mul (.const (.int .i64 2)) (.tmp 352), none, []⟩, ⟨3, some 354, .ia (.tmp 351) (.tmp 353), none, []⟩, ⟨4, some 355, .ld (.tmp 354), none, []⟩, ⟨5, some 356, .cv (.f .f64) (.tmp 355), none, []⟩, ⟨6, some 357, .mv (.tmp 5), none, []⟩, ⟨7, some 358, .mv (.tmp 42), none, []⟩, ⟨8, some 359, .ia (.tmp 357) (.tmp 358), none, []⟩, ⟨9, some 360, .ld (.tmp 359), none, []⟩, ⟨10, some 361, .cv (.f .f64) (.tmp 360), none, []⟩, ⟨11, some 362, .call n_w_r8Gap [.tmp 356, .tmp 361], none, []⟩, ⟨12, some 363, .bin .gtr (.tmp 362) (.const (.float .f64 4562254508917369340)), none, []⟩, ⟨13, some 364, .mv (.tmp 363), none, []⟩, ⟨14, some 365, .mv (.tmp 40), (some (364, false)), []⟩, ⟨15, some 366, .mv (.tmp 42), (some (364, false)), []⟩, ⟨16, some 367, .ia (.tmp 365) (.tmp 366), (some (364, false)), []⟩, ⟨17, some 368, .ld (.tmp 367), (some (364, false)), []⟩, ⟨18, some 369, .cv (.f .f64) (.tmp 368), (some (364, false)), []⟩, ⟨19, some 370, .call n_w_r8Gap [.tmp 369, .const (.float .f64 0)], (some (364, false)), []⟩, ⟨20, some 371, .bin .gtr (.tmp 370) (.const (.float .f64 4562254508917369340)), (some (364, false)), []⟩, ⟨21, some 372, .pick (.tmp 364) (.const (.bool true)) (.tmp 371), none, []⟩])
  (.cond (.tmp 372) (.seq (.keep [] (.ops [⟨0, some 4, .mv (.const (.bool false)), none, []⟩]))
  (.ret)) (.skip))))
  (.keep [5, 37, 40, 42] (.ops [⟨0, some 349, .mv (.tmp 42), none, []⟩, ⟨1, some 350, .bin .add (.tmp 349) (.const (.int .i64 1)), none, []⟩, ⟨2, some 42, .mv (.tmp 350), none, []⟩])))))))
  (.seq (.keep [] (.ops [⟨0, some 4, .mv (.const (.bool true)), none, []⟩]))
  (.ret)))))))))))))))))))))))))))
theorem k_w_FnCoarse : FnOk Try.prog n_w_FnCoarse 2 c_w_FnCoarse [.tmp 4] := ⟨by kernel_rfl⟩
def c_w_r8Long : ACode :=
  .seq (.ops [⟨0, some 4, .mv (.const (.bool false)), none, []⟩])
  (.seq (.ops [⟨0, some 5, .mv (.tmp 0), none, []⟩, ⟨1, some 6, .len (.tmp 5), none, []⟩, ⟨2, some 7, .bin .gtr (.tmp 6) (.const (.int .i64 48)), none, []⟩, ⟨3, some 8, .mv (.tmp 7), none, []⟩, ⟨4, some 9, .mv (.tmp 1), (some (8, false)), []⟩, ⟨5, some 10, .len (.tmp 9), (some (8, false)), []⟩, ⟨6, some 11, .bin .gtr (.tmp 10) (.const (.int .i64 48)), (some (8, false)), []⟩, ⟨7, some 12, .pick (.tmp 8) (.const (.bool true)) (.tmp 11), none, []⟩, ⟨8, some 4, .mv (.tmp 12), none, []⟩])
  (.ret))
theorem k_w_r8Long : FnOk Try.prog n_w_r8Long 2 c_w_r8Long [.tmp 4] := ⟨by kernel_rfl⟩
def c_w_r8At : ACode :=
  .seq (.ops [⟨0, some 6, .mv (.const (.int .i64 0)), none, []⟩])
  (.seq (.seq (.ops [⟨0, some 7, .mv (.tmp 2), none, []⟩, ⟨1, some 8, .bin .leq (.tmp 7) (.const (.int .i64 1)), none, []⟩, ⟨2, some 9, .mv (.tmp 8), none, []⟩, ⟨3, some 10, .mv (.tmp 1), (some (9, false)), []⟩, ⟨4, some 11, .mv (.tmp 0), (some (9, false)), []⟩, ⟨5, some 12, .len (.tmp 11), (some (9, false)), []⟩, ⟨6, some 13, .bin .geq (.tmp 10) (.tmp 12), (some (9, false)), []⟩, ⟨7, some 14, .pick (.tmp 9) (.const (.bool true)) (.tmp 13), none, []⟩])
  (.cond (.tmp 14) (.seq (.keep [] (.ops [⟨0, some 6, .mv (.const (.int .i64 0)), none, []⟩]))
  (.ret)) (.skip)))
  (.seq (.keep [0, 1, 2] (.ops [⟨0, some 15, .mv (.tmp 0), none, []⟩, ⟨1, some 16, .mv (.tmp 1), none, []⟩, ⟨2, some 17, .ia (.tmp 15) (.tmp 16), none, []⟩, ⟨3, some 18, .ld (.tmp 17), none, []⟩, ⟨4, some 19, .cv (.i .i64) (.tmp 18), none, []⟩, ⟨5, some 20, .mv (.tmp 2), none, []⟩, ⟨6, some 21, .bin .rem (.tmp 19) (.tmp 20), none, []⟩, ⟨7, some 6, .mv (.tmp 21), none, []⟩]))
  (.ret)))
theorem k_w_r8At : FnOk Try.prog n_w_r8At 3 c_w_r8At [.tmp 6] := ⟨by kernel_rfl⟩
def c_i_BandSizes : ACode :=
  .seq (.ops [⟨0, some 4, .mv (.const (.slice none 0 0)), none, []⟩, ⟨1, some 5, .mv (.const (.bool false)), none, []⟩])
  (.seq (.seq (.ops [⟨0, some 8, .mv (.tmp 0), none, []⟩, ⟨1, some 9, .call n_i_within [.tmp 8, .const (.int .i64 1), .const (.int .i64 128)], none, []⟩, ⟨2, some 10, .un .not (.tmp 9), none, []⟩, ⟨3, some 11, .mv (.tmp 10), none, []⟩, ⟨4, some 12, .mv (.tmp 1), (some (11, false)), []⟩, ⟨5, some 13, .call n_i_within [.tmp 12, .const (.int .i64 1), .const (.int .i64 6)], (some (11, false)), []⟩, ⟨6, some 14, .un .not (.tmp 13), (some (11, false)), []⟩, ⟨7, some 15, .pick (.tmp 11) (.const (.bool true)) (.tmp 14), none, []⟩])
  (.cond (.tmp 15) (.seq (.keep [] (.ops [⟨0, some 4, .mv (.const (.slice none 0 0)), none, []⟩, ⟨1, some 5, .mv (.const (.bool false)), none, []⟩]))
  (.ret)) (.skip)))
  (.seq (.keep [0, 1] (.ops [⟨0, some 16, .bsl 2 0 (.int .i64 0) [], none, []⟩, ⟨1, some 6, .mv (.tmp 16), none, []⟩]))
  (.seq (.seq (.ops [⟨0, some 7, .mv (.const (.int .i64 0)), none, []⟩])
  (.block 0 (.loop [0, 1, 6, 7] (.seq (.seq (.ops [⟨0, some 17, .mv (.tmp 7), none, []⟩, ⟨1, some 18, .mv (.tmp 1), none, []⟩, ⟨2, some 19, .bin .lss (.tmp 17) (.tmp 18), none, []⟩, ⟨3, some 20, .mv (.tmp 19), none, []⟩, ⟨4, some 21, .mv (.tmp 0), (some (20, true)), []⟩, ⟨5, some 22, .bin .gtr (.tmp 21) (.const (.int .i64 1)), (some (20, true)), []⟩, ⟨6, some 23, .pick (.tmp 20) (.tmp 22) (.const (.bool false)), none, []⟩])
  (.cond (.tmp 23) (.skip) (.exit 0)))
  (.seq (.block 1 (.seq (.keep [0, 1, 6, 7] (.ops [⟨0, some 26, .mv (.tmp 6), none, []⟩, ⟨1, some 27, .mv (.tmp 0), none, []⟩, ⟨2, some 28, .bin .quo (.tmp 27) (.const (.int .i64 2)), none, []⟩, ⟨3, some 29, .bsl 2 1 (.int .i64 0) [(0, .tmp 28)], none, []⟩, ⟨4, some 30, .app 2 8 (.tmp 26) (.tmp 29), none, []⟩, ⟨5, some 6, .mv (.tmp 30), none, []⟩]))
  (.keep [0, 1, 6, 7] (.ops [⟨0, some 31, .mv (.tmp 0), none, []⟩, ⟨1, some 32, .mv (.tmp 0), none, []⟩, ⟨2, some 33, .bin .quo (.tmp 32) (.const (.int .i64 2)), none, []⟩, ⟨3, some 34, .bin .sub (.tmp 31) (.tmp 33), none, []⟩, ⟨4, some 0, .mv (.tmp 34), none, []⟩]))))
  (.ops [⟨0, some 24, .mv (.tmp 7), none, []⟩, ⟨1, some 25, .bin .add (.tmp 24) (.const (.int .i64 1)), none, []⟩, ⟨2, some 7, .mv (.tmp 25), none, []⟩]))))))
  (.seq (.keep [0, 6] (.ops [⟨0, some 35, .mv (.tmp 6), none, []⟩, ⟨1, some 36, .mv (.tmp 0), none, []⟩, ⟨2, some 37, .bsl 2 1 (.int .i64 0) [(0, .tmp 36)], none, []⟩, ⟨3, some 38, .app 2 8 (.tmp 35) (.tmp 37), none, []⟩, ⟨4, some 4, .mv (.tmp 38), none, []⟩, ⟨5, some 5, .mv (.const (.bool true)), none, []⟩]))
  (.ret)))))
theorem k_i_BandSizes : FnOk Try.prog n_i_BandSizes 2 c_i_BandSizes [.tmp 4, .tmp 5] := ⟨by kernel_rfl⟩
def c_s_R8List : ACode :=
  .seq (.ops [⟨0, some 2, .mv (.const (.slice none 0 0)), none, []⟩])
  (.seq (.ops [⟨0, some 4, .mv (.tmp 0), none, []⟩, ⟨1, some 5, .call n_s_l00From [.tmp 4], none, []⟩, ⟨2, some 3, .mv (.tmp 5), none, []⟩])
  (.seq (.ops [⟨0, some 6, .mv (.tmp 3), none, []⟩, ⟨1, some 7, .call n_s_l02DrawOk [.tmp 6], none, []⟩, ⟨2, some 2, .mv (.tmp 7), none, []⟩])
  (.ret)))
theorem k_s_R8List : FnOk Try.prog n_s_R8List 1 c_s_R8List [.tmp 2] := ⟨by kernel_rfl⟩
def c_i_LinesScheme : ACode :=
  .seq (.ops [⟨0, some 0, .new 71 [.slice none 0 0, .float .f32 0], none, []⟩])
  (.seq (.ops [⟨0, some 1, .bsl 41 2 (.float .f32 0) [(0, .const (.float .f32 3204448256)), (1, .const (.float .f32 1048576000))], none, []⟩, ⟨1, some 2, .bld [.slice none 0 0, .float .f32 0] [(0, 1, .tmp 1), (1, 1, .const (.float .f32 1065353216))], none, []⟩, ⟨2, none, .stn 2 (.tmp 0) (.tmp 2), none, []⟩])
  (.ret))
theorem k_i_LinesScheme : FnOk Try.prog n_i_LinesScheme 0 c_i_LinesScheme [.celln 0 2] := ⟨by kernel_rfl⟩
def c_i_LiftDeep : ACode :=
  .seq (.ops [⟨0, some 3, .box 71 (.tmp 0), none, []⟩, ⟨1, some 6, .mv (.const (.slice none 0 0)), none, []⟩, ⟨2, some 7, .mv (.const (.bool false)), none, []⟩])
  (.seq (.seq (.ops [⟨0, some 14, .ldn 2 (.tmp 3), none, []⟩, ⟨1, some 15, .call n_i_ValidScheme [.tmp 14], none, []⟩, ⟨2, some 16, .un .not (.tmp 15), none, []⟩, ⟨3, some 17, .mv (.tmp 16), none, []⟩, ⟨4, some 18, .mv (.tmp 1), (some (17, false)), []⟩, ⟨5, some 19, .call n_i_IsList [.tmp 18], (some (17, false)), []⟩, ⟨6, some 20, .un .not (.tmp 19), (some (17, false)), []⟩, ⟨7, some 21, .pick (.tmp 17) (.const (.bool true)) (.tmp 20), none, []⟩, ⟨8, some 22, .mv (.tmp 21), none, []⟩, ⟨9, some 23, .mv (.tmp 2), (some (22, false)), []⟩, ⟨10, some 24, .call n_i_within [.tmp 23, .const (.int .i64 1), .const (.int .i64 6)], (some (22, false)), []⟩, ⟨11, some 25, .un .not (.tmp 24), (some (22, false)), []⟩, ⟨12, some 26, .pick (.tmp 22) (.const (.bool true)) (.tmp 25), none, []⟩])
  (.cond (.tmp 26) (.seq (.keep [] (.ops [⟨0, some 6, .mv (.const (.slice none 0 0)), none, []⟩, ⟨1, some 7, .mv (.const (.bool false)), none, []⟩]))
  (.ret)) (.skip)))
  (.seq (.keep [1, 2, 3] (.ops [⟨0, some 27, .bsl 24 0 (.slice none 0 0) [], none, []⟩, ⟨1, some 28, .mv (.tmp 1), none, []⟩, ⟨2, some 29, .call n_i_copyOf [.tmp 28], none, []⟩, ⟨3, some 8, .mv (.tmp 27), none, []⟩, ⟨4, some 9, .mv (.tmp 29), none, []⟩]))
  (.seq (.seq (.ops [⟨0, some 10, .mv (.const (.int .i64 0)), none, []⟩])
  (.block 0 (.loop [2, 3, 8, 9, 10] (.seq (.seq (.ops [⟨0, some 30, .mv (.tmp 10), none, []⟩, ⟨1, some 31, .mv (.tmp 2), none, []⟩, ⟨2, some 32, .bin .lss (.tmp 30) (.tmp 31), none, []⟩, ⟨3, some 33, .mv (.tmp 32), none, []⟩, ⟨4, some 34, .mv (.tmp 9), (some (33, true)), []⟩, ⟨5, some 35, .len (.tmp 34), (some (33, true)), []⟩, ⟨6, some 36, .bin .gtr (.tmp 35) (.const (.int .i64 1)), (some (33, true)), []⟩, ⟨7, some 37, .pick (.tmp 33) (.tmp 36) (.const (.bool false)), none, []⟩])
  (.cond (.tmp 37) (.skip) (.exit 0)))
  (.seq (.block 1 (.seq (.keep [2, 3, 8, 9, 10] (.ops [⟨0, some 41, .ldn 2 (.tmp 3), none, []⟩, ⟨1, some 42, .mv (.tmp 9), none, []⟩, ⟨2, some 43, .call n_i_LiftOnce [.tmp 41, .tmp 42], none, []⟩, ⟨3, some 40, .mv (.tmp 43), none, []⟩, ⟨4, some 44, .ext (.tmp 40) 0, none, []⟩, ⟨5, some 45, .ext (.tmp 40) 1, none, []⟩, ⟨6, some 46, .ext (.tmp 40) 2, none, []⟩, ⟨7, some 11, .mv (.tmp 44), none, []⟩, ⟨8, some 12, .mv (.tmp 45), none, []⟩, ⟨9, some 13, .mv (.tmp 46), none, []⟩]))
  (.seq (.seq (.keep [2, 3, 8, 10, 11, 12, 13] (.ops [⟨0, some 47, .mv (.tmp 13), none, []⟩, ⟨1, some 48, .un .not (.tmp 47), none, []⟩]))
  (.cond (.tmp 48) (.seq (.keep [] (.ops [⟨0, some 6, .mv (.const (.slice none 0 0)), none, []⟩, ⟨1, some 7, .mv (.const (.bool false)), none, []⟩]))
  (.ret)) (.skip)))
  (.seq (.ops [⟨0, some 49, .mv (.tmp 8), none, []⟩, ⟨1, some 50, .mv (.tmp 12), none, []⟩, ⟨2, some 51, .bsl 24 1 (.slice none 0 0) [(0, .tmp 50)], none, []⟩, ⟨3, some 52, .app 24 24 (.tmp 49) (.tmp 51), none, []⟩, ⟨4, some 8, .mv (.tmp 52), none, []⟩])
  (.keep [2, 3, 8, 10, 11] (.ops [⟨0, some 53, .mv (.tmp 11), none, []⟩, ⟨1, some 9, .mv (.tmp 53), none, []⟩]))))))
  (.ops [⟨0, some 38, .mv (.tmp 10), none, []⟩, ⟨1, some 39, .bin .add (.tmp 38) (.const (.int .i64 1)), none, []⟩, ⟨2, some 10, .mv (.tmp 39), none, []⟩]))))))
  (.seq (.keep [8, 9] (.ops [⟨0, some 54, .mv (.tmp 8), none, []⟩, ⟨1, some 55, .mv (.tmp 9), none, []⟩, ⟨2, some 56, .bsl 24 1 (.slice none 0 0) [(0, .tmp 55)], none, []⟩, ⟨3, some 57, .app 24 24 (.tmp 54) (.tmp 56), none, []⟩, ⟨4, some 6, .mv (.tmp 57), none, []⟩, ⟨5, some 7, .mv (.const (.bool true)), none, []⟩]))
  (.ret)))))
theorem k_i_LiftDeep : FnOk Try.prog n_i_LiftDeep 3 c_i_LiftDeep [.tmp 6, .tmp 7] := ⟨by kernel_rfl⟩
def c_i_SmallOut : ACode :=
  .seq (.ops [⟨0, some 4, .mv (.const (.slice none 0 0)), none, []⟩, ⟨1, some 5, .mv (.const (.int .i64 0)), none, []⟩, ⟨2, some 6, .mv (.const (.bool false)), none, []⟩])
  (.seq (.seq (.ops [⟨0, some 14, .mv (.tmp 0), none, []⟩, ⟨1, some 15, .call n_i_AreBands [.tmp 14], none, []⟩, ⟨2, some 16, .un .not (.tmp 15), none, []⟩, ⟨3, some 17, .mv (.tmp 16), none, []⟩, ⟨4, some 18, .mv (.tmp 1), (some (17, false)), []⟩, ⟨5, some 19, .call n_i_isLeast [.tmp 18], (some (17, false)), []⟩, ⟨6, some 20, .un .not (.tmp 19), (some (17, false)), []⟩, ⟨7, some 21, .pick (.tmp 17) (.const (.bool true)) (.tmp 20), none, []⟩])
  (.cond (.tmp 21) (.seq (.keep [] (.ops [⟨0, some 4, .mv (.const (.slice none 0 0)), none, []⟩, ⟨1, some 5, .mv (.const (.int .i64 0)), none, []⟩, ⟨2, some 6, .mv (.const (.bool false)), none, []⟩]))
  (.ret)) (.skip)))
  (.seq (.keep [0, 1] (.ops [⟨0, some 22, .bsl 24 0 (.slice none 0 0) [], none, []⟩, ⟨1, some 7, .mv (.tmp 22), none, []⟩, ⟨2, some 8, .mv (.const (.int .i64 0)), none, []⟩]))
  (.seq (.seq (.ops [⟨0, some 23, .mv (.tmp 0), none, []⟩, ⟨1, some 24, .len (.tmp 23), none, []⟩, ⟨2, some 25, .mv (.const (.int .i64 0)), none, []⟩])
  (.block 0 (.loop [0, 1, 7, 8, 23, 24, 25] (.seq (.ops [⟨0, some 26, .bin .lss (.tmp 25) (.tmp 24), none, []⟩])
  (.seq (.cond (.tmp 26) (.skip) (.exit 0))
  (.seq (.block 1 (.seq (.ops [⟨0, some 27, .mv (.tmp 25), none, []⟩, ⟨1, some 28, .ia (.tmp 23) (.tmp 25), none, []⟩, ⟨2, some 29, .ld (.tmp 28), none, []⟩, ⟨3, some 9, .mv (.tmp 27), none, []⟩, ⟨4, some 10, .mv (.tmp 29), none, []⟩])
  (.seq (.ops [⟨0, some 30, .mv (.tmp 10), none, []⟩, ⟨1, some 31, .call n_i_copyOf [.tmp 30], none, []⟩, ⟨2, some 11, .mv (.tmp 31), none, []⟩])
  (.seq (.seq (.keep [0, 1, 7, 8, 9, 11, 23, 24, 25] (.ops [⟨0, some 32, .mv (.tmp 11), none, []⟩, ⟨1, some 33, .len (.tmp 32), none, []⟩, ⟨2, some 34, .mv (.const (.int .i64 0)), none, []⟩]))
  (.block 2 (.loop [0, 1, 7, 8, 9, 11, 23, 24, 25, 32, 33, 34] (.seq (.ops [⟨0, some 35, .bin .lss (.tmp 34) (.tmp 33), none, []⟩])
  (.seq (.cond (.tmp 35) (.skip) (.exit 2))
  (.seq (.block 3 (.seq (.ops [⟨0, some 36, .mv (.tmp 34), none, []⟩, ⟨1, some 37, .ia (.tmp 32) (.tmp 34), none, []⟩, ⟨2, some 38, .ld (.tmp 37), none, []⟩, ⟨3, some 12, .mv (.tmp 36), none, []⟩, ⟨4, some 13, .mv (.tmp 38), none, []⟩])
  (.seq (.ops [⟨0, some 39, .mv (.tmp 9), none, []⟩, ⟨1, some 40, .mv (.tmp 0), none, []⟩, ⟨2, some 41, .len (.tmp 40), none, []⟩, ⟨3, some 42, .bin .sub (.tmp 41) (.const (.int .i64 1)), none, []⟩, ⟨4, some 43, .bin .lss (.tmp 39) (.tmp 42), none, []⟩, ⟨5, some 44, .mv (.tmp 43), none, []⟩, ⟨6, some 45, .mv (.tmp 13), (some (44, true)), []⟩, ⟨7, some 46, .call n_i_size [.tmp 45], (some (44, true)), []⟩, ⟨8, some 47, .mv (.tmp 1), (some (44, true)), []⟩, ⟨9, some 48, .bin .leq (.tmp 46) (.tmp 47), (some (44, true)), []⟩, ⟨10, some 49, .pick (.tmp 44) (.tmp 48) (.const (.bool false)), none, []⟩])
  (.cond (.tmp 49) (.seq (.keep [0, 1, 7, 8, 9, 11, 12, 23, 24, 25, 32, 33, 34] (.ops [⟨0, some 50, .mv (.tmp 11), none, []⟩, ⟨1, some 51, .mv (.tmp 12), none, []⟩, ⟨2, some 52, .ia (.tmp 50) (.tmp 51), none, []⟩, ⟨3, none, .st (.tmp 52) (.const (.float .f32 0)), none, []⟩]))
  (.ops [⟨0, some 53, .mv (.tmp 8), none, []⟩, ⟨1, some 54, .bin .add (.tmp 53) (.const (.int .i64 1)), none, []⟩, ⟨2, some 8, .mv (.tmp 54), none, []⟩])) (.skip)))))
  (.keep [0, 1, 7, 8, 9, 11, 23, 24, 25, 32, 33, 34] (.ops [⟨0, some 55, .bin .add (.tmp 34) (.const (.int .i64 1)), none, []⟩, ⟨1, some 34, .mv (.tmp 55), none, []⟩]))))))))
  (.keep [0, 1, 7, 8, 11, 23, 24, 25] (.ops [⟨0, some 56, .mv (.tmp 7), none, []⟩, ⟨1, some 57, .mv (.tmp 11), none, []⟩, ⟨2, some 58, .bsl 24 1 (.slice none 0 0) [(0, .tmp 57)], none, []⟩, ⟨3, some 59, .app 24 24 (.tmp 56) (.tmp 58), none, []⟩, ⟨4, some 7, .mv (.tmp 59), none, []⟩]))))))
  (.keep [0, 1, 7, 8, 23, 24, 25] (.ops [⟨0, some 60, .bin .add (.tmp 25) (.const (.int .i64 1)), none, []⟩, ⟨1, some 25, .mv (.tmp 60), none, []⟩]))))))))
  (.seq (.keep [7, 8] (.ops [⟨0, some 61, .mv (.tmp 7), none, []⟩, ⟨1, some 62, .mv (.tmp 8), none, []⟩, ⟨2, some 4, .mv (.tmp 61), none, []⟩, ⟨3, some 5, .mv (.tmp 62), none, []⟩, ⟨4, some 6, .mv (.const (.bool true)), none, []⟩]))
  (.ret)))))
theorem k_i_SmallOut : FnOk Try.prog n_i_SmallOut 2 c_i_SmallOut [.tmp 4, .tmp 5, .tmp 6] := ⟨by kernel_rfl⟩
def c_i_CoarseOf : ACode :=
  .seq (.ops [⟨0, some 4, .box 71 (.tmp 0), none, []⟩, ⟨1, some 8, .mv (.const (.slice none 0 0)), none, []⟩, ⟨2, some 9, .mv (.const (.bool false)), none, []⟩])
  (.seq (.ops [⟨0, some 14, .ldn 2 (.tmp 4), none, []⟩, ⟨1, some 15, .mv (.tmp 1), none, []⟩, ⟨2, some 16, .mv (.tmp 2), none, []⟩, ⟨3, some 17, .call n_i_LiftDeep [.tmp 14, .tmp 15, .tmp 16], none, []⟩, ⟨4, some 13, .mv (.tmp 17), none, []⟩, ⟨5, some 18, .ext (.tmp 13) 0, none, []⟩, ⟨6, some 19, .ext (.tmp 13) 1, none, []⟩, ⟨7, some 10, .mv (.tmp 18), none, []⟩, ⟨8, some 11, .mv (.tmp 19), none, []⟩])
  (.seq (.seq (.keep [3, 4, 10, 11] (.ops [⟨0, some 20, .mv (.tmp 11), none, []⟩, ⟨1, some 21, .un .not (.tmp 20), none, []⟩, ⟨2, some 22, .mv (.tmp 21), none, []⟩, ⟨3, some 23, .mv (.tmp 3), (some (22, false)), []⟩, ⟨4, some 24, .bin .lss (.tmp 23) (.const (.int .i64 0)), (some (22, false)), []⟩, ⟨5, some 25, .pick (.tmp 22) (.const (.bool true)) (.tmp 24), none, []⟩]))
  (.cond (.tmp 25) (.seq (.keep [] (.ops [⟨0, some 8, .mv (.const (.slice none 0 0)), none, []⟩, ⟨1, some 9, .mv (.const (.bool false)), none, []⟩]))
  (.ret)) (.skip)))
  (.seq (.seq (.keep [3, 4, 10] (.ops [⟨0, some 12, .mv (.const (.int .i64 0)), none, []⟩]))
  (.block 0 (.loop [3, 4, 10, 12] (.seq (.seq (.ops [⟨0, some 26, .mv (.tmp 12), none, []⟩, ⟨1, some 27, .mv (.tmp 10), none, []⟩, ⟨2, some 28, .len (.tmp 27), none, []⟩, ⟨3, some 29, .bin .sub (.tmp 28) (.const (.int .i64 1)), none, []⟩, ⟨4, some 30, .mv (.tmp 3), none, []⟩, ⟨5, some 31, .bin .sub (.tmp 29) (.tmp 30), none, []⟩, ⟨6, some 32, .bin .lss (.tmp 26) (.tmp 31), none, []⟩])
  (.cond (.tmp 32) (.skip) (.exit 0)))
  (.seq (.block 1 (.keep [3, 4, 10, 12] (.ops [⟨0, some 35, .mv (.tmp 10), none, []⟩, ⟨1, some 36, .mv (.tmp 12), none, []⟩, ⟨2, some 37, .mv (.tmp 10), none, []⟩, ⟨3, some 38, .mv (.tmp 12), none, []⟩, ⟨4, some 39, .ia (.tmp 37) (.tmp 38), none, []⟩, ⟨5, some 40, .ld (.tmp 39), none, []⟩, ⟨6, some 41, .len (.tmp 40), none, []⟩, ⟨7, some 42, .mks 41 4 (.float .f32 0) (.tmp 41) (.tmp 41), none, []⟩, ⟨8, some 43, .ia (.tmp 35) (.tmp 36), none, []⟩, ⟨9, none, .st (.tmp 43) (.tmp 42), none, []⟩])))
  (.keep [3, 4, 10, 12] (.ops [⟨0, some 33, .mv (.tmp 12), none, []⟩, ⟨1, some 34, .bin .add (.tmp 33) (.const (.int .i64 1)), none, []⟩, ⟨2, some 12, .mv (.tmp 34), none, []⟩])))))))
  (.seq (.keep [4, 10] (.ops [⟨0, some 44, .ldn 2 (.tmp 4), none, []⟩, ⟨1, some 45, .mv (.tmp 10), none, []⟩, ⟨2, some 46, .call n_i_DropDeep [.tmp 44, .tmp 45], none, []⟩, ⟨3, some 47, .ext (.tmp 46) 0, none, []⟩, ⟨4, some 48, .ext (.tmp 46) 1, none, []⟩, ⟨5, some 8, .mv (.tmp 47), none, []⟩, ⟨6, some 9, .mv (.tmp 48), none, []⟩]))
  (.ret)))))
theorem k_i_CoarseOf : FnOk Try.prog n_i_CoarseOf 4 c_i_CoarseOf [.tmp 8, .tmp 9] := ⟨by kernel_rfl⟩
def c_w_r8Gap : ACode :=
  .seq (.ops [⟨0, some 4, .mv (.const (.float .f64 0)), none, []⟩])
  (.seq (.ops [⟨0, some 5, .mv (.tmp 0), none, []⟩, ⟨1, some 6, .mv (.tmp 1), none, []⟩, ⟨2, some 7, .bin .sub (.tmp 5) (.tmp 6), none, []⟩, ⟨3, some 8, .mv (.tmp 1), none, []⟩, ⟨4, some 9, .mv (.tmp 0), none, []⟩, ⟨5, some 10, .bin .sub (.tmp 8) (.tmp 9), none, []⟩, ⟨6, some 11, .mnx true (.tmp 7) (.tmp 10), none, []⟩, ⟨7, some 4, .mv (.tmp 11), none, []⟩])
  (.ret))
theorem k_w_r8Gap : FnOk Try.prog n_w_r8Gap 2 c_w_r8Gap [.tmp 4] := ⟨by kernel_rfl⟩
def c_i_CoverOf : ACode :=
  .seq (.ops [⟨0, some 8, .mv (.const (.int .i64 0)), none, []⟩, ⟨1, some 9, .mv (.const (.int .i64 0)), none, []⟩, ⟨2, some 10, .mv (.const (.bool false)), none, []⟩])
  (.seq (.ops [⟨0, some 16, .mv (.tmp 0), none, []⟩, ⟨1, some 17, .mv (.tmp 1), none, []⟩, ⟨2, some 18, .call n_i_BandSizes [.tmp 16, .tmp 17], none, []⟩, ⟨3, some 15, .mv (.tmp 18), none, []⟩, ⟨4, some 19, .ext (.tmp 15) 0, none, []⟩, ⟨5, some 20, .ext (.tmp 15) 1, none, []⟩, ⟨6, some 11, .mv (.tmp 19), none, []⟩, ⟨7, some 12, .mv (.tmp 20), none, []⟩])
  (.seq (.seq (.keep [2, 3, 11, 12] (.ops [⟨0, some 21, .mv (.tmp 12), none, []⟩, ⟨1, some 22, .un .not (.tmp 21), none, []⟩, ⟨2, some 23, .mv (.tmp 22), none, []⟩, ⟨3, some 24, .mv (.tmp 2), (some (23, false)), []⟩, ⟨4, some 25, .mv (.tmp 11), (some (23, false)), []⟩, ⟨5, some 26, .len (.tmp 25), (some (23, false)), []⟩, ⟨6, some 27, .bin .sub (.tmp 26) (.const (.int .i64 1)), (some (23, false)), []⟩, ⟨7, some 28, .call n_i_within [.tmp 24, .const (.int .i64 0), .tmp 27], (some (23, false)), []⟩, ⟨8, some 29, .un .not (.tmp 28), (some (23, false)), []⟩, ⟨9, some 30, .pick (.tmp 23) (.const (.bool true)) (.tmp 29), none, []⟩, ⟨10, some 31, .mv (.tmp 30), none, []⟩, ⟨11, some 32, .mv (.tmp 3), (some (31, false)), []⟩, ⟨12, some 33, .mv (.tmp 11), (some (31, false)), []⟩, ⟨13, some 34, .mv (.tmp 2), (some (31, false)), []⟩, ⟨14, some 35, .ia (.tmp 33) (.tmp 34), (some (31, false)), []⟩, ⟨15, some 36, .ld (.tmp 35), (some (31, false)), []⟩, ⟨16, some 37, .bin .sub (.tmp 36) (.const (.int .i64 1)), (some (31, false)), []⟩, ⟨17, some 38, .call n_i_within [.tmp 32, .const (.int .i64 0), .tmp 37], (some (31, false)), []⟩, ⟨18, some 39, .un .not (.tmp 38), (some (31, false)), []⟩, ⟨19, some 40, .pick (.tmp 31) (.const (.bool true)) (.tmp 39), none, []⟩]))
  (.cond (.tmp 40) (.seq (.keep [] (.ops [⟨0, some 8, .mv (.const (.int .i64 0)), none, []⟩, ⟨1, some 9, .mv (.const (.int .i64 0)), none, []⟩, ⟨2, some 10, .mv (.const (.bool false)), none, []⟩]))
  (.ret)) (.skip)))
  (.seq (.seq (.keep [2, 3, 11] (.ops [⟨0, some 41, .mv (.tmp 11), none, []⟩, ⟨1, some 42, .len (.tmp 41), none, []⟩, ⟨2, some 43, .bin .sub (.tmp 42) (.const (.int .i64 1)), none, []⟩, ⟨3, some 13, .mv (.tmp 43), none, []⟩]))
  (.seq (.ops [⟨0, some 44, .mv (.tmp 2), none, []⟩, ⟨1, some 45, .mv (.tmp 13), none, []⟩, ⟨2, some 46, .bin .eql (.tmp 44) (.tmp 45), none, []⟩])
  (.cond (.tmp 46) (.seq (.keep [3, 13] (.ops [⟨0, some 47, .mv (.tmp 3), none, []⟩, ⟨1, some 48, .mv (.tmp 13), none, []⟩, ⟨2, some 49, .bin .shl (.tmp 47) (.tmp 48), none, []⟩, ⟨3, some 50, .mv (.tmp 13), none, []⟩, ⟨4, some 51, .bin .shl (.const (.int .i64 1)) (.tmp 50), none, []⟩, ⟨5, some 8, .mv (.tmp 49), none, []⟩, ⟨6, some 9, .mv (.tmp 51), none, []⟩, ⟨7, some 10, .mv (.const (.bool true)), none, []⟩]))
  (.ret)) (.skip))))
  (.seq (.keep [2, 3] (.ops [⟨0, some 52, .mv (.tmp 2), none, []⟩, ⟨1, some 53, .bin .add (.tmp 52) (.const (.int .i64 1)), none, []⟩, ⟨2, some 54, .bin .shl (.const (.int .i64 1)) (.tmp 53), none, []⟩, ⟨3, some 14, .mv (.tmp 54), none, []⟩]))
  (.seq (.ops [⟨0, some 55, .mv (.tmp 14), none, []⟩, ⟨1, some 56, .mv (.tmp 3), none, []⟩, ⟨2, some 57, .bin .mul (.tmp 55) (.tmp 56), none, []⟩, ⟨3, some 58, .mv (.tmp 14), none, []⟩, ⟨4, some 59, .bin .quo (.tmp 58) (.const (.int .i64 2)), none, []⟩, ⟨5, some 60, .bin .add (.tmp 57) (.tmp 59), none, []⟩, ⟨6, some 61, .mv (.tmp 14), none, []⟩, ⟨7, some 8, .mv (.tmp 60), none, []⟩, ⟨8, some 9, .mv (.tmp 61), none, []⟩, ⟨9, some 10, .mv (.const (.bool true)), none, []⟩])
  (.ret))))))
theorem k_i_CoverOf : FnOk Try.prog n_i_CoverOf 4 c_i_CoverOf [.tmp 8, .tmp 9, .tmp 10] := ⟨by kernel_rfl⟩
def c_i_GrowList : ACode :=
  .seq (.ops [⟨0, some 2, .box 71 (.tmp 0), none, []⟩, ⟨1, some 4, .mv (.const (.slice none 0 0)), none, []⟩, ⟨2, some 5, .mv (.const (.bool false)), none, []⟩])
  (.seq (.seq (.ops [⟨0, some 6, .mv (.tmp 1), none, []⟩, ⟨1, some 7, .call n_i_IsList [.tmp 6], none, []⟩, ⟨2, some 8, .un .not (.tmp 7), none, []⟩, ⟨3, some 9, .mv (.tmp 8), none, []⟩, ⟨4, some 10, .mv (.tmp 1), (some (9, false)), []⟩, ⟨5, some 11, .len (.tmp 10), (some (9, false)), []⟩, ⟨6, some 12, .bin .gtr (.tmp 11) (.const (.int .i64 64)), (some (9, false)), []⟩, ⟨7, some 13, .pick (.tmp 9) (.const (.bool true)) (.tmp 12), none, []⟩])
  (.cond (.tmp 13) (.seq (.keep [] (.ops [⟨0, some 4, .mv (.const (.slice none 0 0)), none, []⟩, ⟨1, some 5, .mv (.const (.bool false)), none, []⟩]))
  (.ret)) (.skip)))
  (.seq (.keep [1, 2] (.ops [⟨0, some 14, .ldn 2 (.tmp 2), none, []⟩, ⟨1, some 15, .mv (.tmp 1), none, []⟩, ⟨2, some 16, .mv (.tmp 1), none, []⟩, ⟨3, some 17, .len (.tmp 16), none, []⟩, ⟨4, some 18, .mks 41 4 (.float .f32 0) (.tmp 17) (.tmp 17), none, [(some 14, .ldn 2 (.tmp 2), none)]⟩, ⟨5, some 19, .call n_i_DropOnce [.tmp 14, .tmp 15, .tmp 18], none, []⟩, ⟨6, some 20, .ext (.tmp 19) 0, none, []⟩, ⟨7, some 21, .ext (.tmp 19) 1, none, []⟩, ⟨8, some 4, .mv (.tmp 20), none, []⟩, ⟨9, some 5, .mv (.tmp 21), none, []⟩]))
  (.ret)))
theorem k_i_GrowList : FnOk Try.prog n_i_GrowList 2 c_i_GrowList [.tmp 4, .tmp 5] := ⟨by kernel_rfl⟩
def c_i_LiftOnce : ACode :=
  .seq (.ops [⟨0, some 2, .box 71 (.tmp 0), none, []⟩, ⟨1, some 4, .mv (.const (.slice none 0 0)), none, []⟩, ⟨2, some 5, .mv (.const (.slice none 0 0)), none, []⟩, ⟨3, some 6, .mv (.const (.bool false)), none, []⟩])
  (.seq (.seq (.ops [⟨0, some 13, .ldn 2 (.tmp 2), none, []⟩, ⟨1, some 14, .call n_i_ValidScheme [.tmp 13], none, []⟩, ⟨2, some 15, .un .not (.tmp 14), none, []⟩, ⟨3, some 16, .mv (.tmp 15), none, []⟩, ⟨4, some 17, .mv (.tmp 1), (some (16, false)), []⟩, ⟨5, some 18, .call n_i_IsList [.tmp 17], (some (16, false)), []⟩, ⟨6, some 19, .un .not (.tmp 18), (some (16, false)), []⟩, ⟨7, some 20, .pick (.tmp 16) (.const (.bool true)) (.tmp 19), none, []⟩])
  (.cond (.tmp 20) (.seq (.keep [] (.ops [⟨0, some 4, .mv (.const (.slice none 0 0)), none, []⟩, ⟨1, some 5, .mv (.const (.slice none 0 0)), none, []⟩, ⟨2, some 6, .mv (.const (.bool false)), none, []⟩]))
  (.ret)) (.skip)))
  (.seq (.keep [1, 2] (.ops [⟨0, some 22, .mv (.tmp 1), none, []⟩, ⟨1, some 23, .call n_i_split_float32_ [.tmp 22], none, []⟩, ⟨2, some 21, .mv (.tmp 23), none, []⟩, ⟨3, some 24, .ext (.tmp 21) 0, none, []⟩, ⟨4, some 25, .ext (.tmp 21) 1, none, []⟩, ⟨5, some 7, .mv (.tmp 24), none, []⟩, ⟨6, some 8, .mv (.tmp 25), none, []⟩]))
  (.seq (.seq (.keep [2, 7, 8] (.ops [⟨0, some 26, .mv (.tmp 8), none, []⟩, ⟨1, some 27, .len (.tmp 26), none, []⟩, ⟨2, some 28, .bin .eql (.tmp 27) (.const (.int .i64 0)), none, []⟩]))
  (.cond (.tmp 28) (.seq (.ops [⟨0, some 29, .mv (.tmp 7), none, []⟩, ⟨1, some 30, .mv (.tmp 8), none, []⟩, ⟨2, some 4, .mv (.tmp 29), none, []⟩, ⟨3, some 5, .mv (.tmp 30), none, []⟩, ⟨4, some 6, .mv (.const (.bool true)), none, []⟩])
  (.ret)) (.skip)))
  (.seq (.seq (.ops [⟨0, some 31, .fa 0 (.tmp 2), none, []⟩, ⟨1, some 32, .ld (.tmp 31), none, []⟩, ⟨2, some 33, .len (.tmp 32), none, []⟩, ⟨3, some 34, .mv (.const (.int .i64 0)), none, []⟩])
  (.block 0 (.loop [2, 7, 8, 32, 33, 34] (.seq (.ops [⟨0, some 35, .bin .lss (.tmp 34) (.tmp 33), none, []⟩])
  (.seq (.cond (.tmp 35) (.skip) (.exit 0))
  (.seq (.block 1 (.seq (.ops [⟨0, some 36, .mv (.tmp 34), none, []⟩, ⟨1, some 37, .ia (.tmp 32) (.tmp 34), none, []⟩, ⟨2, some 38, .ld (.tmp 37), none, []⟩, ⟨3, some 9, .mv (.tmp 36), none, []⟩, ⟨4, some 10, .mv (.tmp 38), none, []⟩])
  (.ops [⟨0, some 39, .mv (.tmp 7), none, []⟩, ⟨1, some 40, .mv (.tmp 8), none, []⟩, ⟨2, some 41, .mv (.tmp 9), none, []⟩, ⟨3, some 42, .mv (.tmp 10), none, []⟩, ⟨4, some 43, .call n_i_weigh [.tmp 39, .tmp 40, .tmp 41, .tmp 42, .const (.bool false)], none, []⟩])))
  (.keep [2, 7, 8, 32, 33, 34] (.ops [⟨0, some 44, .bin .add (.tmp 34) (.const (.int .i64 1)), none, []⟩, ⟨1, some 34, .mv (.tmp 44), none, []⟩]))))))))
  (.seq (.seq (.ops [⟨0, some 45, .mv (.tmp 7), none, []⟩, ⟨1, some 46, .len (.tmp 45), none, []⟩, ⟨2, some 47, .mv (.const (.int .i64 0)), none, []⟩])
  (.block 2 (.loop [2, 7, 8, 46, 47] (.seq (.ops [⟨0, some 48, .bin .lss (.tmp 47) (.tmp 46), none, []⟩])
  (.seq (.cond (.tmp 48) (.skip) (.exit 2))
  (.seq (.block 3 (.seq (.ops [⟨0, some 49, .mv (.tmp 47), none, []⟩, ⟨1, some 11, .mv (.tmp 49), none, []⟩])
  (.ops [⟨0, some 50, .mv (.tmp 7), none, []⟩, ⟨1, some 51, .mv (.tmp 11), none, []⟩, ⟨2, some 52, .ia (.tmp 50) (.tmp 51), none, []⟩, ⟨3, some 53, .ld (.tmp 52), none, []⟩, ⟨4, some 54, .fa 1 (.tmp 2), none, []⟩, ⟨5, some 55, .ld (.tmp 54), none, []⟩, ⟨6, some 56, .bin .mul (.tmp 53) (.tmp 55), none, []⟩, ⟨7, some 57, .ia (.tmp 50) (.tmp 51), none, []⟩, ⟨8, none, .st (.tmp 57) (.tmp 56), none, []⟩])))
  (.keep [2, 7, 8, 46, 47] (.ops [⟨0, some 58, .bin .add (.tmp 47) (.const (.int .i64 1)), none, []⟩, ⟨1, some 47, .mv (.tmp 58), none, []⟩]))))))))
  (.seq (.seq (.ops [⟨0, some 59, .mv (.tmp 8), none, []⟩, ⟨1, some 60, .len (.tmp 59), none, []⟩, ⟨2, some 61, .mv (.const (.int .i64 0)), none, []⟩])
  (.block 4 (.loop [2, 7, 8, 60, 61] (.seq (.ops [⟨0, some 62, .bin .lss (.tmp 61) (.tmp 60), none, []⟩])
  (.seq (.cond (.tmp 62) (.skip) (.exit 4))
  (.seq (.block 5 (.seq (.ops [⟨0, some 63, .mv (.tmp 61), none, []⟩, ⟨1, some 12, .mv (.tmp 63), none, []⟩])
  (.ops [⟨0, some 64, .mv (.tmp 8), none, []⟩, ⟨1, some 65, .mv (.tmp 12), none, []⟩, ⟨2, some 66, .ia (.tmp 64) (.tmp 65), none, []⟩, ⟨3, some 67, .ld (.tmp 66), none, []⟩, ⟨4, some 68, .fa 1 (.tmp 2), none, []⟩, ⟨5, some 69, .ld (.tmp 68), none, []⟩, ⟨6, some 70, .bin .quo (.tmp 67) (.tmp 69), none, []⟩, ⟨7, some 71, .ia (.tmp 64) (.tmp 65), none, []⟩, ⟨8, none, .st (.tmp 71) (.tmp 70), none, []⟩])))
  (.keep [2, 7, 8, 60, 61] (.ops [⟨0, some 72, .bin .add (.tmp 61) (.const (.int .i64 1)), none, []⟩, ⟨1, some 61, .mv (.tmp 72), none, []⟩]))))))))
  (.seq (.seq (.ops [⟨0, some 73, .mv (.tmp 7), none, []⟩, ⟨1, some 74, .mv (.tmp 8), none, []⟩, ⟨2, some 75, .bsl 24 2 (.slice none 0 0) [(0, .tmp 73), (1, .tmp 74)], none, []⟩, ⟨3, some 76, .call n_i_areFinite [.tmp 75], none, []⟩, ⟨4, some 77, .un .not (.tmp 76), none, []⟩])
  (.cond (.tmp 77) (.seq (.keep [] (.ops [⟨0, some 4, .mv (.const (.slice none 0 0)), none, []⟩, ⟨1, some 5, .mv (.const (.slice none 0 0)), none, []⟩, ⟨2, some 6, .mv (.const (.bool false)), none, []⟩]))
  (.ret)) (.skip)))
  (.seq (.keep [7, 8] (.ops [⟨0, some 78, .mv (.tmp 7), none, []⟩, ⟨1, some 79, .mv (.tmp 8), none, []⟩, ⟨2, some 4, .mv (.tmp 78), none, []⟩, ⟨3, some 5, .mv (.tmp 79), none, []⟩, ⟨4, some 6, .mv (.const (.bool true)), none, []⟩]))
  (.ret)))))))))
theorem k_i_LiftOnce : FnOk Try.prog n_i_LiftOnce 2 c_i_LiftOnce [.tmp 4, .tmp 5, .tmp 6] := ⟨by kernel_rfl⟩
def c_i_DropOnce : ACode :=
  .seq (.ops [⟨0, some 3, .box 71 (.tmp 0), none, []⟩, ⟨1, some 6, .mv (.const (.slice none 0 0)), none, []⟩, ⟨2, some 7, .mv (.const (.bool false)), none, []⟩])
  (.seq (.ops [⟨0, some 14, .mv (.tmp 1), none, []⟩, ⟨1, some 15, .len (.tmp 14), none, []⟩, ⟨2, some 8, .mv (.tmp 15), none, []⟩])
  (.seq (.seq (.keep [1, 2, 3, 8] (.ops [⟨0, some 16, .ldn 2 (.tmp 3), none, []⟩, ⟨1, some 17, .call n_i_ValidScheme [.tmp 16], none, []⟩, ⟨2, some 18, .un .not (.tmp 17), none, []⟩, ⟨3, some 19, .mv (.tmp 18), none, []⟩, ⟨4, some 20, .mv (.tmp 8), (some (19, false)), []⟩, ⟨5, some 21, .bin .lss (.tmp 20) (.const (.int .i64 1)), (some (19, false)), []⟩, ⟨6, some 22, .pick (.tmp 19) (.const (.bool true)) (.tmp 21), none, []⟩, ⟨7, some 23, .mv (.tmp 22), none, []⟩, ⟨8, some 24, .mv (.tmp 2), (some (23, false)), []⟩, ⟨9, some 25, .len (.tmp 24), (some (23, false)), []⟩, ⟨10, some 26, .mv (.tmp 8), (some (23, false)), []⟩, ⟨11, some 27, .bin .neq (.tmp 25) (.tmp 26), (some (23, false)), []⟩, ⟨12, some 28, .mv (.tmp 27), (some (23, false)), []⟩, ⟨13, some 29, .mv (.tmp 2), (some (28, true)), []⟩, ⟨14, some 30, .len (.tmp 29), (some (28, true)), []⟩, ⟨15, some 31, .mv (.tmp 8), (some (28, true)), []⟩, ⟨16, some 32, .bin .sub (.tmp 31) (.const (.int .i64 1)), (some (28, true)), []⟩, ⟨17, some 33, .bin .neq (.tmp 30) (.tmp 32), (some (28, true)), []⟩, ⟨18, some 34, .pick (.tmp 28) (.tmp 33) (.const (.bool false)), (some (23, false)), []⟩, ⟨19, some 35, .pick (.tmp 23) (.const (.bool true)) (.tmp 34), none, []⟩, ⟨20, some 36, .mv (.tmp 35), none, []⟩, ⟨21, some 37, .mv (.tmp 8), (some (36, false)), []⟩, ⟨22, some 38, .mv (.tmp 2), (some (36, false)), []⟩, ⟨23, some 39, .len (.tmp 38), (some (36, false)), []⟩, ⟨24, some 40, .bin .add (.tmp 37) (.tmp 39), (some (36, false)), []⟩, ⟨25, some 41, .bin .gtr (.tmp 40) (.const (.int .i64 128)), (some (36, false)), []⟩, ⟨26, some 42, .pick (.tmp 36) (.const (.bool true)) (.tmp 41), none, []⟩, ⟨27, some 43, .mv (.tmp 42), none, []⟩, ⟨28, some 44, .mv (.tmp 1), (some (43, false)), []⟩, ⟨29, some 45, .mv (.tmp 2), (some (43, false)), []⟩, ⟨30, some 46, .bsl 24 2 (.slice none 0 0) [(0, .tmp 44), (1, .tmp 45)], (some (43, false)), []⟩, ⟨31, some 47, .call n_i_areFinite [.tmp 46], (some (43, false)), []⟩, ⟨32, some 48, .un .not (.tmp 47), (some (43, false)), []⟩, ⟨33, some 49, .pick (.tmp 43) (.const (.bool true)) (.tmp 48), none, []⟩]))
  (.cond (.tmp 49) (.seq (.keep [] (.ops [⟨0, some 6, .mv (.const (.slice none 0 0)), none, []⟩, ⟨1, some 7, .mv (.const (.bool false)), none, []⟩]))
  (.ret)) (.skip)))
  (.seq (.keep [1, 2, 3] (.ops [⟨0, some 50, .mv (.tmp 1), none, []⟩, ⟨1, some 51, .call n_i_copyOf [.tmp 50], none, []⟩, ⟨2, some 52, .mv (.tmp 2), none, []⟩, ⟨3, some 53, .call n_i_copyOf [.tmp 52], none, []⟩, ⟨4, some 9, .mv (.tmp 51), none, []⟩, ⟨5, some 10, .mv (.tmp 53), none, []⟩]))
  (.seq (.seq (.keep [3, 9, 10] (.ops [⟨0, some 54, .mv (.tmp 10), none, []⟩, ⟨1, some 55, .len (.tmp 54), none, []⟩, ⟨2, some 56, .bin .eql (.tmp 55) (.const (.int .i64 0)), none, []⟩]))
  (.cond (.tmp 56) (.seq (.keep [9] (.ops [⟨0, some 57, .mv (.tmp 9), none, []⟩, ⟨1, some 6, .mv (.tmp 57), none, []⟩, ⟨2, some 7, .mv (.const (.bool true)), none, []⟩]))
  (.ret)) (.skip)))
  (.seq (.seq (.ops [⟨0, some 58, .mv (.tmp 9), none, []⟩, ⟨1, some 59, .len (.tmp 58), none, []⟩, ⟨2, some 60, .mv (.const (.int .i64 0)), none, []⟩])
  (.block 0 (.loop [3, 9, 10, 59, 60] (.seq (.ops [⟨0, some 61, .bin .lss (.tmp 60) (.tmp 59), none, []⟩])
  (.seq (.cond (.tmp 61) (.skip) (.exit 0))
  (.seq (.block 1 (.seq (.ops [⟨0, some 62, .mv (.tmp 60), none, []⟩, ⟨1, some 11, .mv (.tmp 62), none, []⟩])
  (.ops [⟨0, some 63, .mv (.tmp 9), none, []⟩, ⟨1, some 64, .mv (.tmp 11), none, []⟩, ⟨2, some 65, .ia (.tmp 63) (.tmp 64), none, []⟩, ⟨3, some 66, .ld (.tmp 65), none, []⟩, ⟨4, some 67, .fa 1 (.tmp 3), none, []⟩, ⟨5, some 68, .ld (.tmp 67), none, []⟩, ⟨6, some 69, .bin .quo (.tmp 66) (.tmp 68), none, []⟩, ⟨7, some 70, .ia (.tmp 63) (.tmp 64), none, []⟩, ⟨8, none, .st (.tmp 70) (.tmp 69), none, []⟩])))
  (.keep [3, 9, 10, 59, 60] (.ops [⟨0, some 71, .bin .add (.tmp 60) (.const (.int .i64 1)), none, []⟩, ⟨1, some 60, .mv (.tmp 71), none, []⟩]))))))))
  (.seq (.seq (.ops [⟨0, some 72, .mv (.tmp 10), none, []⟩, ⟨1, some 73, .len (.tmp 72), none, []⟩, ⟨2, some 74, .mv (.const (.int .i64 0)), none, []⟩])
  (.block 2 (.loop [3, 9, 10, 73, 74] (.seq (.ops [⟨0, some 75, .bin .lss (.tmp 74) (.tmp 73), none, []⟩])
  (.seq (.cond (.tmp 75) (.skip) (.exit 2))
  (.seq (.block 3 (.seq (.ops [⟨0, some 76, .mv (.tmp 74), none, []⟩, ⟨1, some 12, .mv (.tmp 76), none, []⟩])
  (.ops [⟨0, some 77, .mv (.tmp 10), none, []⟩, ⟨1, some 78, .mv (.tmp 12), none, []⟩, ⟨2, some 79, .ia (.tmp 77) (.tmp 78), none, []⟩, ⟨3, some 80, .ld (.tmp 79), none, []⟩, ⟨4, some 81, .fa 1 (.tmp 3), none, []⟩, ⟨5, some 82, .ld (.tmp 81), none, []⟩, ⟨6, some 83, .bin .mul (.tmp 80) (.tmp 82), none, []⟩, ⟨7, some 84, .ia (.tmp 77) (.tmp 78), none, []⟩, ⟨8, none, .st (.tmp 84) (.tmp 83), none, []⟩])))
  (.keep [3, 9, 10, 73, 74] (.ops [⟨0, some 85, .bin .add (.tmp 74) (.const (.int .i64 1)), none, []⟩, ⟨1, some 74, .mv (.tmp 85), none, []⟩]))))))))
  (.seq (.seq (.ops [⟨0, some 86, .fa 0 (.tmp 3), none, []⟩, ⟨1, some 87, .ld (.tmp 86), none, []⟩, ⟨2, some 88, .len (.tmp 87), none, []⟩, ⟨3, some 89, .bin .sub (.tmp 88) (.const (.int .i64 1)), none, []⟩, ⟨4, some 13, .mv (.tmp 89), none, []⟩])
  (.block 4 (.loop [3, 9, 10, 13] (.seq (.seq (.ops [⟨0, some 90, .mv (.tmp 13), none, []⟩, ⟨1, some 91, .bin .geq (.tmp 90) (.const (.int .i64 0)), none, []⟩])
  (.cond (.tmp 91) (.skip) (.exit 4)))
  (.seq (.block 5 (.ops [⟨0, some 94, .mv (.tmp 9), none, []⟩, ⟨1, some 95, .mv (.tmp 10), none, []⟩, ⟨2, some 96, .mv (.tmp 13), none, []⟩, ⟨3, some 97, .fa 0 (.tmp 3), none, []⟩, ⟨4, some 98, .ld (.tmp 97), none, []⟩, ⟨5, some 99, .mv (.tmp 13), none, []⟩, ⟨6, some 100, .ia (.tmp 98) (.tmp 99), none, []⟩, ⟨7, some 101, .ld (.tmp 100), none, []⟩, ⟨8, some 102, .call n_i_weigh [.tmp 94, .tmp 95, .tmp 96, .tmp 101, .const (.bool true)], none, []⟩]))
  (.keep [3, 9, 10, 13] (.ops [⟨0, some 92, .mv (.tmp 13), none, []⟩, ⟨1, some 93, .bin .sub (.tmp 92) (.const (.int .i64 1)), none, []⟩, ⟨2, some 13, .mv (.tmp 93), none, []⟩])))))))
  (.seq (.ops [⟨0, some 103, .mv (.tmp 9), none, []⟩, ⟨1, some 104, .mv (.tmp 10), none, []⟩, ⟨2, some 105, .call n_i_woven_float32_ [.tmp 103, .tmp 104], none, []⟩, ⟨3, some 106, .call n_i_finiteList [.tmp 105], none, []⟩, ⟨4, some 107, .ext (.tmp 106) 0, none, []⟩, ⟨5, some 108, .ext (.tmp 106) 1, none, []⟩, ⟨6, some 6, .mv (.tmp 107), none, []⟩, ⟨7, some 7, .mv (.tmp 108), none, []⟩])
  (.ret)))))))))
theorem k_i_DropOnce : FnOk Try.prog n_i_DropOnce 3 c_i_DropOnce [.tmp 6, .tmp 7] := ⟨by kernel_rfl⟩
def c_i_DropDeep : ACode :=
  .seq (.ops [⟨0, some 2, .box 71 (.tmp 0), none, []⟩, ⟨1, some 4, .mv (.const (.slice none 0 0)), none, []⟩, ⟨2, some 5, .mv (.const (.bool false)), none, []⟩])
  (.seq (.seq (.ops [⟨0, some 10, .ldn 2 (.tmp 2), none, []⟩, ⟨1, some 11, .call n_i_ValidScheme [.tmp 10], none, []⟩, ⟨2, some 12, .un .not (.tmp 11), none, []⟩, ⟨3, some 13, .mv (.tmp 12), none, []⟩, ⟨4, some 14, .mv (.tmp 1), (some (13, false)), []⟩, ⟨5, some 15, .call n_i_AreBands [.tmp 14], (some (13, false)), []⟩, ⟨6, some 16, .un .not (.tmp 15), (some (13, false)), []⟩, ⟨7, some 17, .pick (.tmp 13) (.const (.bool true)) (.tmp 16), none, []⟩])
  (.cond (.tmp 17) (.seq (.keep [] (.ops [⟨0, some 4, .mv (.const (.slice none 0 0)), none, []⟩, ⟨1, some 5, .mv (.const (.bool false)), none, []⟩]))
  (.ret)) (.skip)))
  (.seq (.keep [1, 2] (.ops [⟨0, some 18, .mv (.tmp 1), none, []⟩, ⟨1, some 19, .mv (.tmp 1), none, []⟩, ⟨2, some 20, .len (.tmp 19), none, []⟩, ⟨3, some 21, .bin .sub (.tmp 20) (.const (.int .i64 1)), none, []⟩, ⟨4, some 22, .ia (.tmp 18) (.tmp 21), none, []⟩, ⟨5, some 23, .ld (.tmp 22), none, []⟩, ⟨6, some 24, .call n_i_copyOf [.tmp 23], none, []⟩, ⟨7, some 6, .mv (.tmp 24), none, []⟩]))
  (.seq (.seq (.keep [1, 2, 6] (.ops [⟨0, some 25, .mv (.tmp 1), none, []⟩, ⟨1, some 26, .len (.tmp 25), none, []⟩, ⟨2, some 27, .bin .sub (.tmp 26) (.const (.int .i64 2)), none, []⟩, ⟨3, some 7, .mv (.tmp 27), none, []⟩]))
  (.block 0 (.loop [1, 2, 6, 7] (.seq (.seq (.ops [⟨0, some 28, .mv (.tmp 7), none, []⟩, ⟨1, some 29, .bin .geq (.tmp 28) (.const (.int .i64 0)), none, []⟩])
  (.cond (.tmp 29) (.skip) (.exit 0)))
  (.seq (.block 1 (.seq (.ops [⟨0, some 33, .ldn 2 (.tmp 2), none, []⟩, ⟨1, some 34, .mv (.tmp 6), none, []⟩, ⟨2, some 35, .mv (.tmp 1), none, []⟩, ⟨3, some 36, .mv (.tmp 7), none, []⟩, ⟨4, some 37, .ia (.tmp 35) (.tmp 36), none, []⟩, ⟨5, some 38, .ld (.tmp 37), none, []⟩, ⟨6, some 39, .call n_i_DropOnce [.tmp 33, .tmp 34, .tmp 38], none, []⟩, ⟨7, some 32, .mv (.tmp 39), none, []⟩, ⟨8, some 40, .ext (.tmp 32) 0, none, []⟩, ⟨9, some 41, .ext (.tmp 32) 1, none, []⟩, ⟨10, some 8, .mv (.tmp 40), none, []⟩, ⟨11, some 9, .mv (.tmp 41), none, []⟩])
  (.seq (.seq (.keep [1, 2, 7, 8, 9] (.ops [⟨0, some 42, .mv (.tmp 9), none, []⟩, ⟨1, some 43, .un .not (.tmp 42), none, []⟩]))
  (.cond (.tmp 43) (.seq (.keep [] (.ops [⟨0, some 4, .mv (.const (.slice none 0 0)), none, []⟩, ⟨1, some 5, .mv (.const (.bool false)), none, []⟩]))
  (.ret)) (.skip)))
  (.ops [⟨0, some 44, .mv (.tmp 8), none, []⟩, ⟨1, some 6, .mv (.tmp 44), none, []⟩]))))
  (.keep [1, 2, 6, 7] (.ops [⟨0, some 30, .mv (.tmp 7), none, []⟩, ⟨1, some 31, .bin .sub (.tmp 30) (.const (.int .i64 1)), none, []⟩, ⟨2, some 7, .mv (.tmp 31), none, []⟩])))))))
  (.seq (.keep [6] (.ops [⟨0, some 45, .mv (.tmp 6), none, []⟩, ⟨1, some 4, .mv (.tmp 45), none, []⟩, ⟨2, some 5, .mv (.const (.bool true)), none, []⟩]))
  (.ret)))))
theorem k_i_DropDeep : FnOk Try.prog n_i_DropDeep 2 c_i_DropDeep [.tmp 4, .tmp 5] := ⟨by kernel_rfl⟩
def c_i_AreBands : ACode :=
  .seq (.ops [⟨0, some 2, .mv (.const (.bool false)), none, []⟩])
  (.seq (.ops [⟨0, some 3, .mv (.tmp 0), none, []⟩, ⟨1, some 4, .call n_i_sizesOf_float32_ [.tmp 3], none, []⟩, ⟨2, some 5, .call n_i_areSizes [.tmp 4], none, []⟩, ⟨3, some 6, .mv (.tmp 5), none, []⟩, ⟨4, some 7, .mv (.tmp 0), (some (6, true)), []⟩, ⟨5, some 8, .call n_i_areFinite [.tmp 7], (some (6, true)), []⟩, ⟨6, some 9, .pick (.tmp 6) (.tmp 8) (.const (.bool false)), none, []⟩, ⟨7, some 2, .mv (.tmp 9), none, []⟩])
  (.ret))
theorem k_i_AreBands : FnOk Try.prog n_i_AreBands 1 c_i_AreBands [.tmp 2] := ⟨by kernel_rfl⟩
def c_i_IsList : ACode :=
  .seq (.ops [⟨0, some 2, .mv (.const (.bool false)), none, []⟩])
  (.seq (.ops [⟨0, some 3, .mv (.tmp 0), none, []⟩, ⟨1, some 4, .len (.tmp 3), none, []⟩, ⟨2, some 5, .call n_i_within [.tmp 4, .const (.int .i64 1), .const (.int .i64 128)], none, []⟩, ⟨3, some 6, .mv (.tmp 5), none, []⟩, ⟨4, some 7, .mv (.tmp 0), (some (6, true)), []⟩, ⟨5, some 8, .bsl 24 1 (.slice none 0 0) [(0, .tmp 7)], (some (6, true)), []⟩, ⟨6, some 9, .call n_i_areFinite [.tmp 8], (some (6, true)), []⟩, ⟨7, some 10, .pick (.tmp 6) (.tmp 9) (.const (.bool false)), none, []⟩, ⟨8, some 2, .mv (.tmp 10), none, []⟩])
  (.ret))
theorem k_i_IsList : FnOk Try.prog n_i_IsList 1 c_i_IsList [.tmp 2] := ⟨by kernel_rfl⟩
def c_s_l00From : ACode :=
  .seq (.ops [⟨0, some 2, .mv (.const (.pointer none)), none, []⟩])
  (.seq (.ops [⟨0, some 3, .mv (.tmp 0), none, []⟩, ⟨1, some 4, .bld [.slice none 0 0, .int .i64 0, .int .u64 0] [(0, 1, .tmp 3)], none, []⟩, ⟨2, some 5, .box 140 (.tmp 4), none, []⟩, ⟨3, some 2, .mv (.tmp 5), none, []⟩])
  (.ret))
theorem k_s_l00From : FnOk Try.prog n_s_l00From 1 c_s_l00From [.tmp 2] := ⟨by kernel_rfl⟩
def c_s_l00Src_pick : ACode :=
  .seq (.ops [⟨0, some 4, .mv (.const (.int .i64 0)), none, []⟩])
  (.seq (.seq (.ops [⟨0, some 6, .mv (.tmp 1), none, []⟩, ⟨1, some 7, .bin .leq (.tmp 6) (.const (.int .i64 1)), none, []⟩])
  (.cond (.tmp 7) (.seq (.keep [] (.ops [⟨0, some 4, .mv (.const (.int .i64 0)), none, []⟩]))
  (.ret)) (.skip)))
  (.seq (.ops [⟨0, some 8, .mv (.tmp 0), none, []⟩, ⟨1, some 9, .call n_s_l00Src_next [.tmp 8], none, []⟩, ⟨2, some 5, .mv (.tmp 9), none, []⟩])
  (.seq (.seq (.keep [0, 1, 5] (.ops [⟨0, some 10, .mv (.tmp 1), none, []⟩, ⟨1, some 11, .bin .gtr (.tmp 10) (.const (.int .i64 200)), none, []⟩]))
  (.cond (.tmp 11) (.ops [⟨0, some 12, .mv (.tmp 5), none, []⟩, ⟨1, some 13, .bin .mul (.tmp 12) (.const (.int .i64 256)), none, []⟩, ⟨2, some 14, .mv (.tmp 0), none, []⟩, ⟨3, some 15, .call n_s_l00Src_next [.tmp 14], none, []⟩, ⟨4, some 16, .bin .add (.tmp 13) (.tmp 15), none, []⟩, ⟨5, some 5, .mv (.tmp 16), none, []⟩]) (.skip)))
  (.seq (.keep [1, 5] (.ops [⟨0, some 17, .mv (.tmp 5), none, []⟩, ⟨1, some 18, .mv (.tmp 1), none, []⟩, ⟨2, some 19, .bin .rem (.tmp 17) (.tmp 18), none, []⟩, ⟨3, some 4, .mv (.tmp 19), none, []⟩]))
  (.ret)))))
theorem k_s_l00Src_pick : FnOk Try.prog n_s_l00Src_pick 2 c_s_l00Src_pick [.tmp 4] := ⟨by kernel_rfl⟩
def c_i_within : ACode :=
  .seq (.ops [⟨0, some 6, .mv (.const (.bool false)), none, []⟩])
  (.seq (.ops [⟨0, some 7, .mv (.tmp 0), none, []⟩, ⟨1, some 8, .mv (.tmp 1), none, []⟩, ⟨2, some 9, .bin .geq (.tmp 7) (.tmp 8), none, []⟩, ⟨3, some 10, .mv (.tmp 9), none, []⟩, ⟨4, some 11, .mv (.tmp 0), (some (10, true)), []⟩, ⟨5, some 12, .mv (.tmp 2), (some (10, true)), []⟩, ⟨6, some 13, .bin .leq (.tmp 11) (.tmp 12), (some (10, true)), []⟩, ⟨7, some 14, .pick (.tmp 10) (.tmp 13) (.const (.bool false)), none, []⟩, ⟨8, some 6, .mv (.tmp 14), none, []⟩])
  (.ret))
theorem k_i_within : FnOk Try.prog n_i_within 3 c_i_within [.tmp 6] := ⟨by kernel_rfl⟩
def c_i_copyOf : ACode :=
  .seq (.ops [⟨0, some 2, .mv (.const (.slice none 0 0)), none, []⟩])
  (.seq (.ops [⟨0, some 3, .bsl 41 0 (.float .f32 0) [], none, []⟩, ⟨1, some 4, .mv (.tmp 0), none, []⟩, ⟨2, some 5, .app 41 4 (.tmp 3) (.tmp 4), none, []⟩, ⟨3, some 2, .mv (.tmp 5), none, []⟩])
  (.ret))
theorem k_i_copyOf : FnOk Try.prog n_i_copyOf 1 c_i_copyOf [.tmp 2] := ⟨by kernel_rfl⟩
def c_i_finiteList : ACode :=
  .seq (.ops [⟨0, some 2, .mv (.const (.slice none 0 0)), none, []⟩, ⟨1, some 3, .mv (.const (.bool false)), none, []⟩])
  (.seq (.seq (.ops [⟨0, some 4, .mv (.tmp 0), none, []⟩, ⟨1, some 5, .bsl 24 1 (.slice none 0 0) [(0, .tmp 4)], none, []⟩, ⟨2, some 6, .call n_i_areFinite [.tmp 5], none, []⟩, ⟨3, some 7, .un .not (.tmp 6), none, []⟩])
  (.cond (.tmp 7) (.seq (.keep [] (.ops [⟨0, some 2, .mv (.const (.slice none 0 0)), none, []⟩, ⟨1, some 3, .mv (.const (.bool false)), none, []⟩]))
  (.ret)) (.skip)))
  (.seq (.keep [0] (.ops [⟨0, some 8, .mv (.tmp 0), none, []⟩, ⟨1, some 2, .mv (.tmp 8), none, []⟩, ⟨2, some 3, .mv (.const (.bool true)), none, []⟩]))
  (.ret)))
theorem k_i_finiteList : FnOk Try.prog n_i_finiteList 1 c_i_finiteList [.tmp 2, .tmp 3] := ⟨by kernel_rfl⟩
def c_i_areFinite : ACode :=
  .seq (.ops [⟨0, some 2, .mv (.const (.bool false)), none, []⟩])
  (.seq (.seq (.ops [⟨0, some 7, .mv (.tmp 0), none, []⟩, ⟨1, some 8, .len (.tmp 7), none, []⟩, ⟨2, some 9, .mv (.const (.int .i64 0)), none, []⟩])
  (.block 0 (.loop [7, 8, 9] (.seq (.ops [⟨0, some 10, .bin .lss (.tmp 9) (.tmp 8), none, []⟩])
  (.seq (.cond (.tmp 10) (.skip) (.exit 0))
  (.seq (.block 1 (.seq (.ops [⟨0, some 11, .ia (.tmp 7) (.tmp 9), none, []⟩, ⟨1, some 12, .ld (.tmp 11), none, []⟩, ⟨2, some 4, .mv (.tmp 12), none, []⟩])
  (.seq (.ops [⟨0, some 13, .mv (.tmp 4), none, []⟩, ⟨1, some 14, .len (.tmp 13), none, []⟩, ⟨2, some 15, .mv (.const (.int .i64 0)), none, []⟩])
  (.block 2 (.loop [7, 8, 9, 13, 14, 15] (.seq (.ops [⟨0, some 16, .bin .lss (.tmp 15) (.tmp 14), none, []⟩])
  (.seq (.cond (.tmp 16) (.skip) (.exit 2))
  (.seq (.block 3 (.seq (.ops [⟨0, some 17, .ia (.tmp 13) (.tmp 15), none, []⟩, ⟨1, some 18, .ld (.tmp 17), none, []⟩, ⟨2, some 6, .mv (.tmp 18), none, []⟩])
  (.seq (.ops [⟨0, some 19, .mv (.tmp 6), none, []⟩, ⟨1, some 20, .call n_i_IsFinite [.tmp 19], none, []⟩, ⟨2, some 21, .un .not (.tmp 20), none, []⟩])
  (.cond (.tmp 21) (.seq (.keep [] (.ops [⟨0, some 2, .mv (.const (.bool false)), none, []⟩]))
  (.ret)) (.skip)))))
  (.keep [7, 8, 9, 13, 14, 15] (.ops [⟨0, some 22, .bin .add (.tmp 15) (.const (.int .i64 1)), none, []⟩, ⟨1, some 15, .mv (.tmp 22), none, []⟩]))))))))))
  (.ops [⟨0, some 23, .bin .add (.tmp 9) (.const (.int .i64 1)), none, []⟩, ⟨1, some 9, .mv (.tmp 23), none, []⟩])))))))
  (.seq (.ops [⟨0, some 2, .mv (.const (.bool true)), none, []⟩])
  (.ret)))
theorem k_i_areFinite : FnOk Try.prog n_i_areFinite 1 c_i_areFinite [.tmp 2] := ⟨by kernel_rfl⟩
def c_i_size : ACode :=
  .seq (.ops [⟨0, some 2, .mv (.const (.float .f32 0)), none, []⟩])
  (.seq (.seq (.ops [⟨0, some 3, .mv (.tmp 0), none, []⟩, ⟨1, some 4, .bin .lss (.tmp 3) (.const (.float .f32 0)), none, []⟩])
  (.cond (.tmp 4) (.seq (.ops [⟨0, some 5, .mv (.tmp 0), none, []⟩, ⟨1, some 6, .un .neg (.tmp 5), none, []⟩, ⟨2, some 2, .mv (.tmp 6), none, []⟩])
  (.ret)) (.skip)))
  (.seq (.seq (.ops [⟨0, some 7, .mv (.tmp 0), none, []⟩, ⟨1, some 8, .bin .eql (.tmp 7) (.const (.float .f32 0)), none, []⟩])
  (.cond (.tmp 8) (.seq (.keep [] (.ops [⟨0, some 2, .mv (.const (.float .f32 0)), none, []⟩]))
  (.ret)) (.skip)))
  (.seq (.keep [0] (.ops [⟨0, some 9, .mv (.tmp 0), none, []⟩, ⟨1, some 2, .mv (.tmp 9), none, []⟩]))
  (.ret))))
theorem k_i_size : FnOk Try.prog n_i_size 1 c_i_size [.tmp 2] := ⟨by kernel_rfl⟩
def c_i_areSizes : ACode :=
  .seq (.ops [⟨0, some 2, .mv (.const (.bool false)), none, []⟩])
  (.seq (.ops [⟨0, some 7, .mv (.tmp 0), none, []⟩, ⟨1, some 8, .len (.tmp 7), none, []⟩, ⟨2, some 9, .bin .sub (.tmp 8) (.const (.int .i64 1)), none, []⟩, ⟨3, some 3, .mv (.tmp 9), none, []⟩])
  (.seq (.seq (.ops [⟨0, some 10, .mv (.tmp 3), none, []⟩, ⟨1, some 11, .call n_i_within [.tmp 10, .const (.int .i64 0), .const (.int .i64 6)], none, []⟩, ⟨2, some 12, .un .not (.tmp 11), none, []⟩, ⟨3, some 13, .mv (.tmp 12), none, []⟩, ⟨4, some 14, .mv (.tmp 0), (some (13, false)), []⟩, ⟨5, some 15, .mv (.tmp 3), (some (13, false)), []⟩, ⟨6, some 16, .ia (.tmp 14) (.tmp 15), (some (13, false)), []⟩, ⟨7, some 17, .ld (.tmp 16), (some (13, false)), []⟩, ⟨8, some 18, .bin .lss (.tmp 17) (.const (.int .i64 1)), (some (13, false)), []⟩, ⟨9, some 19, .pick (.tmp 13) (.const (.bool true)) (.tmp 18), none, []⟩, ⟨10, some 20, .mv (.tmp 19), none, []⟩, ⟨11, some 21, .mv (.tmp 3), (some (20, false)), []⟩, ⟨12, some 22, .bin .eql (.tmp 21) (.const (.int .i64 0)), (some (20, false)), []⟩, ⟨13, some 23, .mv (.tmp 22), (some (20, false)), []⟩, ⟨14, some 24, .mv (.tmp 0), (some (23, true)), []⟩, ⟨15, some 25, .ia (.tmp 24) (.const (.int .i64 0)), (some (23, true)), []⟩, ⟨16, some 26, .ld (.tmp 25), (some (23, true)), []⟩, ⟨17, some 27, .bin .neq (.tmp 26) (.const (.int .i64 1)), (some (23, true)), []⟩, ⟨18, some 28, .pick (.tmp 23) (.tmp 27) (.const (.bool false)), (some (20, false)), []⟩, ⟨19, some 29, .pick (.tmp 20) (.const (.bool true)) (.tmp 28), none, []⟩])
  (.cond (.tmp 29) (.seq (.keep [] (.ops [⟨0, some 2, .mv (.const (.bool false)), none, []⟩]))
  (.ret)) (.skip)))
  (.seq (.keep [0, 3] (.ops [⟨0, some 30, .mv (.tmp 0), none, []⟩, ⟨1, some 31, .mv (.tmp 3), none, []⟩, ⟨2, some 32, .ia (.tmp 30) (.tmp 31), none, []⟩, ⟨3, some 33, .ld (.tmp 32), none, []⟩, ⟨4, some 4, .mv (.tmp 33), none, []⟩]))
  (.seq (.seq (.ops [⟨0, some 34, .mv (.tmp 3), none, []⟩, ⟨1, some 35, .bin .sub (.tmp 34) (.const (.int .i64 1)), none, []⟩, ⟨2, some 5, .mv (.tmp 35), none, []⟩])
  (.block 0 (.loop [0, 4, 5] (.seq (.seq (.ops [⟨0, some 36, .mv (.tmp 5), none, []⟩, ⟨1, some 37, .bin .geq (.tmp 36) (.const (.int .i64 0)), none, []⟩])
  (.cond (.tmp 37) (.skip) (.exit 0)))
  (.seq (.block 1 (.seq (.seq (.ops [⟨0, some 40, .mv (.tmp 0), none, []⟩, ⟨1, some 41, .mv (.tmp 5), none, []⟩, ⟨2, some 42, .ia (.tmp 40) (.tmp 41), none, []⟩, ⟨3, some 43, .ld (.tmp 42), none, []⟩, ⟨4, some 6, .mv (.tmp 43), none, []⟩])
  (.seq (.keep [0, 4, 5, 6] (.ops [⟨0, some 44, .mv (.tmp 6), none, []⟩, ⟨1, some 45, .bin .lss (.tmp 44) (.const (.int .i64 1)), none, []⟩, ⟨2, some 46, .mv (.tmp 45), none, []⟩, ⟨3, some 47, .mv (.tmp 6), (some (46, false)), []⟩, ⟨4, some 48, .mv (.tmp 4), (some (46, false)), []⟩, ⟨5, some 49, .bin .neq (.tmp 47) (.tmp 48), (some (46, false)), []⟩, ⟨6, some 50, .mv (.tmp 49), (some (46, false)), []⟩, ⟨7, some 51, .mv (.tmp 6), (some (50, true)), []⟩, ⟨8, some 52, .mv (.tmp 4), (some (50, true)), []⟩, ⟨9, some 53, .bin .sub (.tmp 52) (.const (.int .i64 1)), (some (50, true)), []⟩, ⟨10, some 54, .bin .neq (.tmp 51) (.tmp 53), (some (50, true)), []⟩, ⟨11, some 55, .pick (.tmp 50) (.tmp 54) (.const (.bool false)), (some (46, false)), []⟩, ⟨12, some 56, .pick (.tmp 46) (.const (.bool true)) (.tmp 55), none, []⟩]))
  (.cond (.tmp 56) (.seq (.keep [] (.ops [⟨0, some 2, .mv (.const (.bool false)), none, []⟩]))
  (.ret)) (.skip))))
  (.seq (.keep [0, 4, 5] (.ops [⟨0, some 57, .mv (.tmp 4), none, []⟩, ⟨1, some 58, .mv (.tmp 0), none, []⟩, ⟨2, some 59, .mv (.tmp 5), none, []⟩, ⟨3, some 60, .ia (.tmp 58) (.tmp 59), none, []⟩, ⟨4, some 61, .ld (.tmp 60), none, []⟩, ⟨5, some 62, .bin .add (.tmp 57) (.tmp 61), none, []⟩, ⟨6, some 4, .mv (.tmp 62), none, []⟩]))
  (.seq (.keep [0, 4, 5] (.ops [⟨0, some 63, .mv (.tmp 4), none, []⟩, ⟨1, some 64, .bin .gtr (.tmp 63) (.const (.int .i64 128)), none, []⟩]))
  (.cond (.tmp 64) (.seq (.keep [] (.ops [⟨0, some 2, .mv (.const (.bool false)), none, []⟩]))
  (.ret)) (.skip))))))
  (.ops [⟨0, some 38, .mv (.tmp 5), none, []⟩, ⟨1, some 39, .bin .sub (.tmp 38) (.const (.int .i64 1)), none, []⟩, ⟨2, some 5, .mv (.tmp 39), none, []⟩]))))))
  (.seq (.ops [⟨0, some 65, .mv (.tmp 4), none, []⟩, ⟨1, some 66, .bin .leq (.tmp 65) (.const (.int .i64 128)), none, []⟩, ⟨2, some 2, .mv (.tmp 66), none, []⟩])
  (.ret))))))
theorem k_i_areSizes : FnOk Try.prog n_i_areSizes 1 c_i_areSizes [.tmp 2] := ⟨by kernel_rfl⟩
def c_s_l02DrawOk : ACode :=
  .seq (.ops [⟨0, some 2, .mv (.const (.slice none 0 0)), none, []⟩])
  (.seq (.ops [⟨0, some 5, .bsl 41 0 (.float .f32 0) [], none, []⟩, ⟨1, some 3, .mv (.tmp 5), none, []⟩])
  (.seq (.seq (.ops [⟨0, some 6, .mv (.tmp 0), none, []⟩, ⟨1, some 7, .call n_s_l00Src_pick [.tmp 6, .const (.int .i64 12)], none, []⟩, ⟨2, some 8, .bin .add (.const (.int .i64 1)) (.tmp 7), none, []⟩, ⟨3, some 4, .mv (.tmp 8), none, []⟩])
  (.block 0 (.loop [0, 3, 4] (.seq (.seq (.ops [⟨0, some 9, .mv (.tmp 4), none, []⟩, ⟨1, some 10, .bin .gtr (.tmp 9) (.const (.int .i64 0)), none, []⟩])
  (.cond (.tmp 10) (.skip) (.exit 0)))
  (.seq (.block 1 (.ops [⟨0, some 13, .mv (.tmp 3), none, []⟩, ⟨1, some 14, .mv (.tmp 0), none, []⟩, ⟨2, some 15, .call n_s_l00Src_pick [.tmp 14, .const (.int .i64 65)], none, []⟩, ⟨3, some 16, .bin .sub (.tmp 15) (.const (.int .i64 32)), none, []⟩, ⟨4, some 17, .cv (.f .f32) (.tmp 16), none, []⟩, ⟨5, some 18, .bin .quo (.tmp 17) (.const (.float .f32 1082130432)), none, []⟩, ⟨6, some 19, .bsl 41 1 (.float .f32 0) [(0, .tmp 18)], none, []⟩, ⟨7, some 20, .app 41 4 (.tmp 13) (.tmp 19), none, []⟩, ⟨8, some 3, .mv (.tmp 20), none, []⟩]))
  (.keep [0, 3, 4] (.ops [⟨0, some 11, .mv (.tmp 4), none, []⟩, ⟨1, some 12, .bin .sub (.tmp 11) (.const (.int .i64 1)), none, []⟩, ⟨2, some 4, .mv (.tmp 12), none, []⟩])))))))
  (.seq (.ops [⟨0, some 21, .mv (.tmp 3), none, []⟩, ⟨1, some 2, .mv (.tmp 21), none, []⟩])
  (.ret))))
theorem k_s_l02DrawOk : FnOk Try.prog n_s_l02DrawOk 1 c_s_l02DrawOk [.tmp 2] := ⟨by kernel_rfl⟩
def c_i_ValidScheme : ACode :=
  .seq (.ops [⟨0, some 1, .box 71 (.tmp 0), none, []⟩, ⟨1, some 2, .mv (.const (.bool false)), none, []⟩])
  (.seq (.ops [⟨0, some 3, .fa 0 (.tmp 1), none, []⟩, ⟨1, some 4, .ld (.tmp 3), none, []⟩, ⟨2, some 5, .len (.tmp 4), none, []⟩, ⟨3, some 6, .call n_i_within [.tmp 5, .const (.int .i64 1), .const (.int .i64 8)], none, []⟩, ⟨4, some 7, .mv (.tmp 6), none, []⟩, ⟨5, some 8, .fa 0 (.tmp 1), (some (7, true)), []⟩, ⟨6, some 9, .ld (.tmp 8), (some (7, true)), []⟩, ⟨7, some 10, .bsl 24 1 (.slice none 0 0) [(0, .tmp 9)], (some (7, true)), []⟩, ⟨8, some 11, .call n_i_areFinite [.tmp 10], (some (7, true)), []⟩, ⟨9, some 12, .pick (.tmp 7) (.tmp 11) (.const (.bool false)), none, []⟩, ⟨10, some 13, .mv (.tmp 12), none, []⟩, ⟨11, some 14, .fa 1 (.tmp 1), (some (13, true)), []⟩, ⟨12, some 15, .ld (.tmp 14), (some (13, true)), []⟩, ⟨13, some 16, .call n_i_isOver [.tmp 15], (some (13, true)), []⟩, ⟨14, some 17, .pick (.tmp 13) (.tmp 16) (.const (.bool false)), none, []⟩, ⟨15, some 2, .mv (.tmp 17), none, []⟩])
  (.ret))
theorem k_i_ValidScheme : FnOk Try.prog n_i_ValidScheme 1 c_i_ValidScheme [.tmp 2] := ⟨by kernel_rfl⟩
def c_i_isLeast : ACode :=
  .seq (.ops [⟨0, some 2, .mv (.const (.bool false)), none, []⟩])
  (.seq (.ops [⟨0, some 3, .mv (.tmp 0), none, []⟩, ⟨1, some 4, .call n_i_IsFinite [.tmp 3], none, []⟩, ⟨2, some 5, .mv (.tmp 4), none, []⟩, ⟨3, some 6, .mv (.tmp 0), (some (5, true)), []⟩, ⟨4, some 7, .bin .geq (.tmp 6) (.const (.float .f32 0)), (some (5, true)), []⟩, ⟨5, some 8, .pick (.tmp 5) (.tmp 7) (.const (.bool false)), none, []⟩, ⟨6, some 2, .mv (.tmp 8), none, []⟩])
  (.ret))
theorem k_i_isLeast : FnOk Try.prog n_i_isLeast 1 c_i_isLeast [.tmp 2] := ⟨by kernel_rfl⟩
def c_i_split_float32_ : ACode :=
  .seq (.ops [⟨0, some 2, .mv (.const (.slice none 0 0)), none, []⟩, ⟨1, some 3, .mv (.const (.slice none 0 0)), none, []⟩])
  (.seq (.ops [⟨0, some 8, .bsl 41 0 (.float .f32 0) [], none, []⟩, ⟨1, some 9, .bsl 41 0 (.float .f32 0) [], none, []⟩, ⟨2, some 4, .mv (.tmp 8), none, []⟩, ⟨3, some 5, .mv (.tmp 9), none, []⟩])
  (.seq (.seq (.ops [⟨0, some 10, .mv (.tmp 0), none, []⟩, ⟨1, some 11, .len (.tmp 10), none, []⟩, ⟨2, some 12, .mv (.const (.int .i64 0)), none, []⟩])
  (.block 0 (.loop [4, 5, 10, 11, 12] (.seq (.ops [⟨0, some 13, .bin .lss (.tmp 12) (.tmp 11), none, []⟩])
  (.seq (.cond (.tmp 13) (.skip) (.exit 0))
  (.seq (.block 1 (.seq (.ops [⟨0, some 14, .mv (.tmp 12), none, []⟩, ⟨1, some 15, .ia (.tmp 10) (.tmp 12), none, []⟩, ⟨2, some 16, .ld (.tmp 15), none, []⟩, ⟨3, some 6, .mv (.tmp 14), none, []⟩, ⟨4, some 7, .mv (.tmp 16), none, []⟩])
  (.seq (.ops [⟨0, some 17, .mv (.tmp 6), none, []⟩, ⟨1, some 18, .bin .rem (.tmp 17) (.const (.int .i64 2)), none, []⟩, ⟨2, some 19, .bin .eql (.tmp 18) (.const (.int .i64 0)), none, []⟩])
  (.cond (.tmp 19) (.keep [4, 5, 7, 10, 11, 12] (.ops [⟨0, some 20, .mv (.tmp 4), none, []⟩, ⟨1, some 21, .mv (.tmp 7), none, []⟩, ⟨2, some 22, .bsl 41 1 (.float .f32 0) [(0, .tmp 21)], none, []⟩, ⟨3, some 23, .app 41 4 (.tmp 20) (.tmp 22), none, []⟩, ⟨4, some 4, .mv (.tmp 23), none, []⟩])) (.keep [4, 5, 7, 10, 11, 12] (.ops [⟨0, some 24, .mv (.tmp 5), none, []⟩, ⟨1, some 25, .mv (.tmp 7), none, []⟩, ⟨2, some 26, .bsl 41 1 (.float .f32 0) [(0, .tmp 25)], none, []⟩, ⟨3, some 27, .app 41 4 (.tmp 24) (.tmp 26), none, []⟩, ⟨4, some 5, .mv (.tmp 27), none, []⟩]))))))
  (.keep [4, 5, 10, 11, 12] (.ops [⟨0, some 28, .bin .add (.tmp 12) (.const (.int .i64 1)), none, []⟩, ⟨1, some 12, .mv (.tmp 28), none, []⟩]))))))))
  (.seq (.ops [⟨0, some 29, .mv (.tmp 4), none, []⟩, ⟨1, some 30, .mv (.tmp 5), none, []⟩, ⟨2, some 2, .mv (.tmp 29), none, []⟩, ⟨3, some 3, .mv (.tmp 30), none, []⟩])
  (.ret))))
theorem k_i_split_float32_ : FnOk Try.prog n_i_split_float32_ 1 c_i_split_float32_ [.tmp 2, .tmp 3] := ⟨by kernel_rfl⟩
def c_i_weigh : ACode :=
  .seq (.ops [⟨0, some 8, .box 41 (.tmp 3), none, []⟩, ⟨1, some 9, .box 4 (.tmp 4), none, []⟩])
  (.seq (.ops [⟨0, some 17, .mkf (.func n_i_weigh_1) [] [.tmp 8, .tmp 9], none, []⟩, ⟨1, some 10, .mv (.tmp 17), none, []⟩])
  (.seq (.seq (.keep [0, 1, 2, 10] (.ops [⟨0, some 18, .mv (.tmp 2), none, []⟩, ⟨1, some 19, .bin .rem (.tmp 18) (.const (.int .i64 2)), none, []⟩, ⟨2, some 20, .bin .eql (.tmp 19) (.const (.int .i64 0)), none, []⟩]))
  (.cond (.tmp 20) (.seq (.seq (.ops [⟨0, some 21, .mv (.tmp 1), none, []⟩, ⟨1, some 22, .len (.tmp 21), none, []⟩, ⟨2, some 23, .mv (.const (.int .i64 0)), none, []⟩])
  (.block 0 (.loop [0, 1, 10, 22, 23] (.seq (.ops [⟨0, some 24, .bin .lss (.tmp 23) (.tmp 22), none, []⟩])
  (.seq (.cond (.tmp 24) (.skip) (.exit 0))
  (.seq (.block 1 (.seq (.ops [⟨0, some 25, .mv (.tmp 23), none, []⟩, ⟨1, some 11, .mv (.tmp 25), none, []⟩])
  (.seq (.ops [⟨0, some 27, .mv (.tmp 0), none, []⟩, ⟨1, some 28, .mv (.tmp 11), none, []⟩, ⟨2, some 29, .call n_i_besideOdd_float32_ [.tmp 27, .tmp 28], none, []⟩, ⟨3, some 26, .mv (.tmp 29), none, []⟩, ⟨4, some 30, .ext (.tmp 26) 0, none, []⟩, ⟨5, some 31, .ext (.tmp 26) 1, none, []⟩, ⟨6, some 12, .mv (.tmp 30), none, []⟩, ⟨7, some 13, .mv (.tmp 31), none, []⟩])
  (.keep [0, 1, 10, 11, 12, 13, 22, 23] (.ops [⟨0, some 32, .mv (.tmp 10), none, []⟩, ⟨1, some 33, .mv (.tmp 1), none, []⟩, ⟨2, some 34, .mv (.tmp 11), none, []⟩, ⟨3, some 35, .ia (.tmp 33) (.tmp 34), none, []⟩, ⟨4, some 36, .mv (.tmp 12), none, []⟩, ⟨5, some 37, .mv (.tmp 13), none, []⟩, ⟨6, some 38, .callv (.tmp 32) [.tmp 35, .tmp 36, .tmp 37], none, []⟩])))))
  (.keep [0, 1, 10, 22, 23] (.ops [⟨0, some 39, .bin .add (.tmp 23) (.const (.int .i64 1)), none, []⟩, ⟨1, some 23, .mv (.tmp 39), none, []⟩]))))))))
  (.ret)) (.skip)))
  (.seq (.ops [⟨0, some 40, .mv (.tmp 0), none, []⟩, ⟨1, some 41, .len (.tmp 40), none, []⟩, ⟨2, some 42, .mv (.const (.int .i64 0)), none, []⟩])
  (.block 2 (.loop [0, 1, 10, 41, 42] (.seq (.ops [⟨0, some 43, .bin .lss (.tmp 42) (.tmp 41), none, []⟩])
  (.seq (.cond (.tmp 43) (.skip) (.exit 2))
  (.seq (.block 3 (.seq (.ops [⟨0, some 44, .mv (.tmp 42), none, []⟩, ⟨1, some 14, .mv (.tmp 44), none, []⟩])
  (.seq (.ops [⟨0, some 46, .mv (.tmp 1), none, []⟩, ⟨1, some 47, .mv (.tmp 14), none, []⟩, ⟨2, some 48, .call n_i_besideEven_float32_ [.tmp 46, .tmp 47], none, []⟩, ⟨3, some 45, .mv (.tmp 48), none, []⟩, ⟨4, some 49, .ext (.tmp 45) 0, none, []⟩, ⟨5, some 50, .ext (.tmp 45) 1, none, []⟩, ⟨6, some 15, .mv (.tmp 49), none, []⟩, ⟨7, some 16, .mv (.tmp 50), none, []⟩])
  (.keep [0, 1, 10, 14, 15, 16, 41, 42] (.ops [⟨0, some 51, .mv (.tmp 10), none, []⟩, ⟨1, some 52, .mv (.tmp 0), none, []⟩, ⟨2, some 53, .mv (.tmp 14), none, []⟩, ⟨3, some 54, .ia (.tmp 52) (.tmp 53), none, []⟩, ⟨4, some 55, .mv (.tmp 15), none, []⟩, ⟨5, some 56, .mv (.tmp 16), none, []⟩, ⟨6, some 57, .callv (.tmp 51) [.tmp 54, .tmp 55, .tmp 56], none, []⟩])))))
  (.keep [0, 1, 10, 41, 42] (.ops [⟨0, some 58, .bin .add (.tmp 42) (.const (.int .i64 1)), none, []⟩, ⟨1, some 42, .mv (.tmp 58), none, []⟩]))))))))))
theorem k_i_weigh : FnOk Try.prog n_i_weigh 5 c_i_weigh [] := ⟨by kernel_rfl⟩
def c_i_woven_float32_ : ACode :=
  .seq (.ops [⟨0, some 4, .mv (.const (.slice none 0 0)), none, []⟩])
  (.seq (.ops [⟨0, some 8, .bsl 41 0 (.float .f32 0) [], none, []⟩, ⟨1, some 5, .mv (.tmp 8), none, []⟩])
  (.seq (.seq (.ops [⟨0, some 9, .mv (.tmp 0), none, []⟩, ⟨1, some 10, .len (.tmp 9), none, []⟩, ⟨2, some 11, .mv (.const (.int .i64 0)), none, []⟩])
  (.block 0 (.loop [1, 5, 9, 10, 11] (.seq (.ops [⟨0, some 12, .bin .lss (.tmp 11) (.tmp 10), none, []⟩])
  (.seq (.cond (.tmp 12) (.skip) (.exit 0))
  (.seq (.block 1 (.seq (.ops [⟨0, some 13, .mv (.tmp 11), none, []⟩, ⟨1, some 14, .ia (.tmp 9) (.tmp 11), none, []⟩, ⟨2, some 15, .ld (.tmp 14), none, []⟩, ⟨3, some 6, .mv (.tmp 13), none, []⟩, ⟨4, some 7, .mv (.tmp 15), none, []⟩])
  (.seq (.ops [⟨0, some 16, .mv (.tmp 5), none, []⟩, ⟨1, some 17, .mv (.tmp 7), none, []⟩, ⟨2, some 18, .bsl 41 1 (.float .f32 0) [(0, .tmp 17)], none, []⟩, ⟨3, some 19, .app 41 4 (.tmp 16) (.tmp 18), none, []⟩, ⟨4, some 5, .mv (.tmp 19), none, []⟩])
  (.seq (.keep [1, 5, 6, 9, 10, 11] (.ops [⟨0, some 20, .mv (.tmp 6), none, []⟩, ⟨1, some 21, .mv (.tmp 1), none, []⟩, ⟨2, some 22, .len (.tmp 21), none, []⟩, ⟨3, some 23, .bin .lss (.tmp 20) (.tmp 22), none, []⟩]))
  (.cond (.tmp 23) (.ops [⟨0, some 24, .mv (.tmp 5), none, []⟩, ⟨1, some 25, .mv (.tmp 1), none, []⟩, ⟨2, some 26, .mv (.tmp 6), none, []⟩, ⟨3, some 27, .ia (.tmp 25) (.tmp 26), none, []⟩, ⟨4, some 28, .ld (.tmp 27), none, []⟩, ⟨5, some 29, .bsl 41 1 (.float .f32 0) [(0, .tmp 28)], none, []⟩, ⟨6, some 30, .app 41 4 (.tmp 24) (.tmp 29), none, []⟩, ⟨7, some 5, .mv (.tmp 30), none, []⟩]) (.skip))))))
  (.keep [1, 5, 9, 10, 11] (.ops [⟨0, some 31, .bin .add (.tmp 11) (.const (.int .i64 1)), none, []⟩, ⟨1, some 11, .mv (.tmp 31), none, []⟩]))))))))
  (.seq (.keep [5] (.ops [⟨0, some 32, .mv (.tmp 5), none, []⟩, ⟨1, some 4, .mv (.tmp 32), none, []⟩]))
  (.ret))))
theorem k_i_woven_float32_ : FnOk Try.prog n_i_woven_float32_ 2 c_i_woven_float32_ [.tmp 4] := ⟨by kernel_rfl⟩
def c_i_sizesOf_float32_ : ACode :=
  .seq (.ops [⟨0, some 2, .mv (.const (.slice none 0 0)), none, []⟩])
  (.seq (.ops [⟨0, some 6, .bsl 3 0 (.int .i64 0) [], none, []⟩, ⟨1, some 3, .mv (.tmp 6), none, []⟩])
  (.seq (.seq (.ops [⟨0, some 7, .mv (.tmp 0), none, []⟩, ⟨1, some 8, .len (.tmp 7), none, []⟩, ⟨2, some 9, .mv (.const (.int .i64 0)), none, []⟩])
  (.block 0 (.loop [3, 7, 8, 9] (.seq (.ops [⟨0, some 10, .bin .lss (.tmp 9) (.tmp 8), none, []⟩])
  (.seq (.cond (.tmp 10) (.skip) (.exit 0))
  (.seq (.block 1 (.seq (.ops [⟨0, some 11, .ia (.tmp 7) (.tmp 9), none, []⟩, ⟨1, some 12, .ld (.tmp 11), none, []⟩, ⟨2, some 5, .mv (.tmp 12), none, []⟩])
  (.ops [⟨0, some 13, .mv (.tmp 3), none, []⟩, ⟨1, some 14, .mv (.tmp 5), none, []⟩, ⟨2, some 15, .len (.tmp 14), none, []⟩, ⟨3, some 16, .bsl 3 1 (.int .i64 0) [(0, .tmp 15)], none, []⟩, ⟨4, some 17, .app 3 8 (.tmp 13) (.tmp 16), none, []⟩, ⟨5, some 3, .mv (.tmp 17), none, []⟩])))
  (.keep [3, 7, 8, 9] (.ops [⟨0, some 18, .bin .add (.tmp 9) (.const (.int .i64 1)), none, []⟩, ⟨1, some 9, .mv (.tmp 18), none, []⟩]))))))))
  (.seq (.ops [⟨0, some 19, .mv (.tmp 3), none, []⟩, ⟨1, some 2, .mv (.tmp 19), none, []⟩])
  (.ret))))
theorem k_i_sizesOf_float32_ : FnOk Try.prog n_i_sizesOf_float32_ 1 c_i_sizesOf_float32_ [.tmp 2] := ⟨by kernel_rfl⟩
def c_s_l00Src_next : ACode :=
  .seq (.ops [⟨0, some 2, .mv (.const (.int .i64 0)), none, []⟩])
  (.seq (.ops [⟨0, some 3, .mv (.const (.int .i64 0)), none, []⟩])
  (.seq (.seq (.ops [⟨0, some 4, .mv (.tmp 0), none, []⟩, ⟨1, some 5, .nc (.tmp 4), none, []⟩, ⟨2, some 6, .fa 1 (.tmp 5), none, []⟩, ⟨3, some 7, .ld (.tmp 6), none, []⟩, ⟨4, some 8, .mv (.tmp 0), none, []⟩, ⟨5, some 9, .nc (.tmp 8), none, []⟩, ⟨6, some 10, .fa 0 (.tmp 9), none, []⟩, ⟨7, some 11, .ld (.tmp 10), none, []⟩, ⟨8, some 12, .len (.tmp 11), none, []⟩, ⟨9, some 13, .bin .lss (.tmp 7) (.tmp 12), none, []⟩])
  (.cond (.tmp 13) (.keep [0] (.ops [⟨0, some 14, .mv (.tmp 0), none, []⟩, ⟨1, some 15, .nc (.tmp 14), none, []⟩, ⟨2, some 16, .fa 0 (.tmp 15), none, []⟩, ⟨3, some 17, .ld (.tmp 16), none, []⟩, ⟨4, some 18, .mv (.tmp 0), none, []⟩, ⟨5, some 19, .nc (.tmp 18), none, []⟩, ⟨6, some 20, .fa 1 (.tmp 19), none, []⟩, ⟨7, some 21, .ld (.tmp 20), none, []⟩, ⟨8, some 22, .ia (.tmp 17) (.tmp 21), none, []⟩, ⟨9, some 23, .ld (.tmp 22), none, []⟩, ⟨10, some 24, .cv (.i .i64) (.tmp 23), none, []⟩, ⟨11, some 3, .mv (.tmp 24), none, []⟩])) (.skip)))
  (.seq (.keep [0, 3] (.ops [⟨0, some 25, .mv (.tmp 0), none, []⟩, ⟨1, some 26, .nc (.tmp 25), none, []⟩, ⟨2, some 27, .fa 1 (.tmp 26), none, []⟩, ⟨3, some 28, .ld (.tmp 27), none, []⟩, ⟨4, some 29, .bin .add (.tmp 28) (.const (.int .i64 1)), none, []⟩, ⟨5, some 30, .nc (.tmp 25), none, []⟩, ⟨6, some 31, .fa 1 (.tmp 30), none, []⟩, ⟨7, none, .st (.tmp 31) (.tmp 29), none, []⟩]))
  (.seq (.keep [0, 3] (.ops [⟨0, some 32, .mv (.tmp 0), none, []⟩, ⟨1, some 33, .mv (.tmp 0), none, []⟩, ⟨2, some 34, .nc (.tmp 33), none, []⟩, ⟨3, some 35, .fa 2 (.tmp 34), none, []⟩, ⟨4, some 36, .ld (.tmp 35), none, []⟩, ⟨5, some 37, .bin .mul (.tmp 36) (.const (.int .u64 6364136223846793005)), none, []⟩, ⟨6, some 38, .mv (.tmp 3), none, []⟩, ⟨7, some 39, .cv (.i .u64) (.tmp 38), none, []⟩, ⟨8, some 40, .bin .add (.tmp 37) (.tmp 39), none, []⟩, ⟨9, some 41, .bin .add (.tmp 40) (.const (.int .u64 1442695040888963407)), none, []⟩, ⟨10, some 42, .nc (.tmp 32), none, []⟩, ⟨11, some 43, .fa 2 (.tmp 42), none, []⟩, ⟨12, none, .st (.tmp 43) (.tmp 41), none, []⟩]))
  (.seq (.seq (.keep [0, 3] (.ops [⟨0, some 44, .mv (.tmp 0), none, []⟩, ⟨1, some 45, .nc (.tmp 44), none, []⟩, ⟨2, some 46, .fa 1 (.tmp 45), none, []⟩, ⟨3, some 47, .ld (.tmp 46), none, []⟩, ⟨4, some 48, .mv (.tmp 0), none, []⟩, ⟨5, some 49, .nc (.tmp 48), none, []⟩, ⟨6, some 50, .fa 0 (.tmp 49), none, []⟩, ⟨7, some 51, .ld (.tmp 50), none, []⟩, ⟨8, some 52, .len (.tmp 51), none, []⟩, ⟨9, some 53, .bin .leq (.tmp 47) (.tmp 52), none, []⟩]))
  (.cond (.tmp 53) (.seq (.keep [3] (.ops [⟨0, some 54, .mv (.tmp 3), none, []⟩, ⟨1, some 2, .mv (.tmp 54), none, []⟩]))
  (.ret)) (.skip)))
  (.seq (.keep [0] (.ops [⟨0, some 55, .mv (.tmp 0), none, []⟩, ⟨1, some 56, .nc (.tmp 55), none, []⟩, ⟨2, some 57, .fa 2 (.tmp 56), none, []⟩, ⟨3, some 58, .ld (.tmp 57), none, []⟩, ⟨4, some 59, .bin .shr (.tmp 58) (.const (.int .u64 40)), none, []⟩, ⟨5, some 60, .bin .and (.tmp 59) (.const (.int .u64 255)), none, []⟩, ⟨6, some 61, .cv (.i .i64) (.tmp 60), none, []⟩, ⟨7, some 2, .mv (.tmp 61), none, []⟩]))
  (.ret)))))))
theorem k_s_l00Src_next : FnOk Try.prog n_s_l00Src_next 1 c_s_l00Src_next [.tmp 2] := ⟨by kernel_rfl⟩
def c_i_IsFinite : ACode :=
  .seq (.ops [⟨0, some 2, .mv (.const (.bool false)), none, []⟩])
  (.seq (.ops [⟨0, some 3, .mv (.tmp 0), none, []⟩, ⟨1, some 4, .mv (.tmp 0), none, []⟩, ⟨2, some 5, .bin .sub (.tmp 3) (.tmp 4), none, []⟩, ⟨3, some 6, .bin .eql (.tmp 5) (.const (.float .f32 0)), none, []⟩, ⟨4, some 2, .mv (.tmp 6), none, []⟩])
  (.ret))
theorem k_i_IsFinite : FnOk Try.prog n_i_IsFinite 1 c_i_IsFinite [.tmp 2] := ⟨by kernel_rfl⟩
def c_i_isOver : ACode :=
  .seq (.ops [⟨0, some 2, .mv (.const (.bool false)), none, []⟩])
  (.seq (.ops [⟨0, some 3, .mv (.tmp 0), none, []⟩, ⟨1, some 4, .call n_i_IsFinite [.tmp 3], none, []⟩, ⟨2, some 5, .mv (.tmp 4), none, []⟩, ⟨3, some 6, .mv (.tmp 0), (some (5, true)), []⟩, ⟨4, some 7, .bin .gtr (.tmp 6) (.const (.float .f32 0)), (some (5, true)), []⟩, ⟨5, some 8, .pick (.tmp 5) (.tmp 7) (.const (.bool false)), none, []⟩, ⟨6, some 2, .mv (.tmp 8), none, []⟩])
  (.ret))
theorem k_i_isOver : FnOk Try.prog n_i_isOver 1 c_i_isOver [.tmp 2] := ⟨by kernel_rfl⟩
def c_i_weigh_1 : ACode :=
  .seq (.ops [⟨0, some 9, .ld (.tmp 3), none, []⟩, ⟨1, some 10, .mv (.tmp 1), none, []⟩, ⟨2, some 11, .mv (.tmp 2), none, []⟩, ⟨3, some 12, .bin .add (.tmp 10) (.tmp 11), none, []⟩, ⟨4, some 13, .bin .mul (.tmp 9) (.tmp 12), none, []⟩, ⟨5, some 8, .mv (.tmp 13), none, []⟩])
  (.seq (.keep [0, 4, 8] (.ops [⟨0, some 14, .ld (.tmp 4), none, []⟩]))
  (.cond (.tmp 14) (.ops [⟨0, some 15, .mv (.tmp 0), none, []⟩, ⟨1, some 16, .nc (.tmp 15), none, []⟩, ⟨2, some 17, .ld (.tmp 16), none, []⟩, ⟨3, some 18, .mv (.tmp 8), none, []⟩, ⟨4, some 19, .bin .sub (.tmp 17) (.tmp 18), none, []⟩, ⟨5, some 20, .nc (.tmp 15), none, []⟩, ⟨6, none, .st (.tmp 20) (.tmp 19), none, []⟩]) (.ops [⟨0, some 21, .mv (.tmp 0), none, []⟩, ⟨1, some 22, .nc (.tmp 21), none, []⟩, ⟨2, some 23, .ld (.tmp 22), none, []⟩, ⟨3, some 24, .mv (.tmp 8), none, []⟩, ⟨4, some 25, .bin .add (.tmp 23) (.tmp 24), none, []⟩, ⟨5, some 26, .nc (.tmp 21), none, []⟩, ⟨6, none, .st (.tmp 26) (.tmp 25), none, []⟩])))
theorem k_i_weigh_1 : FnOk Try.prog n_i_weigh_1 5 c_i_weigh_1 [] := ⟨by kernel_rfl⟩
def c_i_besideOdd_float32_ : ACode :=
  .seq (.ops [⟨0, some 4, .mv (.const (.float .f32 0)), none, []⟩, ⟨1, some 5, .mv (.const (.float .f32 0)), none, []⟩])
  (.seq (.ops [⟨0, some 6, .mv (.tmp 0), none, []⟩, ⟨1, some 7, .mv (.tmp 1), none, []⟩, ⟨2, some 8, .ia (.tmp 6) (.tmp 7), none, []⟩, ⟨3, some 9, .ld (.tmp 8), none, []⟩, ⟨4, some 10, .mv (.tmp 0), none, []⟩, ⟨5, some 11, .mv (.tmp 1), none, []⟩, ⟨6, some 12, .bin .add (.tmp 11) (.const (.int .i64 1)), none, []⟩, ⟨7, some 13, .mv (.tmp 0), none, []⟩, ⟨8, some 14, .len (.tmp 13), none, []⟩, ⟨9, some 15, .bin .sub (.tmp 14) (.const (.int .i64 1)), none, []⟩, ⟨10, some 16, .mnx false (.tmp 12) (.tmp 15), none, []⟩, ⟨11, some 17, .ia (.tmp 10) (.tmp 16), none, []⟩, ⟨12, some 18, .ld (.tmp 17), none, []⟩, ⟨13, some 4, .mv (.tmp 9), none, []⟩, ⟨14, some 5, .mv (.tmp 18), none, []⟩])
  (.ret))
theorem k_i_besideOdd_float32_ : FnOk Try.prog n_i_besideOdd_float32_ 2 c_i_besideOdd_float32_ [.tmp 4, .tmp 5] := ⟨by kernel_rfl⟩
def c_i_besideEven_float32_ : ACode :=
  .seq (.ops [⟨0, some 4, .mv (.const (.float .f32 0)), none, []⟩, ⟨1, some 5, .mv (.const (.float .f32 0)), none, []⟩])
  (.seq (.ops [⟨0, some 6, .mv (.tmp 0), none, []⟩, ⟨1, some 7, .mv (.tmp 1), none, []⟩, ⟨2, some 8, .bin .sub (.tmp 7) (.const (.int .i64 1)), none, []⟩, ⟨3, some 9, .mnx true (.tmp 8) (.const (.int .i64 0)), none, []⟩, ⟨4, some 10, .ia (.tmp 6) (.tmp 9), none, []⟩, ⟨5, some 11, .ld (.tmp 10), none, []⟩, ⟨6, some 12, .mv (.tmp 0), none, []⟩, ⟨7, some 13, .mv (.tmp 1), none, []⟩, ⟨8, some 14, .mv (.tmp 0), none, []⟩, ⟨9, some 15, .len (.tmp 14), none, []⟩, ⟨10, some 16, .bin .sub (.tmp 15) (.const (.int .i64 1)), none, []⟩, ⟨11, some 17, .mnx false (.tmp 13) (.tmp 16), none, []⟩, ⟨12, some 18, .ia (.tmp 12) (.tmp 17), none, []⟩, ⟨13, some 19, .ld (.tmp 18), none, []⟩, ⟨14, some 4, .mv (.tmp 11), none, []⟩, ⟨15, some 5, .mv (.tmp 19), none, []⟩])
  (.ret))
theorem k_i_besideEven_float32_ : FnOk Try.prog n_i_besideEven_float32_ 2 c_i_besideEven_float32_ [.tmp 4, .tmp 5] := ⟨by kernel_rfl⟩
end Go.Proofs.Ytddekdgggpifmaa

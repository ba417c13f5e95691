/- The code of functions, for the abstract machine; printed by a program (gen.py). -/
import Derived.Test.YtddekdgggpifmaaGxFn
import Derived.Test.YtddekdgggpifmaaProg
namespace Go.Proofs.Ytddekdgggpifmaa
open Go.Gx
set_option maxRecDepth 100000
abbrev t_int64 : Nat := 2
abbrev t_int : Nat := 3
abbrev t_bool : Nat := 4
abbrev t_uint8 : Nat := 5
abbrev t_suint8 : Nat := 22
abbrev t_sfloat32 : Nat := 24
abbrev t_ssfloat32 : Nat := 30
abbrev t_float64 : Nat := 40
abbrev t_float32 : Nat := 41
abbrev t_sbool : Nat := 44
abbrev t_sint64 : Nat := 55
abbrev t_ssint64 : Nat := 62
abbrev t_sint : Nat := 78
abbrev t_Pair : Nat := 26
abbrev t_Bands : Nat := 32
abbrev t_Scheme : Nat := 71
abbrev n_w_FnLifts : Nat := 7
abbrev n_w_r8Long : Nat := 34
abbrev n_w_r8At : Nat := 36
abbrev n_i_BandSizes : Nat := 42
abbrev n_s_R8List : Nat := 44
abbrev n_i_LinesScheme : Nat := 45
abbrev n_i_LiftDeep : Nat := 46
abbrev n_w_r8Gap : Nat := 49
abbrev n_i_LiftOnce : Nat := 52
abbrev n_s_R8Scheme : Nat := 53
abbrev n_i_DropOnce : Nat := 54
abbrev n_i_DropDeep : Nat := 55
abbrev n_i_FlatBands : Nat := 56
abbrev n_i_CutFlat : Nat := 57
abbrev n_i_ListEnergies : Nat := 58
abbrev n_i_EnergyOf : Nat := 59
abbrev n_i_AreBands : Nat := 60
abbrev n_i_IsList : Nat := 61
abbrev n_s_l00From : Nat := 69
abbrev n_s_l00Src_one : Nat := 70
abbrev n_s_l00Src_pick : Nat := 71
abbrev n_i_within : Nat := 73
abbrev n_i_copyOf : Nat := 74
abbrev n_i_squares : Nat := 75
abbrev n_i_finiteList : Nat := 76
abbrev n_i_areFinite : Nat := 78
abbrev n_i_areSizes : Nat := 92
abbrev n_s_l02DrawOk : Nat := 95
abbrev n_i_ValidScheme : Nat := 96
abbrev n_i_split_float32_ : Nat := 98
abbrev n_i_weigh : Nat := 99
abbrev n_s_l08DrawScheme : Nat := 100
abbrev n_i_woven_float32_ : Nat := 101
abbrev n_i_finite : Nat := 102
abbrev n_i_sizesOf_float32_ : Nat := 103
abbrev n_s_l00Src_next : Nat := 118
abbrev n_i_IsFinite : Nat := 120
abbrev n_i_isOver : Nat := 127
abbrev n_i_weigh_1 : Nat := 128
abbrev n_i_besideOdd_float32_ : Nat := 129
abbrev n_i_besideEven_float32_ : Nat := 130
abbrev n_s_NineScheme : Nat := 131
abbrev n_s_LinesScheme : Nat := 132
def c_w_FnLifts : ACode :=
  .seq (.ops [⟨0, some 4, .mv (.const (.bool false)), none, []⟩])
  (.seq (.seq (.ops [⟨0, some 41, .mv (.tmp 0), none, []⟩, ⟨1, some 42, .mv (.tmp 1), none, []⟩, ⟨2, some 43, .call n_w_r8Long [.tmp 41, .tmp 42], none, []⟩])
  (.cond (.tmp 43) (.seq (.keep [] (.ops [⟨0, some 4, .mv (.const (.bool true)), none, []⟩]))
  (.ret)) (.skip)))
  (.seq (.ops [⟨0, some 44, .mv (.tmp 0), none, []⟩, ⟨1, some 45, .call n_s_R8List [.tmp 44], none, []⟩, ⟨2, some 5, .mv (.tmp 45), none, []⟩])
  (.seq (.keep [1, 5] (.ops [⟨0, some 46, .mv (.tmp 1), none, []⟩, ⟨1, some 47, .call n_s_R8Scheme [.tmp 46], none, []⟩, ⟨2, some 6, .new 71 [.slice none 0 0, .float .f32 0], none, []⟩, ⟨3, none, .stn 2 (.tmp 6) (.tmp 47), none, []⟩]))
  (.seq (.ops [⟨0, some 48, .mv (.tmp 1), none, []⟩, ⟨1, some 49, .call n_w_r8At [.tmp 48, .const (.int .i64 40), .const (.int .i64 6)], none, []⟩, ⟨2, some 50, .bin .add (.const (.int .i64 1)) (.tmp 49), none, []⟩, ⟨3, some 7, .mv (.tmp 50), none, []⟩])
  (.seq (.keep [5, 6, 7] (.ops [⟨0, some 51, .mv (.tmp 5), none, []⟩, ⟨1, some 52, .len (.tmp 51), none, []⟩, ⟨2, some 8, .mv (.tmp 52), none, []⟩]))
  (.seq (.ops [⟨0, some 54, .ldn 2 (.tmp 6), none, []⟩, ⟨1, some 55, .mv (.tmp 5), none, []⟩, ⟨2, some 56, .call n_i_LiftOnce [.tmp 54, .tmp 55], none, []⟩, ⟨3, some 53, .mv (.tmp 56), none, []⟩, ⟨4, some 57, .ext (.tmp 53) 0, none, []⟩, ⟨5, some 58, .ext (.tmp 53) 1, none, []⟩, ⟨6, some 59, .ext (.tmp 53) 2, none, []⟩, ⟨7, some 9, .mv (.tmp 57), none, []⟩, ⟨8, some 10, .mv (.tmp 58), none, []⟩, ⟨9, some 11, .mv (.tmp 59), none, []⟩])
  (.seq (.keep [5, 6, 7, 8, 9, 10, 11] (.ops [⟨0, some 61, .ldn 2 (.tmp 6), none, []⟩, ⟨1, some 62, .mv (.tmp 9), none, []⟩, ⟨2, some 63, .mv (.tmp 10), none, []⟩, ⟨3, some 64, .call n_i_DropOnce [.tmp 61, .tmp 62, .tmp 63], none, []⟩, ⟨4, some 60, .mv (.tmp 64), none, []⟩, ⟨5, some 65, .ext (.tmp 60) 0, none, []⟩, ⟨6, some 66, .ext (.tmp 60) 1, none, []⟩, ⟨7, some 12, .mv (.tmp 65), none, []⟩, ⟨8, some 13, .mv (.tmp 66), none, []⟩]))
  (.seq (.keep [5, 6, 7, 8, 9, 10, 11, 12, 13] (.ops [⟨0, some 68, .ldn 2 (.tmp 6), none, []⟩, ⟨1, some 69, .mv (.tmp 5), none, []⟩, ⟨2, some 70, .mv (.tmp 7), none, []⟩, ⟨3, some 71, .call n_i_LiftDeep [.tmp 68, .tmp 69, .tmp 70], none, []⟩, ⟨4, some 67, .mv (.tmp 71), none, []⟩, ⟨5, some 72, .ext (.tmp 67) 0, none, []⟩, ⟨6, some 73, .ext (.tmp 67) 1, none, []⟩, ⟨7, some 14, .mv (.tmp 72), none, []⟩, ⟨8, some 15, .mv (.tmp 73), none, []⟩]))
  (.seq (.keep [5, 6, 7, 8, 9, 10, 11, 12, 13, 14, 15] (.ops [⟨0, some 75, .ldn 2 (.tmp 6), none, []⟩, ⟨1, some 76, .mv (.tmp 14), none, []⟩, ⟨2, some 77, .call n_i_DropDeep [.tmp 75, .tmp 76], none, []⟩, ⟨3, some 74, .mv (.tmp 77), none, []⟩, ⟨4, some 78, .ext (.tmp 74) 0, none, []⟩, ⟨5, some 79, .ext (.tmp 74) 1, none, []⟩, ⟨6, some 16, .mv (.tmp 78), none, []⟩, ⟨7, some 17, .mv (.tmp 79), none, []⟩]))
  (.seq (.keep [5, 6, 7, 8, 9, 10, 11, 12, 13, 14, 15, 16, 17] (.ops [⟨0, some 81, .mv (.tmp 14), none, []⟩, ⟨1, some 82, .call n_i_FlatBands [.tmp 81], none, []⟩, ⟨2, some 80, .mv (.tmp 82), none, []⟩, ⟨3, some 83, .ext (.tmp 80) 0, none, []⟩, ⟨4, some 84, .ext (.tmp 80) 1, none, []⟩, ⟨5, some 18, .mv (.tmp 83), none, []⟩, ⟨6, some 19, .mv (.tmp 84), none, []⟩]))
  (.seq (.keep [5, 6, 7, 8, 9, 10, 11, 12, 13, 14, 15, 16, 17, 18, 19] (.ops [⟨0, some 86, .mv (.tmp 18), none, []⟩, ⟨1, some 87, .mv (.tmp 7), none, []⟩, ⟨2, some 88, .call n_i_CutFlat [.tmp 86, .tmp 87], none, []⟩, ⟨3, some 85, .mv (.tmp 88), none, []⟩, ⟨4, some 89, .ext (.tmp 85) 0, none, []⟩, ⟨5, some 90, .ext (.tmp 85) 1, none, []⟩, ⟨6, some 20, .mv (.tmp 89), none, []⟩, ⟨7, some 21, .mv (.tmp 90), none, []⟩]))
  (.seq (.keep [5, 6, 8, 9, 10, 11, 12, 13, 14, 15, 16, 17, 18, 19, 20, 21] (.ops [⟨0, some 92, .mv (.tmp 20), none, []⟩, ⟨1, some 93, .call n_i_FlatBands [.tmp 92], none, []⟩, ⟨2, some 91, .mv (.tmp 93), none, []⟩, ⟨3, some 94, .ext (.tmp 91) 0, none, []⟩, ⟨4, some 95, .ext (.tmp 91) 1, none, []⟩, ⟨5, some 22, .mv (.tmp 94), none, []⟩, ⟨6, some 23, .mv (.tmp 95), none, []⟩]))
  (.seq (.keep [5, 6, 8, 9, 10, 11, 12, 13, 14, 15, 16, 17, 18, 19, 20, 21, 22, 23] (.ops [⟨0, some 97, .mv (.tmp 14), none, []⟩, ⟨1, some 98, .call n_i_ListEnergies [.tmp 97], none, []⟩, ⟨2, some 96, .mv (.tmp 98), none, []⟩, ⟨3, some 99, .ext (.tmp 96) 0, none, []⟩, ⟨4, some 100, .ext (.tmp 96) 1, none, []⟩, ⟨5, some 24, .mv (.tmp 99), none, []⟩, ⟨6, some 25, .mv (.tmp 100), none, []⟩]))
  (.seq (.keep [5, 6, 8, 9, 10, 11, 12, 13, 14, 15, 16, 17, 18, 19, 20, 21, 22, 23, 24, 25] (.ops [⟨0, some 102, .mv (.tmp 18), none, []⟩, ⟨1, some 103, .call n_i_EnergyOf [.tmp 102], none, []⟩, ⟨2, some 101, .mv (.tmp 103), none, []⟩, ⟨3, some 104, .ext (.tmp 101) 0, none, []⟩, ⟨4, some 105, .ext (.tmp 101) 1, none, []⟩, ⟨5, some 26, .mv (.tmp 104), none, []⟩, ⟨6, some 27, .mv (.tmp 105), none, []⟩]))
  (.seq (.seq (.keep [5, 6, 8, 9, 10, 11, 12, 13, 14, 15, 16, 17, 18, 19, 20, 21, 22, 23, 24, 25, 26, 27] (.ops [⟨0, some 106, .mv (.tmp 11), none, []⟩, ⟨1, some 107, .un .not (.tmp 106), none, []⟩, ⟨2, some 108, .mv (.tmp 107), none, []⟩, ⟨3, some 109, .mv (.tmp 13), (some (108, false)), []⟩, ⟨4, some 110, .un .not (.tmp 109), (some (108, false)), []⟩, ⟨5, some 111, .pick (.tmp 108) (.const (.bool true)) (.tmp 110), none, []⟩, ⟨6, some 112, .mv (.tmp 111), none, []⟩, ⟨7, some 113, .mv (.tmp 15), (some (112, false)), []⟩, ⟨8, some 114, .un .not (.tmp 113), (some (112, false)), []⟩, ⟨9, some 115, .pick (.tmp 112) (.const (.bool true)) (.tmp 114), none, []⟩, ⟨10, some 116, .mv (.tmp 115), none, []⟩, ⟨11, some 117, .mv (.tmp 17), (some (116, false)), []⟩, ⟨12, some 118, .un .not (.tmp 117), (some (116, false)), []⟩, ⟨13, some 119, .pick (.tmp 116) (.const (.bool true)) (.tmp 118), none, []⟩, ⟨14, some 120, .mv (.tmp 119), none, []⟩, ⟨15, some 121, .mv (.tmp 19), (some (120, false)), []⟩, ⟨16, some 122, .un .not (.tmp 121), (some (120, false)), []⟩, ⟨17, some 123, .pick (.tmp 120) (.const (.bool true)) (.tmp 122), none, []⟩, ⟨18, some 124, .mv (.tmp 123), none, []⟩, ⟨19, some 125, .mv (.tmp 21), (some (124, false)), []⟩, ⟨20, some 126, .un .not (.tmp 125), (some (124, false)), []⟩, ⟨21, some 127, .pick (.tmp 124) (.const (.bool true)) (.tmp 126), none, []⟩, ⟨22, some 128, .mv (.tmp 127), none, []⟩, ⟨23, some 129, .mv (.tmp 23), (some (128, false)), []⟩, ⟨24, some 130, .un .not (.tmp 129), (some (128, false)), []⟩, ⟨25, some 131, .pick (.tmp 128) (.const (.bool true)) (.tmp 130), none, []⟩, ⟨26, some 132, .mv (.tmp 131), none, []⟩, ⟨27, some 133, .mv (.tmp 25), (some (132, false)), []⟩, ⟨28, some 134, .un .not (.tmp 133), (some (132, false)), []⟩, ⟨29, some 135, .pick (.tmp 132) (.const (.bool true)) (.tmp 134), none, []⟩, ⟨30, some 136, .mv (.tmp 135), none, []⟩, ⟨31, some 137, .mv (.tmp 27), (some (136, false)), []⟩, ⟨32, some 138, .un .not (.tmp 137), (some (136, false)), []⟩, ⟨33, some 139, .pick (.tmp 136) (.const (.bool true)) (.tmp 138), none, []⟩, ⟨34, some 140, .mv (.tmp 139), none, []⟩, ⟨35, some 141, .mv (.tmp 9), (some (140, false)), []⟩, ⟨36, some 142, .len (.tmp 141), (some (140, false)), []⟩, ⟨37, some 143, .mv (.tmp 8), (some (140, false)), []⟩, ⟨38, some 144, .bin .add (.tmp 143) (.const (.int .i64 1)), (some (140, false)), []⟩, ⟨39, some 145, .bin .quo (.tmp 144) (.const (.int .i64 2)), (some (140, false)), []⟩, ⟨40, some 146, .bin .neq (.tmp 142) (.tmp 145), (some (140, false)), []⟩, ⟨41, some 147, .pick (.tmp 140) (.const (.bool true)) (.tmp 146), none, []⟩, ⟨42, some 148, .mv (.tmp 147), none, []⟩, ⟨43, some 149, .mv (.tmp 10), (some (148, false)), []⟩, ⟨44, some 150, .len (.tmp 149), (some (148, false)), []⟩, ⟨45, some 151, .mv (.tmp 8), (some (148, false)), []⟩, ⟨46, some 152, .bin .quo (.tmp 151) (.const (.int .i64 2)), (some (148, false)), []⟩, ⟨47, some 153, .bin .neq (.tmp 150) (.tmp 152), (some (148, false)), []⟩, ⟨48, some 154, .pick (.tmp 148) (.const (.bool true)) (.tmp 153), none, []⟩, ⟨49, some 155, .mv (.tmp 154), none, []⟩, ⟨50, some 156, .mv (.tmp 12), (some (155, false)), []⟩, ⟨51, some 157, .len (.tmp 156), (some (155, false)), []⟩, ⟨52, some 158, .mv (.tmp 8), (some (155, false)), []⟩, ⟨53, some 159, .bin .neq (.tmp 157) (.tmp 158), (some (155, false)), []⟩, ⟨54, some 160, .pick (.tmp 155) (.const (.bool true)) (.tmp 159), none, []⟩, ⟨55, some 161, .mv (.tmp 160), none, []⟩, ⟨56, some 162, .mv (.tmp 16), (some (161, false)), []⟩, ⟨57, some 163, .len (.tmp 162), (some (161, false)), []⟩, ⟨58, some 164, .mv (.tmp 8), (some (161, false)), []⟩, ⟨59, some 165, .bin .neq (.tmp 163) (.tmp 164), (some (161, false)), []⟩, ⟨60, some 166, .pick (.tmp 161) (.const (.bool true)) (.tmp 165), none, []⟩, ⟨61, some 167, .mv (.tmp 166), none, []⟩, ⟨62, some 168, .mv (.tmp 18), (some (167, false)), []⟩, ⟨63, some 169, .len (.tmp 168), (some (167, false)), []⟩, ⟨64, some 170, .mv (.tmp 8), (some (167, false)), []⟩, ⟨65, some 171, .bin .neq (.tmp 169) (.tmp 170), (some (167, false)), []⟩, ⟨66, some 172, .pick (.tmp 167) (.const (.bool true)) (.tmp 171), none, []⟩, ⟨67, some 173, .mv (.tmp 172), none, []⟩, ⟨68, some 174, .mv (.tmp 22), (some (173, false)), []⟩, ⟨69, some 175, .len (.tmp 174), (some (173, false)), []⟩, ⟨70, some 176, .mv (.tmp 8), (some (173, false)), []⟩, ⟨71, some 177, .bin .neq (.tmp 175) (.tmp 176), (some (173, false)), []⟩, ⟨72, some 178, .pick (.tmp 173) (.const (.bool true)) (.tmp 177), none, []⟩, ⟨73, some 179, .mv (.tmp 178), none, []⟩, ⟨74, some 180, .mv (.tmp 20), (some (179, false)), []⟩, ⟨75, some 181, .len (.tmp 180), (some (179, false)), []⟩, ⟨76, some 182, .mv (.tmp 14), (some (179, false)), []⟩, ⟨77, some 183, .len (.tmp 182), (some (179, false)), []⟩, ⟨78, some 184, .bin .neq (.tmp 181) (.tmp 183), (some (179, false)), []⟩, ⟨79, some 185, .pick (.tmp 179) (.const (.bool true)) (.tmp 184), none, []⟩, ⟨80, some 186, .mv (.tmp 185), none, []⟩, ⟨81, some 187, .mv (.tmp 24), (some (186, false)), []⟩, ⟨82, some 188, .len (.tmp 187), (some (186, false)), []⟩, ⟨83, some 189, .mv (.tmp 14), (some (186, false)), []⟩, ⟨84, some 190, .len (.tmp 189), (some (186, false)), []⟩, ⟨85, some 191, .bin .neq (.tmp 188) (.tmp 190), (some (186, false)), []⟩, ⟨86, some 192, .pick (.tmp 186) (.const (.bool true)) (.tmp 191), none, []⟩, ⟨87, some 193, .mv (.tmp 192), none, []⟩, ⟨88, some 194, .mv (.tmp 14), (some (193, false)), []⟩, ⟨89, some 195, .call n_i_AreBands [.tmp 194], (some (193, false)), []⟩, ⟨90, some 196, .un .not (.tmp 195), (some (193, false)), []⟩, ⟨91, some 197, .pick (.tmp 193) (.const (.bool true)) (.tmp 196), none, []⟩, ⟨92, some 198, .mv (.tmp 197), none, []⟩, ⟨93, some 199, .mv (.tmp 5), (some (198, false)), []⟩, ⟨94, some 200, .call n_i_IsList [.tmp 199], (some (198, false)), []⟩, ⟨95, some 201, .un .not (.tmp 200), (some (198, false)), []⟩, ⟨96, some 202, .pick (.tmp 198) (.const (.bool true)) (.tmp 201), none, []⟩]))
  (.cond (.tmp 202) (.seq (.keep [] (.ops [⟨0, some 4, .mv (.const (.bool false)), none, []⟩]))
  (.ret)) (.skip)))
  (.seq (.keep [5, 6, 8, 12, 14, 16, 18, 20, 22, 24, 26] (.ops [⟨0, some 28, .mv (.const (.float .f64 0)), none, []⟩]))
  (.seq (.seq (.ops [⟨0, some 29, .mv (.const (.int .i64 0)), none, []⟩])
  (.block 0 (.loop [5, 6, 8, 12, 14, 16, 18, 20, 22, 24, 26, 28, 29] (.seq (.seq (.ops [⟨0, some 203, .mv (.tmp 29), none, []⟩, ⟨1, some 204, .mv (.tmp 14), none, []⟩, ⟨2, some 205, .len (.tmp 204), none, []⟩, ⟨3, some 206, .bin .lss (.tmp 203) (.tmp 205), none, []⟩])
  (.cond (.tmp 206) (.skip) (.exit 0)))
  (.seq (.block 1 (.seq (.ops [⟨0, some 209, .mv (.tmp 28), none, []⟩, ⟨1, some 210, .mv (.tmp 24), none, []⟩, ⟨2, some 211, .mv (.tmp 29), none, []⟩, ⟨3, some 212, .ia (.tmp 210) (.tmp 211), none, []⟩, ⟨4, some 213, .ld (.tmp 212), none, []⟩, ⟨5, some 214, .cv (.f .f64) (.tmp 213), none, []⟩, ⟨6, some 215, .bin .add (.tmp 209) (.tmp 214), none, []⟩, ⟨7, some 28, .mv (.tmp 215), none, []⟩])
  (.seq (.keep [5, 6, 8, 12, 14, 16, 18, 20, 22, 24, 26, 28, 29] (.ops [⟨0, some 216, .mv (.tmp 20), none, []⟩, ⟨1, some 217, .mv (.tmp 29), none, []⟩, ⟨2, some 218, .ia (.tmp 216) (.tmp 217), none, []⟩, ⟨3, some 219, .ld (.tmp 218), none, []⟩, ⟨4, some 220, .len (.tmp 219), none, []⟩, ⟨5, some 221, .mv (.tmp 14), none, []⟩, ⟨6, some 222, .mv (.tmp 29), none, []⟩, ⟨7, some 223, .ia (.tmp 221) (.tmp 222), none, []⟩, ⟨8, some 224, .ld (.tmp 223), none, []⟩, ⟨9, some 225, .len (.tmp 224), none, []⟩, ⟨10, some 226, .bin .neq (.tmp 220) (.tmp 225), none, []⟩]))
  (.cond (.tmp 226) (.seq (.keep [] (.ops [⟨0, some 4, .mv (.const (.bool false)), none, []⟩]))
  (.ret)) (.skip)))))
  (.keep [5, 6, 8, 12, 14, 16, 18, 20, 22, 24, 26, 28, 29] (.ops [⟨0, some 207, .mv (.tmp 29), none, []⟩, ⟨1, some 208, .bin .add (.tmp 207) (.const (.int .i64 1)), none, []⟩, ⟨2, some 29, .mv (.tmp 208), none, []⟩])))))))
  (.seq (.seq (.keep [5, 6, 8, 12, 16, 18, 22, 26, 28] (.ops [⟨0, some 30, .mv (.const (.int .i64 0)), none, []⟩]))
  (.block 2 (.loop [5, 6, 8, 12, 16, 18, 22, 26, 28, 30] (.seq (.seq (.ops [⟨0, some 227, .mv (.tmp 30), none, []⟩, ⟨1, some 228, .mv (.tmp 8), none, []⟩, ⟨2, some 229, .bin .lss (.tmp 227) (.tmp 228), none, []⟩])
  (.cond (.tmp 229) (.skip) (.exit 2)))
  (.seq (.block 3 (.seq (.ops [⟨0, some 232, .mv (.tmp 12), none, []⟩, ⟨1, some 233, .mv (.tmp 30), none, []⟩, ⟨2, some 234, .ia (.tmp 232) (.tmp 233), none, []⟩, ⟨3, some 235, .ld (.tmp 234), none, []⟩, ⟨4, some 236, .cv (.f .f64) (.tmp 235), none, []⟩, ⟨5, some 237, .mv (.tmp 5), none, []⟩, ⟨6, some 238, .mv (.tmp 30), none, []⟩, ⟨7, some 239, .ia (.tmp 237) (.tmp 238), none, []⟩, ⟨8, some 240, .ld (.tmp 239), none, []⟩, ⟨9, some 241, .cv (.f .f64) (.tmp 240), none, []⟩, ⟨10, some 242, .call n_w_r8Gap [.tmp 236, .tmp 241], none, []⟩, ⟨11, some 243, .bin .gtr (.tmp 242) (.const (.float .f64 4562254508917369340)), none, []⟩, ⟨12, some 244, .mv (.tmp 243), none, []⟩, ⟨13, some 245, .mv (.tmp 16), (some (244, false)), []⟩, ⟨14, some 246, .mv (.tmp 30), (some (244, false)), []⟩, ⟨15, some 247, .ia (.tmp 245) (.tmp 246), (some (244, false)), []⟩, ⟨16, some 248, .ld (.tmp 247), (some (244, false)), []⟩, ⟨17, some 249, .cv (.f .f64) (.tmp 248), (some (244, false)), []⟩, ⟨18, some 250, .mv (.tmp 5), (some (244, false)), []⟩, ⟨19, some 251, .mv (.tmp 30), (some (244, false)), []⟩, ⟨20, some 252, .ia (.tmp 250) (.tmp 251), (some (244, false)), []⟩, ⟨21, some 253, .ld (.tmp 252), (some (244, false)), []⟩, ⟨22, some 254, .cv (.f .f64) (.tmp 253), (some (244, false)), []⟩, ⟨23, some 255, .call n_w_r8Gap [.tmp 249, .tmp 254], (some (244, false)), []⟩, ⟨24, some 256, .bin .gtr (.tmp 255) (.const (.float .f64 4576918229304087675)), (some (244, false)), []⟩, ⟨25, some 257, .pick (.tmp 244) (.const (.bool true)) (.tmp 256), none, []⟩, ⟨26, some 258, .mv (.tmp 257), none, []⟩, ⟨27, some 259, .mv (.tmp 22), (some (258, false)), []⟩, ⟨28, some 260, .mv (.tmp 30), (some (258, false)), []⟩, ⟨29, some 261, .ia (.tmp 259) (.tmp 260), (some (258, false)), []⟩, ⟨30, some 262, .ld (.tmp 261), (some (258, false)), []⟩, ⟨31, some 263, .mv (.tmp 18), (some (258, false)), []⟩, ⟨32, some 264, .mv (.tmp 30), (some (258, false)), []⟩, ⟨33, some 265, .ia (.tmp 263) (.tmp 264), (some (258, false)), []⟩, ⟨34, some 266, .ld (.tmp 265), (some (258, false)), []⟩, ⟨35, some 267, .bin .neq (.tmp 262) (.tmp 266), (some (258, false)), []⟩, ⟨36, some 268, .pick (.tmp 258) (.const (.bool true)) (.tmp 267), none, []⟩])
  (.cond (.tmp 268) (.seq (.keep [] (.ops [⟨0, some 4, .mv (.const (.bool false)), none, []⟩]))
  (.ret)) (.skip))))
  (.keep [5, 6, 8, 12, 16, 18, 22, 26, 28, 30] (.ops [⟨0, some 230, .mv (.tmp 30), none, []⟩, ⟨1, some 231, .bin .add (.tmp 230) (.const (.int .i64 1)), none, []⟩, ⟨2, some 30, .mv (.tmp 231), none, []⟩])))))))
  (.seq (.seq (.keep [5, 6, 8, 26, 28] (.ops [⟨0, some 269, .mv (.tmp 28), none, []⟩, ⟨1, some 270, .mv (.tmp 26), none, []⟩, ⟨2, some 271, .cv (.f .f64) (.tmp 270), none, []⟩, ⟨3, some 272, .call n_w_r8Gap [.tmp 269, .tmp 271], none, []⟩, ⟨4, some 273, .mv (.tmp 28), none, []⟩, ⟨5, some 274, .bin .add (.const (.float .f64 4607182418800017408)) (.tmp 273), none, []⟩, ⟨6, some 275, .bin .mul (.const (.float .f64 4562254508917369340)) (.tmp 274), none, []⟩, ⟨7, some 276, .bin .gtr (.tmp 272) (.tmp 275), none, []⟩]))
  (.cond (.tmp 276) (.seq (.keep [] (.ops [⟨0, some 4, .mv (.const (.bool false)), none, []⟩]))
  (.ret)) (.skip)))
  (.seq (.keep [5, 6, 8] (.ops [⟨0, some 277, .bsl 41 0 (.float .f32 0) [], none, []⟩, ⟨1, some 31, .mv (.tmp 277), none, []⟩]))
  (.seq (.ops [⟨0, some 278, .bsl 41 0 (.float .f32 0) [], none, []⟩, ⟨1, some 32, .mv (.tmp 278), none, []⟩])
  (.seq (.seq (.ops [⟨0, some 33, .mv (.const (.int .i64 0)), none, []⟩])
  (.block 4 (.loop [5, 6, 8, 31, 32, 33] (.seq (.seq (.ops [⟨0, some 279, .mv (.tmp 33), none, []⟩, ⟨1, some 280, .mv (.tmp 8), none, []⟩, ⟨2, some 281, .bin .lss (.tmp 279) (.tmp 280), none, []⟩])
  (.cond (.tmp 281) (.skip) (.exit 4)))
  (.seq (.block 5 (.seq (.ops [⟨0, some 284, .mv (.tmp 31), none, []⟩, ⟨1, some 285, .mv (.tmp 5), none, []⟩, ⟨2, some 286, .ia (.tmp 285) (.const (.int .i64 0)), none, []⟩, ⟨3, some 287, .ld (.tmp 286), none, []⟩, ⟨4, some 288, .bsl 41 1 (.float .f32 0) [(0, .tmp 287)], none, []⟩, ⟨5, some 289, .app 41 4 (.tmp 284) (.tmp 288), none, []⟩, ⟨6, some 31, .mv (.tmp 289), none, []⟩])
  (.keep [5, 6, 8, 31, 32, 33] (.ops [⟨0, some 290, .mv (.tmp 32), none, []⟩, ⟨1, some 291, .mv (.tmp 5), none, []⟩, ⟨2, some 292, .ia (.tmp 291) (.const (.int .i64 0)), none, []⟩, ⟨3, some 293, .ld (.tmp 292), none, []⟩, ⟨4, some 294, .mv (.tmp 33), none, []⟩, ⟨5, some 295, .cv (.f .f32) (.tmp 294), none, []⟩, ⟨6, some 296, .bin .mul (.tmp 293) (.tmp 295), none, []⟩, ⟨7, some 297, .bsl 41 1 (.float .f32 0) [(0, .tmp 296)], none, []⟩, ⟨8, some 298, .app 41 4 (.tmp 290) (.tmp 297), none, []⟩, ⟨9, some 32, .mv (.tmp 298), none, []⟩]))))
  (.keep [5, 6, 8, 31, 32, 33] (.ops [⟨0, some 282, .mv (.tmp 33), none, []⟩, ⟨1, some 283, .bin .add (.tmp 282) (.const (.int .i64 1)), none, []⟩, ⟨2, some 33, .mv (.tmp 283), none, []⟩])))))))
  (.seq (.ops [⟨0, some 300, .ldn 2 (.tmp 6), none, []⟩, ⟨1, some 301, .mv (.tmp 31), none, []⟩, ⟨2, some 302, .call n_i_LiftOnce [.tmp 300, .tmp 301], none, []⟩, ⟨3, some 299, .mv (.tmp 302), none, []⟩, ⟨4, some 303, .ext (.tmp 299) 0, none, []⟩, ⟨5, some 304, .ext (.tmp 299) 1, none, []⟩, ⟨6, some 305, .ext (.tmp 299) 2, none, []⟩, ⟨7, some 34, .mv (.tmp 303), none, []⟩, ⟨8, some 35, .mv (.tmp 304), none, []⟩, ⟨9, some 36, .mv (.tmp 305), none, []⟩])
  (.seq (.keep [5, 8, 32, 35, 36] (.ops [⟨0, some 307, .call n_i_LinesScheme [], none, []⟩, ⟨1, some 308, .mv (.tmp 32), none, []⟩, ⟨2, some 309, .call n_i_LiftOnce [.tmp 307, .tmp 308], none, []⟩, ⟨3, some 306, .mv (.tmp 309), none, []⟩, ⟨4, some 310, .ext (.tmp 306) 0, none, []⟩, ⟨5, some 311, .ext (.tmp 306) 1, none, []⟩, ⟨6, some 312, .ext (.tmp 306) 2, none, []⟩, ⟨7, some 37, .mv (.tmp 310), none, []⟩, ⟨8, some 38, .mv (.tmp 311), none, []⟩, ⟨9, some 39, .mv (.tmp 312), none, []⟩]))
  (.seq (.seq (.keep [5, 8, 35, 36, 38, 39] (.ops [⟨0, some 313, .mv (.tmp 36), none, []⟩, ⟨1, some 314, .un .not (.tmp 313), none, []⟩, ⟨2, some 315, .mv (.tmp 314), none, []⟩, ⟨3, some 316, .mv (.tmp 39), (some (315, false)), []⟩, ⟨4, some 317, .un .not (.tmp 316), (some (315, false)), []⟩, ⟨5, some 318, .pick (.tmp 315) (.const (.bool true)) (.tmp 317), none, []⟩, ⟨6, some 319, .mv (.tmp 318), none, []⟩, ⟨7, some 320, .mv (.tmp 35), (some (319, false)), []⟩, ⟨8, some 321, .len (.tmp 320), (some (319, false)), []⟩, ⟨9, some 322, .mv (.tmp 8), (some (319, false)), []⟩, ⟨10, some 323, .bin .quo (.tmp 322) (.const (.int .i64 2)), (some (319, false)), []⟩, ⟨11, some 324, .bin .neq (.tmp 321) (.tmp 323), (some (319, false)), []⟩, ⟨12, some 325, .pick (.tmp 319) (.const (.bool true)) (.tmp 324), none, []⟩, ⟨13, some 326, .mv (.tmp 325), none, []⟩, ⟨14, some 327, .mv (.tmp 38), (some (326, false)), []⟩, ⟨15, some 328, .len (.tmp 327), (some (326, false)), []⟩, ⟨16, some 329, .mv (.tmp 8), (some (326, false)), []⟩, ⟨17, some 330, .bin .quo (.tmp 329) (.const (.int .i64 2)), (some (326, false)), []⟩, ⟨18, some 331, .bin .neq (.tmp 328) (.tmp 330), (some (326, false)), []⟩, ⟨19, some 332, .pick (.tmp 326) (.const (.bool true)) (.tmp 331), none, []⟩]))
  (.cond (.tmp 332) (.seq (.keep [] (.ops [⟨0, some 4, .mv (.const (.bool false)), none, []⟩]))
  (.ret)) (.skip)))
  (.seq (.seq (.keep [5, 8, 35, 38] (.ops [⟨0, some 40, .mv (.const (.int .i64 0)), none, []⟩]))
  (.block 6 (.loop [5, 8, 35, 38, 40] (.seq (.seq (.ops [⟨0, some 333, .mv (.tmp 40), none, []⟩, ⟨1, some 334, .mv (.tmp 8), none, []⟩, ⟨2, some 335, .bin .quo (.tmp 334) (.const (.int .i64 2)), none, []⟩, ⟨3, some 336, .bin .lss (.tmp 333) (.tmp 335), none, []⟩])
  (.cond (.tmp 336) (.skip) (.exit 6)))
  (.seq (.block 7 (.seq (.ops [⟨0, some 339, .mv (.tmp 35), none, []⟩, ⟨1, some 340, .mv (.tmp 40), none, []⟩, ⟨2, some 341, .ia (.tmp 339) (.tmp 340), none, []⟩, ⟨3, some 342, .ld (.tmp 341), none, []⟩, ⟨4, some 343, .cv (.f .f64) (.tmp 342), none, []⟩, ⟨6, some 345, .mv (.tmp 5), none, []⟩, ⟨7, some 346, .ia (.tmp 345) (.const (.int .i64 0)), none, []⟩, ⟨8, some 347, .ld (.tmp 346), none, []⟩, ⟨9, some 348, .cv (.f .f64) (.tmp 347), none, []⟩, ⟨5, some 344, .call n_w_r8Gap [.tmp 343, .const (.float .f64 0)], none, [(some 346, .ia (.tmp 345) (.const (.int .i64 0)), none), (some 347, .ld (.tmp 346), none)]⟩, ⟨10, some 349, .call n_w_r8Gap [.tmp 348, .const (.float .f64 0)], none, []⟩, ⟨11, some 350, .bin .add (.const (.float .f64 4607182418800017408)) (.tmp 349), none, []⟩, ⟨12, some 351, .bin .mul (.const (.float .f64 4562254508917369340)) (.tmp 350), none, []⟩, ⟨13, some 352, .bin .gtr (.tmp 344) (.tmp 351), none, []⟩, ⟨14, some 353, .mv (.tmp 352), none, []⟩, ⟨15, some 354, .mv (.tmp 40), (some (353, false)), []⟩, ⟨16, some 355, .bin .mul (.const (.int .i64 2)) (.tmp 354), (some (353, false)), []⟩, ⟨17, some 356, .bin .add (.tmp 355) (.const (.int .i64 2)), (some (353, false)), []⟩, ⟨18, some 357, .mv (.tmp 8), (some (353, false)), []⟩, ⟨19, some 358, .bin .lss (.tmp 356) (.tmp 357), (some (353, false)), []⟩, ⟨20, some 359, .mv (.tmp 358), (some (353, false)), []⟩, ⟨21, some 360, .mv (.tmp 38), (some (359, true)), []⟩, ⟨22, some 361, .mv (.tmp 40), (some (359, true)), []⟩, ⟨23, some 362, .ia (.tmp 360) (.tmp 361), (some (359, true)), []⟩, ⟨24, some 363, .ld (.tmp 362), (some (359, true)), []⟩, ⟨25, some 364, .bin .neq (.tmp 363) (.const (.float .f32 0)), (some (359, true)), []⟩, ⟨26, some 365, .pick (.tmp 359) (.tmp 364) (.const (.bool false)), (some (353, false)), []⟩, ⟨27, some 366, .pick (.tmp 353) (.const (.bool true)) (.tmp 365), none, []⟩])
  (.cond (.tmp 366) (.seq (.keep [] (.ops [⟨0, some 4, .mv (.const (.bool false)), none, []⟩]))
  (.ret)) (.skip))))
  (.keep [5, 8, 35, 38, 40] (.ops [⟨0, some 337, .mv (.tmp 40), none, []⟩, ⟨1, some 338, .bin .add (.tmp 337) (.const (.int .i64 1)), none, []⟩, ⟨2, some 40, .mv (.tmp 338), none, []⟩])))))))
  (.seq (.keep [] (.ops [⟨0, some 4, .mv (.const (.bool true)), none, []⟩]))
  (.ret))))))))))))))))))))))))))))
theorem k_w_FnLifts : FnOk Try.prog n_w_FnLifts 2 c_w_FnLifts [.tmp 4] := ⟨by kernel_rfl⟩
def c_w_r8Long : ACode :=
  .seq (.ops [⟨0, some 4, .mv (.const (.bool false)), none, []⟩])
  (.seq (.ops [⟨0, some 5, .mv (.tmp 0), none, []⟩, ⟨1, some 6, .len (.tmp 5), none, []⟩, ⟨2, some 7, .bin .gtr (.tmp 6) (.const (.int .i64 48)), none, []⟩, ⟨3, some 8, .mv (.tmp 7), none, []⟩, ⟨4, some 9, .mv (.tmp 1), (some (8, false)), []⟩, ⟨5, some 10, .len (.tmp 9), (some (8, false)), []⟩, ⟨6, some 11, .bin .gtr (.tmp 10) (.const (.int .i64 48)), (some (8, false)), []⟩, ⟨7, some 12, .pick (.tmp 8) (.const (.bool true)) (.tmp 11), none, []⟩, ⟨8, some 4, .mv (.tmp 12), none, []⟩])
  (.ret))
theorem k_w_r8Long : FnOk Try.prog n_w_r8Long 2 c_w_r8Long [.tmp 4] := ⟨by kernel_rfl⟩
def c_w_r8At : ACode :=
  .seq (.ops [⟨0, some 6, .mv (.const (.int .i64 0)), none, []⟩])
  (.seq (.seq (.ops [⟨0, some 7, .mv (.tmp 2), none, []⟩, ⟨1, some 8, .bin .leq (.tmp 7) (.const (.int .i64 1)), none, []⟩, ⟨2, some 9, .mv (.tmp 8), none, []⟩, ⟨3, some 10, .mv (.tmp 1), (some (9, false)), []⟩, ⟨4, some 11, .mv (.tmp 0), (some (9, false)), []⟩, ⟨5, some 12, .len (.tmp 11), (some (9, false)), []⟩, ⟨6, some 13, .bin .geq (.tmp 10) (.tmp 12), (some (9, false)), []⟩, ⟨7, some 14, .pick (.tmp 9) (.const (.bool true)) (.tmp 13), none, []⟩])
  (.cond (.tmp 14) (.seq (.keep [] (.ops [⟨0, some 6, .mv (.const (.int .i64 0)), none, []⟩]))
  (.ret)) (.skip)))
  (.seq (.keep [0, 1, 2] (.ops [⟨0, some 15, .mv (.tmp 0), none, []⟩, ⟨1, some 16, .mv (.tmp 1), none, []⟩, ⟨2, some 17, .ia (.tmp 15) (.tmp 16), none, []⟩, ⟨3, some 18, .ld (.tmp 17), none, []⟩, ⟨4, some 19, .cv (.i .i64) (.tmp 18), none, []⟩, ⟨5, some 20, .mv (.tmp 2), none, []⟩, ⟨6, some 21, .bin .rem (.tmp 19) (.tmp 20), none, []⟩, ⟨7, some 6, .mv (.tmp 21), none, []⟩]))
  (.ret)))
theorem k_w_r8At : FnOk Try.prog n_w_r8At 3 c_w_r8At [.tmp 6] := ⟨by kernel_rfl⟩
def c_i_BandSizes : ACode :=
  .seq (.ops [⟨0, some 4, .mv (.const (.slice none 0 0)), none, []⟩, ⟨1, some 5, .mv (.const (.bool false)), none, []⟩])
  (.seq (.seq (.ops [⟨0, some 8, .mv (.tmp 0), none, []⟩, ⟨1, some 9, .call n_i_within [.tmp 8, .const (.int .i64 1), .const (.int .i64 128)], none, []⟩, ⟨2, some 10, .un .not (.tmp 9), none, []⟩, ⟨3, some 11, .mv (.tmp 10), none, []⟩, ⟨4, some 12, .mv (.tmp 1), (some (11, false)), []⟩, ⟨5, some 13, .call n_i_within [.tmp 12, .const (.int .i64 1), .const (.int .i64 6)], (some (11, false)), []⟩, ⟨6, some 14, .un .not (.tmp 13), (some (11, false)), []⟩, ⟨7, some 15, .pick (.tmp 11) (.const (.bool true)) (.tmp 14), none, []⟩])
  (.cond (.tmp 15) (.seq (.keep [] (.ops [⟨0, some 4, .mv (.const (.slice none 0 0)), none, []⟩, ⟨1, some 5, .mv (.const (.bool false)), none, []⟩]))
  (.ret)) (.skip)))
  (.seq (.keep [0, 1] (.ops [⟨0, some 16, .bsl 2 0 (.int .i64 0) [], none, []⟩, ⟨1, some 6, .mv (.tmp 16), none, []⟩]))
  (.seq (.seq (.ops [⟨0, some 7, .mv (.const (.int .i64 0)), none, []⟩])
  (.block 0 (.loop [0, 1, 6, 7] (.seq (.seq (.ops [⟨0, some 17, .mv (.tmp 7), none, []⟩, ⟨1, some 18, .mv (.tmp 1), none, []⟩, ⟨2, some 19, .bin .lss (.tmp 17) (.tmp 18), none, []⟩, ⟨3, some 20, .mv (.tmp 19), none, []⟩, ⟨4, some 21, .mv (.tmp 0), (some (20, true)), []⟩, ⟨5, some 22, .bin .gtr (.tmp 21) (.const (.int .i64 1)), (some (20, true)), []⟩, ⟨6, some 23, .pick (.tmp 20) (.tmp 22) (.const (.bool false)), none, []⟩])
  (.cond (.tmp 23) (.skip) (.exit 0)))
  (.seq (.block 1 (.seq (.keep [0, 1, 6, 7] (.ops [⟨0, some 26, .mv (.tmp 6), none, []⟩, ⟨1, some 27, .mv (.tmp 0), none, []⟩, ⟨2, some 28, .bin .quo (.tmp 27) (.const (.int .i64 2)), none, []⟩, ⟨3, some 29, .bsl 2 1 (.int .i64 0) [(0, .tmp 28)], none, []⟩, ⟨4, some 30, .app 2 8 (.tmp 26) (.tmp 29), none, []⟩, ⟨5, some 6, .mv (.tmp 30), none, []⟩]))
  (.keep [0, 1, 6, 7] (.ops [⟨0, some 31, .mv (.tmp 0), none, []⟩, ⟨1, some 32, .mv (.tmp 0), none, []⟩, ⟨2, some 33, .bin .quo (.tmp 32) (.const (.int .i64 2)), none, []⟩, ⟨3, some 34, .bin .sub (.tmp 31) (.tmp 33), none, []⟩, ⟨4, some 0, .mv (.tmp 34), none, []⟩]))))
  (.ops [⟨0, some 24, .mv (.tmp 7), none, []⟩, ⟨1, some 25, .bin .add (.tmp 24) (.const (.int .i64 1)), none, []⟩, ⟨2, some 7, .mv (.tmp 25), none, []⟩]))))))
  (.seq (.keep [0, 6] (.ops [⟨0, some 35, .mv (.tmp 6), none, []⟩, ⟨1, some 36, .mv (.tmp 0), none, []⟩, ⟨2, some 37, .bsl 2 1 (.int .i64 0) [(0, .tmp 36)], none, []⟩, ⟨3, some 38, .app 2 8 (.tmp 35) (.tmp 37), none, []⟩, ⟨4, some 4, .mv (.tmp 38), none, []⟩, ⟨5, some 5, .mv (.const (.bool true)), none, []⟩]))
  (.ret)))))
theorem k_i_BandSizes : FnOk Try.prog n_i_BandSizes 2 c_i_BandSizes [.tmp 4, .tmp 5] := ⟨by kernel_rfl⟩
def c_s_R8List : ACode :=
  .seq (.ops [⟨0, some 2, .mv (.const (.slice none 0 0)), none, []⟩])
  (.seq (.ops [⟨0, some 4, .mv (.tmp 0), none, []⟩, ⟨1, some 5, .call n_s_l00From [.tmp 4], none, []⟩, ⟨2, some 3, .mv (.tmp 5), none, []⟩])
  (.seq (.ops [⟨0, some 6, .mv (.tmp 3), none, []⟩, ⟨1, some 7, .call n_s_l02DrawOk [.tmp 6], none, []⟩, ⟨2, some 2, .mv (.tmp 7), none, []⟩])
  (.ret)))
theorem k_s_R8List : FnOk Try.prog n_s_R8List 1 c_s_R8List [.tmp 2] := ⟨by kernel_rfl⟩
def c_i_LinesScheme : ACode :=
  .seq (.ops [⟨0, some 0, .new 71 [.slice none 0 0, .float .f32 0], none, []⟩])
  (.seq (.ops [⟨0, some 1, .bsl 41 2 (.float .f32 0) [(0, .const (.float .f32 3204448256)), (1, .const (.float .f32 1048576000))], none, []⟩, ⟨1, some 2, .bld [.slice none 0 0, .float .f32 0] [(0, 1, .tmp 1), (1, 1, .const (.float .f32 1065353216))], none, []⟩, ⟨2, none, .stn 2 (.tmp 0) (.tmp 2), none, []⟩])
  (.ret))
theorem k_i_LinesScheme : FnOk Try.prog n_i_LinesScheme 0 c_i_LinesScheme [.celln 0 2] := ⟨by kernel_rfl⟩
def c_i_LiftDeep : ACode :=
  .seq (.ops [⟨0, some 3, .box 71 (.tmp 0), none, []⟩, ⟨1, some 6, .mv (.const (.slice none 0 0)), none, []⟩, ⟨2, some 7, .mv (.const (.bool false)), none, []⟩])
  (.seq (.seq (.ops [⟨0, some 14, .ldn 2 (.tmp 3), none, []⟩, ⟨1, some 15, .call n_i_ValidScheme [.tmp 14], none, []⟩, ⟨2, some 16, .un .not (.tmp 15), none, []⟩, ⟨3, some 17, .mv (.tmp 16), none, []⟩, ⟨4, some 18, .mv (.tmp 1), (some (17, false)), []⟩, ⟨5, some 19, .call n_i_IsList [.tmp 18], (some (17, false)), []⟩, ⟨6, some 20, .un .not (.tmp 19), (some (17, false)), []⟩, ⟨7, some 21, .pick (.tmp 17) (.const (.bool true)) (.tmp 20), none, []⟩, ⟨8, some 22, .mv (.tmp 21), none, []⟩, ⟨9, some 23, .mv (.tmp 2), (some (22, false)), []⟩, ⟨10, some 24, .call n_i_within [.tmp 23, .const (.int .i64 1), .const (.int .i64 6)], (some (22, false)), []⟩, ⟨11, some 25, .un .not (.tmp 24), (some (22, false)), []⟩, ⟨12, some 26, .pick (.tmp 22) (.const (.bool true)) (.tmp 25), none, []⟩])
  (.cond (.tmp 26) (.seq (.keep [] (.ops [⟨0, some 6, .mv (.const (.slice none 0 0)), none, []⟩, ⟨1, some 7, .mv (.const (.bool false)), none, []⟩]))
  (.ret)) (.skip)))
  (.seq (.keep [1, 2, 3] (.ops [⟨0, some 27, .bsl 24 0 (.slice none 0 0) [], none, []⟩, ⟨1, some 28, .mv (.tmp 1), none, []⟩, ⟨2, some 29, .call n_i_copyOf [.tmp 28], none, []⟩, ⟨3, some 8, .mv (.tmp 27), none, []⟩, ⟨4, some 9, .mv (.tmp 29), none, []⟩]))
  (.seq (.seq (.ops [⟨0, some 10, .mv (.const (.int .i64 0)), none, []⟩])
  (.block 0 (.loop [2, 3, 8, 9, 10] (.seq (.seq (.ops [⟨0, some 30, .mv (.tmp 10), none, []⟩, ⟨1, some 31, .mv (.tmp 2), none, []⟩, ⟨2, some 32, .bin .lss (.tmp 30) (.tmp 31), none, []⟩, ⟨3, some 33, .mv (.tmp 32), none, []⟩, ⟨4, some 34, .mv (.tmp 9), (some (33, true)), []⟩, ⟨5, some 35, .len (.tmp 34), (some (33, true)), []⟩, ⟨6, some 36, .bin .gtr (.tmp 35) (.const (.int .i64 1)), (some (33, true)), []⟩, ⟨7, some 37, .pick (.tmp 33) (.tmp 36) (.const (.bool false)), none, []⟩])
  (.cond (.tmp 37) (.skip) (.exit 0)))
  (.seq (.block 1 (.seq (.keep [2, 3, 8, 9, 10] (.ops [⟨0, some 41, .ldn 2 (.tmp 3), none, []⟩, ⟨1, some 42, .mv (.tmp 9), none, []⟩, ⟨2, some 43, .call n_i_LiftOnce [.tmp 41, .tmp 42], none, []⟩, ⟨3, some 40, .mv (.tmp 43), none, []⟩, ⟨4, some 44, .ext (.tmp 40) 0, none, []⟩, ⟨5, some 45, .ext (.tmp 40) 1, none, []⟩, ⟨6, some 46, .ext (.tmp 40) 2, none, []⟩, ⟨7, some 11, .mv (.tmp 44), none, []⟩, ⟨8, some 12, .mv (.tmp 45), none, []⟩, ⟨9, some 13, .mv (.tmp 46), none, []⟩]))
  (.seq (.seq (.keep [2, 3, 8, 10, 11, 12, 13] (.ops [⟨0, some 47, .mv (.tmp 13), none, []⟩, ⟨1, some 48, .un .not (.tmp 47), none, []⟩]))
  (.cond (.tmp 48) (.seq (.keep [] (.ops [⟨0, some 6, .mv (.const (.slice none 0 0)), none, []⟩, ⟨1, some 7, .mv (.const (.bool false)), none, []⟩]))
  (.ret)) (.skip)))
  (.seq (.ops [⟨0, some 49, .mv (.tmp 8), none, []⟩, ⟨1, some 50, .mv (.tmp 12), none, []⟩, ⟨2, some 51, .bsl 24 1 (.slice none 0 0) [(0, .tmp 50)], none, []⟩, ⟨3, some 52, .app 24 24 (.tmp 49) (.tmp 51), none, []⟩, ⟨4, some 8, .mv (.tmp 52), none, []⟩])
  (.keep [2, 3, 8, 10, 11] (.ops [⟨0, some 53, .mv (.tmp 11), none, []⟩, ⟨1, some 9, .mv (.tmp 53), none, []⟩]))))))
  (.ops [⟨0, some 38, .mv (.tmp 10), none, []⟩, ⟨1, some 39, .bin .add (.tmp 38) (.const (.int .i64 1)), none, []⟩, ⟨2, some 10, .mv (.tmp 39), none, []⟩]))))))
  (.seq (.keep [8, 9] (.ops [⟨0, some 54, .mv (.tmp 8), none, []⟩, ⟨1, some 55, .mv (.tmp 9), none, []⟩, ⟨2, some 56, .bsl 24 1 (.slice none 0 0) [(0, .tmp 55)], none, []⟩, ⟨3, some 57, .app 24 24 (.tmp 54) (.tmp 56), none, []⟩, ⟨4, some 6, .mv (.tmp 57), none, []⟩, ⟨5, some 7, .mv (.const (.bool true)), none, []⟩]))
  (.ret)))))
theorem k_i_LiftDeep : FnOk Try.prog n_i_LiftDeep 3 c_i_LiftDeep [.tmp 6, .tmp 7] := ⟨by kernel_rfl⟩
def c_w_r8Gap : ACode :=
  .seq (.ops [⟨0, some 4, .mv (.const (.float .f64 0)), none, []⟩])
  (.seq (.ops [⟨0, some 5, .mv (.tmp 0), none, []⟩, ⟨1, some 6, .mv (.tmp 1), none, []⟩, ⟨2, some 7, .bin .sub (.tmp 5) (.tmp 6), none, []⟩, ⟨3, some 8, .mv (.tmp 1), none, []⟩, ⟨4, some 9, .mv (.tmp 0), none, []⟩, ⟨5, some 10, .bin .sub (.tmp 8) (.tmp 9), none, []⟩, ⟨6, some 11, .mnx true (.tmp 7) (.tmp 10), none, []⟩, ⟨7, some 4, .mv (.tmp 11), none, []⟩])
  (.ret))
theorem k_w_r8Gap : FnOk Try.prog n_w_r8Gap 2 c_w_r8Gap [.tmp 4] := ⟨by kernel_rfl⟩
def c_i_LiftOnce : ACode :=
  .seq (.ops [⟨0, some 2, .box 71 (.tmp 0), none, []⟩, ⟨1, some 4, .mv (.const (.slice none 0 0)), none, []⟩, ⟨2, some 5, .mv (.const (.slice none 0 0)), none, []⟩, ⟨3, some 6, .mv (.const (.bool false)), none, []⟩])
  (.seq (.seq (.ops [⟨0, some 13, .ldn 2 (.tmp 2), none, []⟩, ⟨1, some 14, .call n_i_ValidScheme [.tmp 13], none, []⟩, ⟨2, some 15, .un .not (.tmp 14), none, []⟩, ⟨3, some 16, .mv (.tmp 15), none, []⟩, ⟨4, some 17, .mv (.tmp 1), (some (16, false)), []⟩, ⟨5, some 18, .call n_i_IsList [.tmp 17], (some (16, false)), []⟩, ⟨6, some 19, .un .not (.tmp 18), (some (16, false)), []⟩, ⟨7, some 20, .pick (.tmp 16) (.const (.bool true)) (.tmp 19), none, []⟩])
  (.cond (.tmp 20) (.seq (.keep [] (.ops [⟨0, some 4, .mv (.const (.slice none 0 0)), none, []⟩, ⟨1, some 5, .mv (.const (.slice none 0 0)), none, []⟩, ⟨2, some 6, .mv (.const (.bool false)), none, []⟩]))
  (.ret)) (.skip)))
  (.seq (.keep [1, 2] (.ops [⟨0, some 22, .mv (.tmp 1), none, []⟩, ⟨1, some 23, .call n_i_split_float32_ [.tmp 22], none, []⟩, ⟨2, some 21, .mv (.tmp 23), none, []⟩, ⟨3, some 24, .ext (.tmp 21) 0, none, []⟩, ⟨4, some 25, .ext (.tmp 21) 1, none, []⟩, ⟨5, some 7, .mv (.tmp 24), none, []⟩, ⟨6, some 8, .mv (.tmp 25), none, []⟩]))
  (.seq (.seq (.keep [2, 7, 8] (.ops [⟨0, some 26, .mv (.tmp 8), none, []⟩, ⟨1, some 27, .len (.tmp 26), none, []⟩, ⟨2, some 28, .bin .eql (.tmp 27) (.const (.int .i64 0)), none, []⟩]))
  (.cond (.tmp 28) (.seq (.ops [⟨0, some 29, .mv (.tmp 7), none, []⟩, ⟨1, some 30, .mv (.tmp 8), none, []⟩, ⟨2, some 4, .mv (.tmp 29), none, []⟩, ⟨3, some 5, .mv (.tmp 30), none, []⟩, ⟨4, some 6, .mv (.const (.bool true)), none, []⟩])
  (.ret)) (.skip)))
  (.seq (.seq (.ops [⟨0, some 31, .fa 0 (.tmp 2), none, []⟩, ⟨1, some 32, .ld (.tmp 31), none, []⟩, ⟨2, some 33, .len (.tmp 32), none, []⟩, ⟨3, some 34, .mv (.const (.int .i64 0)), none, []⟩])
  (.block 0 (.loop [2, 7, 8, 32, 33, 34] (.seq (.ops [⟨0, some 35, .bin .lss (.tmp 34) (.tmp 33), none, []⟩])
  (.seq (.cond (.tmp 35) (.skip) (.exit 0))
  (.seq (.block 1 (.seq (.ops [⟨0, some 36, .mv (.tmp 34), none, []⟩, ⟨1, some 37, .ia (.tmp 32) (.tmp 34), none, []⟩, ⟨2, some 38, .ld (.tmp 37), none, []⟩, ⟨3, some 9, .mv (.tmp 36), none, []⟩, ⟨4, some 10, .mv (.tmp 38), none, []⟩])
  (.ops [⟨0, some 39, .mv (.tmp 7), none, []⟩, ⟨1, some 40, .mv (.tmp 8), none, []⟩, ⟨2, some 41, .mv (.tmp 9), none, []⟩, ⟨3, some 42, .mv (.tmp 10), none, []⟩, ⟨4, some 43, .call n_i_weigh [.tmp 39, .tmp 40, .tmp 41, .tmp 42, .const (.bool false)], none, []⟩])))
  (.keep [2, 7, 8, 32, 33, 34] (.ops [⟨0, some 44, .bin .add (.tmp 34) (.const (.int .i64 1)), none, []⟩, ⟨1, some 34, .mv (.tmp 44), none, []⟩]))))))))
  (.seq (.seq (.ops [⟨0, some 45, .mv (.tmp 7), none, []⟩, ⟨1, some 46, .len (.tmp 45), none, []⟩, ⟨2, some 47, .mv (.const (.int .i64 0)), none, []⟩])
  (.block 2 (.loop [2, 7, 8, 46, 47] (.seq (.ops [⟨0, some 48, .bin .lss (.tmp 47) (.tmp 46), none, []⟩])
  (.seq (.cond (.tmp 48) (.skip) (.exit 2))
  (.seq (.block 3 (.seq (.ops [⟨0, some 49, .mv (.tmp 47), none, []⟩, ⟨1, some 11, .mv (.tmp 49), none, []⟩])
  (.ops [⟨0, some 50, .mv (.tmp 7), none, []⟩, ⟨1, some 51, .mv (.tmp 11), none, []⟩, ⟨2, some 52, .ia (.tmp 50) (.tmp 51), none, []⟩, ⟨3, some 53, .ld (.tmp 52), none, []⟩, ⟨4, some 54, .fa 1 (.tmp 2), none, []⟩, ⟨5, some 55, .ld (.tmp 54), none, []⟩, ⟨6, some 56, .bin .mul (.tmp 53) (.tmp 55), none, []⟩, ⟨7, some 57, .ia (.tmp 50) (.tmp 51), none, []⟩, ⟨8, none, .st (.tmp 57) (.tmp 56), none, []⟩])))
  (.keep [2, 7, 8, 46, 47] (.ops [⟨0, some 58, .bin .add (.tmp 47) (.const (.int .i64 1)), none, []⟩, ⟨1, some 47, .mv (.tmp 58), none, []⟩]))))))))
  (.seq (.seq (.ops [⟨0, some 59, .mv (.tmp 8), none, []⟩, ⟨1, some 60, .len (.tmp 59), none, []⟩, ⟨2, some 61, .mv (.const (.int .i64 0)), none, []⟩])
  (.block 4 (.loop [2, 7, 8, 60, 61] (.seq (.ops [⟨0, some 62, .bin .lss (.tmp 61) (.tmp 60), none, []⟩])
  (.seq (.cond (.tmp 62) (.skip) (.exit 4))
  (.seq (.block 5 (.seq (.ops [⟨0, some 63, .mv (.tmp 61), none, []⟩, ⟨1, some 12, .mv (.tmp 63), none, []⟩])
  (.ops [⟨0, some 64, .mv (.tmp 8), none, []⟩, ⟨1, some 65, .mv (.tmp 12), none, []⟩, ⟨2, some 66, .ia (.tmp 64) (.tmp 65), none, []⟩, ⟨3, some 67, .ld (.tmp 66), none, []⟩, ⟨4, some 68, .fa 1 (.tmp 2), none, []⟩, ⟨5, some 69, .ld (.tmp 68), none, []⟩, ⟨6, some 70, .bin .quo (.tmp 67) (.tmp 69), none, []⟩, ⟨7, some 71, .ia (.tmp 64) (.tmp 65), none, []⟩, ⟨8, none, .st (.tmp 71) (.tmp 70), none, []⟩])))
  (.keep [2, 7, 8, 60, 61] (.ops [⟨0, some 72, .bin .add (.tmp 61) (.const (.int .i64 1)), none, []⟩, ⟨1, some 61, .mv (.tmp 72), none, []⟩]))))))))
  (.seq (.seq (.ops [⟨0, some 73, .mv (.tmp 7), none, []⟩, ⟨1, some 74, .mv (.tmp 8), none, []⟩, ⟨2, some 75, .bsl 24 2 (.slice none 0 0) [(0, .tmp 73), (1, .tmp 74)], none, []⟩, ⟨3, some 76, .call n_i_areFinite [.tmp 75], none, []⟩, ⟨4, some 77, .un .not (.tmp 76), none, []⟩])
  (.cond (.tmp 77) (.seq (.keep [] (.ops [⟨0, some 4, .mv (.const (.slice none 0 0)), none, []⟩, ⟨1, some 5, .mv (.const (.slice none 0 0)), none, []⟩, ⟨2, some 6, .mv (.const (.bool false)), none, []⟩]))
  (.ret)) (.skip)))
  (.seq (.keep [7, 8] (.ops [⟨0, some 78, .mv (.tmp 7), none, []⟩, ⟨1, some 79, .mv (.tmp 8), none, []⟩, ⟨2, some 4, .mv (.tmp 78), none, []⟩, ⟨3, some 5, .mv (.tmp 79), none, []⟩, ⟨4, some 6, .mv (.const (.bool true)), none, []⟩]))
  (.ret)))))))))
theorem k_i_LiftOnce : FnOk Try.prog n_i_LiftOnce 2 c_i_LiftOnce [.tmp 4, .tmp 5, .tmp 6] := ⟨by kernel_rfl⟩
def c_s_R8Scheme : ACode :=
  .seq (.ops [⟨0, some 2, .new 71 [.slice none 0 0, .float .f32 0], none, []⟩])
  (.seq (.ops [⟨0, some 4, .mv (.tmp 0), none, []⟩, ⟨1, some 5, .call n_s_l00From [.tmp 4], none, []⟩, ⟨2, some 3, .mv (.tmp 5), none, []⟩])
  (.seq (.ops [⟨0, some 6, .mv (.tmp 3), none, []⟩, ⟨1, some 7, .call n_s_l08DrawScheme [.tmp 6], none, []⟩, ⟨2, none, .stn 2 (.tmp 2) (.tmp 7), none, []⟩])
  (.ret)))
theorem k_s_R8Scheme : FnOk Try.prog n_s_R8Scheme 1 c_s_R8Scheme [.celln 2 2] := ⟨by kernel_rfl⟩
def c_i_DropOnce : ACode :=
  .seq (.ops [⟨0, some 3, .box 71 (.tmp 0), none, []⟩, ⟨1, some 6, .mv (.const (.slice none 0 0)), none, []⟩, ⟨2, some 7, .mv (.const (.bool false)), none, []⟩])
  (.seq (.ops [⟨0, some 14, .mv (.tmp 1), none, []⟩, ⟨1, some 15, .len (.tmp 14), none, []⟩, ⟨2, some 8, .mv (.tmp 15), none, []⟩])
  (.seq (.seq (.keep [1, 2, 3, 8] (.ops [⟨0, some 16, .ldn 2 (.tmp 3), none, []⟩, ⟨1, some 17, .call n_i_ValidScheme [.tmp 16], none, []⟩, ⟨2, some 18, .un .not (.tmp 17), none, []⟩, ⟨3, some 19, .mv (.tmp 18), none, []⟩, ⟨4, some 20, .mv (.tmp 8), (some (19, false)), []⟩, ⟨5, some 21, .bin .lss (.tmp 20) (.const (.int .i64 1)), (some (19, false)), []⟩, ⟨6, some 22, .pick (.tmp 19) (.const (.bool true)) (.tmp 21), none, []⟩, ⟨7, some 23, .mv (.tmp 22), none, []⟩, ⟨8, some 24, .mv (.tmp 2), (some (23, false)), []⟩, ⟨9, some 25, .len (.tmp 24), (some (23, false)), []⟩, ⟨10, some 26, .mv (.tmp 8), (some (23, false)), []⟩, ⟨11, some 27, .bin .neq (.tmp 25) (.tmp 26), (some (23, false)), []⟩, ⟨12, some 28, .mv (.tmp 27), (some (23, false)), []⟩, ⟨13, some 29, .mv (.tmp 2), (some (28, true)), []⟩, ⟨14, some 30, .len (.tmp 29), (some (28, true)), []⟩, ⟨15, some 31, .mv (.tmp 8), (some (28, true)), []⟩, ⟨16, some 32, .bin .sub (.tmp 31) (.const (.int .i64 1)), (some (28, true)), []⟩, ⟨17, some 33, .bin .neq (.tmp 30) (.tmp 32), (some (28, true)), []⟩, ⟨18, some 34, .pick (.tmp 28) (.tmp 33) (.const (.bool false)), (some (23, false)), []⟩, ⟨19, some 35, .pick (.tmp 23) (.const (.bool true)) (.tmp 34), none, []⟩, ⟨20, some 36, .mv (.tmp 35), none, []⟩, ⟨21, some 37, .mv (.tmp 8), (some (36, false)), []⟩, ⟨22, some 38, .mv (.tmp 2), (some (36, false)), []⟩, ⟨23, some 39, .len (.tmp 38), (some (36, false)), []⟩, ⟨24, some 40, .bin .add (.tmp 37) (.tmp 39), (some (36, false)), []⟩, ⟨25, some 41, .bin .gtr (.tmp 40) (.const (.int .i64 128)), (some (36, false)), []⟩, ⟨26, some 42, .pick (.tmp 36) (.const (.bool true)) (.tmp 41), none, []⟩, ⟨27, some 43, .mv (.tmp 42), none, []⟩, ⟨28, some 44, .mv (.tmp 1), (some (43, false)), []⟩, ⟨29, some 45, .mv (.tmp 2), (some (43, false)), []⟩, ⟨30, some 46, .bsl 24 2 (.slice none 0 0) [(0, .tmp 44), (1, .tmp 45)], (some (43, false)), []⟩, ⟨31, some 47, .call n_i_areFinite [.tmp 46], (some (43, false)), []⟩, ⟨32, some 48, .un .not (.tmp 47), (some (43, false)), []⟩, ⟨33, some 49, .pick (.tmp 43) (.const (.bool true)) (.tmp 48), none, []⟩]))
  (.cond (.tmp 49) (.seq (.keep [] (.ops [⟨0, some 6, .mv (.const (.slice none 0 0)), none, []⟩, ⟨1, some 7, .mv (.const (.bool false)), none, []⟩]))
  (.ret)) (.skip)))
  (.seq (.keep [1, 2, 3] (.ops [⟨0, some 50, .mv (.tmp 1), none, []⟩, ⟨1, some 51, .call n_i_copyOf [.tmp 50], none, []⟩, ⟨2, some 52, .mv (.tmp 2), none, []⟩, ⟨3, some 53, .call n_i_copyOf [.tmp 52], none, []⟩, ⟨4, some 9, .mv (.tmp 51), none, []⟩, ⟨5, some 10, .mv (.tmp 53), none, []⟩]))
  (.seq (.seq (.keep [3, 9, 10] (.ops [⟨0, some 54, .mv (.tmp 10), none, []⟩, ⟨1, some 55, .len (.tmp 54), none, []⟩, ⟨2, some 56, .bin .eql (.tmp 55) (.const (.int .i64 0)), none, []⟩]))
  (.cond (.tmp 56) (.seq (.keep [9] (.ops [⟨0, some 57, .mv (.tmp 9), none, []⟩, ⟨1, some 6, .mv (.tmp 57), none, []⟩, ⟨2, some 7, .mv (.const (.bool true)), none, []⟩]))
  (.ret)) (.skip)))
  (.seq (.seq (.ops [⟨0, some 58, .mv (.tmp 9), none, []⟩, ⟨1, some 59, .len (.tmp 58), none, []⟩, ⟨2, some 60, .mv (.const (.int .i64 0)), none, []⟩])
  (.block 0 (.loop [3, 9, 10, 59, 60] (.seq (.ops [⟨0, some 61, .bin .lss (.tmp 60) (.tmp 59), none, []⟩])
  (.seq (.cond (.tmp 61) (.skip) (.exit 0))
  (.seq (.block 1 (.seq (.ops [⟨0, some 62, .mv (.tmp 60), none, []⟩, ⟨1, some 11, .mv (.tmp 62), none, []⟩])
  (.ops [⟨0, some 63, .mv (.tmp 9), none, []⟩, ⟨1, some 64, .mv (.tmp 11), none, []⟩, ⟨2, some 65, .ia (.tmp 63) (.tmp 64), none, []⟩, ⟨3, some 66, .ld (.tmp 65), none, []⟩, ⟨4, some 67, .fa 1 (.tmp 3), none, []⟩, ⟨5, some 68, .ld (.tmp 67), none, []⟩, ⟨6, some 69, .bin .quo (.tmp 66) (.tmp 68), none, []⟩, ⟨7, some 70, .ia (.tmp 63) (.tmp 64), none, []⟩, ⟨8, none, .st (.tmp 70) (.tmp 69), none, []⟩])))
  (.keep [3, 9, 10, 59, 60] (.ops [⟨0, some 71, .bin .add (.tmp 60) (.const (.int .i64 1)), none, []⟩, ⟨1, some 60, .mv (.tmp 71), none, []⟩]))))))))
  (.seq (.seq (.ops [⟨0, some 72, .mv (.tmp 10), none, []⟩, ⟨1, some 73, .len (.tmp 72), none, []⟩, ⟨2, some 74, .mv (.const (.int .i64 0)), none, []⟩])
  (.block 2 (.loop [3, 9, 10, 73, 74] (.seq (.ops [⟨0, some 75, .bin .lss (.tmp 74) (.tmp 73), none, []⟩])
  (.seq (.cond (.tmp 75) (.skip) (.exit 2))
  (.seq (.block 3 (.seq (.ops [⟨0, some 76, .mv (.tmp 74), none, []⟩, ⟨1, some 12, .mv (.tmp 76), none, []⟩])
  (.ops [⟨0, some 77, .mv (.tmp 10), none, []⟩, ⟨1, some 78, .mv (.tmp 12), none, []⟩, ⟨2, some 79, .ia (.tmp 77) (.tmp 78), none, []⟩, ⟨3, some 80, .ld (.tmp 79), none, []⟩, ⟨4, some 81, .fa 1 (.tmp 3), none, []⟩, ⟨5, some 82, .ld (.tmp 81), none, []⟩, ⟨6, some 83, .bin .mul (.tmp 80) (.tmp 82), none, []⟩, ⟨7, some 84, .ia (.tmp 77) (.tmp 78), none, []⟩, ⟨8, none, .st (.tmp 84) (.tmp 83), none, []⟩])))
  (.keep [3, 9, 10, 73, 74] (.ops [⟨0, some 85, .bin .add (.tmp 74) (.const (.int .i64 1)), none, []⟩, ⟨1, some 74, .mv (.tmp 85), none, []⟩]))))))))
  (.seq (.seq (.ops [⟨0, some 86, .fa 0 (.tmp 3), none, []⟩, ⟨1, some 87, .ld (.tmp 86), none, []⟩, ⟨2, some 88, .len (.tmp 87), none, []⟩, ⟨3, some 89, .bin .sub (.tmp 88) (.const (.int .i64 1)), none, []⟩, ⟨4, some 13, .mv (.tmp 89), none, []⟩])
  (.block 4 (.loop [3, 9, 10, 13] (.seq (.seq (.ops [⟨0, some 90, .mv (.tmp 13), none, []⟩, ⟨1, some 91, .bin .geq (.tmp 90) (.const (.int .i64 0)), none, []⟩])
  (.cond (.tmp 91) (.skip) (.exit 4)))
  (.seq (.block 5 (.ops [⟨0, some 94, .mv (.tmp 9), none, []⟩, ⟨1, some 95, .mv (.tmp 10), none, []⟩, ⟨2, some 96, .mv (.tmp 13), none, []⟩, ⟨3, some 97, .fa 0 (.tmp 3), none, []⟩, ⟨4, some 98, .ld (.tmp 97), none, []⟩, ⟨5, some 99, .mv (.tmp 13), none, []⟩, ⟨6, some 100, .ia (.tmp 98) (.tmp 99), none, []⟩, ⟨7, some 101, .ld (.tmp 100), none, []⟩, ⟨8, some 102, .call n_i_weigh [.tmp 94, .tmp 95, .tmp 96, .tmp 101, .const (.bool true)], none, []⟩]))
  (.keep [3, 9, 10, 13] (.ops [⟨0, some 92, .mv (.tmp 13), none, []⟩, ⟨1, some 93, .bin .sub (.tmp 92) (.const (.int .i64 1)), none, []⟩, ⟨2, some 13, .mv (.tmp 93), none, []⟩])))))))
  (.seq (.ops [⟨0, some 103, .mv (.tmp 9), none, []⟩, ⟨1, some 104, .mv (.tmp 10), none, []⟩, ⟨2, some 105, .call n_i_woven_float32_ [.tmp 103, .tmp 104], none, []⟩, ⟨3, some 106, .call n_i_finiteList [.tmp 105], none, []⟩, ⟨4, some 107, .ext (.tmp 106) 0, none, []⟩, ⟨5, some 108, .ext (.tmp 106) 1, none, []⟩, ⟨6, some 6, .mv (.tmp 107), none, []⟩, ⟨7, some 7, .mv (.tmp 108), none, []⟩])
  (.ret)))))))))
theorem k_i_DropOnce : FnOk Try.prog n_i_DropOnce 3 c_i_DropOnce [.tmp 6, .tmp 7] := ⟨by kernel_rfl⟩
def c_i_DropDeep : ACode :=
  .seq (.ops [⟨0, some 2, .box 71 (.tmp 0), none, []⟩, ⟨1, some 4, .mv (.const (.slice none 0 0)), none, []⟩, ⟨2, some 5, .mv (.const (.bool false)), none, []⟩])
  (.seq (.seq (.ops [⟨0, some 10, .ldn 2 (.tmp 2), none, []⟩, ⟨1, some 11, .call n_i_ValidScheme [.tmp 10], none, []⟩, ⟨2, some 12, .un .not (.tmp 11), none, []⟩, ⟨3, some 13, .mv (.tmp 12), none, []⟩, ⟨4, some 14, .mv (.tmp 1), (some (13, false)), []⟩, ⟨5, some 15, .call n_i_AreBands [.tmp 14], (some (13, false)), []⟩, ⟨6, some 16, .un .not (.tmp 15), (some (13, false)), []⟩, ⟨7, some 17, .pick (.tmp 13) (.const (.bool true)) (.tmp 16), none, []⟩])
  (.cond (.tmp 17) (.seq (.keep [] (.ops [⟨0, some 4, .mv (.const (.slice none 0 0)), none, []⟩, ⟨1, some 5, .mv (.const (.bool false)), none, []⟩]))
  (.ret)) (.skip)))
  (.seq (.keep [1, 2] (.ops [⟨0, some 18, .mv (.tmp 1), none, []⟩, ⟨1, some 19, .mv (.tmp 1), none, []⟩, ⟨2, some 20, .len (.tmp 19), none, []⟩, ⟨3, some 21, .bin .sub (.tmp 20) (.const (.int .i64 1)), none, []⟩, ⟨4, some 22, .ia (.tmp 18) (.tmp 21), none, []⟩, ⟨5, some 23, .ld (.tmp 22), none, []⟩, ⟨6, some 24, .call n_i_copyOf [.tmp 23], none, []⟩, ⟨7, some 6, .mv (.tmp 24), none, []⟩]))
  (.seq (.seq (.keep [1, 2, 6] (.ops [⟨0, some 25, .mv (.tmp 1), none, []⟩, ⟨1, some 26, .len (.tmp 25), none, []⟩, ⟨2, some 27, .bin .sub (.tmp 26) (.const (.int .i64 2)), none, []⟩, ⟨3, some 7, .mv (.tmp 27), none, []⟩]))
  (.block 0 (.loop [1, 2, 6, 7] (.seq (.seq (.ops [⟨0, some 28, .mv (.tmp 7), none, []⟩, ⟨1, some 29, .bin .geq (.tmp 28) (.const (.int .i64 0)), none, []⟩])
  (.cond (.tmp 29) (.skip) (.exit 0)))
  (.seq (.block 1 (.seq (.ops [⟨0, some 33, .ldn 2 (.tmp 2), none, []⟩, ⟨1, some 34, .mv (.tmp 6), none, []⟩, ⟨2, some 35, .mv (.tmp 1), none, []⟩, ⟨3, some 36, .mv (.tmp 7), none, []⟩, ⟨4, some 37, .ia (.tmp 35) (.tmp 36), none, []⟩, ⟨5, some 38, .ld (.tmp 37), none, []⟩, ⟨6, some 39, .call n_i_DropOnce [.tmp 33, .tmp 34, .tmp 38], none, []⟩, ⟨7, some 32, .mv (.tmp 39), none, []⟩, ⟨8, some 40, .ext (.tmp 32) 0, none, []⟩, ⟨9, some 41, .ext (.tmp 32) 1, none, []⟩, ⟨10, some 8, .mv (.tmp 40), none, []⟩, ⟨11, some 9, .mv (.tmp 41), none, []⟩])
  (.seq (.seq (.keep [1, 2, 7, 8, 9] (.ops [⟨0, some 42, .mv (.tmp 9), none, []⟩, ⟨1, some 43, .un .not (.tmp 42), none, []⟩]))
  (.cond (.tmp 43) (.seq (.keep [] (.ops [⟨0, some 4, .mv (.const (.slice none 0 0)), none, []⟩, ⟨1, some 5, .mv (.const (.bool false)), none, []⟩]))
  (.ret)) (.skip)))
  (.ops [⟨0, some 44, .mv (.tmp 8), none, []⟩, ⟨1, some 6, .mv (.tmp 44), none, []⟩]))))
  (.keep [1, 2, 6, 7] (.ops [⟨0, some 30, .mv (.tmp 7), none, []⟩, ⟨1, some 31, .bin .sub (.tmp 30) (.const (.int .i64 1)), none, []⟩, ⟨2, some 7, .mv (.tmp 31), none, []⟩])))))))
  (.seq (.keep [6] (.ops [⟨0, some 45, .mv (.tmp 6), none, []⟩, ⟨1, some 4, .mv (.tmp 45), none, []⟩, ⟨2, some 5, .mv (.const (.bool true)), none, []⟩]))
  (.ret)))))
theorem k_i_DropDeep : FnOk Try.prog n_i_DropDeep 2 c_i_DropDeep [.tmp 4, .tmp 5] := ⟨by kernel_rfl⟩
def c_i_FlatBands : ACode :=
  .seq (.ops [⟨0, some 2, .mv (.const (.slice none 0 0)), none, []⟩, ⟨1, some 3, .mv (.const (.bool false)), none, []⟩])
  (.seq (.seq (.ops [⟨0, some 6, .mv (.tmp 0), none, []⟩, ⟨1, some 7, .call n_i_AreBands [.tmp 6], none, []⟩, ⟨2, some 8, .un .not (.tmp 7), none, []⟩])
  (.cond (.tmp 8) (.seq (.keep [] (.ops [⟨0, some 2, .mv (.const (.slice none 0 0)), none, []⟩, ⟨1, some 3, .mv (.const (.bool false)), none, []⟩]))
  (.ret)) (.skip)))
  (.seq (.keep [0] (.ops [⟨0, some 9, .bsl 41 0 (.float .f32 0) [], none, []⟩, ⟨1, some 4, .mv (.tmp 9), none, []⟩]))
  (.seq (.seq (.ops [⟨0, some 10, .mv (.tmp 0), none, []⟩, ⟨1, some 11, .len (.tmp 10), none, []⟩, ⟨2, some 12, .bin .sub (.tmp 11) (.const (.int .i64 1)), none, []⟩, ⟨3, some 5, .mv (.tmp 12), none, []⟩])
  (.block 0 (.loop [0, 4, 5] (.seq (.seq (.ops [⟨0, some 13, .mv (.tmp 5), none, []⟩, ⟨1, some 14, .bin .geq (.tmp 13) (.const (.int .i64 0)), none, []⟩])
  (.cond (.tmp 14) (.skip) (.exit 0)))
  (.seq (.block 1 (.ops [⟨0, some 17, .mv (.tmp 4), none, []⟩, ⟨1, some 18, .mv (.tmp 0), none, []⟩, ⟨2, some 19, .mv (.tmp 5), none, []⟩, ⟨3, some 20, .ia (.tmp 18) (.tmp 19), none, []⟩, ⟨4, some 21, .ld (.tmp 20), none, []⟩, ⟨5, some 22, .app 41 4 (.tmp 17) (.tmp 21), none, []⟩, ⟨6, some 4, .mv (.tmp 22), none, []⟩]))
  (.keep [0, 4, 5] (.ops [⟨0, some 15, .mv (.tmp 5), none, []⟩, ⟨1, some 16, .bin .sub (.tmp 15) (.const (.int .i64 1)), none, []⟩, ⟨2, some 5, .mv (.tmp 16), none, []⟩])))))))
  (.seq (.ops [⟨0, some 23, .mv (.tmp 4), none, []⟩, ⟨1, some 2, .mv (.tmp 23), none, []⟩, ⟨2, some 3, .mv (.const (.bool true)), none, []⟩])
  (.ret)))))
theorem k_i_FlatBands : FnOk Try.prog n_i_FlatBands 1 c_i_FlatBands [.tmp 2, .tmp 3] := ⟨by kernel_rfl⟩
def c_i_CutFlat : ACode :=
  .seq (.ops [⟨0, some 4, .mv (.const (.slice none 0 0)), none, []⟩, ⟨1, some 5, .mv (.const (.bool false)), none, []⟩])
  (.seq (.ops [⟨0, some 12, .mv (.tmp 0), none, []⟩, ⟨1, some 13, .len (.tmp 12), none, []⟩, ⟨2, some 14, .mv (.tmp 1), none, []⟩, ⟨3, some 15, .call n_i_BandSizes [.tmp 13, .tmp 14], none, []⟩, ⟨4, some 11, .mv (.tmp 15), none, []⟩, ⟨5, some 16, .ext (.tmp 11) 0, none, []⟩, ⟨6, some 17, .ext (.tmp 11) 1, none, []⟩, ⟨7, some 6, .mv (.tmp 16), none, []⟩, ⟨8, some 7, .mv (.tmp 17), none, []⟩])
  (.seq (.seq (.keep [0, 6, 7] (.ops [⟨0, some 18, .mv (.tmp 7), none, []⟩, ⟨1, some 19, .un .not (.tmp 18), none, []⟩, ⟨2, some 20, .mv (.tmp 19), none, []⟩, ⟨3, some 21, .mv (.tmp 0), (some (20, false)), []⟩, ⟨4, some 22, .call n_i_IsList [.tmp 21], (some (20, false)), []⟩, ⟨5, some 23, .un .not (.tmp 22), (some (20, false)), []⟩, ⟨6, some 24, .pick (.tmp 20) (.const (.bool true)) (.tmp 23), none, []⟩]))
  (.cond (.tmp 24) (.seq (.keep [] (.ops [⟨0, some 4, .mv (.const (.slice none 0 0)), none, []⟩, ⟨1, some 5, .mv (.const (.bool false)), none, []⟩]))
  (.ret)) (.skip)))
  (.seq (.keep [0, 6] (.ops [⟨0, some 25, .mv (.tmp 6), none, []⟩, ⟨1, some 26, .len (.tmp 25), none, []⟩, ⟨2, some 27, .mks 24 24 (.slice none 0 0) (.tmp 26) (.tmp 26), none, []⟩, ⟨3, some 8, .mv (.tmp 27), none, []⟩]))
  (.seq (.ops [⟨0, some 9, .mv (.const (.int .i64 0)), none, []⟩])
  (.seq (.seq (.ops [⟨0, some 28, .mv (.tmp 6), none, []⟩, ⟨1, some 29, .len (.tmp 28), none, []⟩, ⟨2, some 30, .bin .sub (.tmp 29) (.const (.int .i64 1)), none, []⟩, ⟨3, some 10, .mv (.tmp 30), none, []⟩])
  (.block 0 (.loop [0, 6, 8, 9, 10] (.seq (.seq (.ops [⟨0, some 31, .mv (.tmp 10), none, []⟩, ⟨1, some 32, .bin .geq (.tmp 31) (.const (.int .i64 0)), none, []⟩])
  (.cond (.tmp 32) (.skip) (.exit 0)))
  (.seq (.block 1 (.seq (.ops [⟨0, some 35, .mv (.tmp 8), none, []⟩, ⟨1, some 36, .mv (.tmp 10), none, []⟩, ⟨2, some 37, .mv (.tmp 0), none, []⟩, ⟨3, some 38, .mv (.tmp 9), none, []⟩, ⟨4, some 39, .mv (.tmp 9), none, []⟩, ⟨5, some 40, .mv (.tmp 6), none, []⟩, ⟨6, some 41, .mv (.tmp 10), none, []⟩, ⟨7, some 42, .ia (.tmp 40) (.tmp 41), none, []⟩, ⟨8, some 43, .ld (.tmp 42), none, []⟩, ⟨9, some 44, .bin .add (.tmp 39) (.tmp 43), none, []⟩, ⟨10, some 45, .slc (.tmp 37) (some (.tmp 38)) (some (.tmp 44)), none, []⟩, ⟨11, some 46, .call n_i_copyOf [.tmp 45], none, []⟩, ⟨12, some 47, .ia (.tmp 35) (.tmp 36), none, []⟩, ⟨13, none, .st (.tmp 47) (.tmp 46), none, []⟩])
  (.keep [0, 6, 8, 9, 10] (.ops [⟨0, some 48, .mv (.tmp 9), none, []⟩, ⟨1, some 49, .mv (.tmp 6), none, []⟩, ⟨2, some 50, .mv (.tmp 10), none, []⟩, ⟨3, some 51, .ia (.tmp 49) (.tmp 50), none, []⟩, ⟨4, some 52, .ld (.tmp 51), none, []⟩, ⟨5, some 53, .bin .add (.tmp 48) (.tmp 52), none, []⟩, ⟨6, some 9, .mv (.tmp 53), none, []⟩]))))
  (.keep [0, 6, 8, 9, 10] (.ops [⟨0, some 33, .mv (.tmp 10), none, []⟩, ⟨1, some 34, .bin .sub (.tmp 33) (.const (.int .i64 1)), none, []⟩, ⟨2, some 10, .mv (.tmp 34), none, []⟩])))))))
  (.seq (.keep [8] (.ops [⟨0, some 54, .mv (.tmp 8), none, []⟩, ⟨1, some 4, .mv (.tmp 54), none, []⟩, ⟨2, some 5, .mv (.const (.bool true)), none, []⟩]))
  (.ret)))))))
theorem k_i_CutFlat : FnOk Try.prog n_i_CutFlat 2 c_i_CutFlat [.tmp 4, .tmp 5] := ⟨by kernel_rfl⟩
def c_i_ListEnergies : ACode :=
  .seq (.ops [⟨0, some 2, .mv (.const (.slice none 0 0)), none, []⟩, ⟨1, some 3, .mv (.const (.bool false)), none, []⟩])
  (.seq (.seq (.ops [⟨0, some 7, .mv (.tmp 0), none, []⟩, ⟨1, some 8, .call n_i_AreBands [.tmp 7], none, []⟩, ⟨2, some 9, .un .not (.tmp 8), none, []⟩])
  (.cond (.tmp 9) (.seq (.keep [] (.ops [⟨0, some 2, .mv (.const (.slice none 0 0)), none, []⟩, ⟨1, some 3, .mv (.const (.bool false)), none, []⟩]))
  (.ret)) (.skip)))
  (.seq (.keep [0] (.ops [⟨0, some 10, .bsl 41 0 (.float .f32 0) [], none, []⟩, ⟨1, some 4, .mv (.tmp 10), none, []⟩]))
  (.seq (.seq (.ops [⟨0, some 11, .mv (.tmp 0), none, []⟩, ⟨1, some 12, .len (.tmp 11), none, []⟩, ⟨2, some 13, .mv (.const (.int .i64 0)), none, []⟩])
  (.block 0 (.loop [4, 11, 12, 13] (.seq (.ops [⟨0, some 14, .bin .lss (.tmp 13) (.tmp 12), none, []⟩])
  (.seq (.cond (.tmp 14) (.skip) (.exit 0))
  (.seq (.block 1 (.seq (.ops [⟨0, some 15, .ia (.tmp 11) (.tmp 13), none, []⟩, ⟨1, some 16, .ld (.tmp 15), none, []⟩, ⟨2, some 6, .mv (.tmp 16), none, []⟩])
  (.ops [⟨0, some 17, .mv (.tmp 4), none, []⟩, ⟨1, some 18, .mv (.tmp 6), none, []⟩, ⟨2, some 19, .call n_i_squares [.tmp 18], none, []⟩, ⟨3, some 20, .bsl 41 1 (.float .f32 0) [(0, .tmp 19)], none, []⟩, ⟨4, some 21, .app 41 4 (.tmp 17) (.tmp 20), none, []⟩, ⟨5, some 4, .mv (.tmp 21), none, []⟩])))
  (.keep [4, 11, 12, 13] (.ops [⟨0, some 22, .bin .add (.tmp 13) (.const (.int .i64 1)), none, []⟩, ⟨1, some 13, .mv (.tmp 22), none, []⟩]))))))))
  (.seq (.ops [⟨0, some 23, .mv (.tmp 4), none, []⟩, ⟨1, some 24, .call n_i_finiteList [.tmp 23], none, []⟩, ⟨2, some 25, .ext (.tmp 24) 0, none, []⟩, ⟨3, some 26, .ext (.tmp 24) 1, none, []⟩, ⟨4, some 2, .mv (.tmp 25), none, []⟩, ⟨5, some 3, .mv (.tmp 26), none, []⟩])
  (.ret)))))
theorem k_i_ListEnergies : FnOk Try.prog n_i_ListEnergies 1 c_i_ListEnergies [.tmp 2, .tmp 3] := ⟨by kernel_rfl⟩
def c_i_EnergyOf : ACode :=
  .seq (.ops [⟨0, some 2, .mv (.const (.float .f32 0)), none, []⟩, ⟨1, some 3, .mv (.const (.bool false)), none, []⟩])
  (.seq (.seq (.ops [⟨0, some 4, .mv (.tmp 0), none, []⟩, ⟨1, some 5, .call n_i_IsList [.tmp 4], none, []⟩, ⟨2, some 6, .un .not (.tmp 5), none, []⟩])
  (.cond (.tmp 6) (.seq (.keep [] (.ops [⟨0, some 2, .mv (.const (.float .f32 0)), none, []⟩, ⟨1, some 3, .mv (.const (.bool false)), none, []⟩]))
  (.ret)) (.skip)))
  (.seq (.keep [0] (.ops [⟨0, some 7, .mv (.tmp 0), none, []⟩, ⟨1, some 8, .call n_i_squares [.tmp 7], none, []⟩, ⟨2, some 9, .call n_i_finite [.tmp 8], none, []⟩, ⟨3, some 10, .ext (.tmp 9) 0, none, []⟩, ⟨4, some 11, .ext (.tmp 9) 1, none, []⟩, ⟨5, some 2, .mv (.tmp 10), none, []⟩, ⟨6, some 3, .mv (.tmp 11), none, []⟩]))
  (.ret)))
theorem k_i_EnergyOf : FnOk Try.prog n_i_EnergyOf 1 c_i_EnergyOf [.tmp 2, .tmp 3] := ⟨by kernel_rfl⟩
def c_i_AreBands : ACode :=
  .seq (.ops [⟨0, some 2, .mv (.const (.bool false)), none, []⟩])
  (.seq (.ops [⟨0, some 3, .mv (.tmp 0), none, []⟩, ⟨1, some 4, .call n_i_sizesOf_float32_ [.tmp 3], none, []⟩, ⟨2, some 5, .call n_i_areSizes [.tmp 4], none, []⟩, ⟨3, some 6, .mv (.tmp 5), none, []⟩, ⟨4, some 7, .mv (.tmp 0), (some (6, true)), []⟩, ⟨5, some 8, .call n_i_areFinite [.tmp 7], (some (6, true)), []⟩, ⟨6, some 9, .pick (.tmp 6) (.tmp 8) (.const (.bool false)), none, []⟩, ⟨7, some 2, .mv (.tmp 9), none, []⟩])
  (.ret))
theorem k_i_AreBands : FnOk Try.prog n_i_AreBands 1 c_i_AreBands [.tmp 2] := ⟨by kernel_rfl⟩
def c_i_IsList : ACode :=
  .seq (.ops [⟨0, some 2, .mv (.const (.bool false)), none, []⟩])
  (.seq (.ops [⟨0, some 3, .mv (.tmp 0), none, []⟩, ⟨1, some 4, .len (.tmp 3), none, []⟩, ⟨2, some 5, .call n_i_within [.tmp 4, .const (.int .i64 1), .const (.int .i64 128)], none, []⟩, ⟨3, some 6, .mv (.tmp 5), none, []⟩, ⟨4, some 7, .mv (.tmp 0), (some (6, true)), []⟩, ⟨5, some 8, .bsl 24 1 (.slice none 0 0) [(0, .tmp 7)], (some (6, true)), []⟩, ⟨6, some 9, .call n_i_areFinite [.tmp 8], (some (6, true)), []⟩, ⟨7, some 10, .pick (.tmp 6) (.tmp 9) (.const (.bool false)), none, []⟩, ⟨8, some 2, .mv (.tmp 10), none, []⟩])
  (.ret))
theorem k_i_IsList : FnOk Try.prog n_i_IsList 1 c_i_IsList [.tmp 2] := ⟨by kernel_rfl⟩
def c_s_l00From : ACode :=
  .seq (.ops [⟨0, some 2, .mv (.const (.pointer none)), none, []⟩])
  (.seq (.ops [⟨0, some 3, .mv (.tmp 0), none, []⟩, ⟨1, some 4, .bld [.slice none 0 0, .int .i64 0, .int .u64 0] [(0, 1, .tmp 3)], none, []⟩, ⟨2, some 5, .box 140 (.tmp 4), none, []⟩, ⟨3, some 2, .mv (.tmp 5), none, []⟩])
  (.ret))
theorem k_s_l00From : FnOk Try.prog n_s_l00From 1 c_s_l00From [.tmp 2] := ⟨by kernel_rfl⟩
def c_s_l00Src_one : ACode :=
  .seq (.ops [⟨0, some 4, .mv (.const (.bool false)), none, []⟩])
  (.seq (.ops [⟨0, some 5, .mv (.tmp 0), none, []⟩, ⟨1, some 6, .mv (.tmp 1), none, []⟩, ⟨2, some 7, .call n_s_l00Src_pick [.tmp 5, .tmp 6], none, []⟩, ⟨3, some 8, .bin .eql (.tmp 7) (.const (.int .i64 0)), none, []⟩, ⟨4, some 4, .mv (.tmp 8), none, []⟩])
  (.ret))
theorem k_s_l00Src_one : FnOk Try.prog n_s_l00Src_one 2 c_s_l00Src_one [.tmp 4] := ⟨by kernel_rfl⟩
def c_s_l00Src_pick : ACode :=
  .seq (.ops [⟨0, some 4, .mv (.const (.int .i64 0)), none, []⟩])
  (.seq (.seq (.ops [⟨0, some 6, .mv (.tmp 1), none, []⟩, ⟨1, some 7, .bin .leq (.tmp 6) (.const (.int .i64 1)), none, []⟩])
  (.cond (.tmp 7) (.seq (.keep [] (.ops [⟨0, some 4, .mv (.const (.int .i64 0)), none, []⟩]))
  (.ret)) (.skip)))
  (.seq (.ops [⟨0, some 8, .mv (.tmp 0), none, []⟩, ⟨1, some 9, .call n_s_l00Src_next [.tmp 8], none, []⟩, ⟨2, some 5, .mv (.tmp 9), none, []⟩])
  (.seq (.seq (.keep [0, 1, 5] (.ops [⟨0, some 10, .mv (.tmp 1), none, []⟩, ⟨1, some 11, .bin .gtr (.tmp 10) (.const (.int .i64 200)), none, []⟩]))
  (.cond (.tmp 11) (.ops [⟨0, some 12, .mv (.tmp 5), none, []⟩, ⟨1, some 13, .bin .mul (.tmp 12) (.const (.int .i64 256)), none, []⟩, ⟨2, some 14, .mv (.tmp 0), none, []⟩, ⟨3, some 15, .call n_s_l00Src_next [.tmp 14], none, []⟩, ⟨4, some 16, .bin .add (.tmp 13) (.tmp 15), none, []⟩, ⟨5, some 5, .mv (.tmp 16), none, []⟩]) (.skip)))
  (.seq (.keep [1, 5] (.ops [⟨0, some 17, .mv (.tmp 5), none, []⟩, ⟨1, some 18, .mv (.tmp 1), none, []⟩, ⟨2, some 19, .bin .rem (.tmp 17) (.tmp 18), none, []⟩, ⟨3, some 4, .mv (.tmp 19), none, []⟩]))
  (.ret)))))
theorem k_s_l00Src_pick : FnOk Try.prog n_s_l00Src_pick 2 c_s_l00Src_pick [.tmp 4] := ⟨by kernel_rfl⟩
def c_i_within : ACode :=
  .seq (.ops [⟨0, some 6, .mv (.const (.bool false)), none, []⟩])
  (.seq (.ops [⟨0, some 7, .mv (.tmp 0), none, []⟩, ⟨1, some 8, .mv (.tmp 1), none, []⟩, ⟨2, some 9, .bin .geq (.tmp 7) (.tmp 8), none, []⟩, ⟨3, some 10, .mv (.tmp 9), none, []⟩, ⟨4, some 11, .mv (.tmp 0), (some (10, true)), []⟩, ⟨5, some 12, .mv (.tmp 2), (some (10, true)), []⟩, ⟨6, some 13, .bin .leq (.tmp 11) (.tmp 12), (some (10, true)), []⟩, ⟨7, some 14, .pick (.tmp 10) (.tmp 13) (.const (.bool false)), none, []⟩, ⟨8, some 6, .mv (.tmp 14), none, []⟩])
  (.ret))
theorem k_i_within : FnOk Try.prog n_i_within 3 c_i_within [.tmp 6] := ⟨by kernel_rfl⟩
def c_i_copyOf : ACode :=
  .seq (.ops [⟨0, some 2, .mv (.const (.slice none 0 0)), none, []⟩])
  (.seq (.ops [⟨0, some 3, .bsl 41 0 (.float .f32 0) [], none, []⟩, ⟨1, some 4, .mv (.tmp 0), none, []⟩, ⟨2, some 5, .app 41 4 (.tmp 3) (.tmp 4), none, []⟩, ⟨3, some 2, .mv (.tmp 5), none, []⟩])
  (.ret))
theorem k_i_copyOf : FnOk Try.prog n_i_copyOf 1 c_i_copyOf [.tmp 2] := ⟨by kernel_rfl⟩
def c_i_squares : ACode :=
  .seq (.ops [⟨0, some 2, .mv (.const (.float .f32 0)), none, []⟩])
  (.seq (.ops [⟨0, some 3, .mv (.const (.float .f32 0)), none, []⟩])
  (.seq (.seq (.ops [⟨0, some 6, .mv (.tmp 0), none, []⟩, ⟨1, some 7, .len (.tmp 6), none, []⟩, ⟨2, some 8, .mv (.const (.int .i64 0)), none, []⟩])
  (.block 0 (.loop [3, 6, 7, 8] (.seq (.ops [⟨0, some 9, .bin .lss (.tmp 8) (.tmp 7), none, []⟩])
  (.seq (.cond (.tmp 9) (.skip) (.exit 0))
  (.seq (.block 1 (.seq (.ops [⟨0, some 10, .ia (.tmp 6) (.tmp 8), none, []⟩, ⟨1, some 11, .ld (.tmp 10), none, []⟩, ⟨2, some 5, .mv (.tmp 11), none, []⟩])
  (.ops [⟨0, some 12, .mv (.tmp 3), none, []⟩, ⟨1, some 13, .mv (.tmp 5), none, []⟩, ⟨2, some 14, .mv (.tmp 5), none, []⟩, ⟨3, some 15, .bin .mul (.tmp 13) (.tmp 14), none, []⟩, ⟨4, some 16, .bin .add (.tmp 12) (.tmp 15), none, []⟩, ⟨5, some 3, .mv (.tmp 16), none, []⟩])))
  (.keep [3, 6, 7, 8] (.ops [⟨0, some 17, .bin .add (.tmp 8) (.const (.int .i64 1)), none, []⟩, ⟨1, some 8, .mv (.tmp 17), none, []⟩]))))))))
  (.seq (.ops [⟨0, some 18, .mv (.tmp 3), none, []⟩, ⟨1, some 2, .mv (.tmp 18), none, []⟩])
  (.ret))))
theorem k_i_squares : FnOk Try.prog n_i_squares 1 c_i_squares [.tmp 2] := ⟨by kernel_rfl⟩
def c_i_finiteList : ACode :=
  .seq (.ops [⟨0, some 2, .mv (.const (.slice none 0 0)), none, []⟩, ⟨1, some 3, .mv (.const (.bool false)), none, []⟩])
  (.seq (.seq (.ops [⟨0, some 4, .mv (.tmp 0), none, []⟩, ⟨1, some 5, .bsl 24 1 (.slice none 0 0) [(0, .tmp 4)], none, []⟩, ⟨2, some 6, .call n_i_areFinite [.tmp 5], none, []⟩, ⟨3, some 7, .un .not (.tmp 6), none, []⟩])
  (.cond (.tmp 7) (.seq (.keep [] (.ops [⟨0, some 2, .mv (.const (.slice none 0 0)), none, []⟩, ⟨1, some 3, .mv (.const (.bool false)), none, []⟩]))
  (.ret)) (.skip)))
  (.seq (.keep [0] (.ops [⟨0, some 8, .mv (.tmp 0), none, []⟩, ⟨1, some 2, .mv (.tmp 8), none, []⟩, ⟨2, some 3, .mv (.const (.bool true)), none, []⟩]))
  (.ret)))
theorem k_i_finiteList : FnOk Try.prog n_i_finiteList 1 c_i_finiteList [.tmp 2, .tmp 3] := ⟨by kernel_rfl⟩
def c_i_areFinite : ACode :=
  .seq (.ops [⟨0, some 2, .mv (.const (.bool false)), none, []⟩])
  (.seq (.seq (.ops [⟨0, some 7, .mv (.tmp 0), none, []⟩, ⟨1, some 8, .len (.tmp 7), none, []⟩, ⟨2, some 9, .mv (.const (.int .i64 0)), none, []⟩])
  (.block 0 (.loop [7, 8, 9] (.seq (.ops [⟨0, some 10, .bin .lss (.tmp 9) (.tmp 8), none, []⟩])
  (.seq (.cond (.tmp 10) (.skip) (.exit 0))
  (.seq (.block 1 (.seq (.ops [⟨0, some 11, .ia (.tmp 7) (.tmp 9), none, []⟩, ⟨1, some 12, .ld (.tmp 11), none, []⟩, ⟨2, some 4, .mv (.tmp 12), none, []⟩])
  (.seq (.ops [⟨0, some 13, .mv (.tmp 4), none, []⟩, ⟨1, some 14, .len (.tmp 13), none, []⟩, ⟨2, some 15, .mv (.const (.int .i64 0)), none, []⟩])
  (.block 2 (.loop [7, 8, 9, 13, 14, 15] (.seq (.ops [⟨0, some 16, .bin .lss (.tmp 15) (.tmp 14), none, []⟩])
  (.seq (.cond (.tmp 16) (.skip) (.exit 2))
  (.seq (.block 3 (.seq (.ops [⟨0, some 17, .ia (.tmp 13) (.tmp 15), none, []⟩, ⟨1, some 18, .ld (.tmp 17), none, []⟩, ⟨2, some 6, .mv (.tmp 18), none, []⟩])
  (.seq (.ops [⟨0, some 19, .mv (.tmp 6), none, []⟩, ⟨1, some 20, .call n_i_IsFinite [.tmp 19], none, []⟩, ⟨2, some 21, .un .not (.tmp 20), none, []⟩])
  (.cond (.tmp 21) (.seq (.keep [] (.ops [⟨0, some 2, .mv (.const (.bool false)), none, []⟩]))
  (.ret)) (.skip)))))
  (.keep [7, 8, 9, 13, 14, 15] (.ops [⟨0, some 22, .bin .add (.tmp 15) (.const (.int .i64 1)), none, []⟩, ⟨1, some 15, .mv (.tmp 22), none, []⟩]))))))))))
  (.ops [⟨0, some 23, .bin .add (.tmp 9) (.const (.int .i64 1)), none, []⟩, ⟨1, some 9, .mv (.tmp 23), none, []⟩])))))))
  (.seq (.ops [⟨0, some 2, .mv (.const (.bool true)), none, []⟩])
  (.ret)))
theorem k_i_areFinite : FnOk Try.prog n_i_areFinite 1 c_i_areFinite [.tmp 2] := ⟨by kernel_rfl⟩
def c_i_areSizes : ACode :=
  .seq (.ops [⟨0, some 2, .mv (.const (.bool false)), none, []⟩])
  (.seq (.ops [⟨0, some 7, .mv (.tmp 0), none, []⟩, ⟨1, some 8, .len (.tmp 7), none, []⟩, ⟨2, some 9, .bin .sub (.tmp 8) (.const (.int .i64 1)), none, []⟩, ⟨3, some 3, .mv (.tmp 9), none, []⟩])
  (.seq (.seq (.ops [⟨0, some 10, .mv (.tmp 3), none, []⟩, ⟨1, some 11, .call n_i_within [.tmp 10, .const (.int .i64 0), .const (.int .i64 6)], none, []⟩, ⟨2, some 12, .un .not (.tmp 11), none, []⟩, ⟨3, some 13, .mv (.tmp 12), none, []⟩, ⟨4, some 14, .mv (.tmp 0), (some (13, false)), []⟩, ⟨5, some 15, .mv (.tmp 3), (some (13, false)), []⟩, ⟨6, some 16, .ia (.tmp 14) (.tmp 15), (some (13, false)), []⟩, ⟨7, some 17, .ld (.tmp 16), (some (13, false)), []⟩, ⟨8, some 18, .bin .lss (.tmp 17) (.const (.int .i64 1)), (some (13, false)), []⟩, ⟨9, some 19, .pick (.tmp 13) (.const (.bool true)) (.tmp 18), none, []⟩, ⟨10, some 20, .mv (.tmp 19), none, []⟩, ⟨11, some 21, .mv (.tmp 3), (some (20, false)), []⟩, ⟨12, some 22, .bin .eql (.tmp 21) (.const (.int .i64 0)), (some (20, false)), []⟩, ⟨13, some 23, .mv (.tmp 22), (some (20, false)), []⟩, ⟨14, some 24, .mv (.tmp 0), (some (23, true)), []⟩, ⟨15, some 25, .ia (.tmp 24) (.const (.int .i64 0)), (some (23, true)), []⟩, ⟨16, some 26, .ld (.tmp 25), (some (23, true)), []⟩, ⟨17, some 27, .bin .neq (.tmp 26) (.const (.int .i64 1)), (some (23, true)), []⟩, ⟨18, some 28, .pick (.tmp 23) (.tmp 27) (.const (.bool false)), (some (20, false)), []⟩, ⟨19, some 29, .pick (.tmp 20) (.const (.bool true)) (.tmp 28), none, []⟩])
  (.cond (.tmp 29) (.seq (.keep [] (.ops [⟨0, some 2, .mv (.const (.bool false)), none, []⟩]))
  (.ret)) (.skip)))
  (.seq (.keep [0, 3] (.ops [⟨0, some 30, .mv (.tmp 0), none, []⟩, ⟨1, some 31, .mv (.tmp 3), none, []⟩, ⟨2, some 32, .ia (.tmp 30) (.tmp 31), none, []⟩, ⟨3, some 33, .ld (.tmp 32), none, []⟩, ⟨4, some 4, .mv (.tmp 33), none, []⟩]))
  (.seq (.seq (.ops [⟨0, some 34, .mv (.tmp 3), none, []⟩, ⟨1, some 35, .bin .sub (.tmp 34) (.const (.int .i64 1)), none, []⟩, ⟨2, some 5, .mv (.tmp 35), none, []⟩])
  (.block 0 (.loop [0, 4, 5] (.seq (.seq (.ops [⟨0, some 36, .mv (.tmp 5), none, []⟩, ⟨1, some 37, .bin .geq (.tmp 36) (.const (.int .i64 0)), none, []⟩])
  (.cond (.tmp 37) (.skip) (.exit 0)))
  (.seq (.block 1 (.seq (.seq (.ops [⟨0, some 40, .mv (.tmp 0), none, []⟩, ⟨1, some 41, .mv (.tmp 5), none, []⟩, ⟨2, some 42, .ia (.tmp 40) (.tmp 41), none, []⟩, ⟨3, some 43, .ld (.tmp 42), none, []⟩, ⟨4, some 6, .mv (.tmp 43), none, []⟩])
  (.seq (.keep [0, 4, 5, 6] (.ops [⟨0, some 44, .mv (.tmp 6), none, []⟩, ⟨1, some 45, .bin .lss (.tmp 44) (.const (.int .i64 1)), none, []⟩, ⟨2, some 46, .mv (.tmp 45), none, []⟩, ⟨3, some 47, .mv (.tmp 6), (some (46, false)), []⟩, ⟨4, some 48, .mv (.tmp 4), (some (46, false)), []⟩, ⟨5, some 49, .bin .neq (.tmp 47) (.tmp 48), (some (46, false)), []⟩, ⟨6, some 50, .mv (.tmp 49), (some (46, false)), []⟩, ⟨7, some 51, .mv (.tmp 6), (some (50, true)), []⟩, ⟨8, some 52, .mv (.tmp 4), (some (50, true)), []⟩, ⟨9, some 53, .bin .sub (.tmp 52) (.const (.int .i64 1)), (some (50, true)), []⟩, ⟨10, some 54, .bin .neq (.tmp 51) (.tmp 53), (some (50, true)), []⟩, ⟨11, some 55, .pick (.tmp 50) (.tmp 54) (.const (.bool false)), (some (46, false)), []⟩, ⟨12, some 56, .pick (.tmp 46) (.const (.bool true)) (.tmp 55), none, []⟩]))
  (.cond (.tmp 56) (.seq (.keep [] (.ops [⟨0, some 2, .mv (.const (.bool false)), none, []⟩]))
  (.ret)) (.skip))))
  (.seq (.keep [0, 4, 5] (.ops [⟨0, some 57, .mv (.tmp 4), none, []⟩, ⟨1, some 58, .mv (.tmp 0), none, []⟩, ⟨2, some 59, .mv (.tmp 5), none, []⟩, ⟨3, some 60, .ia (.tmp 58) (.tmp 59), none, []⟩, ⟨4, some 61, .ld (.tmp 60), none, []⟩, ⟨5, some 62, .bin .add (.tmp 57) (.tmp 61), none, []⟩, ⟨6, some 4, .mv (.tmp 62), none, []⟩]))
  (.seq (.keep [0, 4, 5] (.ops [⟨0, some 63, .mv (.tmp 4), none, []⟩, ⟨1, some 64, .bin .gtr (.tmp 63) (.const (.int .i64 128)), none, []⟩]))
  (.cond (.tmp 64) (.seq (.keep [] (.ops [⟨0, some 2, .mv (.const (.bool false)), none, []⟩]))
  (.ret)) (.skip))))))
  (.ops [⟨0, some 38, .mv (.tmp 5), none, []⟩, ⟨1, some 39, .bin .sub (.tmp 38) (.const (.int .i64 1)), none, []⟩, ⟨2, some 5, .mv (.tmp 39), none, []⟩]))))))
  (.seq (.ops [⟨0, some 65, .mv (.tmp 4), none, []⟩, ⟨1, some 66, .bin .leq (.tmp 65) (.const (.int .i64 128)), none, []⟩, ⟨2, some 2, .mv (.tmp 66), none, []⟩])
  (.ret))))))
theorem k_i_areSizes : FnOk Try.prog n_i_areSizes 1 c_i_areSizes [.tmp 2] := ⟨by kernel_rfl⟩
def c_s_l02DrawOk : ACode :=
  .seq (.ops [⟨0, some 2, .mv (.const (.slice none 0 0)), none, []⟩])
  (.seq (.ops [⟨0, some 5, .bsl 41 0 (.float .f32 0) [], none, []⟩, ⟨1, some 3, .mv (.tmp 5), none, []⟩])
  (.seq (.seq (.ops [⟨0, some 6, .mv (.tmp 0), none, []⟩, ⟨1, some 7, .call n_s_l00Src_pick [.tmp 6, .const (.int .i64 12)], none, []⟩, ⟨2, some 8, .bin .add (.const (.int .i64 1)) (.tmp 7), none, []⟩, ⟨3, some 4, .mv (.tmp 8), none, []⟩])
  (.block 0 (.loop [0, 3, 4] (.seq (.seq (.ops [⟨0, some 9, .mv (.tmp 4), none, []⟩, ⟨1, some 10, .bin .gtr (.tmp 9) (.const (.int .i64 0)), none, []⟩])
  (.cond (.tmp 10) (.skip) (.exit 0)))
  (.seq (.block 1 (.ops [⟨0, some 13, .mv (.tmp 3), none, []⟩, ⟨1, some 14, .mv (.tmp 0), none, []⟩, ⟨2, some 15, .call n_s_l00Src_pick [.tmp 14, .const (.int .i64 65)], none, []⟩, ⟨3, some 16, .bin .sub (.tmp 15) (.const (.int .i64 32)), none, []⟩, ⟨4, some 17, .cv (.f .f32) (.tmp 16), none, []⟩, ⟨5, some 18, .bin .quo (.tmp 17) (.const (.float .f32 1082130432)), none, []⟩, ⟨6, some 19, .bsl 41 1 (.float .f32 0) [(0, .tmp 18)], none, []⟩, ⟨7, some 20, .app 41 4 (.tmp 13) (.tmp 19), none, []⟩, ⟨8, some 3, .mv (.tmp 20), none, []⟩]))
  (.keep [0, 3, 4] (.ops [⟨0, some 11, .mv (.tmp 4), none, []⟩, ⟨1, some 12, .bin .sub (.tmp 11) (.const (.int .i64 1)), none, []⟩, ⟨2, some 4, .mv (.tmp 12), none, []⟩])))))))
  (.seq (.ops [⟨0, some 21, .mv (.tmp 3), none, []⟩, ⟨1, some 2, .mv (.tmp 21), none, []⟩])
  (.ret))))
theorem k_s_l02DrawOk : FnOk Try.prog n_s_l02DrawOk 1 c_s_l02DrawOk [.tmp 2] := ⟨by kernel_rfl⟩
def c_i_ValidScheme : ACode :=
  .seq (.ops [⟨0, some 1, .box 71 (.tmp 0), none, []⟩, ⟨1, some 2, .mv (.const (.bool false)), none, []⟩])
  (.seq (.ops [⟨0, some 3, .fa 0 (.tmp 1), none, []⟩, ⟨1, some 4, .ld (.tmp 3), none, []⟩, ⟨2, some 5, .len (.tmp 4), none, []⟩, ⟨3, some 6, .call n_i_within [.tmp 5, .const (.int .i64 1), .const (.int .i64 8)], none, []⟩, ⟨4, some 7, .mv (.tmp 6), none, []⟩, ⟨5, some 8, .fa 0 (.tmp 1), (some (7, true)), []⟩, ⟨6, some 9, .ld (.tmp 8), (some (7, true)), []⟩, ⟨7, some 10, .bsl 24 1 (.slice none 0 0) [(0, .tmp 9)], (some (7, true)), []⟩, ⟨8, some 11, .call n_i_areFinite [.tmp 10], (some (7, true)), []⟩, ⟨9, some 12, .pick (.tmp 7) (.tmp 11) (.const (.bool false)), none, []⟩, ⟨10, some 13, .mv (.tmp 12), none, []⟩, ⟨11, some 14, .fa 1 (.tmp 1), (some (13, true)), []⟩, ⟨12, some 15, .ld (.tmp 14), (some (13, true)), []⟩, ⟨13, some 16, .call n_i_isOver [.tmp 15], (some (13, true)), []⟩, ⟨14, some 17, .pick (.tmp 13) (.tmp 16) (.const (.bool false)), none, []⟩, ⟨15, some 2, .mv (.tmp 17), none, []⟩])
  (.ret))
theorem k_i_ValidScheme : FnOk Try.prog n_i_ValidScheme 1 c_i_ValidScheme [.tmp 2] := ⟨by kernel_rfl⟩
def c_i_split_float32_ : ACode :=
  .seq (.ops [⟨0, some 2, .mv (.const (.slice none 0 0)), none, []⟩, ⟨1, some 3, .mv (.const (.slice none 0 0)), none, []⟩])
  (.seq (.ops [⟨0, some 8, .bsl 41 0 (.float .f32 0) [], none, []⟩, ⟨1, some 9, .bsl 41 0 (.float .f32 0) [], none, []⟩, ⟨2, some 4, .mv (.tmp 8), none, []⟩, ⟨3, some 5, .mv (.tmp 9), none, []⟩])
  (.seq (.seq (.ops [⟨0, some 10, .mv (.tmp 0), none, []⟩, ⟨1, some 11, .len (.tmp 10), none, []⟩, ⟨2, some 12, .mv (.const (.int .i64 0)), none, []⟩])
  (.block 0 (.loop [4, 5, 10, 11, 12] (.seq (.ops [⟨0, some 13, .bin .lss (.tmp 12) (.tmp 11), none, []⟩])
  (.seq (.cond (.tmp 13) (.skip) (.exit 0))
  (.seq (.block 1 (.seq (.ops [⟨0, some 14, .mv (.tmp 12), none, []⟩, ⟨1, some 15, .ia (.tmp 10) (.tmp 12), none, []⟩, ⟨2, some 16, .ld (.tmp 15), none, []⟩, ⟨3, some 6, .mv (.tmp 14), none, []⟩, ⟨4, some 7, .mv (.tmp 16), none, []⟩])
  (.seq (.ops [⟨0, some 17, .mv (.tmp 6), none, []⟩, ⟨1, some 18, .bin .rem (.tmp 17) (.const (.int .i64 2)), none, []⟩, ⟨2, some 19, .bin .eql (.tmp 18) (.const (.int .i64 0)), none, []⟩])
  (.cond (.tmp 19) (.keep [4, 5, 7, 10, 11, 12] (.ops [⟨0, some 20, .mv (.tmp 4), none, []⟩, ⟨1, some 21, .mv (.tmp 7), none, []⟩, ⟨2, some 22, .bsl 41 1 (.float .f32 0) [(0, .tmp 21)], none, []⟩, ⟨3, some 23, .app 41 4 (.tmp 20) (.tmp 22), none, []⟩, ⟨4, some 4, .mv (.tmp 23), none, []⟩])) (.keep [4, 5, 7, 10, 11, 12] (.ops [⟨0, some 24, .mv (.tmp 5), none, []⟩, ⟨1, some 25, .mv (.tmp 7), none, []⟩, ⟨2, some 26, .bsl 41 1 (.float .f32 0) [(0, .tmp 25)], none, []⟩, ⟨3, some 27, .app 41 4 (.tmp 24) (.tmp 26), none, []⟩, ⟨4, some 5, .mv (.tmp 27), none, []⟩]))))))
  (.keep [4, 5, 10, 11, 12] (.ops [⟨0, some 28, .bin .add (.tmp 12) (.const (.int .i64 1)), none, []⟩, ⟨1, some 12, .mv (.tmp 28), none, []⟩]))))))))
  (.seq (.ops [⟨0, some 29, .mv (.tmp 4), none, []⟩, ⟨1, some 30, .mv (.tmp 5), none, []⟩, ⟨2, some 2, .mv (.tmp 29), none, []⟩, ⟨3, some 3, .mv (.tmp 30), none, []⟩])
  (.ret))))
theorem k_i_split_float32_ : FnOk Try.prog n_i_split_float32_ 1 c_i_split_float32_ [.tmp 2, .tmp 3] := ⟨by kernel_rfl⟩
def c_i_weigh : ACode :=
  .seq (.ops [⟨0, some 8, .box 41 (.tmp 3), none, []⟩, ⟨1, some 9, .box 4 (.tmp 4), none, []⟩])
  (.seq (.ops [⟨0, some 17, .mkf (.func n_i_weigh_1) [] [.tmp 8, .tmp 9], none, []⟩, ⟨1, some 10, .mv (.tmp 17), none, []⟩])
  (.seq (.seq (.keep [0, 1, 2, 10] (.ops [⟨0, some 18, .mv (.tmp 2), none, []⟩, ⟨1, some 19, .bin .rem (.tmp 18) (.const (.int .i64 2)), none, []⟩, ⟨2, some 20, .bin .eql (.tmp 19) (.const (.int .i64 0)), none, []⟩]))
  (.cond (.tmp 20) (.seq (.seq (.ops [⟨0, some 21, .mv (.tmp 1), none, []⟩, ⟨1, some 22, .len (.tmp 21), none, []⟩, ⟨2, some 23, .mv (.const (.int .i64 0)), none, []⟩])
  (.block 0 (.loop [0, 1, 10, 22, 23] (.seq (.ops [⟨0, some 24, .bin .lss (.tmp 23) (.tmp 22), none, []⟩])
  (.seq (.cond (.tmp 24) (.skip) (.exit 0))
  (.seq (.block 1 (.seq (.ops [⟨0, some 25, .mv (.tmp 23), none, []⟩, ⟨1, some 11, .mv (.tmp 25), none, []⟩])
  (.seq (.ops [⟨0, some 27, .mv (.tmp 0), none, []⟩, ⟨1, some 28, .mv (.tmp 11), none, []⟩, ⟨2, some 29, .call n_i_besideOdd_float32_ [.tmp 27, .tmp 28], none, []⟩, ⟨3, some 26, .mv (.tmp 29), none, []⟩, ⟨4, some 30, .ext (.tmp 26) 0, none, []⟩, ⟨5, some 31, .ext (.tmp 26) 1, none, []⟩, ⟨6, some 12, .mv (.tmp 30), none, []⟩, ⟨7, some 13, .mv (.tmp 31), none, []⟩])
  (.keep [0, 1, 10, 11, 12, 13, 22, 23] (.ops [⟨0, some 32, .mv (.tmp 10), none, []⟩, ⟨1, some 33, .mv (.tmp 1), none, []⟩, ⟨2, some 34, .mv (.tmp 11), none, []⟩, ⟨3, some 35, .ia (.tmp 33) (.tmp 34), none, []⟩, ⟨4, some 36, .mv (.tmp 12), none, []⟩, ⟨5, some 37, .mv (.tmp 13), none, []⟩, ⟨6, some 38, .callv (.tmp 32) [.tmp 35, .tmp 36, .tmp 37], none, []⟩])))))
  (.keep [0, 1, 10, 22, 23] (.ops [⟨0, some 39, .bin .add (.tmp 23) (.const (.int .i64 1)), none, []⟩, ⟨1, some 23, .mv (.tmp 39), none, []⟩]))))))))
  (.ret)) (.skip)))
  (.seq (.ops [⟨0, some 40, .mv (.tmp 0), none, []⟩, ⟨1, some 41, .len (.tmp 40), none, []⟩, ⟨2, some 42, .mv (.const (.int .i64 0)), none, []⟩])
  (.block 2 (.loop [0, 1, 10, 41, 42] (.seq (.ops [⟨0, some 43, .bin .lss (.tmp 42) (.tmp 41), none, []⟩])
  (.seq (.cond (.tmp 43) (.skip) (.exit 2))
  (.seq (.block 3 (.seq (.ops [⟨0, some 44, .mv (.tmp 42), none, []⟩, ⟨1, some 14, .mv (.tmp 44), none, []⟩])
  (.seq (.ops [⟨0, some 46, .mv (.tmp 1), none, []⟩, ⟨1, some 47, .mv (.tmp 14), none, []⟩, ⟨2, some 48, .call n_i_besideEven_float32_ [.tmp 46, .tmp 47], none, []⟩, ⟨3, some 45, .mv (.tmp 48), none, []⟩, ⟨4, some 49, .ext (.tmp 45) 0, none, []⟩, ⟨5, some 50, .ext (.tmp 45) 1, none, []⟩, ⟨6, some 15, .mv (.tmp 49), none, []⟩, ⟨7, some 16, .mv (.tmp 50), none, []⟩])
  (.keep [0, 1, 10, 14, 15, 16, 41, 42] (.ops [⟨0, some 51, .mv (.tmp 10), none, []⟩, ⟨1, some 52, .mv (.tmp 0), none, []⟩, ⟨2, some 53, .mv (.tmp 14), none, []⟩, ⟨3, some 54, .ia (.tmp 52) (.tmp 53), none, []⟩, ⟨4, some 55, .mv (.tmp 15), none, []⟩, ⟨5, some 56, .mv (.tmp 16), none, []⟩, ⟨6, some 57, .callv (.tmp 51) [.tmp 54, .tmp 55, .tmp 56], none, []⟩])))))
  (.keep [0, 1, 10, 41, 42] (.ops [⟨0, some 58, .bin .add (.tmp 42) (.const (.int .i64 1)), none, []⟩, ⟨1, some 42, .mv (.tmp 58), none, []⟩]))))))))))
theorem k_i_weigh : FnOk Try.prog n_i_weigh 5 c_i_weigh [] := ⟨by kernel_rfl⟩
def c_s_l08DrawScheme : ACode :=
  .seq (.ops [⟨0, some 2, .new 71 [.slice none 0 0, .float .f32 0], none, []⟩])
  (.seq (.seq (.ops [⟨0, some 3, .mv (.tmp 0), none, []⟩, ⟨1, some 4, .call n_s_l00Src_one [.tmp 3, .const (.int .i64 2)], none, []⟩])
  (.cond (.tmp 4) (.seq (.ops [⟨0, some 5, .call n_s_NineScheme [], none, []⟩, ⟨1, none, .stn 2 (.tmp 2) (.tmp 5), none, []⟩])
  (.ret)) (.skip)))
  (.seq (.ops [⟨0, some 6, .call n_s_LinesScheme [], none, []⟩, ⟨1, none, .stn 2 (.tmp 2) (.tmp 6), none, []⟩])
  (.ret)))
theorem k_s_l08DrawScheme : FnOk Try.prog n_s_l08DrawScheme 1 c_s_l08DrawScheme [.celln 2 2] := ⟨by kernel_rfl⟩
def c_i_woven_float32_ : ACode :=
  .seq (.ops [⟨0, some 4, .mv (.const (.slice none 0 0)), none, []⟩])
  (.seq (.ops [⟨0, some 8, .bsl 41 0 (.float .f32 0) [], none, []⟩, ⟨1, some 5, .mv (.tmp 8), none, []⟩])
  (.seq (.seq (.ops [⟨0, some 9, .mv (.tmp 0), none, []⟩, ⟨1, some 10, .len (.tmp 9), none, []⟩, ⟨2, some 11, .mv (.const (.int .i64 0)), none, []⟩])
  (.block 0 (.loop [1, 5, 9, 10, 11] (.seq (.ops [⟨0, some 12, .bin .lss (.tmp 11) (.tmp 10), none, []⟩])
  (.seq (.cond (.tmp 12) (.skip) (.exit 0))
  (.seq (.block 1 (.seq (.ops [⟨0, some 13, .mv (.tmp 11), none, []⟩, ⟨1, some 14, .ia (.tmp 9) (.tmp 11), none, []⟩, ⟨2, some 15, .ld (.tmp 14), none, []⟩, ⟨3, some 6, .mv (.tmp 13), none, []⟩, ⟨4, some 7, .mv (.tmp 15), none, []⟩])
  (.seq (.ops [⟨0, some 16, .mv (.tmp 5), none, []⟩, ⟨1, some 17, .mv (.tmp 7), none, []⟩, ⟨2, some 18, .bsl 41 1 (.float .f32 0) [(0, .tmp 17)], none, []⟩, ⟨3, some 19, .app 41 4 (.tmp 16) (.tmp 18), none, []⟩, ⟨4, some 5, .mv (.tmp 19), none, []⟩])
  (.seq (.keep [1, 5, 6, 9, 10, 11] (.ops [⟨0, some 20, .mv (.tmp 6), none, []⟩, ⟨1, some 21, .mv (.tmp 1), none, []⟩, ⟨2, some 22, .len (.tmp 21), none, []⟩, ⟨3, some 23, .bin .lss (.tmp 20) (.tmp 22), none, []⟩]))
  (.cond (.tmp 23) (.ops [⟨0, some 24, .mv (.tmp 5), none, []⟩, ⟨1, some 25, .mv (.tmp 1), none, []⟩, ⟨2, some 26, .mv (.tmp 6), none, []⟩, ⟨3, some 27, .ia (.tmp 25) (.tmp 26), none, []⟩, ⟨4, some 28, .ld (.tmp 27), none, []⟩, ⟨5, some 29, .bsl 41 1 (.float .f32 0) [(0, .tmp 28)], none, []⟩, ⟨6, some 30, .app 41 4 (.tmp 24) (.tmp 29), none, []⟩, ⟨7, some 5, .mv (.tmp 30), none, []⟩]) (.skip))))))
  (.keep [1, 5, 9, 10, 11] (.ops [⟨0, some 31, .bin .add (.tmp 11) (.const (.int .i64 1)), none, []⟩, ⟨1, some 11, .mv (.tmp 31), none, []⟩]))))))))
  (.seq (.keep [5] (.ops [⟨0, some 32, .mv (.tmp 5), none, []⟩, ⟨1, some 4, .mv (.tmp 32), none, []⟩]))
  (.ret))))
theorem k_i_woven_float32_ : FnOk Try.prog n_i_woven_float32_ 2 c_i_woven_float32_ [.tmp 4] := ⟨by kernel_rfl⟩
def c_i_finite : ACode :=
  .seq (.ops [⟨0, some 2, .mv (.const (.float .f32 0)), none, []⟩, ⟨1, some 3, .mv (.const (.bool false)), none, []⟩])
  (.seq (.seq (.ops [⟨0, some 4, .mv (.tmp 0), none, []⟩, ⟨1, some 5, .call n_i_IsFinite [.tmp 4], none, []⟩, ⟨2, some 6, .un .not (.tmp 5), none, []⟩])
  (.cond (.tmp 6) (.seq (.keep [] (.ops [⟨0, some 2, .mv (.const (.float .f32 0)), none, []⟩, ⟨1, some 3, .mv (.const (.bool false)), none, []⟩]))
  (.ret)) (.skip)))
  (.seq (.keep [0] (.ops [⟨0, some 7, .mv (.tmp 0), none, []⟩, ⟨1, some 2, .mv (.tmp 7), none, []⟩, ⟨2, some 3, .mv (.const (.bool true)), none, []⟩]))
  (.ret)))
theorem k_i_finite : FnOk Try.prog n_i_finite 1 c_i_finite [.tmp 2, .tmp 3] := ⟨by kernel_rfl⟩
def c_i_sizesOf_float32_ : ACode :=
  .seq (.ops [⟨0, some 2, .mv (.const (.slice none 0 0)), none, []⟩])
  (.seq (.ops [⟨0, some 6, .bsl 3 0 (.int .i64 0) [], none, []⟩, ⟨1, some 3, .mv (.tmp 6), none, []⟩])
  (.seq (.seq (.ops [⟨0, some 7, .mv (.tmp 0), none, []⟩, ⟨1, some 8, .len (.tmp 7), none, []⟩, ⟨2, some 9, .mv (.const (.int .i64 0)), none, []⟩])
  (.block 0 (.loop [3, 7, 8, 9] (.seq (.ops [⟨0, some 10, .bin .lss (.tmp 9) (.tmp 8), none, []⟩])
  (.seq (.cond (.tmp 10) (.skip) (.exit 0))
  (.seq (.block 1 (.seq (.ops [⟨0, some 11, .ia (.tmp 7) (.tmp 9), none, []⟩, ⟨1, some 12, .ld (.tmp 11), none, []⟩, ⟨2, some 5, .mv (.tmp 12), none, []⟩])
  (.ops [⟨0, some 13, .mv (.tmp 3), none, []⟩, ⟨1, some 14, .mv (.tmp 5), none, []⟩, ⟨2, some 15, .len (.tmp 14), none, []⟩, ⟨3, some 16, .bsl 3 1 (.int .i64 0) [(0, .tmp 15)], none, []⟩, ⟨4, some 17, .app 3 8 (.tmp 13) (.tmp 16), none, []⟩, ⟨5, some 3, .mv (.tmp 17), none, []⟩])))
  (.keep [3, 7, 8, 9] (.ops [⟨0, some 18, .bin .add (.tmp 9) (.const (.int .i64 1)), none, []⟩, ⟨1, some 9, .mv (.tmp 18), none, []⟩]))))))))
  (.seq (.ops [⟨0, some 19, .mv (.tmp 3), none, []⟩, ⟨1, some 2, .mv (.tmp 19), none, []⟩])
  (.ret))))
theorem k_i_sizesOf_float32_ : FnOk Try.prog n_i_sizesOf_float32_ 1 c_i_sizesOf_float32_ [.tmp 2] := ⟨by kernel_rfl⟩
def c_s_l00Src_next : ACode :=
  .seq (.ops [⟨0, some 2, .mv (.const (.int .i64 0)), none, []⟩])
  (.seq (.ops [⟨0, some 3, .mv (.const (.int .i64 0)), none, []⟩])
  (.seq (.seq (.ops [⟨0, some 4, .mv (.tmp 0), none, []⟩, ⟨1, some 5, .nc (.tmp 4), none, []⟩, ⟨2, some 6, .fa 1 (.tmp 5), none, []⟩, ⟨3, some 7, .ld (.tmp 6), none, []⟩, ⟨4, some 8, .mv (.tmp 0), none, []⟩, ⟨5, some 9, .nc (.tmp 8), none, []⟩, ⟨6, some 10, .fa 0 (.tmp 9), none, []⟩, ⟨7, some 11, .ld (.tmp 10), none, []⟩, ⟨8, some 12, .len (.tmp 11), none, []⟩, ⟨9, some 13, .bin .lss (.tmp 7) (.tmp 12), none, []⟩])
  (.cond (.tmp 13) (.keep [0] (.ops [⟨0, some 14, .mv (.tmp 0), none, []⟩, ⟨1, some 15, .nc (.tmp 14), none, []⟩, ⟨2, some 16, .fa 0 (.tmp 15), none, []⟩, ⟨3, some 17, .ld (.tmp 16), none, []⟩, ⟨4, some 18, .mv (.tmp 0), none, []⟩, ⟨5, some 19, .nc (.tmp 18), none, []⟩, ⟨6, some 20, .fa 1 (.tmp 19), none, []⟩, ⟨7, some 21, .ld (.tmp 20), none, []⟩, ⟨8, some 22, .ia (.tmp 17) (.tmp 21), none, []⟩, ⟨9, some 23, .ld (.tmp 22), none, []⟩, ⟨10, some 24, .cv (.i .i64) (.tmp 23), none, []⟩, ⟨11, some 3, .mv (.tmp 24), none, []⟩])) (.skip)))
  (.seq (.keep [0, 3] (.ops [⟨0, some 25, .mv (.tmp 0), none, []⟩, ⟨1, some 26, .nc (.tmp 25), none, []⟩, ⟨2, some 27, .fa 1 (.tmp 26), none, []⟩, ⟨3, some 28, .ld (.tmp 27), none, []⟩, ⟨4, some 29, .bin .add (.tmp 28) (.const (.int .i64 1)), none, []⟩, ⟨5, some 30, .nc (.tmp 25), none, []⟩, ⟨6, some 31, .fa 1 (.tmp 30), none, []⟩, ⟨7, none, .st (.tmp 31) (.tmp 29), none, []⟩]))
  (.seq (.keep [0, 3] (.ops [⟨0, some 32, .mv (.tmp 0), none, []⟩, ⟨1, some 33, .mv (.tmp 0), none, []⟩, ⟨2, some 34, .nc (.tmp 33), none, []⟩, ⟨3, some 35, .fa 2 (.tmp 34), none, []⟩, ⟨4, some 36, .ld (.tmp 35), none, []⟩, ⟨5, some 37, .bin .mul (.tmp 36) (.const (.int .u64 6364136223846793005)), none, []⟩, ⟨6, some 38, .mv (.tmp 3), none, []⟩, ⟨7, some 39, .cv (.i .u64) (.tmp 38), none, []⟩, ⟨8, some 40, .bin .add (.tmp 37) (.tmp 39), none, []⟩, ⟨9, some 41, .bin .add (.tmp 40) (.const (.int .u64 1442695040888963407)), none, []⟩, ⟨10, some 42, .nc (.tmp 32), none, []⟩, ⟨11, some 43, .fa 2 (.tmp 42), none, []⟩, ⟨12, none, .st (.tmp 43) (.tmp 41), none, []⟩]))
  (.seq (.seq (.keep [0, 3] (.ops [⟨0, some 44, .mv (.tmp 0), none, []⟩, ⟨1, some 45, .nc (.tmp 44), none, []⟩, ⟨2, some 46, .fa 1 (.tmp 45), none, []⟩, ⟨3, some 47, .ld (.tmp 46), none, []⟩, ⟨4, some 48, .mv (.tmp 0), none, []⟩, ⟨5, some 49, .nc (.tmp 48), none, []⟩, ⟨6, some 50, .fa 0 (.tmp 49), none, []⟩, ⟨7, some 51, .ld (.tmp 50), none, []⟩, ⟨8, some 52, .len (.tmp 51), none, []⟩, ⟨9, some 53, .bin .leq (.tmp 47) (.tmp 52), none, []⟩]))
  (.cond (.tmp 53) (.seq (.keep [3] (.ops [⟨0, some 54, .mv (.tmp 3), none, []⟩, ⟨1, some 2, .mv (.tmp 54), none, []⟩]))
  (.ret)) (.skip)))
  (.seq (.keep [0] (.ops [⟨0, some 55, .mv (.tmp 0), none, []⟩, ⟨1, some 56, .nc (.tmp 55), none, []⟩, ⟨2, some 57, .fa 2 (.tmp 56), none, []⟩, ⟨3, some 58, .ld (.tmp 57), none, []⟩, ⟨4, some 59, .bin .shr (.tmp 58) (.const (.int .u64 40)), none, []⟩, ⟨5, some 60, .bin .and (.tmp 59) (.const (.int .u64 255)), none, []⟩, ⟨6, some 61, .cv (.i .i64) (.tmp 60), none, []⟩, ⟨7, some 2, .mv (.tmp 61), none, []⟩]))
  (.ret)))))))
theorem k_s_l00Src_next : FnOk Try.prog n_s_l00Src_next 1 c_s_l00Src_next [.tmp 2] := ⟨by kernel_rfl⟩
def c_i_IsFinite : ACode :=
  .seq (.ops [⟨0, some 2, .mv (.const (.bool false)), none, []⟩])
  (.seq (.ops [⟨0, some 3, .mv (.tmp 0), none, []⟩, ⟨1, some 4, .mv (.tmp 0), none, []⟩, ⟨2, some 5, .bin .sub (.tmp 3) (.tmp 4), none, []⟩, ⟨3, some 6, .bin .eql (.tmp 5) (.const (.float .f32 0)), none, []⟩, ⟨4, some 2, .mv (.tmp 6), none, []⟩])
  (.ret))
theorem k_i_IsFinite : FnOk Try.prog n_i_IsFinite 1 c_i_IsFinite [.tmp 2] := ⟨by kernel_rfl⟩
def c_i_isOver : ACode :=
  .seq (.ops [⟨0, some 2, .mv (.const (.bool false)), none, []⟩])
  (.seq (.ops [⟨0, some 3, .mv (.tmp 0), none, []⟩, ⟨1, some 4, .call n_i_IsFinite [.tmp 3], none, []⟩, ⟨2, some 5, .mv (.tmp 4), none, []⟩, ⟨3, some 6, .mv (.tmp 0), (some (5, true)), []⟩, ⟨4, some 7, .bin .gtr (.tmp 6) (.const (.float .f32 0)), (some (5, true)), []⟩, ⟨5, some 8, .pick (.tmp 5) (.tmp 7) (.const (.bool false)), none, []⟩, ⟨6, some 2, .mv (.tmp 8), none, []⟩])
  (.ret))
theorem k_i_isOver : FnOk Try.prog n_i_isOver 1 c_i_isOver [.tmp 2] := ⟨by kernel_rfl⟩
def c_i_weigh_1 : ACode :=
  .seq (.ops [⟨0, some 9, .ld (.tmp 3), none, []⟩, ⟨1, some 10, .mv (.tmp 1), none, []⟩, ⟨2, some 11, .mv (.tmp 2), none, []⟩, ⟨3, some 12, .bin .add (.tmp 10) (.tmp 11), none, []⟩, ⟨4, some 13, .bin .mul (.tmp 9) (.tmp 12), none, []⟩, ⟨5, some 8, .mv (.tmp 13), none, []⟩])
  (.seq (.keep [0, 4, 8] (.ops [⟨0, some 14, .ld (.tmp 4), none, []⟩]))
  (.cond (.tmp 14) (.ops [⟨0, some 15, .mv (.tmp 0), none, []⟩, ⟨1, some 16, .nc (.tmp 15), none, []⟩, ⟨2, some 17, .ld (.tmp 16), none, []⟩, ⟨3, some 18, .mv (.tmp 8), none, []⟩, ⟨4, some 19, .bin .sub (.tmp 17) (.tmp 18), none, []⟩, ⟨5, some 20, .nc (.tmp 15), none, []⟩, ⟨6, none, .st (.tmp 20) (.tmp 19), none, []⟩]) (.ops [⟨0, some 21, .mv (.tmp 0), none, []⟩, ⟨1, some 22, .nc (.tmp 21), none, []⟩, ⟨2, some 23, .ld (.tmp 22), none, []⟩, ⟨3, some 24, .mv (.tmp 8), none, []⟩, ⟨4, some 25, .bin .add (.tmp 23) (.tmp 24), none, []⟩, ⟨5, some 26, .nc (.tmp 21), none, []⟩, ⟨6, none, .st (.tmp 26) (.tmp 25), none, []⟩])))
theorem k_i_weigh_1 : FnOk Try.prog n_i_weigh_1 5 c_i_weigh_1 [] := ⟨by kernel_rfl⟩
def c_i_besideOdd_float32_ : ACode :=
  .seq (.ops [⟨0, some 4, .mv (.const (.float .f32 0)), none, []⟩, ⟨1, some 5, .mv (.const (.float .f32 0)), none, []⟩])
  (.seq (.ops [⟨0, some 6, .mv (.tmp 0), none, []⟩, ⟨1, some 7, .mv (.tmp 1), none, []⟩, ⟨2, some 8, .ia (.tmp 6) (.tmp 7), none, []⟩, ⟨3, some 9, .ld (.tmp 8), none, []⟩, ⟨4, some 10, .mv (.tmp 0), none, []⟩, ⟨5, some 11, .mv (.tmp 1), none, []⟩, ⟨6, some 12, .bin .add (.tmp 11) (.const (.int .i64 1)), none, []⟩, ⟨7, some 13, .mv (.tmp 0), none, []⟩, ⟨8, some 14, .len (.tmp 13), none, []⟩, ⟨9, some 15, .bin .sub (.tmp 14) (.const (.int .i64 1)), none, []⟩, ⟨10, some 16, .mnx false (.tmp 12) (.tmp 15), none, []⟩, ⟨11, some 17, .ia (.tmp 10) (.tmp 16), none, []⟩, ⟨12, some 18, .ld (.tmp 17), none, []⟩, ⟨13, some 4, .mv (.tmp 9), none, []⟩, ⟨14, some 5, .mv (.tmp 18), none, []⟩])
  (.ret))
theorem k_i_besideOdd_float32_ : FnOk Try.prog n_i_besideOdd_float32_ 2 c_i_besideOdd_float32_ [.tmp 4, .tmp 5] := ⟨by kernel_rfl⟩
def c_i_besideEven_float32_ : ACode :=
  .seq (.ops [⟨0, some 4, .mv (.const (.float .f32 0)), none, []⟩, ⟨1, some 5, .mv (.const (.float .f32 0)), none, []⟩])
  (.seq (.ops [⟨0, some 6, .mv (.tmp 0), none, []⟩, ⟨1, some 7, .mv (.tmp 1), none, []⟩, ⟨2, some 8, .bin .sub (.tmp 7) (.const (.int .i64 1)), none, []⟩, ⟨3, some 9, .mnx true (.tmp 8) (.const (.int .i64 0)), none, []⟩, ⟨4, some 10, .ia (.tmp 6) (.tmp 9), none, []⟩, ⟨5, some 11, .ld (.tmp 10), none, []⟩, ⟨6, some 12, .mv (.tmp 0), none, []⟩, ⟨7, some 13, .mv (.tmp 1), none, []⟩, ⟨8, some 14, .mv (.tmp 0), none, []⟩, ⟨9, some 15, .len (.tmp 14), none, []⟩, ⟨10, some 16, .bin .sub (.tmp 15) (.const (.int .i64 1)), none, []⟩, ⟨11, some 17, .mnx false (.tmp 13) (.tmp 16), none, []⟩, ⟨12, some 18, .ia (.tmp 12) (.tmp 17), none, []⟩, ⟨13, some 19, .ld (.tmp 18), none, []⟩, ⟨14, some 4, .mv (.tmp 11), none, []⟩, ⟨15, some 5, .mv (.tmp 19), none, []⟩])
  (.ret))
theorem k_i_besideEven_float32_ : FnOk Try.prog n_i_besideEven_float32_ 2 c_i_besideEven_float32_ [.tmp 4, .tmp 5] := ⟨by kernel_rfl⟩
def c_s_NineScheme : ACode :=
  .seq (.ops [⟨0, some 0, .new 71 [.slice none 0 0, .float .f32 0], none, []⟩])
  (.seq (.ops [⟨0, some 1, .bsl 41 4 (.float .f32 0) [(0, .const (.float .f32 3217753715)), (1, .const (.float .f32 3176726958)), (2, .const (.float .f32 1063388790)), (3, .const (.float .f32 1055069013))], none, []⟩, ⟨1, some 2, .bld [.slice none 0 0, .float .f32 0] [(0, 1, .tmp 1), (1, 1, .const (.float .f32 1066608189))], none, []⟩, ⟨2, none, .stn 2 (.tmp 0) (.tmp 2), none, []⟩])
  (.ret))
theorem k_s_NineScheme : FnOk Try.prog n_s_NineScheme 0 c_s_NineScheme [.celln 0 2] := ⟨by kernel_rfl⟩
def c_s_LinesScheme : ACode :=
  .seq (.ops [⟨0, some 0, .new 71 [.slice none 0 0, .float .f32 0], none, []⟩])
  (.seq (.ops [⟨0, some 1, .bsl 41 2 (.float .f32 0) [(0, .const (.float .f32 3204448256)), (1, .const (.float .f32 1048576000))], none, []⟩, ⟨1, some 2, .bld [.slice none 0 0, .float .f32 0] [(0, 1, .tmp 1), (1, 1, .const (.float .f32 1065353216))], none, []⟩, ⟨2, none, .stn 2 (.tmp 0) (.tmp 2), none, []⟩])
  (.ret))
theorem k_s_LinesScheme : FnOk Try.prog n_s_LinesScheme 0 c_s_LinesScheme [.celln 0 2] := ⟨by kernel_rfl⟩
end Go.Proofs.Ytddekdgggpifmaa

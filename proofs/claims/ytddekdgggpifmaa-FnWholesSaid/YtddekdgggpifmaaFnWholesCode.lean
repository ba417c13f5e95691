/- The code of functions, for the abstract machine; printed by a program (gen.py). -/
import Derived.Test.YtddekdgggpifmaaGxFn
import Derived.Test.YtddekdgggpifmaaProg
namespace Go.Proofs.Ytddekdgggpifmaa
open Go.Gx
set_option maxRecDepth 100000
abbrev t_int64 : Nat := 2
abbrev t_int : Nat := 3
abbrev t_bool : Nat := 4
abbrev t_uint8 : Nat := 5
abbrev t_suint8 : Nat := 22
abbrev t_sfloat32 : Nat := 24
abbrev t_ssfloat32 : Nat := 30
abbrev t_float64 : Nat := 40
abbrev t_float32 : Nat := 41
abbrev t_sbool : Nat := 44
abbrev t_sint64 : Nat := 55
abbrev t_ssint64 : Nat := 62
abbrev t_sint : Nat := 78
abbrev t_Pair : Nat := 26
abbrev t_Bands : Nat := 32
abbrev t_Scheme : Nat := 71
abbrev n_w_FnWholes : Nat := 5
abbrev n_w_r8Long : Nat := 34
abbrev n_s_R8Integers : Nat := 35
abbrev n_w_r8At : Nat := 36
abbrev n_i_LiftIntegers : Nat := 37
abbrev n_i_DropIntegers : Nat := 38
abbrev n_i_SplitIntegers : Nat := 39
abbrev n_i_LiftLevels : Nat := 40
abbrev n_i_DropLevels : Nat := 41
abbrev n_i_BandSizes : Nat := 42
abbrev n_i_MirrorAt : Nat := 43
abbrev n_s_l00From : Nat := 69
abbrev n_s_l00Src_pick : Nat := 71
abbrev n_i_within : Nat := 73
abbrev n_i_AreIntegers : Nat := 85
abbrev n_i_lifted : Nat := 86
abbrev n_i_areWithin : Nat := 87
abbrev n_i_evenBy : Nat := 88
abbrev n_i_oddBy : Nat := 89
abbrev n_i_woven_int64_ : Nat := 90
abbrev n_i_split_int64_ : Nat := 91
abbrev n_i_areSizes : Nat := 92
abbrev n_i_sizesOf_int64_ : Nat := 93
abbrev n_i_mirrored : Nat := 94
abbrev n_s_l00Src_next : Nat := 118
abbrev n_i_below : Nat := 123
abbrev n_i_besideEven_int64_ : Nat := 124
abbrev n_i_besideOdd_int64_ : Nat := 125
abbrev n_i_oddBy_1 : Nat := 126
def c_w_FnWholes : ACode :=
  .seq (.ops [⟨0, some 4, .mv (.const (.bool false)), none, []⟩])
  (.seq (.seq (.ops [⟨0, some 39, .mv (.tmp 0), none, []⟩, ⟨1, some 40, .mv (.tmp 1), none, []⟩, ⟨2, some 41, .call n_w_r8Long [.tmp 39, .tmp 40], none, []⟩])
  (.cond (.tmp 41) (.seq (.keep [] (.ops [⟨0, some 4, .mv (.const (.bool true)), none, []⟩]))
  (.ret)) (.skip)))
  (.seq (.ops [⟨0, some 42, .mv (.tmp 0), none, []⟩, ⟨1, some 43, .call n_s_R8Integers [.tmp 42], none, []⟩, ⟨2, some 5, .mv (.tmp 43), none, []⟩])
  (.seq (.keep [1, 5] (.ops [⟨0, some 44, .mv (.tmp 1), none, []⟩, ⟨1, some 45, .call n_w_r8At [.tmp 44, .const (.int .i64 0), .const (.int .i64 3)], none, []⟩, ⟨2, some 6, .mv (.tmp 45), none, []⟩]))
  (.seq (.ops [⟨0, some 46, .mv (.tmp 1), none, []⟩, ⟨1, some 47, .call n_w_r8At [.tmp 46, .const (.int .i64 1), .const (.int .i64 6)], none, []⟩, ⟨2, some 48, .bin .add (.const (.int .i64 1)) (.tmp 47), none, []⟩, ⟨3, some 7, .mv (.tmp 48), none, []⟩])
  (.seq (.keep [1, 5, 6, 7] (.ops [⟨0, some 50, .mv (.tmp 6), none, []⟩, ⟨1, some 51, .mv (.tmp 5), none, []⟩, ⟨2, some 52, .call n_i_LiftIntegers [.tmp 50, .tmp 51], none, []⟩, ⟨3, some 49, .mv (.tmp 52), none, []⟩, ⟨4, some 53, .ext (.tmp 49) 0, none, []⟩, ⟨5, some 54, .ext (.tmp 49) 1, none, []⟩, ⟨6, some 55, .ext (.tmp 49) 2, none, []⟩, ⟨7, some 8, .mv (.tmp 53), none, []⟩, ⟨8, some 9, .mv (.tmp 54), none, []⟩, ⟨9, some 10, .mv (.tmp 55), none, []⟩]))
  (.seq (.keep [1, 5, 6, 7, 8, 9, 10] (.ops [⟨0, some 57, .mv (.tmp 6), none, []⟩, ⟨1, some 58, .mv (.tmp 8), none, []⟩, ⟨2, some 59, .mv (.tmp 9), none, []⟩, ⟨3, some 60, .call n_i_DropIntegers [.tmp 57, .tmp 58, .tmp 59], none, []⟩, ⟨4, some 56, .mv (.tmp 60), none, []⟩, ⟨5, some 61, .ext (.tmp 56) 0, none, []⟩, ⟨6, some 62, .ext (.tmp 56) 1, none, []⟩, ⟨7, some 11, .mv (.tmp 61), none, []⟩, ⟨8, some 12, .mv (.tmp 62), none, []⟩]))
  (.seq (.keep [1, 5, 6, 7, 8, 9, 10, 11, 12] (.ops [⟨0, some 64, .mv (.tmp 5), none, []⟩, ⟨1, some 65, .call n_i_SplitIntegers [.tmp 64], none, []⟩, ⟨2, some 63, .mv (.tmp 65), none, []⟩, ⟨3, some 66, .ext (.tmp 63) 0, none, []⟩, ⟨4, some 67, .ext (.tmp 63) 1, none, []⟩, ⟨5, some 68, .ext (.tmp 63) 2, none, []⟩, ⟨6, some 13, .mv (.tmp 66), none, []⟩, ⟨7, some 14, .mv (.tmp 67), none, []⟩, ⟨8, some 15, .mv (.tmp 68), none, []⟩]))
  (.seq (.keep [1, 5, 6, 7, 8, 9, 10, 11, 12, 13, 14, 15] (.ops [⟨0, some 70, .mv (.tmp 6), none, []⟩, ⟨1, some 71, .mv (.tmp 5), none, []⟩, ⟨2, some 72, .mv (.tmp 7), none, []⟩, ⟨3, some 73, .call n_i_LiftLevels [.tmp 70, .tmp 71, .tmp 72], none, []⟩, ⟨4, some 69, .mv (.tmp 73), none, []⟩, ⟨5, some 74, .ext (.tmp 69) 0, none, []⟩, ⟨6, some 75, .ext (.tmp 69) 1, none, []⟩, ⟨7, some 16, .mv (.tmp 74), none, []⟩, ⟨8, some 17, .mv (.tmp 75), none, []⟩]))
  (.seq (.keep [1, 5, 6, 7, 8, 9, 10, 11, 12, 13, 14, 15, 16, 17] (.ops [⟨0, some 77, .mv (.tmp 6), none, []⟩, ⟨1, some 78, .mv (.tmp 16), none, []⟩, ⟨2, some 79, .call n_i_DropLevels [.tmp 77, .tmp 78], none, []⟩, ⟨3, some 76, .mv (.tmp 79), none, []⟩, ⟨4, some 80, .ext (.tmp 76) 0, none, []⟩, ⟨5, some 81, .ext (.tmp 76) 1, none, []⟩, ⟨6, some 18, .mv (.tmp 80), none, []⟩, ⟨7, some 19, .mv (.tmp 81), none, []⟩]))
  (.seq (.keep [1, 5, 6, 7, 8, 9, 10, 11, 12, 13, 14, 15, 16, 17, 18, 19] (.ops [⟨0, some 82, .mv (.tmp 5), none, []⟩, ⟨1, some 83, .len (.tmp 82), none, []⟩, ⟨2, some 20, .mv (.tmp 83), none, []⟩]))
  (.seq (.seq (.ops [⟨0, some 84, .mv (.tmp 10), none, []⟩, ⟨1, some 85, .un .not (.tmp 84), none, []⟩, ⟨2, some 86, .mv (.tmp 85), none, []⟩, ⟨3, some 87, .mv (.tmp 12), (some (86, false)), []⟩, ⟨4, some 88, .un .not (.tmp 87), (some (86, false)), []⟩, ⟨5, some 89, .pick (.tmp 86) (.const (.bool true)) (.tmp 88), none, []⟩, ⟨6, some 90, .mv (.tmp 89), none, []⟩, ⟨7, some 91, .mv (.tmp 15), (some (90, false)), []⟩, ⟨8, some 92, .un .not (.tmp 91), (some (90, false)), []⟩, ⟨9, some 93, .pick (.tmp 90) (.const (.bool true)) (.tmp 92), none, []⟩, ⟨10, some 94, .mv (.tmp 93), none, []⟩, ⟨11, some 95, .mv (.tmp 17), (some (94, false)), []⟩, ⟨12, some 96, .un .not (.tmp 95), (some (94, false)), []⟩, ⟨13, some 97, .pick (.tmp 94) (.const (.bool true)) (.tmp 96), none, []⟩, ⟨14, some 98, .mv (.tmp 97), none, []⟩, ⟨15, some 99, .mv (.tmp 19), (some (98, false)), []⟩, ⟨16, some 100, .un .not (.tmp 99), (some (98, false)), []⟩, ⟨17, some 101, .pick (.tmp 98) (.const (.bool true)) (.tmp 100), none, []⟩, ⟨18, some 102, .mv (.tmp 101), none, []⟩, ⟨19, some 103, .mv (.tmp 8), (some (102, false)), []⟩, ⟨20, some 104, .len (.tmp 103), (some (102, false)), []⟩, ⟨21, some 105, .mv (.tmp 20), (some (102, false)), []⟩, ⟨22, some 106, .bin .add (.tmp 105) (.const (.int .i64 1)), (some (102, false)), []⟩, ⟨23, some 107, .bin .quo (.tmp 106) (.const (.int .i64 2)), (some (102, false)), []⟩, ⟨24, some 108, .bin .neq (.tmp 104) (.tmp 107), (some (102, false)), []⟩, ⟨25, some 109, .pick (.tmp 102) (.const (.bool true)) (.tmp 108), none, []⟩, ⟨26, some 110, .mv (.tmp 109), none, []⟩, ⟨27, some 111, .mv (.tmp 9), (some (110, false)), []⟩, ⟨28, some 112, .len (.tmp 111), (some (110, false)), []⟩, ⟨29, some 113, .mv (.tmp 20), (some (110, false)), []⟩, ⟨30, some 114, .bin .quo (.tmp 113) (.const (.int .i64 2)), (some (110, false)), []⟩, ⟨31, some 115, .bin .neq (.tmp 112) (.tmp 114), (some (110, false)), []⟩, ⟨32, some 116, .pick (.tmp 110) (.const (.bool true)) (.tmp 115), none, []⟩, ⟨33, some 117, .mv (.tmp 116), none, []⟩, ⟨34, some 118, .mv (.tmp 13), (some (117, false)), []⟩, ⟨35, some 119, .len (.tmp 118), (some (117, false)), []⟩, ⟨36, some 120, .mv (.tmp 8), (some (117, false)), []⟩, ⟨37, some 121, .len (.tmp 120), (some (117, false)), []⟩, ⟨38, some 122, .bin .neq (.tmp 119) (.tmp 121), (some (117, false)), []⟩, ⟨39, some 123, .pick (.tmp 117) (.const (.bool true)) (.tmp 122), none, []⟩, ⟨40, some 124, .mv (.tmp 123), none, []⟩, ⟨41, some 125, .mv (.tmp 14), (some (124, false)), []⟩, ⟨42, some 126, .len (.tmp 125), (some (124, false)), []⟩, ⟨43, some 127, .mv (.tmp 9), (some (124, false)), []⟩, ⟨44, some 128, .len (.tmp 127), (some (124, false)), []⟩, ⟨45, some 129, .bin .neq (.tmp 126) (.tmp 128), (some (124, false)), []⟩, ⟨46, some 130, .pick (.tmp 124) (.const (.bool true)) (.tmp 129), none, []⟩, ⟨47, some 131, .mv (.tmp 130), none, []⟩, ⟨48, some 132, .mv (.tmp 11), (some (131, false)), []⟩, ⟨49, some 133, .len (.tmp 132), (some (131, false)), []⟩, ⟨50, some 134, .mv (.tmp 20), (some (131, false)), []⟩, ⟨51, some 135, .bin .neq (.tmp 133) (.tmp 134), (some (131, false)), []⟩, ⟨52, some 136, .pick (.tmp 131) (.const (.bool true)) (.tmp 135), none, []⟩, ⟨53, some 137, .mv (.tmp 136), none, []⟩, ⟨54, some 138, .mv (.tmp 18), (some (137, false)), []⟩, ⟨55, some 139, .len (.tmp 138), (some (137, false)), []⟩, ⟨56, some 140, .mv (.tmp 20), (some (137, false)), []⟩, ⟨57, some 141, .bin .neq (.tmp 139) (.tmp 140), (some (137, false)), []⟩, ⟨58, some 142, .pick (.tmp 137) (.const (.bool true)) (.tmp 141), none, []⟩])
  (.cond (.tmp 142) (.seq (.keep [] (.ops [⟨0, some 4, .mv (.const (.bool false)), none, []⟩]))
  (.ret)) (.skip)))
  (.seq (.seq (.keep [1, 5, 6, 7, 8, 9, 11, 13, 14, 16, 18, 20] (.ops [⟨0, some 21, .mv (.const (.int .i64 0)), none, []⟩]))
  (.block 0 (.loop [1, 5, 6, 7, 8, 9, 11, 13, 14, 16, 18, 20, 21] (.seq (.seq (.ops [⟨0, some 143, .mv (.tmp 21), none, []⟩, ⟨1, some 144, .mv (.tmp 20), none, []⟩, ⟨2, some 145, .bin .lss (.tmp 143) (.tmp 144), none, []⟩])
  (.cond (.tmp 145) (.skip) (.exit 0)))
  (.seq (.block 1 (.seq (.ops [⟨0, some 148, .mv (.tmp 11), none, []⟩, ⟨1, some 149, .mv (.tmp 21), none, []⟩, ⟨2, some 150, .ia (.tmp 148) (.tmp 149), none, []⟩, ⟨3, some 151, .ld (.tmp 150), none, []⟩, ⟨4, some 152, .mv (.tmp 5), none, []⟩, ⟨5, some 153, .mv (.tmp 21), none, []⟩, ⟨6, some 154, .ia (.tmp 152) (.tmp 153), none, []⟩, ⟨7, some 155, .ld (.tmp 154), none, []⟩, ⟨8, some 156, .bin .neq (.tmp 151) (.tmp 155), none, []⟩, ⟨9, some 157, .mv (.tmp 156), none, []⟩, ⟨10, some 158, .mv (.tmp 18), (some (157, false)), []⟩, ⟨11, some 159, .mv (.tmp 21), (some (157, false)), []⟩, ⟨12, some 160, .ia (.tmp 158) (.tmp 159), (some (157, false)), []⟩, ⟨13, some 161, .ld (.tmp 160), (some (157, false)), []⟩, ⟨14, some 162, .mv (.tmp 5), (some (157, false)), []⟩, ⟨15, some 163, .mv (.tmp 21), (some (157, false)), []⟩, ⟨16, some 164, .ia (.tmp 162) (.tmp 163), (some (157, false)), []⟩, ⟨17, some 165, .ld (.tmp 164), (some (157, false)), []⟩, ⟨18, some 166, .bin .neq (.tmp 161) (.tmp 165), (some (157, false)), []⟩, ⟨19, some 167, .pick (.tmp 157) (.const (.bool true)) (.tmp 166), none, []⟩, ⟨20, some 168, .mv (.tmp 167), none, []⟩, ⟨21, some 169, .mv (.tmp 21), (some (168, false)), []⟩, ⟨22, some 170, .bin .rem (.tmp 169) (.const (.int .i64 2)), (some (168, false)), []⟩, ⟨23, some 171, .bin .eql (.tmp 170) (.const (.int .i64 0)), (some (168, false)), []⟩, ⟨24, some 172, .mv (.tmp 171), (some (168, false)), []⟩, ⟨25, some 173, .mv (.tmp 13), (some (172, true)), []⟩, ⟨26, some 174, .mv (.tmp 21), (some (172, true)), []⟩, ⟨27, some 175, .bin .quo (.tmp 174) (.const (.int .i64 2)), (some (172, true)), []⟩, ⟨28, some 176, .ia (.tmp 173) (.tmp 175), (some (172, true)), []⟩, ⟨29, some 177, .ld (.tmp 176), (some (172, true)), []⟩, ⟨30, some 178, .mv (.tmp 5), (some (172, true)), []⟩, ⟨31, some 179, .mv (.tmp 21), (some (172, true)), []⟩, ⟨32, some 180, .ia (.tmp 178) (.tmp 179), (some (172, true)), []⟩, ⟨33, some 181, .ld (.tmp 180), (some (172, true)), []⟩, ⟨34, some 182, .bin .neq (.tmp 177) (.tmp 181), (some (172, true)), []⟩, ⟨35, some 183, .pick (.tmp 172) (.tmp 182) (.const (.bool false)), (some (168, false)), []⟩, ⟨36, some 184, .pick (.tmp 168) (.const (.bool true)) (.tmp 183), none, []⟩, ⟨37, some 185, .mv (.tmp 184), none, []⟩, ⟨38, some 186, .mv (.tmp 21), (some (185, false)), []⟩, ⟨39, some 187, .bin .rem (.tmp 186) (.const (.int .i64 2)), (some (185, false)), []⟩, ⟨40, some 188, .bin .eql (.tmp 187) (.const (.int .i64 1)), (some (185, false)), []⟩, ⟨41, some 189, .mv (.tmp 188), (some (185, false)), []⟩, ⟨42, some 190, .mv (.tmp 14), (some (189, true)), []⟩, ⟨43, some 191, .mv (.tmp 21), (some (189, true)), []⟩, ⟨44, some 192, .bin .quo (.tmp 191) (.const (.int .i64 2)), (some (189, true)), []⟩, ⟨45, some 193, .ia (.tmp 190) (.tmp 192), (some (189, true)), []⟩, ⟨46, some 194, .ld (.tmp 193), (some (189, true)), []⟩, ⟨47, some 195, .mv (.tmp 5), (some (189, true)), []⟩, ⟨48, some 196, .mv (.tmp 21), (some (189, true)), []⟩, ⟨49, some 197, .ia (.tmp 195) (.tmp 196), (some (189, true)), []⟩, ⟨50, some 198, .ld (.tmp 197), (some (189, true)), []⟩, ⟨51, some 199, .bin .neq (.tmp 194) (.tmp 198), (some (189, true)), []⟩, ⟨52, some 200, .pick (.tmp 189) (.tmp 199) (.const (.bool false)), (some (185, false)), []⟩, ⟨53, some 201, .pick (.tmp 185) (.const (.bool true)) (.tmp 200), none, []⟩])
  (.cond (.tmp 201) (.seq (.keep [] (.ops [⟨0, some 4, .mv (.const (.bool false)), none, []⟩]))
  (.ret)) (.skip))))
  (.keep [1, 5, 6, 7, 8, 9, 11, 13, 14, 16, 18, 20, 21] (.ops [⟨0, some 146, .mv (.tmp 21), none, []⟩, ⟨1, some 147, .bin .add (.tmp 146) (.const (.int .i64 1)), none, []⟩, ⟨2, some 21, .mv (.tmp 147), none, []⟩])))))))
  (.seq (.keep [1, 5, 6, 7, 8, 9, 16, 20] (.ops [⟨0, some 203, .mv (.tmp 20), none, []⟩, ⟨1, some 204, .mv (.tmp 7), none, []⟩, ⟨2, some 205, .call n_i_BandSizes [.tmp 203, .tmp 204], none, []⟩, ⟨3, some 202, .mv (.tmp 205), none, []⟩, ⟨4, some 206, .ext (.tmp 202) 0, none, []⟩, ⟨5, some 207, .ext (.tmp 202) 1, none, []⟩, ⟨6, some 22, .mv (.tmp 206), none, []⟩, ⟨7, some 23, .mv (.tmp 207), none, []⟩]))
  (.seq (.seq (.keep [1, 5, 6, 8, 9, 16, 20, 22, 23] (.ops [⟨0, some 208, .mv (.tmp 23), none, []⟩, ⟨1, some 209, .un .not (.tmp 208), none, []⟩, ⟨2, some 210, .mv (.tmp 209), none, []⟩, ⟨3, some 211, .mv (.tmp 22), (some (210, false)), []⟩, ⟨4, some 212, .len (.tmp 211), (some (210, false)), []⟩, ⟨5, some 213, .mv (.tmp 16), (some (210, false)), []⟩, ⟨6, some 214, .len (.tmp 213), (some (210, false)), []⟩, ⟨7, some 215, .bin .neq (.tmp 212) (.tmp 214), (some (210, false)), []⟩, ⟨8, some 216, .pick (.tmp 210) (.const (.bool true)) (.tmp 215), none, []⟩]))
  (.cond (.tmp 216) (.seq (.keep [] (.ops [⟨0, some 4, .mv (.const (.bool false)), none, []⟩]))
  (.ret)) (.skip)))
  (.seq (.seq (.keep [1, 5, 6, 8, 9, 16, 20, 22] (.ops [⟨0, some 24, .mv (.const (.int .i64 0)), none, []⟩]))
  (.block 2 (.loop [1, 5, 6, 8, 9, 16, 20, 22, 24] (.seq (.seq (.ops [⟨0, some 217, .mv (.tmp 24), none, []⟩, ⟨1, some 218, .mv (.tmp 16), none, []⟩, ⟨2, some 219, .len (.tmp 218), none, []⟩, ⟨3, some 220, .bin .lss (.tmp 217) (.tmp 219), none, []⟩])
  (.cond (.tmp 220) (.skip) (.exit 2)))
  (.seq (.block 3 (.seq (.ops [⟨0, some 223, .mv (.tmp 16), none, []⟩, ⟨1, some 224, .mv (.tmp 24), none, []⟩, ⟨2, some 225, .ia (.tmp 223) (.tmp 224), none, []⟩, ⟨3, some 226, .ld (.tmp 225), none, []⟩, ⟨4, some 227, .len (.tmp 226), none, []⟩, ⟨5, some 228, .mv (.tmp 22), none, []⟩, ⟨6, some 229, .mv (.tmp 24), none, []⟩, ⟨7, some 230, .ia (.tmp 228) (.tmp 229), none, []⟩, ⟨8, some 231, .ld (.tmp 230), none, []⟩, ⟨9, some 232, .bin .neq (.tmp 227) (.tmp 231), none, []⟩])
  (.cond (.tmp 232) (.seq (.keep [] (.ops [⟨0, some 4, .mv (.const (.bool false)), none, []⟩]))
  (.ret)) (.skip))))
  (.keep [1, 5, 6, 8, 9, 16, 20, 22, 24] (.ops [⟨0, some 221, .mv (.tmp 24), none, []⟩, ⟨1, some 222, .bin .add (.tmp 221) (.const (.int .i64 1)), none, []⟩, ⟨2, some 24, .mv (.tmp 222), none, []⟩])))))))
  (.seq (.keep [1, 5, 6, 8, 9, 20] (.ops [⟨0, some 233, .bsl 2 0 (.int .i64 0) [], none, []⟩, ⟨1, some 25, .mv (.tmp 233), none, []⟩]))
  (.seq (.seq (.ops [⟨0, some 26, .mv (.const (.int .i64 0)), none, []⟩])
  (.block 4 (.loop [1, 5, 6, 8, 9, 20, 25, 26] (.seq (.seq (.ops [⟨0, some 234, .mv (.tmp 26), none, []⟩, ⟨1, some 235, .mv (.tmp 20), none, []⟩, ⟨2, some 236, .bin .lss (.tmp 234) (.tmp 235), none, []⟩])
  (.cond (.tmp 236) (.skip) (.exit 4)))
  (.seq (.block 5 (.ops [⟨0, some 239, .mv (.tmp 25), none, []⟩, ⟨1, some 240, .mv (.tmp 5), none, []⟩, ⟨2, some 241, .ia (.tmp 240) (.const (.int .i64 0)), none, []⟩, ⟨3, some 242, .ld (.tmp 241), none, []⟩, ⟨4, some 243, .bsl 2 1 (.int .i64 0) [(0, .tmp 242)], none, []⟩, ⟨5, some 244, .app 2 8 (.tmp 239) (.tmp 243), none, []⟩, ⟨6, some 25, .mv (.tmp 244), none, []⟩]))
  (.keep [1, 5, 6, 8, 9, 20, 25, 26] (.ops [⟨0, some 237, .mv (.tmp 26), none, []⟩, ⟨1, some 238, .bin .add (.tmp 237) (.const (.int .i64 1)), none, []⟩, ⟨2, some 26, .mv (.tmp 238), none, []⟩])))))))
  (.seq (.keep [1, 5, 6, 8, 9, 25] (.ops [⟨0, some 246, .mv (.tmp 6), none, []⟩, ⟨1, some 247, .mv (.tmp 25), none, []⟩, ⟨2, some 248, .call n_i_LiftIntegers [.tmp 246, .tmp 247], none, []⟩, ⟨3, some 245, .mv (.tmp 248), none, []⟩, ⟨4, some 249, .ext (.tmp 245) 0, none, []⟩, ⟨5, some 250, .ext (.tmp 245) 1, none, []⟩, ⟨6, some 251, .ext (.tmp 245) 2, none, []⟩, ⟨7, some 27, .mv (.tmp 249), none, []⟩, ⟨8, some 28, .mv (.tmp 250), none, []⟩, ⟨9, some 29, .mv (.tmp 251), none, []⟩]))
  (.seq (.seq (.keep [1, 5, 8, 9, 27, 28, 29] (.ops [⟨0, some 252, .mv (.tmp 29), none, []⟩, ⟨1, some 253, .un .not (.tmp 252), none, []⟩, ⟨2, some 254, .mv (.tmp 253), none, []⟩, ⟨3, some 255, .mv (.tmp 27), (some (254, false)), []⟩, ⟨4, some 256, .len (.tmp 255), (some (254, false)), []⟩, ⟨5, some 257, .mv (.tmp 8), (some (254, false)), []⟩, ⟨6, some 258, .len (.tmp 257), (some (254, false)), []⟩, ⟨7, some 259, .bin .neq (.tmp 256) (.tmp 258), (some (254, false)), []⟩, ⟨8, some 260, .pick (.tmp 254) (.const (.bool true)) (.tmp 259), none, []⟩, ⟨9, some 261, .mv (.tmp 260), none, []⟩, ⟨10, some 262, .mv (.tmp 28), (some (261, false)), []⟩, ⟨11, some 263, .len (.tmp 262), (some (261, false)), []⟩, ⟨12, some 264, .mv (.tmp 9), (some (261, false)), []⟩, ⟨13, some 265, .len (.tmp 264), (some (261, false)), []⟩, ⟨14, some 266, .bin .neq (.tmp 263) (.tmp 265), (some (261, false)), []⟩, ⟨15, some 267, .pick (.tmp 261) (.const (.bool true)) (.tmp 266), none, []⟩]))
  (.cond (.tmp 267) (.seq (.keep [] (.ops [⟨0, some 4, .mv (.const (.bool false)), none, []⟩]))
  (.ret)) (.skip)))
  (.seq (.seq (.keep [1, 5, 27, 28] (.ops [⟨0, some 30, .mv (.const (.int .i64 0)), none, []⟩]))
  (.block 6 (.loop [1, 5, 27, 28, 30] (.seq (.seq (.ops [⟨0, some 268, .mv (.tmp 30), none, []⟩, ⟨1, some 269, .mv (.tmp 27), none, []⟩, ⟨2, some 270, .len (.tmp 269), none, []⟩, ⟨3, some 271, .bin .lss (.tmp 268) (.tmp 270), none, []⟩])
  (.cond (.tmp 271) (.skip) (.exit 6)))
  (.seq (.block 7 (.seq (.ops [⟨0, some 274, .mv (.tmp 27), none, []⟩, ⟨1, some 275, .mv (.tmp 30), none, []⟩, ⟨2, some 276, .ia (.tmp 274) (.tmp 275), none, []⟩, ⟨3, some 277, .ld (.tmp 276), none, []⟩, ⟨4, some 278, .mv (.tmp 5), none, []⟩, ⟨5, some 279, .ia (.tmp 278) (.const (.int .i64 0)), none, []⟩, ⟨6, some 280, .ld (.tmp 279), none, []⟩, ⟨7, some 281, .bin .neq (.tmp 277) (.tmp 280), none, []⟩, ⟨8, some 282, .mv (.tmp 281), none, []⟩, ⟨9, some 283, .mv (.tmp 30), (some (282, false)), []⟩, ⟨10, some 284, .mv (.tmp 28), (some (282, false)), []⟩, ⟨11, some 285, .len (.tmp 284), (some (282, false)), []⟩, ⟨12, some 286, .bin .lss (.tmp 283) (.tmp 285), (some (282, false)), []⟩, ⟨13, some 287, .mv (.tmp 286), (some (282, false)), []⟩, ⟨14, some 288, .mv (.tmp 28), (some (287, true)), []⟩, ⟨15, some 289, .mv (.tmp 30), (some (287, true)), []⟩, ⟨16, some 290, .ia (.tmp 288) (.tmp 289), (some (287, true)), []⟩, ⟨17, some 291, .ld (.tmp 290), (some (287, true)), []⟩, ⟨18, some 292, .bin .neq (.tmp 291) (.const (.int .i64 0)), (some (287, true)), []⟩, ⟨19, some 293, .pick (.tmp 287) (.tmp 292) (.const (.bool false)), (some (282, false)), []⟩, ⟨20, some 294, .pick (.tmp 282) (.const (.bool true)) (.tmp 293), none, []⟩])
  (.cond (.tmp 294) (.seq (.keep [] (.ops [⟨0, some 4, .mv (.const (.bool false)), none, []⟩]))
  (.ret)) (.skip))))
  (.keep [1, 5, 27, 28, 30] (.ops [⟨0, some 272, .mv (.tmp 30), none, []⟩, ⟨1, some 273, .bin .add (.tmp 272) (.const (.int .i64 1)), none, []⟩, ⟨2, some 30, .mv (.tmp 273), none, []⟩])))))))
  (.seq (.keep [1] (.ops [⟨0, some 295, .mv (.tmp 1), none, []⟩, ⟨1, some 296, .call n_w_r8At [.tmp 295, .const (.int .i64 2), .const (.int .i64 20)], none, []⟩, ⟨2, some 297, .bin .add (.const (.int .i64 1)) (.tmp 296), none, []⟩, ⟨3, some 31, .mv (.tmp 297), none, []⟩]))
  (.seq (.ops [⟨0, some 298, .mv (.tmp 1), none, []⟩, ⟨1, some 299, .call n_w_r8At [.tmp 298, .const (.int .i64 3), .const (.int .i64 200)], none, []⟩, ⟨2, some 300, .bin .sub (.tmp 299) (.const (.int .i64 100)), none, []⟩, ⟨3, some 32, .mv (.tmp 300), none, []⟩])
  (.seq (.keep [31, 32] (.ops [⟨0, some 302, .mv (.tmp 31), none, []⟩, ⟨1, some 303, .mv (.tmp 32), none, []⟩, ⟨2, some 304, .call n_i_MirrorAt [.tmp 302, .tmp 303], none, []⟩, ⟨3, some 301, .mv (.tmp 304), none, []⟩, ⟨4, some 305, .ext (.tmp 301) 0, none, []⟩, ⟨5, some 306, .ext (.tmp 301) 1, none, []⟩, ⟨6, some 33, .mv (.tmp 305), none, []⟩, ⟨7, some 34, .mv (.tmp 306), none, []⟩]))
  (.seq (.keep [31, 32, 33, 34] (.ops [⟨0, some 308, .mv (.tmp 31), none, []⟩, ⟨1, some 309, .mv (.tmp 32), none, []⟩, ⟨2, some 310, .un .neg (.tmp 309), none, []⟩, ⟨3, some 311, .call n_i_MirrorAt [.tmp 308, .tmp 310], none, []⟩, ⟨4, some 307, .mv (.tmp 311), none, []⟩, ⟨5, some 312, .ext (.tmp 307) 0, none, []⟩, ⟨6, some 313, .ext (.tmp 307) 1, none, []⟩, ⟨7, some 35, .mv (.tmp 312), none, []⟩, ⟨8, some 36, .mv (.tmp 313), none, []⟩]))
  (.seq (.keep [31, 32, 33, 34, 35, 36] (.ops [⟨0, some 315, .mv (.tmp 31), none, []⟩, ⟨1, some 316, .mv (.tmp 31), none, []⟩, ⟨2, some 317, .bin .sub (.tmp 316) (.const (.int .i64 1)), none, []⟩, ⟨3, some 318, .bin .mul (.const (.int .i64 2)) (.tmp 317), none, []⟩, ⟨4, some 319, .mv (.tmp 32), none, []⟩, ⟨5, some 320, .bin .sub (.tmp 318) (.tmp 319), none, []⟩, ⟨6, some 321, .call n_i_MirrorAt [.tmp 315, .tmp 320], none, []⟩, ⟨7, some 314, .mv (.tmp 321), none, []⟩, ⟨8, some 322, .ext (.tmp 314) 0, none, []⟩, ⟨9, some 323, .ext (.tmp 314) 1, none, []⟩, ⟨10, some 37, .mv (.tmp 322), none, []⟩, ⟨11, some 38, .mv (.tmp 323), none, []⟩]))
  (.seq (.keep [31, 32, 33, 34, 35, 36, 37, 38] (.ops [⟨0, some 324, .mv (.tmp 34), none, []⟩, ⟨1, some 325, .mv (.tmp 324), none, []⟩, ⟨2, some 326, .mv (.tmp 36), (some (325, true)), []⟩, ⟨3, some 327, .pick (.tmp 325) (.tmp 326) (.const (.bool false)), none, []⟩, ⟨4, some 328, .mv (.tmp 327), none, []⟩, ⟨5, some 329, .mv (.tmp 38), (some (328, true)), []⟩, ⟨6, some 330, .pick (.tmp 328) (.tmp 329) (.const (.bool false)), none, []⟩, ⟨7, some 331, .mv (.tmp 330), none, []⟩, ⟨8, some 332, .mv (.tmp 33), (some (331, true)), []⟩, ⟨9, some 333, .bin .geq (.tmp 332) (.const (.int .i64 0)), (some (331, true)), []⟩, ⟨10, some 334, .pick (.tmp 331) (.tmp 333) (.const (.bool false)), none, []⟩, ⟨11, some 335, .mv (.tmp 334), none, []⟩, ⟨12, some 336, .mv (.tmp 33), (some (335, true)), []⟩, ⟨13, some 337, .mv (.tmp 31), (some (335, true)), []⟩, ⟨14, some 338, .bin .lss (.tmp 336) (.tmp 337), (some (335, true)), []⟩, ⟨15, some 339, .pick (.tmp 335) (.tmp 338) (.const (.bool false)), none, []⟩, ⟨16, some 340, .mv (.tmp 339), none, []⟩, ⟨17, some 341, .mv (.tmp 35), (some (340, true)), []⟩, ⟨18, some 342, .mv (.tmp 33), (some (340, true)), []⟩, ⟨19, some 343, .bin .eql (.tmp 341) (.tmp 342), (some (340, true)), []⟩, ⟨20, some 344, .pick (.tmp 340) (.tmp 343) (.const (.bool false)), none, []⟩, ⟨21, some 345, .mv (.tmp 344), none, []⟩, ⟨22, some 346, .mv (.tmp 37), (some (345, true)), []⟩, ⟨23, some 347, .mv (.tmp 33), (some (345, true)), []⟩, ⟨24, some 348, .bin .eql (.tmp 346) (.tmp 347), (some (345, true)), []⟩, ⟨25, some 349, .pick (.tmp 345) (.tmp 348) (.const (.bool false)), none, []⟩, ⟨26, some 350, .mv (.tmp 349), none, []⟩, ⟨27, some 351, .mv (.tmp 32), (some (350, true)), []⟩, ⟨28, some 352, .bin .lss (.tmp 351) (.const (.int .i64 0)), (some (350, true)), []⟩, ⟨29, some 353, .mv (.tmp 352), (some (350, true)), []⟩, ⟨30, some 354, .mv (.tmp 32), (some (353, false)), []⟩, ⟨31, some 355, .mv (.tmp 31), (some (353, false)), []⟩, ⟨32, some 356, .bin .geq (.tmp 354) (.tmp 355), (some (353, false)), []⟩, ⟨33, some 357, .pick (.tmp 353) (.const (.bool true)) (.tmp 356), (some (350, true)), []⟩, ⟨34, some 358, .mv (.tmp 357), (some (350, true)), []⟩, ⟨35, some 359, .mv (.tmp 33), (some (358, false)), []⟩, ⟨36, some 360, .mv (.tmp 32), (some (358, false)), []⟩, ⟨37, some 361, .bin .eql (.tmp 359) (.tmp 360), (some (358, false)), []⟩, ⟨38, some 362, .pick (.tmp 358) (.const (.bool true)) (.tmp 361), (some (350, true)), []⟩, ⟨39, some 363, .pick (.tmp 350) (.tmp 362) (.const (.bool false)), none, []⟩, ⟨40, some 4, .mv (.tmp 363), none, []⟩]))
  (.ret)))))))))))))))))))))))))))
theorem k_w_FnWholes : FnOk Try.prog n_w_FnWholes 2 c_w_FnWholes [.tmp 4] := ⟨by kernel_rfl⟩
def c_w_r8Long : ACode :=
  .seq (.ops [⟨0, some 4, .mv (.const (.bool false)), none, []⟩])
  (.seq (.ops [⟨0, some 5, .mv (.tmp 0), none, []⟩, ⟨1, some 6, .len (.tmp 5), none, []⟩, ⟨2, some 7, .bin .gtr (.tmp 6) (.const (.int .i64 48)), none, []⟩, ⟨3, some 8, .mv (.tmp 7), none, []⟩, ⟨4, some 9, .mv (.tmp 1), (some (8, false)), []⟩, ⟨5, some 10, .len (.tmp 9), (some (8, false)), []⟩, ⟨6, some 11, .bin .gtr (.tmp 10) (.const (.int .i64 48)), (some (8, false)), []⟩, ⟨7, some 12, .pick (.tmp 8) (.const (.bool true)) (.tmp 11), none, []⟩, ⟨8, some 4, .mv (.tmp 12), none, []⟩])
  (.ret))
theorem k_w_r8Long : FnOk Try.prog n_w_r8Long 2 c_w_r8Long [.tmp 4] := ⟨by kernel_rfl⟩
def c_s_R8Integers : ACode :=
  .seq (.ops [⟨0, some 2, .mv (.const (.slice none 0 0)), none, []⟩])
  (.seq (.ops [⟨0, some 6, .mv (.tmp 0), none, []⟩, ⟨1, some 7, .call n_s_l00From [.tmp 6], none, []⟩, ⟨2, some 3, .mv (.tmp 7), none, []⟩])
  (.seq (.ops [⟨0, some 8, .bsl 2 0 (.int .i64 0) [], none, []⟩, ⟨1, some 4, .mv (.tmp 8), none, []⟩])
  (.seq (.seq (.keep [3, 4] (.ops [⟨0, some 9, .mv (.tmp 3), none, []⟩, ⟨1, some 10, .call n_s_l00Src_pick [.tmp 9, .const (.int .i64 16)], none, []⟩, ⟨2, some 11, .bin .add (.const (.int .i64 1)) (.tmp 10), none, []⟩, ⟨3, some 5, .mv (.tmp 11), none, []⟩]))
  (.block 0 (.loop [3, 4, 5] (.seq (.seq (.ops [⟨0, some 12, .mv (.tmp 5), none, []⟩, ⟨1, some 13, .bin .gtr (.tmp 12) (.const (.int .i64 0)), none, []⟩])
  (.cond (.tmp 13) (.skip) (.exit 0)))
  (.seq (.block 1 (.ops [⟨0, some 16, .mv (.tmp 4), none, []⟩, ⟨1, some 17, .mv (.tmp 3), none, []⟩, ⟨2, some 18, .call n_s_l00Src_pick [.tmp 17, .const (.int .i64 201)], none, []⟩, ⟨3, some 19, .bin .sub (.tmp 18) (.const (.int .i64 100)), none, []⟩, ⟨4, some 20, .bsl 2 1 (.int .i64 0) [(0, .tmp 19)], none, []⟩, ⟨5, some 21, .app 2 8 (.tmp 16) (.tmp 20), none, []⟩, ⟨6, some 4, .mv (.tmp 21), none, []⟩]))
  (.keep [3, 4, 5] (.ops [⟨0, some 14, .mv (.tmp 5), none, []⟩, ⟨1, some 15, .bin .sub (.tmp 14) (.const (.int .i64 1)), none, []⟩, ⟨2, some 5, .mv (.tmp 15), none, []⟩])))))))
  (.seq (.ops [⟨0, some 22, .mv (.tmp 4), none, []⟩, ⟨1, some 2, .mv (.tmp 22), none, []⟩])
  (.ret)))))
theorem k_s_R8Integers : FnOk Try.prog n_s_R8Integers 1 c_s_R8Integers [.tmp 2] := ⟨by kernel_rfl⟩
def c_w_r8At : ACode :=
  .seq (.ops [⟨0, some 6, .mv (.const (.int .i64 0)), none, []⟩])
  (.seq (.seq (.ops [⟨0, some 7, .mv (.tmp 2), none, []⟩, ⟨1, some 8, .bin .leq (.tmp 7) (.const (.int .i64 1)), none, []⟩, ⟨2, some 9, .mv (.tmp 8), none, []⟩, ⟨3, some 10, .mv (.tmp 1), (some (9, false)), []⟩, ⟨4, some 11, .mv (.tmp 0), (some (9, false)), []⟩, ⟨5, some 12, .len (.tmp 11), (some (9, false)), []⟩, ⟨6, some 13, .bin .geq (.tmp 10) (.tmp 12), (some (9, false)), []⟩, ⟨7, some 14, .pick (.tmp 9) (.const (.bool true)) (.tmp 13), none, []⟩])
  (.cond (.tmp 14) (.seq (.keep [] (.ops [⟨0, some 6, .mv (.const (.int .i64 0)), none, []⟩]))
  (.ret)) (.skip)))
  (.seq (.keep [0, 1, 2] (.ops [⟨0, some 15, .mv (.tmp 0), none, []⟩, ⟨1, some 16, .mv (.tmp 1), none, []⟩, ⟨2, some 17, .ia (.tmp 15) (.tmp 16), none, []⟩, ⟨3, some 18, .ld (.tmp 17), none, []⟩, ⟨4, some 19, .cv (.i .i64) (.tmp 18), none, []⟩, ⟨5, some 20, .mv (.tmp 2), none, []⟩, ⟨6, some 21, .bin .rem (.tmp 19) (.tmp 20), none, []⟩, ⟨7, some 6, .mv (.tmp 21), none, []⟩]))
  (.ret)))
theorem k_w_r8At : FnOk Try.prog n_w_r8At 3 c_w_r8At [.tmp 6] := ⟨by kernel_rfl⟩
def c_i_LiftIntegers : ACode :=
  .seq (.ops [⟨0, some 4, .mv (.const (.slice none 0 0)), none, []⟩, ⟨1, some 5, .mv (.const (.slice none 0 0)), none, []⟩, ⟨2, some 6, .mv (.const (.bool false)), none, []⟩])
  (.seq (.seq (.ops [⟨0, some 9, .mv (.tmp 0), none, []⟩, ⟨1, some 10, .call n_i_within [.tmp 9, .const (.int .i64 0), .const (.int .i64 2)], none, []⟩, ⟨2, some 11, .un .not (.tmp 10), none, []⟩, ⟨3, some 12, .mv (.tmp 11), none, []⟩, ⟨4, some 13, .mv (.tmp 1), (some (12, false)), []⟩, ⟨5, some 14, .call n_i_AreIntegers [.tmp 13], (some (12, false)), []⟩, ⟨6, some 15, .un .not (.tmp 14), (some (12, false)), []⟩, ⟨7, some 16, .pick (.tmp 12) (.const (.bool true)) (.tmp 15), none, []⟩])
  (.cond (.tmp 16) (.seq (.keep [] (.ops [⟨0, some 4, .mv (.const (.slice none 0 0)), none, []⟩, ⟨1, some 5, .mv (.const (.slice none 0 0)), none, []⟩, ⟨2, some 6, .mv (.const (.bool false)), none, []⟩]))
  (.ret)) (.skip)))
  (.seq (.keep [0, 1] (.ops [⟨0, some 18, .mv (.tmp 0), none, []⟩, ⟨1, some 19, .mv (.tmp 1), none, []⟩, ⟨2, some 20, .call n_i_lifted [.tmp 18, .tmp 19], none, []⟩, ⟨3, some 17, .mv (.tmp 20), none, []⟩, ⟨4, some 21, .ext (.tmp 17) 0, none, []⟩, ⟨5, some 22, .ext (.tmp 17) 1, none, []⟩, ⟨6, some 7, .mv (.tmp 21), none, []⟩, ⟨7, some 8, .mv (.tmp 22), none, []⟩]))
  (.seq (.keep [7, 8] (.ops [⟨0, some 23, .mv (.tmp 7), none, []⟩, ⟨1, some 24, .mv (.tmp 8), none, []⟩, ⟨2, some 4, .mv (.tmp 23), none, []⟩, ⟨3, some 5, .mv (.tmp 24), none, []⟩, ⟨4, some 6, .mv (.const (.bool true)), none, []⟩]))
  (.ret))))
theorem k_i_LiftIntegers : FnOk Try.prog n_i_LiftIntegers 2 c_i_LiftIntegers [.tmp 4, .tmp 5, .tmp 6] := ⟨by kernel_rfl⟩
def c_i_DropIntegers : ACode :=
  .seq (.ops [⟨0, some 6, .mv (.const (.slice none 0 0)), none, []⟩, ⟨1, some 7, .mv (.const (.bool false)), none, []⟩])
  (.seq (.ops [⟨0, some 14, .mv (.tmp 1), none, []⟩, ⟨1, some 15, .len (.tmp 14), none, []⟩, ⟨2, some 8, .mv (.tmp 15), none, []⟩])
  (.seq (.seq (.ops [⟨0, some 16, .mv (.tmp 0), none, []⟩, ⟨1, some 17, .call n_i_within [.tmp 16, .const (.int .i64 0), .const (.int .i64 2)], none, []⟩, ⟨2, some 18, .un .not (.tmp 17), none, []⟩, ⟨3, some 19, .mv (.tmp 18), none, []⟩, ⟨4, some 20, .mv (.tmp 8), (some (19, false)), []⟩, ⟨5, some 21, .call n_i_within [.tmp 20, .const (.int .i64 1), .const (.int .i64 64)], (some (19, false)), []⟩, ⟨6, some 22, .un .not (.tmp 21), (some (19, false)), []⟩, ⟨7, some 23, .pick (.tmp 19) (.const (.bool true)) (.tmp 22), none, []⟩, ⟨8, some 24, .mv (.tmp 23), none, []⟩, ⟨9, some 25, .mv (.tmp 2), (some (24, false)), []⟩, ⟨10, some 26, .len (.tmp 25), (some (24, false)), []⟩, ⟨11, some 27, .mv (.tmp 8), (some (24, false)), []⟩, ⟨12, some 28, .bin .neq (.tmp 26) (.tmp 27), (some (24, false)), []⟩, ⟨13, some 29, .mv (.tmp 28), (some (24, false)), []⟩, ⟨14, some 30, .mv (.tmp 2), (some (29, true)), []⟩, ⟨15, some 31, .len (.tmp 30), (some (29, true)), []⟩, ⟨16, some 32, .mv (.tmp 8), (some (29, true)), []⟩, ⟨17, some 33, .bin .sub (.tmp 32) (.const (.int .i64 1)), (some (29, true)), []⟩, ⟨18, some 34, .bin .neq (.tmp 31) (.tmp 33), (some (29, true)), []⟩, ⟨19, some 35, .pick (.tmp 29) (.tmp 34) (.const (.bool false)), (some (24, false)), []⟩, ⟨20, some 36, .pick (.tmp 24) (.const (.bool true)) (.tmp 35), none, []⟩, ⟨21, some 37, .mv (.tmp 36), none, []⟩, ⟨22, some 38, .mv (.tmp 1), (some (37, false)), []⟩, ⟨23, some 39, .call n_i_areWithin [.tmp 38, .const (.int .i64 10000000)], (some (37, false)), []⟩, ⟨24, some 40, .un .not (.tmp 39), (some (37, false)), []⟩, ⟨25, some 41, .pick (.tmp 37) (.const (.bool true)) (.tmp 40), none, []⟩, ⟨26, some 42, .mv (.tmp 41), none, []⟩, ⟨27, some 43, .mv (.tmp 2), (some (42, false)), []⟩, ⟨28, some 44, .call n_i_areWithin [.tmp 43, .const (.int .i64 10000000)], (some (42, false)), []⟩, ⟨29, some 45, .un .not (.tmp 44), (some (42, false)), []⟩, ⟨30, some 46, .pick (.tmp 42) (.const (.bool true)) (.tmp 45), none, []⟩])
  (.cond (.tmp 46) (.seq (.keep [] (.ops [⟨0, some 6, .mv (.const (.slice none 0 0)), none, []⟩, ⟨1, some 7, .mv (.const (.bool false)), none, []⟩]))
  (.ret)) (.skip)))
  (.seq (.keep [0, 1, 2] (.ops [⟨0, some 47, .bsl 2 0 (.int .i64 0) [], none, []⟩, ⟨1, some 48, .mv (.tmp 1), none, []⟩, ⟨2, some 49, .app 2 8 (.tmp 47) (.tmp 48), none, []⟩, ⟨3, some 50, .bsl 2 0 (.int .i64 0) [], none, []⟩, ⟨4, some 51, .mv (.tmp 2), none, []⟩, ⟨5, some 52, .app 2 8 (.tmp 50) (.tmp 51), none, []⟩, ⟨6, some 9, .mv (.tmp 49), none, []⟩, ⟨7, some 10, .mv (.tmp 52), none, []⟩]))
  (.seq (.seq (.keep [0, 9, 10] (.ops [⟨0, some 53, .mv (.tmp 9), none, []⟩, ⟨1, some 54, .len (.tmp 53), none, []⟩, ⟨2, some 55, .mv (.const (.int .i64 0)), none, []⟩]))
  (.block 0 (.loop [0, 9, 10, 54, 55] (.seq (.ops [⟨0, some 56, .bin .lss (.tmp 55) (.tmp 54), none, []⟩])
  (.seq (.cond (.tmp 56) (.skip) (.exit 0))
  (.seq (.block 1 (.seq (.ops [⟨0, some 57, .mv (.tmp 55), none, []⟩, ⟨1, some 11, .mv (.tmp 57), none, []⟩])
  (.ops [⟨0, some 58, .mv (.tmp 9), none, []⟩, ⟨1, some 59, .mv (.tmp 11), none, []⟩, ⟨2, some 60, .ia (.tmp 58) (.tmp 59), none, []⟩, ⟨3, some 61, .ld (.tmp 60), none, []⟩, ⟨4, some 62, .mv (.tmp 0), none, []⟩, ⟨5, some 63, .mv (.tmp 10), none, []⟩, ⟨6, some 64, .mv (.tmp 11), none, []⟩, ⟨7, some 65, .call n_i_evenBy [.tmp 62, .tmp 63, .tmp 64], none, [(some 60, .ia (.tmp 58) (.tmp 59), none), (some 61, .ld (.tmp 60), none)]⟩, ⟨8, some 66, .bin .sub (.tmp 61) (.tmp 65), none, []⟩, ⟨9, some 67, .ia (.tmp 58) (.tmp 59), none, []⟩, ⟨10, none, .st (.tmp 67) (.tmp 66), none, []⟩])))
  (.keep [0, 9, 10, 54, 55] (.ops [⟨0, some 68, .bin .add (.tmp 55) (.const (.int .i64 1)), none, []⟩, ⟨1, some 55, .mv (.tmp 68), none, []⟩]))))))))
  (.seq (.seq (.ops [⟨0, some 69, .mv (.tmp 10), none, []⟩, ⟨1, some 70, .len (.tmp 69), none, []⟩, ⟨2, some 71, .mv (.const (.int .i64 0)), none, []⟩])
  (.block 2 (.loop [0, 9, 10, 70, 71] (.seq (.ops [⟨0, some 72, .bin .lss (.tmp 71) (.tmp 70), none, []⟩])
  (.seq (.cond (.tmp 72) (.skip) (.exit 2))
  (.seq (.block 3 (.seq (.ops [⟨0, some 73, .mv (.tmp 71), none, []⟩, ⟨1, some 12, .mv (.tmp 73), none, []⟩])
  (.ops [⟨0, some 74, .mv (.tmp 10), none, []⟩, ⟨1, some 75, .mv (.tmp 12), none, []⟩, ⟨2, some 76, .ia (.tmp 74) (.tmp 75), none, []⟩, ⟨3, some 77, .ld (.tmp 76), none, []⟩, ⟨4, some 78, .mv (.tmp 0), none, []⟩, ⟨5, some 79, .mv (.tmp 9), none, []⟩, ⟨6, some 80, .mv (.tmp 12), none, []⟩, ⟨7, some 81, .call n_i_oddBy [.tmp 78, .tmp 79, .tmp 80], none, [(some 76, .ia (.tmp 74) (.tmp 75), none), (some 77, .ld (.tmp 76), none)]⟩, ⟨8, some 82, .bin .add (.tmp 77) (.tmp 81), none, []⟩, ⟨9, some 83, .ia (.tmp 74) (.tmp 75), none, []⟩, ⟨10, none, .st (.tmp 83) (.tmp 82), none, []⟩])))
  (.keep [0, 9, 10, 70, 71] (.ops [⟨0, some 84, .bin .add (.tmp 71) (.const (.int .i64 1)), none, []⟩, ⟨1, some 71, .mv (.tmp 84), none, []⟩]))))))))
  (.seq (.ops [⟨0, some 85, .mv (.tmp 9), none, []⟩, ⟨1, some 86, .mv (.tmp 10), none, []⟩, ⟨2, some 87, .call n_i_woven_int64_ [.tmp 85, .tmp 86], none, []⟩, ⟨3, some 13, .mv (.tmp 87), none, []⟩])
  (.seq (.seq (.keep [13] (.ops [⟨0, some 88, .mv (.tmp 13), none, []⟩, ⟨1, some 89, .call n_i_AreIntegers [.tmp 88], none, []⟩, ⟨2, some 90, .un .not (.tmp 89), none, []⟩]))
  (.cond (.tmp 90) (.seq (.ops [⟨0, some 6, .mv (.const (.slice none 0 0)), none, []⟩, ⟨1, some 7, .mv (.const (.bool false)), none, []⟩])
  (.ret)) (.skip)))
  (.seq (.ops [⟨0, some 91, .mv (.tmp 13), none, []⟩, ⟨1, some 6, .mv (.tmp 91), none, []⟩, ⟨2, some 7, .mv (.const (.bool true)), none, []⟩])
  (.ret)))))))))
theorem k_i_DropIntegers : FnOk Try.prog n_i_DropIntegers 3 c_i_DropIntegers [.tmp 6, .tmp 7] := ⟨by kernel_rfl⟩
def c_i_SplitIntegers : ACode :=
  .seq (.ops [⟨0, some 2, .mv (.const (.slice none 0 0)), none, []⟩, ⟨1, some 3, .mv (.const (.slice none 0 0)), none, []⟩, ⟨2, some 4, .mv (.const (.bool false)), none, []⟩])
  (.seq (.seq (.ops [⟨0, some 7, .mv (.tmp 0), none, []⟩, ⟨1, some 8, .call n_i_AreIntegers [.tmp 7], none, []⟩, ⟨2, some 9, .un .not (.tmp 8), none, []⟩])
  (.cond (.tmp 9) (.seq (.keep [] (.ops [⟨0, some 2, .mv (.const (.slice none 0 0)), none, []⟩, ⟨1, some 3, .mv (.const (.slice none 0 0)), none, []⟩, ⟨2, some 4, .mv (.const (.bool false)), none, []⟩]))
  (.ret)) (.skip)))
  (.seq (.keep [0] (.ops [⟨0, some 11, .mv (.tmp 0), none, []⟩, ⟨1, some 12, .call n_i_split_int64_ [.tmp 11], none, []⟩, ⟨2, some 10, .mv (.tmp 12), none, []⟩, ⟨3, some 13, .ext (.tmp 10) 0, none, []⟩, ⟨4, some 14, .ext (.tmp 10) 1, none, []⟩, ⟨5, some 5, .mv (.tmp 13), none, []⟩, ⟨6, some 6, .mv (.tmp 14), none, []⟩]))
  (.seq (.keep [5, 6] (.ops [⟨0, some 15, .mv (.tmp 5), none, []⟩, ⟨1, some 16, .mv (.tmp 6), none, []⟩, ⟨2, some 2, .mv (.tmp 15), none, []⟩, ⟨3, some 3, .mv (.tmp 16), none, []⟩, ⟨4, some 4, .mv (.const (.bool true)), none, []⟩]))
  (.ret))))
theorem k_i_SplitIntegers : FnOk Try.prog n_i_SplitIntegers 1 c_i_SplitIntegers [.tmp 2, .tmp 3, .tmp 4] := ⟨by kernel_rfl⟩
def c_i_LiftLevels : ACode :=
  .seq (.ops [⟨0, some 6, .mv (.const (.slice none 0 0)), none, []⟩, ⟨1, some 7, .mv (.const (.bool false)), none, []⟩])
  (.seq (.seq (.ops [⟨0, some 13, .mv (.tmp 0), none, []⟩, ⟨1, some 14, .call n_i_within [.tmp 13, .const (.int .i64 0), .const (.int .i64 2)], none, []⟩, ⟨2, some 15, .un .not (.tmp 14), none, []⟩, ⟨3, some 16, .mv (.tmp 15), none, []⟩, ⟨4, some 17, .mv (.tmp 1), (some (16, false)), []⟩, ⟨5, some 18, .call n_i_AreIntegers [.tmp 17], (some (16, false)), []⟩, ⟨6, some 19, .un .not (.tmp 18), (some (16, false)), []⟩, ⟨7, some 20, .pick (.tmp 16) (.const (.bool true)) (.tmp 19), none, []⟩, ⟨8, some 21, .mv (.tmp 20), none, []⟩, ⟨9, some 22, .mv (.tmp 2), (some (21, false)), []⟩, ⟨10, some 23, .call n_i_within [.tmp 22, .const (.int .i64 1), .const (.int .i64 6)], (some (21, false)), []⟩, ⟨11, some 24, .un .not (.tmp 23), (some (21, false)), []⟩, ⟨12, some 25, .pick (.tmp 21) (.const (.bool true)) (.tmp 24), none, []⟩])
  (.cond (.tmp 25) (.seq (.keep [] (.ops [⟨0, some 6, .mv (.const (.slice none 0 0)), none, []⟩, ⟨1, some 7, .mv (.const (.bool false)), none, []⟩]))
  (.ret)) (.skip)))
  (.seq (.keep [0, 1, 2] (.ops [⟨0, some 26, .bsl 55 0 (.slice none 0 0) [], none, []⟩, ⟨1, some 27, .bsl 2 0 (.int .i64 0) [], none, []⟩, ⟨2, some 28, .mv (.tmp 1), none, []⟩, ⟨3, some 29, .app 2 8 (.tmp 27) (.tmp 28), none, []⟩, ⟨4, some 8, .mv (.tmp 26), none, []⟩, ⟨5, some 9, .mv (.tmp 29), none, []⟩]))
  (.seq (.seq (.keep [0, 2, 8, 9] (.ops [⟨0, some 10, .mv (.const (.int .i64 0)), none, []⟩]))
  (.block 0 (.loop [0, 2, 8, 9, 10] (.seq (.seq (.ops [⟨0, some 30, .mv (.tmp 10), none, []⟩, ⟨1, some 31, .mv (.tmp 2), none, []⟩, ⟨2, some 32, .bin .lss (.tmp 30) (.tmp 31), none, []⟩, ⟨3, some 33, .mv (.tmp 32), none, []⟩, ⟨4, some 34, .mv (.tmp 9), (some (33, true)), []⟩, ⟨5, some 35, .len (.tmp 34), (some (33, true)), []⟩, ⟨6, some 36, .bin .gtr (.tmp 35) (.const (.int .i64 1)), (some (33, true)), []⟩, ⟨7, some 37, .pick (.tmp 33) (.tmp 36) (.const (.bool false)), none, []⟩])
  (.cond (.tmp 37) (.skip) (.exit 0)))
  (.seq (.block 1 (.seq (.keep [0, 2, 8, 9, 10] (.ops [⟨0, some 41, .mv (.tmp 0), none, []⟩, ⟨1, some 42, .mv (.tmp 9), none, []⟩, ⟨2, some 43, .call n_i_lifted [.tmp 41, .tmp 42], none, []⟩, ⟨3, some 40, .mv (.tmp 43), none, []⟩, ⟨4, some 44, .ext (.tmp 40) 0, none, []⟩, ⟨5, some 45, .ext (.tmp 40) 1, none, []⟩, ⟨6, some 11, .mv (.tmp 44), none, []⟩, ⟨7, some 12, .mv (.tmp 45), none, []⟩]))
  (.seq (.keep [0, 2, 8, 10, 11, 12] (.ops [⟨0, some 46, .mv (.tmp 8), none, []⟩, ⟨1, some 47, .mv (.tmp 12), none, []⟩, ⟨2, some 48, .bsl 55 1 (.slice none 0 0) [(0, .tmp 47)], none, []⟩, ⟨3, some 49, .app 55 24 (.tmp 46) (.tmp 48), none, []⟩, ⟨4, some 8, .mv (.tmp 49), none, []⟩]))
  (.keep [0, 2, 8, 10, 11] (.ops [⟨0, some 50, .mv (.tmp 11), none, []⟩, ⟨1, some 9, .mv (.tmp 50), none, []⟩])))))
  (.ops [⟨0, some 38, .mv (.tmp 10), none, []⟩, ⟨1, some 39, .bin .add (.tmp 38) (.const (.int .i64 1)), none, []⟩, ⟨2, some 10, .mv (.tmp 39), none, []⟩]))))))
  (.seq (.keep [8, 9] (.ops [⟨0, some 51, .mv (.tmp 8), none, []⟩, ⟨1, some 52, .mv (.tmp 9), none, []⟩, ⟨2, some 53, .bsl 55 1 (.slice none 0 0) [(0, .tmp 52)], none, []⟩, ⟨3, some 54, .app 55 24 (.tmp 51) (.tmp 53), none, []⟩, ⟨4, some 6, .mv (.tmp 54), none, []⟩, ⟨5, some 7, .mv (.const (.bool true)), none, []⟩]))
  (.ret)))))
theorem k_i_LiftLevels : FnOk Try.prog n_i_LiftLevels 3 c_i_LiftLevels [.tmp 6, .tmp 7] := ⟨by kernel_rfl⟩
def c_i_DropLevels : ACode :=
  .seq (.ops [⟨0, some 4, .mv (.const (.slice none 0 0)), none, []⟩, ⟨1, some 5, .mv (.const (.bool false)), none, []⟩])
  (.seq (.seq (.ops [⟨0, some 10, .mv (.tmp 0), none, []⟩, ⟨1, some 11, .call n_i_within [.tmp 10, .const (.int .i64 0), .const (.int .i64 2)], none, []⟩, ⟨2, some 12, .un .not (.tmp 11), none, []⟩, ⟨3, some 13, .mv (.tmp 12), none, []⟩, ⟨4, some 14, .mv (.tmp 1), (some (13, false)), []⟩, ⟨5, some 15, .call n_i_sizesOf_int64_ [.tmp 14], (some (13, false)), []⟩, ⟨6, some 16, .call n_i_areSizes [.tmp 15], (some (13, false)), []⟩, ⟨7, some 17, .un .not (.tmp 16), (some (13, false)), []⟩, ⟨8, some 18, .pick (.tmp 13) (.const (.bool true)) (.tmp 17), none, []⟩])
  (.cond (.tmp 18) (.seq (.keep [] (.ops [⟨0, some 4, .mv (.const (.slice none 0 0)), none, []⟩, ⟨1, some 5, .mv (.const (.bool false)), none, []⟩]))
  (.ret)) (.skip)))
  (.seq (.keep [0, 1] (.ops [⟨0, some 19, .bsl 2 0 (.int .i64 0) [], none, []⟩, ⟨1, some 20, .mv (.tmp 1), none, []⟩, ⟨2, some 21, .mv (.tmp 1), none, []⟩, ⟨3, some 22, .len (.tmp 21), none, []⟩, ⟨4, some 23, .bin .sub (.tmp 22) (.const (.int .i64 1)), none, []⟩, ⟨5, some 24, .ia (.tmp 20) (.tmp 23), none, []⟩, ⟨6, some 25, .ld (.tmp 24), none, []⟩, ⟨7, some 26, .app 2 8 (.tmp 19) (.tmp 25), none, []⟩, ⟨8, some 6, .mv (.tmp 26), none, []⟩]))
  (.seq (.seq (.keep [0, 1, 6] (.ops [⟨0, some 27, .mv (.tmp 1), none, []⟩, ⟨1, some 28, .len (.tmp 27), none, []⟩, ⟨2, some 29, .bin .sub (.tmp 28) (.const (.int .i64 2)), none, []⟩, ⟨3, some 7, .mv (.tmp 29), none, []⟩]))
  (.block 0 (.loop [0, 1, 6, 7] (.seq (.seq (.ops [⟨0, some 30, .mv (.tmp 7), none, []⟩, ⟨1, some 31, .bin .geq (.tmp 30) (.const (.int .i64 0)), none, []⟩])
  (.cond (.tmp 31) (.skip) (.exit 0)))
  (.seq (.block 1 (.seq (.ops [⟨0, some 35, .mv (.tmp 0), none, []⟩, ⟨1, some 36, .mv (.tmp 6), none, []⟩, ⟨2, some 37, .mv (.tmp 1), none, []⟩, ⟨3, some 38, .mv (.tmp 7), none, []⟩, ⟨4, some 39, .ia (.tmp 37) (.tmp 38), none, []⟩, ⟨5, some 40, .ld (.tmp 39), none, []⟩, ⟨6, some 41, .call n_i_DropIntegers [.tmp 35, .tmp 36, .tmp 40], none, []⟩, ⟨7, some 34, .mv (.tmp 41), none, []⟩, ⟨8, some 42, .ext (.tmp 34) 0, none, []⟩, ⟨9, some 43, .ext (.tmp 34) 1, none, []⟩, ⟨10, some 8, .mv (.tmp 42), none, []⟩, ⟨11, some 9, .mv (.tmp 43), none, []⟩])
  (.seq (.seq (.keep [0, 1, 7, 8, 9] (.ops [⟨0, some 44, .mv (.tmp 9), none, []⟩, ⟨1, some 45, .un .not (.tmp 44), none, []⟩]))
  (.cond (.tmp 45) (.seq (.keep [] (.ops [⟨0, some 4, .mv (.const (.slice none 0 0)), none, []⟩, ⟨1, some 5, .mv (.const (.bool false)), none, []⟩]))
  (.ret)) (.skip)))
  (.ops [⟨0, some 46, .mv (.tmp 8), none, []⟩, ⟨1, some 6, .mv (.tmp 46), none, []⟩]))))
  (.keep [0, 1, 6, 7] (.ops [⟨0, some 32, .mv (.tmp 7), none, []⟩, ⟨1, some 33, .bin .sub (.tmp 32) (.const (.int .i64 1)), none, []⟩, ⟨2, some 7, .mv (.tmp 33), none, []⟩])))))))
  (.seq (.seq (.keep [6] (.ops [⟨0, some 47, .mv (.tmp 6), none, []⟩, ⟨1, some 48, .call n_i_AreIntegers [.tmp 47], none, []⟩, ⟨2, some 49, .un .not (.tmp 48), none, []⟩]))
  (.cond (.tmp 49) (.seq (.ops [⟨0, some 4, .mv (.const (.slice none 0 0)), none, []⟩, ⟨1, some 5, .mv (.const (.bool false)), none, []⟩])
  (.ret)) (.skip)))
  (.seq (.ops [⟨0, some 50, .mv (.tmp 6), none, []⟩, ⟨1, some 4, .mv (.tmp 50), none, []⟩, ⟨2, some 5, .mv (.const (.bool true)), none, []⟩])
  (.ret))))))
theorem k_i_DropLevels : FnOk Try.prog n_i_DropLevels 2 c_i_DropLevels [.tmp 4, .tmp 5] := ⟨by kernel_rfl⟩
def c_i_BandSizes : ACode :=
  .seq (.ops [⟨0, some 4, .mv (.const (.slice none 0 0)), none, []⟩, ⟨1, some 5, .mv (.const (.bool false)), none, []⟩])
  (.seq (.seq (.ops [⟨0, some 8, .mv (.tmp 0), none, []⟩, ⟨1, some 9, .call n_i_within [.tmp 8, .const (.int .i64 1), .const (.int .i64 128)], none, []⟩, ⟨2, some 10, .un .not (.tmp 9), none, []⟩, ⟨3, some 11, .mv (.tmp 10), none, []⟩, ⟨4, some 12, .mv (.tmp 1), (some (11, false)), []⟩, ⟨5, some 13, .call n_i_within [.tmp 12, .const (.int .i64 1), .const (.int .i64 6)], (some (11, false)), []⟩, ⟨6, some 14, .un .not (.tmp 13), (some (11, false)), []⟩, ⟨7, some 15, .pick (.tmp 11) (.const (.bool true)) (.tmp 14), none, []⟩])
  (.cond (.tmp 15) (.seq (.keep [] (.ops [⟨0, some 4, .mv (.const (.slice none 0 0)), none, []⟩, ⟨1, some 5, .mv (.const (.bool false)), none, []⟩]))
  (.ret)) (.skip)))
  (.seq (.keep [0, 1] (.ops [⟨0, some 16, .bsl 2 0 (.int .i64 0) [], none, []⟩, ⟨1, some 6, .mv (.tmp 16), none, []⟩]))
  (.seq (.seq (.ops [⟨0, some 7, .mv (.const (.int .i64 0)), none, []⟩])
  (.block 0 (.loop [0, 1, 6, 7] (.seq (.seq (.ops [⟨0, some 17, .mv (.tmp 7), none, []⟩, ⟨1, some 18, .mv (.tmp 1), none, []⟩, ⟨2, some 19, .bin .lss (.tmp 17) (.tmp 18), none, []⟩, ⟨3, some 20, .mv (.tmp 19), none, []⟩, ⟨4, some 21, .mv (.tmp 0), (some (20, true)), []⟩, ⟨5, some 22, .bin .gtr (.tmp 21) (.const (.int .i64 1)), (some (20, true)), []⟩, ⟨6, some 23, .pick (.tmp 20) (.tmp 22) (.const (.bool false)), none, []⟩])
  (.cond (.tmp 23) (.skip) (.exit 0)))
  (.seq (.block 1 (.seq (.keep [0, 1, 6, 7] (.ops [⟨0, some 26, .mv (.tmp 6), none, []⟩, ⟨1, some 27, .mv (.tmp 0), none, []⟩, ⟨2, some 28, .bin .quo (.tmp 27) (.const (.int .i64 2)), none, []⟩, ⟨3, some 29, .bsl 2 1 (.int .i64 0) [(0, .tmp 28)], none, []⟩, ⟨4, some 30, .app 2 8 (.tmp 26) (.tmp 29), none, []⟩, ⟨5, some 6, .mv (.tmp 30), none, []⟩]))
  (.keep [0, 1, 6, 7] (.ops [⟨0, some 31, .mv (.tmp 0), none, []⟩, ⟨1, some 32, .mv (.tmp 0), none, []⟩, ⟨2, some 33, .bin .quo (.tmp 32) (.const (.int .i64 2)), none, []⟩, ⟨3, some 34, .bin .sub (.tmp 31) (.tmp 33), none, []⟩, ⟨4, some 0, .mv (.tmp 34), none, []⟩]))))
  (.ops [⟨0, some 24, .mv (.tmp 7), none, []⟩, ⟨1, some 25, .bin .add (.tmp 24) (.const (.int .i64 1)), none, []⟩, ⟨2, some 7, .mv (.tmp 25), none, []⟩]))))))
  (.seq (.keep [0, 6] (.ops [⟨0, some 35, .mv (.tmp 6), none, []⟩, ⟨1, some 36, .mv (.tmp 0), none, []⟩, ⟨2, some 37, .bsl 2 1 (.int .i64 0) [(0, .tmp 36)], none, []⟩, ⟨3, some 38, .app 2 8 (.tmp 35) (.tmp 37), none, []⟩, ⟨4, some 4, .mv (.tmp 38), none, []⟩, ⟨5, some 5, .mv (.const (.bool true)), none, []⟩]))
  (.ret)))))
theorem k_i_BandSizes : FnOk Try.prog n_i_BandSizes 2 c_i_BandSizes [.tmp 4, .tmp 5] := ⟨by kernel_rfl⟩
def c_i_MirrorAt : ACode :=
  .seq (.ops [⟨0, some 4, .mv (.const (.int .i64 0)), none, []⟩, ⟨1, some 5, .mv (.const (.bool false)), none, []⟩])
  (.seq (.seq (.ops [⟨0, some 6, .mv (.tmp 0), none, []⟩, ⟨1, some 7, .call n_i_within [.tmp 6, .const (.int .i64 1), .const (.int .i64 128)], none, []⟩, ⟨2, some 8, .un .not (.tmp 7), none, []⟩, ⟨3, some 9, .mv (.tmp 8), none, []⟩, ⟨4, some 10, .mv (.tmp 1), (some (9, false)), []⟩, ⟨5, some 11, .call n_i_within [.tmp 10, .const (.int .i64 (-1000000)), .const (.int .i64 1000000)], (some (9, false)), []⟩, ⟨6, some 12, .un .not (.tmp 11), (some (9, false)), []⟩, ⟨7, some 13, .pick (.tmp 9) (.const (.bool true)) (.tmp 12), none, []⟩])
  (.cond (.tmp 13) (.seq (.keep [] (.ops [⟨0, some 4, .mv (.const (.int .i64 0)), none, []⟩, ⟨1, some 5, .mv (.const (.bool false)), none, []⟩]))
  (.ret)) (.skip)))
  (.seq (.keep [0, 1] (.ops [⟨0, some 14, .mv (.tmp 0), none, []⟩, ⟨1, some 15, .mv (.tmp 1), none, []⟩, ⟨2, some 16, .call n_i_mirrored [.tmp 14, .tmp 15], none, []⟩, ⟨3, some 4, .mv (.tmp 16), none, []⟩, ⟨4, some 5, .mv (.const (.bool true)), none, []⟩]))
  (.ret)))
theorem k_i_MirrorAt : FnOk Try.prog n_i_MirrorAt 2 c_i_MirrorAt [.tmp 4, .tmp 5] := ⟨by kernel_rfl⟩
def c_s_l00From : ACode :=
  .seq (.ops [⟨0, some 2, .mv (.const (.pointer none)), none, []⟩])
  (.seq (.ops [⟨0, some 3, .mv (.tmp 0), none, []⟩, ⟨1, some 4, .bld [.slice none 0 0, .int .i64 0, .int .u64 0] [(0, 1, .tmp 3)], none, []⟩, ⟨2, some 5, .box 140 (.tmp 4), none, []⟩, ⟨3, some 2, .mv (.tmp 5), none, []⟩])
  (.ret))
theorem k_s_l00From : FnOk Try.prog n_s_l00From 1 c_s_l00From [.tmp 2] := ⟨by kernel_rfl⟩
def c_s_l00Src_pick : ACode :=
  .seq (.ops [⟨0, some 4, .mv (.const (.int .i64 0)), none, []⟩])
  (.seq (.seq (.ops [⟨0, some 6, .mv (.tmp 1), none, []⟩, ⟨1, some 7, .bin .leq (.tmp 6) (.const (.int .i64 1)), none, []⟩])
  (.cond (.tmp 7) (.seq (.keep [] (.ops [⟨0, some 4, .mv (.const (.int .i64 0)), none, []⟩]))
  (.ret)) (.skip)))
  (.seq (.ops [⟨0, some 8, .mv (.tmp 0), none, []⟩, ⟨1, some 9, .call n_s_l00Src_next [.tmp 8], none, []⟩, ⟨2, some 5, .mv (.tmp 9), none, []⟩])
  (.seq (.seq (.keep [0, 1, 5] (.ops [⟨0, some 10, .mv (.tmp 1), none, []⟩, ⟨1, some 11, .bin .gtr (.tmp 10) (.const (.int .i64 200)), none, []⟩]))
  (.cond (.tmp 11) (.ops [⟨0, some 12, .mv (.tmp 5), none, []⟩, ⟨1, some 13, .bin .mul (.tmp 12) (.const (.int .i64 256)), none, []⟩, ⟨2, some 14, .mv (.tmp 0), none, []⟩, ⟨3, some 15, .call n_s_l00Src_next [.tmp 14], none, []⟩, ⟨4, some 16, .bin .add (.tmp 13) (.tmp 15), none, []⟩, ⟨5, some 5, .mv (.tmp 16), none, []⟩]) (.skip)))
  (.seq (.keep [1, 5] (.ops [⟨0, some 17, .mv (.tmp 5), none, []⟩, ⟨1, some 18, .mv (.tmp 1), none, []⟩, ⟨2, some 19, .bin .rem (.tmp 17) (.tmp 18), none, []⟩, ⟨3, some 4, .mv (.tmp 19), none, []⟩]))
  (.ret)))))
theorem k_s_l00Src_pick : FnOk Try.prog n_s_l00Src_pick 2 c_s_l00Src_pick [.tmp 4] := ⟨by kernel_rfl⟩
def c_i_within : ACode :=
  .seq (.ops [⟨0, some 6, .mv (.const (.bool false)), none, []⟩])
  (.seq (.ops [⟨0, some 7, .mv (.tmp 0), none, []⟩, ⟨1, some 8, .mv (.tmp 1), none, []⟩, ⟨2, some 9, .bin .geq (.tmp 7) (.tmp 8), none, []⟩, ⟨3, some 10, .mv (.tmp 9), none, []⟩, ⟨4, some 11, .mv (.tmp 0), (some (10, true)), []⟩, ⟨5, some 12, .mv (.tmp 2), (some (10, true)), []⟩, ⟨6, some 13, .bin .leq (.tmp 11) (.tmp 12), (some (10, true)), []⟩, ⟨7, some 14, .pick (.tmp 10) (.tmp 13) (.const (.bool false)), none, []⟩, ⟨8, some 6, .mv (.tmp 14), none, []⟩])
  (.ret))
theorem k_i_within : FnOk Try.prog n_i_within 3 c_i_within [.tmp 6] := ⟨by kernel_rfl⟩
def c_i_AreIntegers : ACode :=
  .seq (.ops [⟨0, some 2, .mv (.const (.bool false)), none, []⟩])
  (.seq (.ops [⟨0, some 3, .mv (.tmp 0), none, []⟩, ⟨1, some 4, .len (.tmp 3), none, []⟩, ⟨2, some 5, .call n_i_within [.tmp 4, .const (.int .i64 1), .const (.int .i64 128)], none, []⟩, ⟨3, some 6, .mv (.tmp 5), none, []⟩, ⟨4, some 7, .mv (.tmp 0), (some (6, true)), []⟩, ⟨5, some 8, .call n_i_areWithin [.tmp 7, .const (.int .i64 1000000)], (some (6, true)), []⟩, ⟨6, some 9, .pick (.tmp 6) (.tmp 8) (.const (.bool false)), none, []⟩, ⟨7, some 2, .mv (.tmp 9), none, []⟩])
  (.ret))
theorem k_i_AreIntegers : FnOk Try.prog n_i_AreIntegers 1 c_i_AreIntegers [.tmp 2] := ⟨by kernel_rfl⟩
def c_i_lifted : ACode :=
  .seq (.ops [⟨0, some 4, .mv (.const (.slice none 0 0)), none, []⟩, ⟨1, some 5, .mv (.const (.slice none 0 0)), none, []⟩])
  (.seq (.ops [⟨0, some 11, .mv (.tmp 1), none, []⟩, ⟨1, some 12, .call n_i_split_int64_ [.tmp 11], none, []⟩, ⟨2, some 10, .mv (.tmp 12), none, []⟩, ⟨3, some 13, .ext (.tmp 10) 0, none, []⟩, ⟨4, some 14, .ext (.tmp 10) 1, none, []⟩, ⟨5, some 6, .mv (.tmp 13), none, []⟩, ⟨6, some 7, .mv (.tmp 14), none, []⟩])
  (.seq (.seq (.keep [0, 6, 7] (.ops [⟨0, some 15, .mv (.tmp 7), none, []⟩, ⟨1, some 16, .len (.tmp 15), none, []⟩, ⟨2, some 17, .mv (.const (.int .i64 0)), none, []⟩]))
  (.block 0 (.loop [0, 6, 7, 16, 17] (.seq (.ops [⟨0, some 18, .bin .lss (.tmp 17) (.tmp 16), none, []⟩])
  (.seq (.cond (.tmp 18) (.skip) (.exit 0))
  (.seq (.block 1 (.seq (.ops [⟨0, some 19, .mv (.tmp 17), none, []⟩, ⟨1, some 8, .mv (.tmp 19), none, []⟩])
  (.ops [⟨0, some 20, .mv (.tmp 7), none, []⟩, ⟨1, some 21, .mv (.tmp 8), none, []⟩, ⟨2, some 22, .ia (.tmp 20) (.tmp 21), none, []⟩, ⟨3, some 23, .ld (.tmp 22), none, []⟩, ⟨4, some 24, .mv (.tmp 0), none, []⟩, ⟨5, some 25, .mv (.tmp 6), none, []⟩, ⟨6, some 26, .mv (.tmp 8), none, []⟩, ⟨7, some 27, .call n_i_oddBy [.tmp 24, .tmp 25, .tmp 26], none, [(some 22, .ia (.tmp 20) (.tmp 21), none), (some 23, .ld (.tmp 22), none)]⟩, ⟨8, some 28, .bin .sub (.tmp 23) (.tmp 27), none, []⟩, ⟨9, some 29, .ia (.tmp 20) (.tmp 21), none, []⟩, ⟨10, none, .st (.tmp 29) (.tmp 28), none, []⟩])))
  (.keep [0, 6, 7, 16, 17] (.ops [⟨0, some 30, .bin .add (.tmp 17) (.const (.int .i64 1)), none, []⟩, ⟨1, some 17, .mv (.tmp 30), none, []⟩]))))))))
  (.seq (.seq (.ops [⟨0, some 31, .mv (.tmp 6), none, []⟩, ⟨1, some 32, .len (.tmp 31), none, []⟩, ⟨2, some 33, .mv (.const (.int .i64 0)), none, []⟩])
  (.block 2 (.loop [0, 6, 7, 32, 33] (.seq (.ops [⟨0, some 34, .bin .lss (.tmp 33) (.tmp 32), none, []⟩])
  (.seq (.cond (.tmp 34) (.skip) (.exit 2))
  (.seq (.block 3 (.seq (.ops [⟨0, some 35, .mv (.tmp 33), none, []⟩, ⟨1, some 9, .mv (.tmp 35), none, []⟩])
  (.ops [⟨0, some 36, .mv (.tmp 6), none, []⟩, ⟨1, some 37, .mv (.tmp 9), none, []⟩, ⟨2, some 38, .ia (.tmp 36) (.tmp 37), none, []⟩, ⟨3, some 39, .ld (.tmp 38), none, []⟩, ⟨4, some 40, .mv (.tmp 0), none, []⟩, ⟨5, some 41, .mv (.tmp 7), none, []⟩, ⟨6, some 42, .mv (.tmp 9), none, []⟩, ⟨7, some 43, .call n_i_evenBy [.tmp 40, .tmp 41, .tmp 42], none, [(some 38, .ia (.tmp 36) (.tmp 37), none), (some 39, .ld (.tmp 38), none)]⟩, ⟨8, some 44, .bin .add (.tmp 39) (.tmp 43), none, []⟩, ⟨9, some 45, .ia (.tmp 36) (.tmp 37), none, []⟩, ⟨10, none, .st (.tmp 45) (.tmp 44), none, []⟩])))
  (.keep [0, 6, 7, 32, 33] (.ops [⟨0, some 46, .bin .add (.tmp 33) (.const (.int .i64 1)), none, []⟩, ⟨1, some 33, .mv (.tmp 46), none, []⟩]))))))))
  (.seq (.ops [⟨0, some 47, .mv (.tmp 6), none, []⟩, ⟨1, some 48, .mv (.tmp 7), none, []⟩, ⟨2, some 4, .mv (.tmp 47), none, []⟩, ⟨3, some 5, .mv (.tmp 48), none, []⟩])
  (.ret)))))
theorem k_i_lifted : FnOk Try.prog n_i_lifted 2 c_i_lifted [.tmp 4, .tmp 5] := ⟨by kernel_rfl⟩
def c_i_areWithin : ACode :=
  .seq (.ops [⟨0, some 4, .mv (.const (.bool false)), none, []⟩])
  (.seq (.seq (.ops [⟨0, some 7, .mv (.tmp 0), none, []⟩, ⟨1, some 8, .len (.tmp 7), none, []⟩, ⟨2, some 9, .mv (.const (.int .i64 0)), none, []⟩])
  (.block 0 (.loop [1, 7, 8, 9] (.seq (.ops [⟨0, some 10, .bin .lss (.tmp 9) (.tmp 8), none, []⟩])
  (.seq (.cond (.tmp 10) (.skip) (.exit 0))
  (.seq (.block 1 (.seq (.ops [⟨0, some 11, .ia (.tmp 7) (.tmp 9), none, []⟩, ⟨1, some 12, .ld (.tmp 11), none, []⟩, ⟨2, some 6, .mv (.tmp 12), none, []⟩])
  (.seq (.ops [⟨0, some 13, .mv (.tmp 6), none, []⟩, ⟨1, some 14, .mv (.tmp 1), none, []⟩, ⟨2, some 15, .un .neg (.tmp 14), none, []⟩, ⟨3, some 16, .mv (.tmp 1), none, []⟩, ⟨4, some 17, .call n_i_within [.tmp 13, .tmp 15, .tmp 16], none, []⟩, ⟨5, some 18, .un .not (.tmp 17), none, []⟩])
  (.cond (.tmp 18) (.seq (.keep [] (.ops [⟨0, some 4, .mv (.const (.bool false)), none, []⟩]))
  (.ret)) (.skip)))))
  (.keep [1, 7, 8, 9] (.ops [⟨0, some 19, .bin .add (.tmp 9) (.const (.int .i64 1)), none, []⟩, ⟨1, some 9, .mv (.tmp 19), none, []⟩]))))))))
  (.seq (.keep [] (.ops [⟨0, some 4, .mv (.const (.bool true)), none, []⟩]))
  (.ret)))
theorem k_i_areWithin : FnOk Try.prog n_i_areWithin 2 c_i_areWithin [.tmp 4] := ⟨by kernel_rfl⟩
def c_i_evenBy : ACode :=
  .seq (.ops [⟨0, some 6, .mv (.const (.int .i64 0)), none, []⟩])
  (.seq (.seq (.ops [⟨0, some 9, .mv (.tmp 0), none, []⟩, ⟨1, some 10, .bin .eql (.tmp 9) (.const (.int .i64 0)), none, []⟩])
  (.cond (.tmp 10) (.seq (.seq (.ops [⟨0, some 11, .mv (.tmp 2), none, []⟩, ⟨1, some 12, .mv (.tmp 1), none, []⟩, ⟨2, some 13, .len (.tmp 12), none, []⟩, ⟨3, some 14, .bin .lss (.tmp 11) (.tmp 13), none, []⟩])
  (.cond (.tmp 14) (.seq (.keep [1, 2] (.ops [⟨0, some 15, .mv (.tmp 1), none, []⟩, ⟨1, some 16, .mv (.tmp 2), none, []⟩, ⟨2, some 17, .ia (.tmp 15) (.tmp 16), none, []⟩, ⟨3, some 18, .ld (.tmp 17), none, []⟩, ⟨4, some 19, .call n_i_below [.tmp 18, .const (.int .i64 2)], none, []⟩, ⟨5, some 6, .mv (.tmp 19), none, []⟩]))
  (.ret)) (.skip)))
  (.seq (.keep [] (.ops [⟨0, some 6, .mv (.const (.int .i64 0)), none, []⟩]))
  (.ret))) (.skip)))
  (.seq (.seq (.ops [⟨0, some 20, .mv (.tmp 1), none, []⟩, ⟨1, some 21, .len (.tmp 20), none, []⟩, ⟨2, some 22, .bin .eql (.tmp 21) (.const (.int .i64 0)), none, []⟩])
  (.cond (.tmp 22) (.seq (.keep [] (.ops [⟨0, some 6, .mv (.const (.int .i64 0)), none, []⟩]))
  (.ret)) (.skip)))
  (.seq (.keep [1, 2] (.ops [⟨0, some 24, .mv (.tmp 1), none, []⟩, ⟨1, some 25, .mv (.tmp 2), none, []⟩, ⟨2, some 26, .call n_i_besideEven_int64_ [.tmp 24, .tmp 25], none, []⟩, ⟨3, some 23, .mv (.tmp 26), none, []⟩, ⟨4, some 27, .ext (.tmp 23) 0, none, []⟩, ⟨5, some 28, .ext (.tmp 23) 1, none, []⟩, ⟨6, some 7, .mv (.tmp 27), none, []⟩, ⟨7, some 8, .mv (.tmp 28), none, []⟩]))
  (.seq (.keep [7, 8] (.ops [⟨0, some 29, .mv (.tmp 7), none, []⟩, ⟨1, some 30, .mv (.tmp 8), none, []⟩, ⟨2, some 31, .bin .add (.tmp 29) (.tmp 30), none, []⟩, ⟨3, some 32, .bin .add (.tmp 31) (.const (.int .i64 2)), none, []⟩, ⟨4, some 33, .call n_i_below [.tmp 32, .const (.int .i64 4)], none, []⟩, ⟨5, some 6, .mv (.tmp 33), none, []⟩]))
  (.ret)))))
theorem k_i_evenBy : FnOk Try.prog n_i_evenBy 3 c_i_evenBy [.tmp 6] := ⟨by kernel_rfl⟩
def c_i_oddBy : ACode :=
  .seq (.ops [⟨0, some 4, .box 55 (.tmp 1), none, []⟩, ⟨1, some 6, .mv (.const (.int .i64 0)), none, []⟩])
  (.seq (.seq (.ops [⟨0, some 10, .mv (.tmp 0), none, []⟩])
  (.block 0 (.seq (.ops [⟨0, some 12, .bin .eql (.tmp 10) (.const (.int .i64 0)), none, []⟩, ⟨1, some 11, .mv (.tmp 12), none, []⟩])
  (.cond (.tmp 11) (.seq (.keep [2, 4] (.ops [⟨0, some 13, .ld (.tmp 4), none, []⟩, ⟨1, some 14, .mv (.tmp 2), none, []⟩, ⟨2, some 15, .ia (.tmp 13) (.tmp 14), none, []⟩, ⟨3, some 16, .ld (.tmp 15), none, []⟩, ⟨4, some 6, .mv (.tmp 16), none, []⟩]))
  (.ret)) (.seq (.keep [2, 4, 10] (.ops [⟨0, some 18, .bin .eql (.tmp 10) (.const (.int .i64 1)), none, []⟩, ⟨1, some 17, .mv (.tmp 18), none, []⟩]))
  (.cond (.tmp 17) (.seq (.ops [⟨0, some 20, .ld (.tmp 4), none, []⟩, ⟨1, some 21, .mv (.tmp 2), none, []⟩, ⟨2, some 22, .call n_i_besideOdd_int64_ [.tmp 20, .tmp 21], none, []⟩, ⟨3, some 19, .mv (.tmp 22), none, []⟩, ⟨4, some 23, .ext (.tmp 19) 0, none, []⟩, ⟨5, some 24, .ext (.tmp 19) 1, none, []⟩, ⟨6, some 7, .mv (.tmp 23), none, []⟩, ⟨7, some 8, .mv (.tmp 24), none, []⟩])
  (.seq (.keep [7, 8] (.ops [⟨0, some 25, .mv (.tmp 7), none, []⟩, ⟨1, some 26, .mv (.tmp 8), none, []⟩, ⟨2, some 27, .bin .add (.tmp 25) (.tmp 26), none, []⟩, ⟨3, some 28, .call n_i_below [.tmp 27, .const (.int .i64 2)], none, []⟩, ⟨4, some 6, .mv (.tmp 28), none, []⟩]))
  (.ret))) (.skip)))))))
  (.seq (.ops [⟨0, some 29, .mkf (.func n_i_oddBy_1) [] [.tmp 4], none, []⟩, ⟨1, some 9, .mv (.tmp 29), none, []⟩])
  (.seq (.keep [2, 9] (.ops [⟨0, some 30, .mv (.tmp 9), none, []⟩, ⟨1, some 31, .mv (.tmp 2), none, []⟩, ⟨2, some 32, .callv (.tmp 30) [.tmp 31], none, []⟩, ⟨3, some 33, .mv (.tmp 9), none, []⟩, ⟨4, some 34, .mv (.tmp 2), none, []⟩, ⟨5, some 35, .bin .add (.tmp 34) (.const (.int .i64 1)), none, []⟩, ⟨6, some 36, .callv (.tmp 33) [.tmp 35], none, []⟩, ⟨7, some 37, .bin .add (.tmp 32) (.tmp 36), none, []⟩, ⟨8, some 38, .bin .mul (.const (.int .i64 9)) (.tmp 37), none, []⟩, ⟨9, some 39, .mv (.tmp 9), none, []⟩, ⟨10, some 40, .mv (.tmp 2), none, []⟩, ⟨11, some 41, .bin .sub (.tmp 40) (.const (.int .i64 1)), none, []⟩, ⟨12, some 42, .callv (.tmp 39) [.tmp 41], none, []⟩, ⟨13, some 43, .mv (.tmp 9), none, []⟩, ⟨14, some 44, .mv (.tmp 2), none, []⟩, ⟨15, some 45, .bin .add (.tmp 44) (.const (.int .i64 2)), none, []⟩, ⟨16, some 46, .callv (.tmp 43) [.tmp 45], none, []⟩, ⟨17, some 47, .bin .add (.tmp 42) (.tmp 46), none, []⟩, ⟨18, some 48, .bin .sub (.tmp 38) (.tmp 47), none, []⟩, ⟨19, some 49, .bin .add (.tmp 48) (.const (.int .i64 8)), none, []⟩, ⟨20, some 50, .call n_i_below [.tmp 49, .const (.int .i64 16)], none, []⟩, ⟨21, some 6, .mv (.tmp 50), none, []⟩]))
  (.ret))))
theorem k_i_oddBy : FnOk Try.prog n_i_oddBy 3 c_i_oddBy [.tmp 6] := ⟨by kernel_rfl⟩
def c_i_woven_int64_ : ACode :=
  .seq (.ops [⟨0, some 4, .mv (.const (.slice none 0 0)), none, []⟩])
  (.seq (.ops [⟨0, some 8, .bsl 2 0 (.int .i64 0) [], none, []⟩, ⟨1, some 5, .mv (.tmp 8), none, []⟩])
  (.seq (.seq (.ops [⟨0, some 9, .mv (.tmp 0), none, []⟩, ⟨1, some 10, .len (.tmp 9), none, []⟩, ⟨2, some 11, .mv (.const (.int .i64 0)), none, []⟩])
  (.block 0 (.loop [1, 5, 9, 10, 11] (.seq (.ops [⟨0, some 12, .bin .lss (.tmp 11) (.tmp 10), none, []⟩])
  (.seq (.cond (.tmp 12) (.skip) (.exit 0))
  (.seq (.block 1 (.seq (.ops [⟨0, some 13, .mv (.tmp 11), none, []⟩, ⟨1, some 14, .ia (.tmp 9) (.tmp 11), none, []⟩, ⟨2, some 15, .ld (.tmp 14), none, []⟩, ⟨3, some 6, .mv (.tmp 13), none, []⟩, ⟨4, some 7, .mv (.tmp 15), none, []⟩])
  (.seq (.ops [⟨0, some 16, .mv (.tmp 5), none, []⟩, ⟨1, some 17, .mv (.tmp 7), none, []⟩, ⟨2, some 18, .bsl 2 1 (.int .i64 0) [(0, .tmp 17)], none, []⟩, ⟨3, some 19, .app 2 8 (.tmp 16) (.tmp 18), none, []⟩, ⟨4, some 5, .mv (.tmp 19), none, []⟩])
  (.seq (.keep [1, 5, 6, 9, 10, 11] (.ops [⟨0, some 20, .mv (.tmp 6), none, []⟩, ⟨1, some 21, .mv (.tmp 1), none, []⟩, ⟨2, some 22, .len (.tmp 21), none, []⟩, ⟨3, some 23, .bin .lss (.tmp 20) (.tmp 22), none, []⟩]))
  (.cond (.tmp 23) (.ops [⟨0, some 24, .mv (.tmp 5), none, []⟩, ⟨1, some 25, .mv (.tmp 1), none, []⟩, ⟨2, some 26, .mv (.tmp 6), none, []⟩, ⟨3, some 27, .ia (.tmp 25) (.tmp 26), none, []⟩, ⟨4, some 28, .ld (.tmp 27), none, []⟩, ⟨5, some 29, .bsl 2 1 (.int .i64 0) [(0, .tmp 28)], none, []⟩, ⟨6, some 30, .app 2 8 (.tmp 24) (.tmp 29), none, []⟩, ⟨7, some 5, .mv (.tmp 30), none, []⟩]) (.skip))))))
  (.keep [1, 5, 9, 10, 11] (.ops [⟨0, some 31, .bin .add (.tmp 11) (.const (.int .i64 1)), none, []⟩, ⟨1, some 11, .mv (.tmp 31), none, []⟩]))))))))
  (.seq (.keep [5] (.ops [⟨0, some 32, .mv (.tmp 5), none, []⟩, ⟨1, some 4, .mv (.tmp 32), none, []⟩]))
  (.ret))))
theorem k_i_woven_int64_ : FnOk Try.prog n_i_woven_int64_ 2 c_i_woven_int64_ [.tmp 4] := ⟨by kernel_rfl⟩
def c_i_split_int64_ : ACode :=
  .seq (.ops [⟨0, some 2, .mv (.const (.slice none 0 0)), none, []⟩, ⟨1, some 3, .mv (.const (.slice none 0 0)), none, []⟩])
  (.seq (.ops [⟨0, some 8, .bsl 2 0 (.int .i64 0) [], none, []⟩, ⟨1, some 9, .bsl 2 0 (.int .i64 0) [], none, []⟩, ⟨2, some 4, .mv (.tmp 8), none, []⟩, ⟨3, some 5, .mv (.tmp 9), none, []⟩])
  (.seq (.seq (.ops [⟨0, some 10, .mv (.tmp 0), none, []⟩, ⟨1, some 11, .len (.tmp 10), none, []⟩, ⟨2, some 12, .mv (.const (.int .i64 0)), none, []⟩])
  (.block 0 (.loop [4, 5, 10, 11, 12] (.seq (.ops [⟨0, some 13, .bin .lss (.tmp 12) (.tmp 11), none, []⟩])
  (.seq (.cond (.tmp 13) (.skip) (.exit 0))
  (.seq (.block 1 (.seq (.ops [⟨0, some 14, .mv (.tmp 12), none, []⟩, ⟨1, some 15, .ia (.tmp 10) (.tmp 12), none, []⟩, ⟨2, some 16, .ld (.tmp 15), none, []⟩, ⟨3, some 6, .mv (.tmp 14), none, []⟩, ⟨4, some 7, .mv (.tmp 16), none, []⟩])
  (.seq (.ops [⟨0, some 17, .mv (.tmp 6), none, []⟩, ⟨1, some 18, .bin .rem (.tmp 17) (.const (.int .i64 2)), none, []⟩, ⟨2, some 19, .bin .eql (.tmp 18) (.const (.int .i64 0)), none, []⟩])
  (.cond (.tmp 19) (.keep [4, 5, 7, 10, 11, 12] (.ops [⟨0, some 20, .mv (.tmp 4), none, []⟩, ⟨1, some 21, .mv (.tmp 7), none, []⟩, ⟨2, some 22, .bsl 2 1 (.int .i64 0) [(0, .tmp 21)], none, []⟩, ⟨3, some 23, .app 2 8 (.tmp 20) (.tmp 22), none, []⟩, ⟨4, some 4, .mv (.tmp 23), none, []⟩])) (.keep [4, 5, 7, 10, 11, 12] (.ops [⟨0, some 24, .mv (.tmp 5), none, []⟩, ⟨1, some 25, .mv (.tmp 7), none, []⟩, ⟨2, some 26, .bsl 2 1 (.int .i64 0) [(0, .tmp 25)], none, []⟩, ⟨3, some 27, .app 2 8 (.tmp 24) (.tmp 26), none, []⟩, ⟨4, some 5, .mv (.tmp 27), none, []⟩]))))))
  (.keep [4, 5, 10, 11, 12] (.ops [⟨0, some 28, .bin .add (.tmp 12) (.const (.int .i64 1)), none, []⟩, ⟨1, some 12, .mv (.tmp 28), none, []⟩]))))))))
  (.seq (.ops [⟨0, some 29, .mv (.tmp 4), none, []⟩, ⟨1, some 30, .mv (.tmp 5), none, []⟩, ⟨2, some 2, .mv (.tmp 29), none, []⟩, ⟨3, some 3, .mv (.tmp 30), none, []⟩])
  (.ret))))
theorem k_i_split_int64_ : FnOk Try.prog n_i_split_int64_ 1 c_i_split_int64_ [.tmp 2, .tmp 3] := ⟨by kernel_rfl⟩
def c_i_areSizes : ACode :=
  .seq (.ops [⟨0, some 2, .mv (.const (.bool false)), none, []⟩])
  (.seq (.ops [⟨0, some 7, .mv (.tmp 0), none, []⟩, ⟨1, some 8, .len (.tmp 7), none, []⟩, ⟨2, some 9, .bin .sub (.tmp 8) (.const (.int .i64 1)), none, []⟩, ⟨3, some 3, .mv (.tmp 9), none, []⟩])
  (.seq (.seq (.ops [⟨0, some 10, .mv (.tmp 3), none, []⟩, ⟨1, some 11, .call n_i_within [.tmp 10, .const (.int .i64 0), .const (.int .i64 6)], none, []⟩, ⟨2, some 12, .un .not (.tmp 11), none, []⟩, ⟨3, some 13, .mv (.tmp 12), none, []⟩, ⟨4, some 14, .mv (.tmp 0), (some (13, false)), []⟩, ⟨5, some 15, .mv (.tmp 3), (some (13, false)), []⟩, ⟨6, some 16, .ia (.tmp 14) (.tmp 15), (some (13, false)), []⟩, ⟨7, some 17, .ld (.tmp 16), (some (13, false)), []⟩, ⟨8, some 18, .bin .lss (.tmp 17) (.const (.int .i64 1)), (some (13, false)), []⟩, ⟨9, some 19, .pick (.tmp 13) (.const (.bool true)) (.tmp 18), none, []⟩, ⟨10, some 20, .mv (.tmp 19), none, []⟩, ⟨11, some 21, .mv (.tmp 3), (some (20, false)), []⟩, ⟨12, some 22, .bin .eql (.tmp 21) (.const (.int .i64 0)), (some (20, false)), []⟩, ⟨13, some 23, .mv (.tmp 22), (some (20, false)), []⟩, ⟨14, some 24, .mv (.tmp 0), (some (23, true)), []⟩, ⟨15, some 25, .ia (.tmp 24) (.const (.int .i64 0)), (some (23, true)), []⟩, ⟨16, some 26, .ld (.tmp 25), (some (23, true)), []⟩, ⟨17, some 27, .bin .neq (.tmp 26) (.const (.int .i64 1)), (some (23, true)), []⟩, ⟨18, some 28, .pick (.tmp 23) (.tmp 27) (.const (.bool false)), (some (20, false)), []⟩, ⟨19, some 29, .pick (.tmp 20) (.const (.bool true)) (.tmp 28), none, []⟩])
  (.cond (.tmp 29) (.seq (.keep [] (.ops [⟨0, some 2, .mv (.const (.bool false)), none, []⟩]))
  (.ret)) (.skip)))
  (.seq (.keep [0, 3] (.ops [⟨0, some 30, .mv (.tmp 0), none, []⟩, ⟨1, some 31, .mv (.tmp 3), none, []⟩, ⟨2, some 32, .ia (.tmp 30) (.tmp 31), none, []⟩, ⟨3, some 33, .ld (.tmp 32), none, []⟩, ⟨4, some 4, .mv (.tmp 33), none, []⟩]))
  (.seq (.seq (.ops [⟨0, some 34, .mv (.tmp 3), none, []⟩, ⟨1, some 35, .bin .sub (.tmp 34) (.const (.int .i64 1)), none, []⟩, ⟨2, some 5, .mv (.tmp 35), none, []⟩])
  (.block 0 (.loop [0, 4, 5] (.seq (.seq (.ops [⟨0, some 36, .mv (.tmp 5), none, []⟩, ⟨1, some 37, .bin .geq (.tmp 36) (.const (.int .i64 0)), none, []⟩])
  (.cond (.tmp 37) (.skip) (.exit 0)))
  (.seq (.block 1 (.seq (.seq (.ops [⟨0, some 40, .mv (.tmp 0), none, []⟩, ⟨1, some 41, .mv (.tmp 5), none, []⟩, ⟨2, some 42, .ia (.tmp 40) (.tmp 41), none, []⟩, ⟨3, some 43, .ld (.tmp 42), none, []⟩, ⟨4, some 6, .mv (.tmp 43), none, []⟩])
  (.seq (.keep [0, 4, 5, 6] (.ops [⟨0, some 44, .mv (.tmp 6), none, []⟩, ⟨1, some 45, .bin .lss (.tmp 44) (.const (.int .i64 1)), none, []⟩, ⟨2, some 46, .mv (.tmp 45), none, []⟩, ⟨3, some 47, .mv (.tmp 6), (some (46, false)), []⟩, ⟨4, some 48, .mv (.tmp 4), (some (46, false)), []⟩, ⟨5, some 49, .bin .neq (.tmp 47) (.tmp 48), (some (46, false)), []⟩, ⟨6, some 50, .mv (.tmp 49), (some (46, false)), []⟩, ⟨7, some 51, .mv (.tmp 6), (some (50, true)), []⟩, ⟨8, some 52, .mv (.tmp 4), (some (50, true)), []⟩, ⟨9, some 53, .bin .sub (.tmp 52) (.const (.int .i64 1)), (some (50, true)), []⟩, ⟨10, some 54, .bin .neq (.tmp 51) (.tmp 53), (some (50, true)), []⟩, ⟨11, some 55, .pick (.tmp 50) (.tmp 54) (.const (.bool false)), (some (46, false)), []⟩, ⟨12, some 56, .pick (.tmp 46) (.const (.bool true)) (.tmp 55), none, []⟩]))
  (.cond (.tmp 56) (.seq (.keep [] (.ops [⟨0, some 2, .mv (.const (.bool false)), none, []⟩]))
  (.ret)) (.skip))))
  (.seq (.keep [0, 4, 5] (.ops [⟨0, some 57, .mv (.tmp 4), none, []⟩, ⟨1, some 58, .mv (.tmp 0), none, []⟩, ⟨2, some 59, .mv (.tmp 5), none, []⟩, ⟨3, some 60, .ia (.tmp 58) (.tmp 59), none, []⟩, ⟨4, some 61, .ld (.tmp 60), none, []⟩, ⟨5, some 62, .bin .add (.tmp 57) (.tmp 61), none, []⟩, ⟨6, some 4, .mv (.tmp 62), none, []⟩]))
  (.seq (.keep [0, 4, 5] (.ops [⟨0, some 63, .mv (.tmp 4), none, []⟩, ⟨1, some 64, .bin .gtr (.tmp 63) (.const (.int .i64 128)), none, []⟩]))
  (.cond (.tmp 64) (.seq (.keep [] (.ops [⟨0, some 2, .mv (.const (.bool false)), none, []⟩]))
  (.ret)) (.skip))))))
  (.ops [⟨0, some 38, .mv (.tmp 5), none, []⟩, ⟨1, some 39, .bin .sub (.tmp 38) (.const (.int .i64 1)), none, []⟩, ⟨2, some 5, .mv (.tmp 39), none, []⟩]))))))
  (.seq (.ops [⟨0, some 65, .mv (.tmp 4), none, []⟩, ⟨1, some 66, .bin .leq (.tmp 65) (.const (.int .i64 128)), none, []⟩, ⟨2, some 2, .mv (.tmp 66), none, []⟩])
  (.ret))))))
theorem k_i_areSizes : FnOk Try.prog n_i_areSizes 1 c_i_areSizes [.tmp 2] := ⟨by kernel_rfl⟩
def c_i_sizesOf_int64_ : ACode :=
  .seq (.ops [⟨0, some 2, .mv (.const (.slice none 0 0)), none, []⟩])
  (.seq (.ops [⟨0, some 6, .bsl 3 0 (.int .i64 0) [], none, []⟩, ⟨1, some 3, .mv (.tmp 6), none, []⟩])
  (.seq (.seq (.ops [⟨0, some 7, .mv (.tmp 0), none, []⟩, ⟨1, some 8, .len (.tmp 7), none, []⟩, ⟨2, some 9, .mv (.const (.int .i64 0)), none, []⟩])
  (.block 0 (.loop [3, 7, 8, 9] (.seq (.ops [⟨0, some 10, .bin .lss (.tmp 9) (.tmp 8), none, []⟩])
  (.seq (.cond (.tmp 10) (.skip) (.exit 0))
  (.seq (.block 1 (.seq (.ops [⟨0, some 11, .ia (.tmp 7) (.tmp 9), none, []⟩, ⟨1, some 12, .ld (.tmp 11), none, []⟩, ⟨2, some 5, .mv (.tmp 12), none, []⟩])
  (.ops [⟨0, some 13, .mv (.tmp 3), none, []⟩, ⟨1, some 14, .mv (.tmp 5), none, []⟩, ⟨2, some 15, .len (.tmp 14), none, []⟩, ⟨3, some 16, .bsl 3 1 (.int .i64 0) [(0, .tmp 15)], none, []⟩, ⟨4, some 17, .app 3 8 (.tmp 13) (.tmp 16), none, []⟩, ⟨5, some 3, .mv (.tmp 17), none, []⟩])))
  (.keep [3, 7, 8, 9] (.ops [⟨0, some 18, .bin .add (.tmp 9) (.const (.int .i64 1)), none, []⟩, ⟨1, some 9, .mv (.tmp 18), none, []⟩]))))))))
  (.seq (.ops [⟨0, some 19, .mv (.tmp 3), none, []⟩, ⟨1, some 2, .mv (.tmp 19), none, []⟩])
  (.ret))))
theorem k_i_sizesOf_int64_ : FnOk Try.prog n_i_sizesOf_int64_ 1 c_i_sizesOf_int64_ [.tmp 2] := ⟨by kernel_rfl⟩
def c_i_mirrored : ACode :=
  .seq (.ops [⟨0, some 4, .mv (.const (.int .i64 0)), none, []⟩])
  (.seq (.seq (.ops [⟨0, some 5, .mv (.tmp 0), none, []⟩, ⟨1, some 6, .bin .eql (.tmp 5) (.const (.int .i64 1)), none, []⟩])
  (.cond (.tmp 6) (.seq (.keep [] (.ops [⟨0, some 4, .mv (.const (.int .i64 0)), none, []⟩]))
  (.ret)) (.skip)))
  (.seq (.block 0 (.loop [0, 1] (.seq (.seq (.ops [⟨0, some 7, .mv (.tmp 1), none, []⟩, ⟨1, some 8, .mv (.tmp 0), none, []⟩, ⟨2, some 9, .bin .sub (.tmp 8) (.const (.int .i64 1)), none, []⟩, ⟨3, some 10, .call n_i_within [.tmp 7, .const (.int .i64 0), .tmp 9], none, []⟩, ⟨4, some 11, .un .not (.tmp 10), none, []⟩])
  (.cond (.tmp 11) (.skip) (.exit 0)))
  (.block 1 (.seq (.keep [0, 1] (.ops [⟨0, some 12, .mv (.tmp 1), none, []⟩, ⟨1, some 13, .bin .lss (.tmp 12) (.const (.int .i64 0)), none, []⟩]))
  (.cond (.tmp 13) (.ops [⟨0, some 14, .mv (.tmp 1), none, []⟩, ⟨1, some 15, .un .neg (.tmp 14), none, []⟩, ⟨2, some 1, .mv (.tmp 15), none, []⟩]) (.ops [⟨0, some 16, .mv (.tmp 0), none, []⟩, ⟨1, some 17, .bin .sub (.tmp 16) (.const (.int .i64 1)), none, []⟩, ⟨2, some 18, .bin .mul (.const (.int .i64 2)) (.tmp 17), none, []⟩, ⟨3, some 19, .mv (.tmp 1), none, []⟩, ⟨4, some 20, .bin .sub (.tmp 18) (.tmp 19), none, []⟩, ⟨5, some 1, .mv (.tmp 20), none, []⟩])))))))
  (.seq (.keep [1] (.ops [⟨0, some 21, .mv (.tmp 1), none, []⟩, ⟨1, some 4, .mv (.tmp 21), none, []⟩]))
  (.ret))))
theorem k_i_mirrored : FnOk Try.prog n_i_mirrored 2 c_i_mirrored [.tmp 4] := ⟨by kernel_rfl⟩
def c_s_l00Src_next : ACode :=
  .seq (.ops [⟨0, some 2, .mv (.const (.int .i64 0)), none, []⟩])
  (.seq (.ops [⟨0, some 3, .mv (.const (.int .i64 0)), none, []⟩])
  (.seq (.seq (.ops [⟨0, some 4, .mv (.tmp 0), none, []⟩, ⟨1, some 5, .nc (.tmp 4), none, []⟩, ⟨2, some 6, .fa 1 (.tmp 5), none, []⟩, ⟨3, some 7, .ld (.tmp 6), none, []⟩, ⟨4, some 8, .mv (.tmp 0), none, []⟩, ⟨5, some 9, .nc (.tmp 8), none, []⟩, ⟨6, some 10, .fa 0 (.tmp 9), none, []⟩, ⟨7, some 11, .ld (.tmp 10), none, []⟩, ⟨8, some 12, .len (.tmp 11), none, []⟩, ⟨9, some 13, .bin .lss (.tmp 7) (.tmp 12), none, []⟩])
  (.cond (.tmp 13) (.keep [0] (.ops [⟨0, some 14, .mv (.tmp 0), none, []⟩, ⟨1, some 15, .nc (.tmp 14), none, []⟩, ⟨2, some 16, .fa 0 (.tmp 15), none, []⟩, ⟨3, some 17, .ld (.tmp 16), none, []⟩, ⟨4, some 18, .mv (.tmp 0), none, []⟩, ⟨5, some 19, .nc (.tmp 18), none, []⟩, ⟨6, some 20, .fa 1 (.tmp 19), none, []⟩, ⟨7, some 21, .ld (.tmp 20), none, []⟩, ⟨8, some 22, .ia (.tmp 17) (.tmp 21), none, []⟩, ⟨9, some 23, .ld (.tmp 22), none, []⟩, ⟨10, some 24, .cv (.i .i64) (.tmp 23), none, []⟩, ⟨11, some 3, .mv (.tmp 24), none, []⟩])) (.skip)))
  (.seq (.keep [0, 3] (.ops [⟨0, some 25, .mv (.tmp 0), none, []⟩, ⟨1, some 26, .nc (.tmp 25), none, []⟩, ⟨2, some 27, .fa 1 (.tmp 26), none, []⟩, ⟨3, some 28, .ld (.tmp 27), none, []⟩, ⟨4, some 29, .bin .add (.tmp 28) (.const (.int .i64 1)), none, []⟩, ⟨5, some 30, .nc (.tmp 25), none, []⟩, ⟨6, some 31, .fa 1 (.tmp 30), none, []⟩, ⟨7, none, .st (.tmp 31) (.tmp 29), none, []⟩]))
  (.seq (.keep [0, 3] (.ops [⟨0, some 32, .mv (.tmp 0), none, []⟩, ⟨1, some 33, .mv (.tmp 0), none, []⟩, ⟨2, some 34, .nc (.tmp 33), none, []⟩, ⟨3, some 35, .fa 2 (.tmp 34), none, []⟩, ⟨4, some 36, .ld (.tmp 35), none, []⟩, ⟨5, some 37, .bin .mul (.tmp 36) (.const (.int .u64 6364136223846793005)), none, []⟩, ⟨6, some 38, .mv (.tmp 3), none, []⟩, ⟨7, some 39, .cv (.i .u64) (.tmp 38), none, []⟩, ⟨8, some 40, .bin .add (.tmp 37) (.tmp 39), none, []⟩, ⟨9, some 41, .bin .add (.tmp 40) (.const (.int .u64 1442695040888963407)), none, []⟩, ⟨10, some 42, .nc (.tmp 32), none, []⟩, ⟨11, some 43, .fa 2 (.tmp 42), none, []⟩, ⟨12, none, .st (.tmp 43) (.tmp 41), none, []⟩]))
  (.seq (.seq (.keep [0, 3] (.ops [⟨0, some 44, .mv (.tmp 0), none, []⟩, ⟨1, some 45, .nc (.tmp 44), none, []⟩, ⟨2, some 46, .fa 1 (.tmp 45), none, []⟩, ⟨3, some 47, .ld (.tmp 46), none, []⟩, ⟨4, some 48, .mv (.tmp 0), none, []⟩, ⟨5, some 49, .nc (.tmp 48), none, []⟩, ⟨6, some 50, .fa 0 (.tmp 49), none, []⟩, ⟨7, some 51, .ld (.tmp 50), none, []⟩, ⟨8, some 52, .len (.tmp 51), none, []⟩, ⟨9, some 53, .bin .leq (.tmp 47) (.tmp 52), none, []⟩]))
  (.cond (.tmp 53) (.seq (.keep [3] (.ops [⟨0, some 54, .mv (.tmp 3), none, []⟩, ⟨1, some 2, .mv (.tmp 54), none, []⟩]))
  (.ret)) (.skip)))
  (.seq (.keep [0] (.ops [⟨0, some 55, .mv (.tmp 0), none, []⟩, ⟨1, some 56, .nc (.tmp 55), none, []⟩, ⟨2, some 57, .fa 2 (.tmp 56), none, []⟩, ⟨3, some 58, .ld (.tmp 57), none, []⟩, ⟨4, some 59, .bin .shr (.tmp 58) (.const (.int .u64 40)), none, []⟩, ⟨5, some 60, .bin .and (.tmp 59) (.const (.int .u64 255)), none, []⟩, ⟨6, some 61, .cv (.i .i64) (.tmp 60), none, []⟩, ⟨7, some 2, .mv (.tmp 61), none, []⟩]))
  (.ret)))))))
theorem k_s_l00Src_next : FnOk Try.prog n_s_l00Src_next 1 c_s_l00Src_next [.tmp 2] := ⟨by kernel_rfl⟩
def c_i_below : ACode :=
  .seq (.ops [⟨0, some 4, .mv (.const (.int .i64 0)), none, []⟩])
  (.seq (.ops [⟨0, some 6, .mv (.tmp 0), none, []⟩, ⟨1, some 7, .mv (.tmp 1), none, []⟩, ⟨2, some 8, .bin .quo (.tmp 6) (.tmp 7), none, []⟩, ⟨3, some 5, .mv (.tmp 8), none, []⟩])
  (.seq (.seq (.ops [⟨0, some 9, .mv (.tmp 0), none, []⟩, ⟨1, some 10, .mv (.tmp 1), none, []⟩, ⟨2, some 11, .bin .rem (.tmp 9) (.tmp 10), none, []⟩, ⟨3, some 12, .bin .lss (.tmp 11) (.const (.int .i64 0)), none, []⟩])
  (.cond (.tmp 12) (.keep [5] (.ops [⟨0, some 13, .mv (.tmp 5), none, []⟩, ⟨1, some 14, .bin .sub (.tmp 13) (.const (.int .i64 1)), none, []⟩, ⟨2, some 5, .mv (.tmp 14), none, []⟩])) (.skip)))
  (.seq (.keep [5] (.ops [⟨0, some 15, .mv (.tmp 5), none, []⟩, ⟨1, some 4, .mv (.tmp 15), none, []⟩]))
  (.ret))))
theorem k_i_below : FnOk Try.prog n_i_below 2 c_i_below [.tmp 4] := ⟨by kernel_rfl⟩
def c_i_besideEven_int64_ : ACode :=
  .seq (.ops [⟨0, some 4, .mv (.const (.int .i64 0)), none, []⟩, ⟨1, some 5, .mv (.const (.int .i64 0)), none, []⟩])
  (.seq (.ops [⟨0, some 6, .mv (.tmp 0), none, []⟩, ⟨1, some 7, .mv (.tmp 1), none, []⟩, ⟨2, some 8, .bin .sub (.tmp 7) (.const (.int .i64 1)), none, []⟩, ⟨3, some 9, .mnx true (.tmp 8) (.const (.int .i64 0)), none, []⟩, ⟨4, some 10, .ia (.tmp 6) (.tmp 9), none, []⟩, ⟨5, some 11, .ld (.tmp 10), none, []⟩, ⟨6, some 12, .mv (.tmp 0), none, []⟩, ⟨7, some 13, .mv (.tmp 1), none, []⟩, ⟨8, some 14, .mv (.tmp 0), none, []⟩, ⟨9, some 15, .len (.tmp 14), none, []⟩, ⟨10, some 16, .bin .sub (.tmp 15) (.const (.int .i64 1)), none, []⟩, ⟨11, some 17, .mnx false (.tmp 13) (.tmp 16), none, []⟩, ⟨12, some 18, .ia (.tmp 12) (.tmp 17), none, []⟩, ⟨13, some 19, .ld (.tmp 18), none, []⟩, ⟨14, some 4, .mv (.tmp 11), none, []⟩, ⟨15, some 5, .mv (.tmp 19), none, []⟩])
  (.ret))
theorem k_i_besideEven_int64_ : FnOk Try.prog n_i_besideEven_int64_ 2 c_i_besideEven_int64_ [.tmp 4, .tmp 5] := ⟨by kernel_rfl⟩
def c_i_besideOdd_int64_ : ACode :=
  .seq (.ops [⟨0, some 4, .mv (.const (.int .i64 0)), none, []⟩, ⟨1, some 5, .mv (.const (.int .i64 0)), none, []⟩])
  (.seq (.ops [⟨0, some 6, .mv (.tmp 0), none, []⟩, ⟨1, some 7, .mv (.tmp 1), none, []⟩, ⟨2, some 8, .ia (.tmp 6) (.tmp 7), none, []⟩, ⟨3, some 9, .ld (.tmp 8), none, []⟩, ⟨4, some 10, .mv (.tmp 0), none, []⟩, ⟨5, some 11, .mv (.tmp 1), none, []⟩, ⟨6, some 12, .bin .add (.tmp 11) (.const (.int .i64 1)), none, []⟩, ⟨7, some 13, .mv (.tmp 0), none, []⟩, ⟨8, some 14, .len (.tmp 13), none, []⟩, ⟨9, some 15, .bin .sub (.tmp 14) (.const (.int .i64 1)), none, []⟩, ⟨10, some 16, .mnx false (.tmp 12) (.tmp 15), none, []⟩, ⟨11, some 17, .ia (.tmp 10) (.tmp 16), none, []⟩, ⟨12, some 18, .ld (.tmp 17), none, []⟩, ⟨13, some 4, .mv (.tmp 9), none, []⟩, ⟨14, some 5, .mv (.tmp 18), none, []⟩])
  (.ret))
theorem k_i_besideOdd_int64_ : FnOk Try.prog n_i_besideOdd_int64_ 2 c_i_besideOdd_int64_ [.tmp 4, .tmp 5] := ⟨by kernel_rfl⟩
def c_i_oddBy_1 : ACode :=
  .seq (.ops [⟨0, some 3, .mv (.const (.int .i64 0)), none, []⟩])
  (.seq (.ops [⟨0, some 4, .ld (.tmp 1), none, []⟩, ⟨1, some 5, .ld (.tmp 1), none, []⟩, ⟨2, some 6, .len (.tmp 5), none, []⟩, ⟨3, some 7, .mv (.tmp 0), none, []⟩, ⟨4, some 8, .call n_i_mirrored [.tmp 6, .tmp 7], none, [(some 4, .ld (.tmp 1), none)]⟩, ⟨5, some 9, .ia (.tmp 4) (.tmp 8), none, []⟩, ⟨6, some 10, .ld (.tmp 9), none, []⟩, ⟨7, some 3, .mv (.tmp 10), none, []⟩])
  (.ret))
theorem k_i_oddBy_1 : FnOk Try.prog n_i_oddBy_1 2 c_i_oddBy_1 [.tmp 3] := ⟨by kernel_rfl⟩
end Go.Proofs.Ytddekdgggpifmaa

/- The code of functions, for the abstract machine; printed by a program (gen.py). -/
import Derived.Test.YtkojmlpaamdhoadGxFn
import Derived.Test.YtkojmlpaamdhoadProg
namespace Go.Proofs.Ytkojmlpaamdhoad
open Go.Gx
set_option maxRecDepth 100000
abbrev t_int64 : Nat := 2
abbrev t_int : Nat := 3
abbrev t_bool : Nat := 4
abbrev t_uint8 : Nat := 5
abbrev t_sfloat32 : Nat := 22
abbrev t_ssfloat32 : Nat := 33
abbrev t_float32 : Nat := 34
abbrev t_suint8 : Nat := 41
abbrev t_float64 : Nat := 53
abbrev t_sint64 : Nat := 72
abbrev t_ssint64 : Nat := 79
abbrev t_sbool : Nat := 96
abbrev t_sint : Nat := 114
abbrev t_Picture : Nat := 26
abbrev t_Pair : Nat := 44
abbrev t_Scheme : Nat := 64
abbrev t_Bands : Nat := 98
abbrev n_w_FnExactSmallOut : Nat := 4
abbrev n_w_szFloat32SS : Nat := 22
abbrev n_s_SmallOut : Nat := 23
abbrev n_w_toFloat32SS : Nat := 24
abbrev n_i_SmallOut : Nat := 25
abbrev n_w_eqFloat32SS : Nat := 26
abbrev n_w_markFloat32SS : Nat := 27
abbrev n_w_heldFloat32SS : Nat := 28
abbrev n_w_toFloat32S : Nat := 49
abbrev n_w_eqFloat32S : Nat := 51
abbrev n_w_markFloat32S : Nat := 54
abbrev n_w_heldFloat32S : Nat := 55
abbrev n_i_AreBands : Nat := 101
abbrev n_w_szFloat32S : Nat := 109
abbrev n_s_l02Bands : Nat := 117
abbrev n_s_l02Least : Nat := 118
abbrev n_s_l02Size : Nat := 119
abbrev n_i_isLeast : Nat := 120
abbrev n_i_copyOf : Nat := 121
abbrev n_i_size : Nat := 122
abbrev n_i_areFinite : Nat := 128
abbrev n_i_within : Nat := 129
abbrev n_w_sameFloat : Nat := 137
abbrev n_i_areSizes : Nat := 145
abbrev n_i_sizesOf_float32_ : Nat := 170
abbrev n_s_l02Finite : Nat := 175
abbrev n_s_l02Sizes : Nat := 183
abbrev n_s_l01Finite : Nat := 184
abbrev n_i_IsFinite : Nat := 185
abbrev n_s_l02Fit : Nat := 213
def c_w_FnExactSmallOut : ACode :=
  .seq (.ops [⟨0, some 4, .mv (.const (.bool false)), none, []⟩])
  (.seq (.ops [⟨0, some 5, .mv (.const (.int .i64 1048576)), none, []⟩])
  (.seq (.ops [⟨0, some 19, .mv (.tmp 0), none, []⟩, ⟨1, some 20, .mv (.tmp 5), none, []⟩, ⟨2, some 21, .call n_w_szFloat32SS [.tmp 19, .tmp 20], none, []⟩, ⟨3, some 5, .mv (.tmp 21), none, []⟩])
  (.seq (.seq (.ops [⟨0, some 22, .mv (.tmp 5), none, []⟩, ⟨1, some 23, .bin .lss (.tmp 22) (.const (.int .i64 0)), none, []⟩])
  (.cond (.tmp 23) (.seq (.keep [] (.ops [⟨0, some 4, .mv (.const (.bool true)), none, []⟩]))
  (.ret)) (.skip)))
  (.seq (.keep [0, 1] (.ops [⟨0, some 25, .mv (.tmp 0), none, []⟩, ⟨1, some 26, .call n_w_toFloat32SS [.tmp 25], none, []⟩, ⟨2, some 27, .mv (.tmp 1), none, []⟩, ⟨3, some 28, .call n_s_SmallOut [.tmp 26, .tmp 27], none, []⟩, ⟨4, some 24, .mv (.tmp 28), none, []⟩, ⟨5, some 29, .ext (.tmp 24) 0, none, []⟩, ⟨6, some 30, .ext (.tmp 24) 1, none, []⟩, ⟨7, some 31, .ext (.tmp 24) 2, none, []⟩, ⟨8, some 6, .mv (.tmp 29), none, []⟩, ⟨9, some 7, .mv (.tmp 30), none, []⟩, ⟨10, some 8, .mv (.tmp 31), none, []⟩]))
  (.seq (.keep [0, 1, 6, 7, 8] (.ops [⟨0, some 32, .mv (.tmp 0), none, []⟩, ⟨1, some 33, .call n_w_toFloat32SS [.tmp 32], none, []⟩, ⟨2, some 9, .mv (.tmp 33), none, []⟩]))
  (.seq (.ops [⟨0, some 35, .mv (.tmp 9), none, []⟩, ⟨1, some 36, .mv (.tmp 1), none, []⟩, ⟨2, some 37, .call n_i_SmallOut [.tmp 35, .tmp 36], none, []⟩, ⟨3, some 34, .mv (.tmp 37), none, []⟩, ⟨4, some 38, .ext (.tmp 34) 0, none, []⟩, ⟨5, some 39, .ext (.tmp 34) 1, none, []⟩, ⟨6, some 40, .ext (.tmp 34) 2, none, []⟩, ⟨7, some 10, .mv (.tmp 38), none, []⟩, ⟨8, some 11, .mv (.tmp 39), none, []⟩, ⟨9, some 12, .mv (.tmp 40), none, []⟩])
  (.seq (.seq (.keep [0, 1, 6, 7, 8, 9, 10, 11, 12] (.ops [⟨0, some 41, .mv (.tmp 10), none, []⟩, ⟨1, some 42, .mv (.tmp 6), none, []⟩, ⟨2, some 43, .call n_w_eqFloat32SS [.tmp 41, .tmp 42], none, []⟩, ⟨3, some 44, .un .not (.tmp 43), none, []⟩, ⟨4, some 45, .mv (.tmp 44), none, []⟩, ⟨5, some 46, .mv (.tmp 11), (some (45, false)), []⟩, ⟨6, some 47, .mv (.tmp 7), (some (45, false)), []⟩, ⟨7, some 48, .bin .neq (.tmp 46) (.tmp 47), (some (45, false)), []⟩, ⟨8, some 49, .pick (.tmp 45) (.const (.bool true)) (.tmp 48), none, []⟩, ⟨9, some 50, .mv (.tmp 49), none, []⟩, ⟨10, some 51, .mv (.tmp 12), (some (50, false)), []⟩, ⟨11, some 52, .mv (.tmp 8), (some (50, false)), []⟩, ⟨12, some 53, .beq true (.tmp 51) (.tmp 52), (some (50, false)), []⟩, ⟨13, some 54, .pick (.tmp 50) (.const (.bool true)) (.tmp 53), none, []⟩]))
  (.cond (.tmp 54) (.seq (.keep [] (.ops [⟨0, some 4, .mv (.const (.bool false)), none, []⟩]))
  (.ret)) (.skip)))
  (.seq (.seq (.keep [0, 1, 6, 7, 8, 9, 10, 11, 12] (.ops [⟨0, some 55, .mv (.tmp 9), none, []⟩, ⟨1, some 56, .mv (.tmp 0), none, []⟩, ⟨2, some 57, .call n_w_toFloat32SS [.tmp 56], none, []⟩, ⟨3, some 58, .call n_w_eqFloat32SS [.tmp 55, .tmp 57], none, []⟩, ⟨4, some 59, .un .not (.tmp 58), none, []⟩]))
  (.cond (.tmp 59) (.seq (.keep [] (.ops [⟨0, some 4, .mv (.const (.bool false)), none, []⟩]))
  (.ret)) (.skip)))
  (.seq (.keep [0, 1, 6, 7, 8, 9, 10, 11, 12] (.ops [⟨0, some 13, .mv (.const (.int .i64 1)), none, []⟩]))
  (.seq (.ops [⟨0, some 60, .mv (.tmp 9), none, []⟩, ⟨1, some 61, .mv (.tmp 13), none, []⟩, ⟨2, some 62, .call n_w_markFloat32SS [.tmp 60, .tmp 61], none, []⟩, ⟨3, some 13, .mv (.tmp 62), none, []⟩])
  (.seq (.seq (.ops [⟨0, some 63, .mv (.tmp 13), none, []⟩, ⟨1, some 64, .bin .lss (.tmp 63) (.const (.int .i64 0)), none, []⟩, ⟨2, some 65, .mv (.tmp 64), none, []⟩, ⟨3, some 66, .mv (.tmp 10), (some (65, false)), []⟩, ⟨4, some 67, .mv (.tmp 6), (some (65, false)), []⟩, ⟨5, some 68, .call n_w_eqFloat32SS [.tmp 66, .tmp 67], (some (65, false)), []⟩, ⟨6, some 69, .un .not (.tmp 68), (some (65, false)), []⟩, ⟨7, some 70, .pick (.tmp 65) (.const (.bool true)) (.tmp 69), none, []⟩, ⟨8, some 71, .mv (.tmp 70), none, []⟩, ⟨9, some 72, .mv (.tmp 11), (some (71, false)), []⟩, ⟨10, some 73, .mv (.tmp 7), (some (71, false)), []⟩, ⟨11, some 74, .bin .neq (.tmp 72) (.tmp 73), (some (71, false)), []⟩, ⟨12, some 75, .pick (.tmp 71) (.const (.bool true)) (.tmp 74), none, []⟩, ⟨13, some 76, .mv (.tmp 75), none, []⟩, ⟨14, some 77, .mv (.tmp 12), (some (76, false)), []⟩, ⟨15, some 78, .mv (.tmp 8), (some (76, false)), []⟩, ⟨16, some 79, .beq true (.tmp 77) (.tmp 78), (some (76, false)), []⟩, ⟨17, some 80, .pick (.tmp 76) (.const (.bool true)) (.tmp 79), none, []⟩])
  (.cond (.tmp 80) (.seq (.keep [] (.ops [⟨0, some 4, .mv (.const (.bool false)), none, []⟩]))
  (.ret)) (.skip)))
  (.seq (.keep [0, 1, 6, 7, 8, 10] (.ops [⟨0, some 14, .mv (.const (.int .i64 1)), none, []⟩]))
  (.seq (.ops [⟨0, some 81, .mv (.tmp 10), none, []⟩, ⟨1, some 82, .mv (.tmp 14), none, []⟩, ⟨2, some 83, .call n_w_markFloat32SS [.tmp 81, .tmp 82], none, []⟩, ⟨3, some 14, .mv (.tmp 83), none, []⟩])
  (.seq (.ops [⟨0, some 15, .mv (.const (.int .i64 1)), none, []⟩])
  (.seq (.ops [⟨0, some 84, .mv (.tmp 10), none, []⟩, ⟨1, some 85, .mv (.tmp 15), none, []⟩, ⟨2, some 86, .call n_w_heldFloat32SS [.tmp 84, .tmp 85], none, []⟩, ⟨3, some 15, .mv (.tmp 86), none, []⟩])
  (.seq (.seq (.keep [0, 1, 6, 7, 8, 10, 14, 15] (.ops [⟨0, some 87, .mv (.tmp 15), none, []⟩, ⟨1, some 88, .bin .lss (.tmp 87) (.const (.int .i64 0)), none, []⟩]))
  (.cond (.tmp 88) (.seq (.keep [] (.ops [⟨0, some 4, .mv (.const (.bool false)), none, []⟩]))
  (.ret)) (.skip)))
  (.seq (.seq (.ops [⟨0, some 89, .mv (.tmp 15), none, []⟩, ⟨1, some 90, .mv (.tmp 14), none, []⟩, ⟨2, some 91, .bin .neq (.tmp 89) (.tmp 90), none, []⟩])
  (.cond (.tmp 91) (.seq (.keep [] (.ops [⟨0, some 4, .mv (.const (.bool false)), none, []⟩]))
  (.ret)) (.skip)))
  (.seq (.keep [0, 1, 6, 7, 8, 10, 14] (.ops [⟨0, some 93, .mv (.tmp 0), none, []⟩, ⟨1, some 94, .call n_w_toFloat32SS [.tmp 93], none, []⟩, ⟨2, some 95, .mv (.tmp 1), none, []⟩, ⟨3, some 96, .call n_i_SmallOut [.tmp 94, .tmp 95], none, []⟩, ⟨4, some 92, .mv (.tmp 96), none, []⟩, ⟨5, some 97, .ext (.tmp 92) 0, none, []⟩, ⟨6, some 98, .ext (.tmp 92) 1, none, []⟩, ⟨7, some 99, .ext (.tmp 92) 2, none, []⟩, ⟨8, some 16, .mv (.tmp 97), none, []⟩, ⟨9, some 17, .mv (.tmp 98), none, []⟩, ⟨10, some 18, .mv (.tmp 99), none, []⟩]))
  (.seq (.seq (.keep [6, 7, 8, 10, 14, 16, 17, 18] (.ops [⟨0, some 100, .mv (.tmp 16), none, []⟩, ⟨1, some 101, .mv (.tmp 6), none, []⟩, ⟨2, some 102, .call n_w_eqFloat32SS [.tmp 100, .tmp 101], none, []⟩, ⟨3, some 103, .un .not (.tmp 102), none, []⟩, ⟨4, some 104, .mv (.tmp 103), none, []⟩, ⟨5, some 105, .mv (.tmp 17), (some (104, false)), []⟩, ⟨6, some 106, .mv (.tmp 7), (some (104, false)), []⟩, ⟨7, some 107, .bin .neq (.tmp 105) (.tmp 106), (some (104, false)), []⟩, ⟨8, some 108, .pick (.tmp 104) (.const (.bool true)) (.tmp 107), none, []⟩, ⟨9, some 109, .mv (.tmp 108), none, []⟩, ⟨10, some 110, .mv (.tmp 18), (some (109, false)), []⟩, ⟨11, some 111, .mv (.tmp 8), (some (109, false)), []⟩, ⟨12, some 112, .beq true (.tmp 110) (.tmp 111), (some (109, false)), []⟩, ⟨13, some 113, .pick (.tmp 109) (.const (.bool true)) (.tmp 112), none, []⟩]))
  (.cond (.tmp 113) (.seq (.keep [] (.ops [⟨0, some 4, .mv (.const (.bool false)), none, []⟩]))
  (.ret)) (.skip)))
  (.seq (.keep [10, 14] (.ops [⟨0, some 15, .mv (.const (.int .i64 1)), none, []⟩]))
  (.seq (.ops [⟨0, some 114, .mv (.tmp 10), none, []⟩, ⟨1, some 115, .mv (.tmp 15), none, []⟩, ⟨2, some 116, .call n_w_heldFloat32SS [.tmp 114, .tmp 115], none, []⟩, ⟨3, some 15, .mv (.tmp 116), none, []⟩])
  (.seq (.seq (.ops [⟨0, some 117, .mv (.tmp 15), none, []⟩, ⟨1, some 118, .bin .lss (.tmp 117) (.const (.int .i64 0)), none, []⟩])
  (.cond (.tmp 118) (.seq (.keep [] (.ops [⟨0, some 4, .mv (.const (.bool false)), none, []⟩]))
  (.ret)) (.skip)))
  (.seq (.seq (.keep [14, 15] (.ops [⟨0, some 119, .mv (.tmp 15), none, []⟩, ⟨1, some 120, .mv (.tmp 14), none, []⟩, ⟨2, some 121, .bin .neq (.tmp 119) (.tmp 120), none, []⟩]))
  (.cond (.tmp 121) (.seq (.keep [] (.ops [⟨0, some 4, .mv (.const (.bool false)), none, []⟩]))
  (.ret)) (.skip)))
  (.seq (.keep [] (.ops [⟨0, some 4, .mv (.const (.bool true)), none, []⟩]))
  (.ret)))))))))))))))))))))))))
theorem k_w_FnExactSmallOut : FnOk Try.prog n_w_FnExactSmallOut 2 c_w_FnExactSmallOut [.tmp 4] := ⟨by kernel_rfl⟩
def c_w_szFloat32SS : ACode :=
  .seq (.ops [⟨0, some 4, .mv (.const (.int .i64 0)), none, []⟩])
  (.seq (.ops [⟨0, some 6, .mv (.tmp 1), none, []⟩, ⟨1, some 7, .mv (.tmp 0), none, []⟩, ⟨2, some 8, .len (.tmp 7), none, []⟩, ⟨3, some 9, .bin .sub (.tmp 6) (.tmp 8), none, []⟩, ⟨4, some 1, .mv (.tmp 9), none, []⟩])
  (.seq (.seq (.keep [0, 1] (.ops [⟨0, some 10, .mv (.tmp 1), none, []⟩, ⟨1, some 11, .bin .lss (.tmp 10) (.const (.int .i64 0)), none, []⟩]))
  (.cond (.tmp 11) (.seq (.ops [⟨0, some 4, .mv (.const (.int .i64 (-1))), none, []⟩])
  (.ret)) (.skip)))
  (.seq (.seq (.ops [⟨0, some 5, .mv (.const (.int .i64 0)), none, []⟩])
  (.block 0 (.loop [0, 1, 5] (.seq (.seq (.ops [⟨0, some 12, .mv (.tmp 5), none, []⟩, ⟨1, some 13, .mv (.tmp 0), none, []⟩, ⟨2, some 14, .len (.tmp 13), none, []⟩, ⟨3, some 15, .bin .lss (.tmp 12) (.tmp 14), none, []⟩])
  (.cond (.tmp 15) (.skip) (.exit 0)))
  (.seq (.block 1 (.seq (.ops [⟨0, some 18, .mv (.tmp 0), none, []⟩, ⟨1, some 19, .mv (.tmp 5), none, []⟩, ⟨2, some 20, .ia (.tmp 18) (.tmp 19), none, []⟩, ⟨3, some 21, .ld (.tmp 20), none, []⟩, ⟨4, some 22, .mv (.tmp 1), none, []⟩, ⟨5, some 23, .call n_w_szFloat32S [.tmp 21, .tmp 22], none, []⟩, ⟨6, some 1, .mv (.tmp 23), none, []⟩])
  (.seq (.keep [0, 1, 5] (.ops [⟨0, some 24, .mv (.tmp 1), none, []⟩, ⟨1, some 25, .bin .lss (.tmp 24) (.const (.int .i64 0)), none, []⟩]))
  (.cond (.tmp 25) (.seq (.keep [] (.ops [⟨0, some 4, .mv (.const (.int .i64 (-1))), none, []⟩]))
  (.ret)) (.skip)))))
  (.ops [⟨0, some 16, .mv (.tmp 5), none, []⟩, ⟨1, some 17, .bin .add (.tmp 16) (.const (.int .i64 1)), none, []⟩, ⟨2, some 5, .mv (.tmp 17), none, []⟩]))))))
  (.seq (.keep [1] (.ops [⟨0, some 26, .mv (.tmp 1), none, []⟩, ⟨1, some 4, .mv (.tmp 26), none, []⟩]))
  (.ret)))))
theorem k_w_szFloat32SS : FnOk Try.prog n_w_szFloat32SS 2 c_w_szFloat32SS [.tmp 4] := ⟨by kernel_rfl⟩
def c_s_SmallOut : ACode :=
  .seq (.ops [⟨0, some 4, .mv (.const (.slice none 0 0)), none, []⟩, ⟨1, some 5, .mv (.const (.int .i64 0)), none, []⟩, ⟨2, some 6, .mv (.const (.bool false)), none, []⟩])
  (.seq (.seq (.ops [⟨0, some 12, .mv (.tmp 0), none, []⟩, ⟨1, some 13, .call n_s_l02Bands [.tmp 12], none, []⟩, ⟨2, some 14, .un .not (.tmp 13), none, []⟩, ⟨3, some 15, .mv (.tmp 14), none, []⟩, ⟨4, some 16, .mv (.tmp 1), (some (15, false)), []⟩, ⟨5, some 17, .call n_s_l02Least [.tmp 16], (some (15, false)), []⟩, ⟨6, some 18, .un .not (.tmp 17), (some (15, false)), []⟩, ⟨7, some 19, .pick (.tmp 15) (.const (.bool true)) (.tmp 18), none, []⟩])
  (.cond (.tmp 19) (.seq (.keep [] (.ops [⟨0, some 4, .mv (.const (.slice none 0 0)), none, []⟩, ⟨1, some 5, .mv (.const (.int .i64 0)), none, []⟩, ⟨2, some 6, .mv (.const (.bool false)), none, []⟩]))
  (.ret)) (.skip)))
  (.seq (.keep [0, 1] (.ops [⟨0, some 20, .bsl 22 0 (.slice none 0 0) [], none, []⟩, ⟨1, some 7, .mv (.tmp 20), none, []⟩]))
  (.seq (.ops [⟨0, some 8, .mv (.const (.int .i64 0)), none, []⟩])
  (.seq (.seq (.ops [⟨0, some 9, .mv (.const (.int .i64 0)), none, []⟩])
  (.block 0 (.loop [0, 1, 7, 8, 9] (.seq (.seq (.ops [⟨0, some 21, .mv (.tmp 9), none, []⟩, ⟨1, some 22, .mv (.tmp 0), none, []⟩, ⟨2, some 23, .len (.tmp 22), none, []⟩, ⟨3, some 24, .bin .lss (.tmp 21) (.tmp 23), none, []⟩])
  (.cond (.tmp 24) (.skip) (.exit 0)))
  (.seq (.block 1 (.seq (.ops [⟨0, some 27, .bsl 34 0 (.float .f32 0) [], none, []⟩, ⟨1, some 28, .mv (.tmp 0), none, []⟩, ⟨2, some 29, .mv (.tmp 9), none, []⟩, ⟨3, some 30, .ia (.tmp 28) (.tmp 29), none, []⟩, ⟨4, some 31, .ld (.tmp 30), none, []⟩, ⟨5, some 32, .app 34 4 (.tmp 27) (.tmp 31), none, []⟩, ⟨6, some 10, .mv (.tmp 32), none, []⟩])
  (.seq (.seq (.keep [0, 1, 7, 8, 9, 10] (.ops [⟨0, some 11, .mv (.const (.int .i64 0)), none, []⟩]))
  (.block 2 (.loop [0, 1, 7, 8, 9, 10, 11] (.seq (.seq (.ops [⟨0, some 33, .mv (.tmp 11), none, []⟩, ⟨1, some 34, .mv (.tmp 10), none, []⟩, ⟨2, some 35, .len (.tmp 34), none, []⟩, ⟨3, some 36, .bin .lss (.tmp 33) (.tmp 35), none, []⟩, ⟨4, some 37, .mv (.tmp 36), none, []⟩, ⟨5, some 38, .mv (.tmp 9), (some (37, true)), []⟩, ⟨6, some 39, .bin .add (.tmp 38) (.const (.int .i64 1)), (some (37, true)), []⟩, ⟨7, some 40, .mv (.tmp 0), (some (37, true)), []⟩, ⟨8, some 41, .len (.tmp 40), (some (37, true)), []⟩, ⟨9, some 42, .bin .lss (.tmp 39) (.tmp 41), (some (37, true)), []⟩, ⟨10, some 43, .pick (.tmp 37) (.tmp 42) (.const (.bool false)), none, []⟩])
  (.cond (.tmp 43) (.skip) (.exit 2)))
  (.seq (.block 3 (.seq (.keep [0, 1, 7, 8, 9, 10, 11] (.ops [⟨0, some 46, .mv (.tmp 10), none, []⟩, ⟨1, some 47, .mv (.tmp 11), none, []⟩, ⟨2, some 48, .ia (.tmp 46) (.tmp 47), none, []⟩, ⟨3, some 49, .ld (.tmp 48), none, []⟩, ⟨4, some 50, .call n_s_l02Size [.tmp 49], none, []⟩, ⟨5, some 51, .mv (.tmp 1), none, []⟩, ⟨6, some 52, .bin .leq (.tmp 50) (.tmp 51), none, []⟩]))
  (.cond (.tmp 52) (.seq (.keep [0, 1, 7, 8, 9, 10, 11] (.ops [⟨0, some 53, .mv (.tmp 10), none, []⟩, ⟨1, some 54, .mv (.tmp 11), none, []⟩, ⟨2, some 55, .ia (.tmp 53) (.tmp 54), none, []⟩, ⟨3, none, .st (.tmp 55) (.const (.float .f32 0)), none, []⟩]))
  (.ops [⟨0, some 56, .mv (.tmp 8), none, []⟩, ⟨1, some 57, .bin .add (.tmp 56) (.const (.int .i64 1)), none, []⟩, ⟨2, some 8, .mv (.tmp 57), none, []⟩])) (.skip))))
  (.keep [0, 1, 7, 8, 9, 10, 11] (.ops [⟨0, some 44, .mv (.tmp 11), none, []⟩, ⟨1, some 45, .bin .add (.tmp 44) (.const (.int .i64 1)), none, []⟩, ⟨2, some 11, .mv (.tmp 45), none, []⟩])))))))
  (.keep [0, 1, 7, 8, 9, 10] (.ops [⟨0, some 58, .mv (.tmp 7), none, []⟩, ⟨1, some 59, .mv (.tmp 10), none, []⟩, ⟨2, some 60, .bsl 22 1 (.slice none 0 0) [(0, .tmp 59)], none, []⟩, ⟨3, some 61, .app 22 24 (.tmp 58) (.tmp 60), none, []⟩, ⟨4, some 7, .mv (.tmp 61), none, []⟩])))))
  (.keep [0, 1, 7, 8, 9] (.ops [⟨0, some 25, .mv (.tmp 9), none, []⟩, ⟨1, some 26, .bin .add (.tmp 25) (.const (.int .i64 1)), none, []⟩, ⟨2, some 9, .mv (.tmp 26), none, []⟩])))))))
  (.seq (.keep [7, 8] (.ops [⟨0, some 62, .mv (.tmp 7), none, []⟩, ⟨1, some 63, .mv (.tmp 8), none, []⟩, ⟨2, some 4, .mv (.tmp 62), none, []⟩, ⟨3, some 5, .mv (.tmp 63), none, []⟩, ⟨4, some 6, .mv (.const (.bool true)), none, []⟩]))
  (.ret))))))
theorem k_s_SmallOut : FnOk Try.prog n_s_SmallOut 2 c_s_SmallOut [.tmp 4, .tmp 5, .tmp 6] := ⟨by kernel_rfl⟩
def c_w_toFloat32SS : ACode :=
  .seq (.ops [⟨0, some 2, .mv (.const (.slice none 0 0)), none, []⟩])
  (.seq (.ops [⟨0, some 5, .mv (.tmp 0), none, []⟩, ⟨1, some 6, .len (.tmp 5), none, []⟩, ⟨2, some 7, .mks 22 24 (.slice none 0 0) (.tmp 6) (.tmp 6), none, []⟩, ⟨3, some 3, .mv (.tmp 7), none, []⟩])
  (.seq (.seq (.ops [⟨0, some 4, .mv (.const (.int .i64 0)), none, []⟩])
  (.block 0 (.loop [0, 3, 4] (.seq (.seq (.ops [⟨0, some 8, .mv (.tmp 4), none, []⟩, ⟨1, some 9, .mv (.tmp 0), none, []⟩, ⟨2, some 10, .len (.tmp 9), none, []⟩, ⟨3, some 11, .bin .lss (.tmp 8) (.tmp 10), none, []⟩])
  (.cond (.tmp 11) (.skip) (.exit 0)))
  (.seq (.block 1 (.ops [⟨0, some 14, .mv (.tmp 3), none, []⟩, ⟨1, some 15, .mv (.tmp 4), none, []⟩, ⟨2, some 16, .mv (.tmp 0), none, []⟩, ⟨3, some 17, .mv (.tmp 4), none, []⟩, ⟨4, some 18, .ia (.tmp 16) (.tmp 17), none, []⟩, ⟨5, some 19, .ld (.tmp 18), none, []⟩, ⟨6, some 20, .call n_w_toFloat32S [.tmp 19], none, []⟩, ⟨7, some 21, .ia (.tmp 14) (.tmp 15), none, []⟩, ⟨8, none, .st (.tmp 21) (.tmp 20), none, []⟩]))
  (.keep [0, 3, 4] (.ops [⟨0, some 12, .mv (.tmp 4), none, []⟩, ⟨1, some 13, .bin .add (.tmp 12) (.const (.int .i64 1)), none, []⟩, ⟨2, some 4, .mv (.tmp 13), none, []⟩])))))))
  (.seq (.keep [3] (.ops [⟨0, some 22, .mv (.tmp 3), none, []⟩, ⟨1, some 2, .mv (.tmp 22), none, []⟩]))
  (.ret))))
theorem k_w_toFloat32SS : FnOk Try.prog n_w_toFloat32SS 1 c_w_toFloat32SS [.tmp 2] := ⟨by kernel_rfl⟩
def c_i_SmallOut : ACode :=
  .seq (.ops [⟨0, some 4, .mv (.const (.slice none 0 0)), none, []⟩, ⟨1, some 5, .mv (.const (.int .i64 0)), none, []⟩, ⟨2, some 6, .mv (.const (.bool false)), none, []⟩])
  (.seq (.seq (.ops [⟨0, some 14, .mv (.tmp 0), none, []⟩, ⟨1, some 15, .call n_i_AreBands [.tmp 14], none, []⟩, ⟨2, some 16, .un .not (.tmp 15), none, []⟩, ⟨3, some 17, .mv (.tmp 16), none, []⟩, ⟨4, some 18, .mv (.tmp 1), (some (17, false)), []⟩, ⟨5, some 19, .call n_i_isLeast [.tmp 18], (some (17, false)), []⟩, ⟨6, some 20, .un .not (.tmp 19), (some (17, false)), []⟩, ⟨7, some 21, .pick (.tmp 17) (.const (.bool true)) (.tmp 20), none, []⟩])
  (.cond (.tmp 21) (.seq (.keep [] (.ops [⟨0, some 4, .mv (.const (.slice none 0 0)), none, []⟩, ⟨1, some 5, .mv (.const (.int .i64 0)), none, []⟩, ⟨2, some 6, .mv (.const (.bool false)), none, []⟩]))
  (.ret)) (.skip)))
  (.seq (.keep [0, 1] (.ops [⟨0, some 22, .bsl 22 0 (.slice none 0 0) [], none, []⟩, ⟨1, some 7, .mv (.tmp 22), none, []⟩, ⟨2, some 8, .mv (.const (.int .i64 0)), none, []⟩]))
  (.seq (.seq (.ops [⟨0, some 23, .mv (.tmp 0), none, []⟩, ⟨1, some 24, .len (.tmp 23), none, []⟩, ⟨2, some 25, .mv (.const (.int .i64 0)), none, []⟩])
  (.block 0 (.loop [0, 1, 7, 8, 23, 24, 25] (.seq (.ops [⟨0, some 26, .bin .lss (.tmp 25) (.tmp 24), none, []⟩])
  (.seq (.cond (.tmp 26) (.skip) (.exit 0))
  (.seq (.block 1 (.seq (.ops [⟨0, some 27, .mv (.tmp 25), none, []⟩, ⟨1, some 28, .ia (.tmp 23) (.tmp 25), none, []⟩, ⟨2, some 29, .ld (.tmp 28), none, []⟩, ⟨3, some 9, .mv (.tmp 27), none, []⟩, ⟨4, some 10, .mv (.tmp 29), none, []⟩])
  (.seq (.ops [⟨0, some 30, .mv (.tmp 10), none, []⟩, ⟨1, some 31, .call n_i_copyOf [.tmp 30], none, []⟩, ⟨2, some 11, .mv (.tmp 31), none, []⟩])
  (.seq (.seq (.keep [0, 1, 7, 8, 9, 11, 23, 24, 25] (.ops [⟨0, some 32, .mv (.tmp 11), none, []⟩, ⟨1, some 33, .len (.tmp 32), none, []⟩, ⟨2, some 34, .mv (.const (.int .i64 0)), none, []⟩]))
  (.block 2 (.loop [0, 1, 7, 8, 9, 11, 23, 24, 25, 32, 33, 34] (.seq (.ops [⟨0, some 35, .bin .lss (.tmp 34) (.tmp 33), none, []⟩])
  (.seq (.cond (.tmp 35) (.skip) (.exit 2))
  (.seq (.block 3 (.seq (.ops [⟨0, some 36, .mv (.tmp 34), none, []⟩, ⟨1, some 37, .ia (.tmp 32) (.tmp 34), none, []⟩, ⟨2, some 38, .ld (.tmp 37), none, []⟩, ⟨3, some 12, .mv (.tmp 36), none, []⟩, ⟨4, some 13, .mv (.tmp 38), none, []⟩])
  (.seq (.ops [⟨0, some 39, .mv (.tmp 9), none, []⟩, ⟨1, some 40, .mv (.tmp 0), none, []⟩, ⟨2, some 41, .len (.tmp 40), none, []⟩, ⟨3, some 42, .bin .sub (.tmp 41) (.const (.int .i64 1)), none, []⟩, ⟨4, some 43, .bin .lss (.tmp 39) (.tmp 42), none, []⟩, ⟨5, some 44, .mv (.tmp 43), none, []⟩, ⟨6, some 45, .mv (.tmp 13), (some (44, true)), []⟩, ⟨7, some 46, .call n_i_size [.tmp 45], (some (44, true)), []⟩, ⟨8, some 47, .mv (.tmp 1), (some (44, true)), []⟩, ⟨9, some 48, .bin .leq (.tmp 46) (.tmp 47), (some (44, true)), []⟩, ⟨10, some 49, .pick (.tmp 44) (.tmp 48) (.const (.bool false)), none, []⟩])
  (.cond (.tmp 49) (.seq (.keep [0, 1, 7, 8, 9, 11, 12, 23, 24, 25, 32, 33, 34] (.ops [⟨0, some 50, .mv (.tmp 11), none, []⟩, ⟨1, some 51, .mv (.tmp 12), none, []⟩, ⟨2, some 52, .ia (.tmp 50) (.tmp 51), none, []⟩, ⟨3, none, .st (.tmp 52) (.const (.float .f32 0)), none, []⟩]))
  (.ops [⟨0, some 53, .mv (.tmp 8), none, []⟩, ⟨1, some 54, .bin .add (.tmp 53) (.const (.int .i64 1)), none, []⟩, ⟨2, some 8, .mv (.tmp 54), none, []⟩])) (.skip)))))
  (.keep [0, 1, 7, 8, 9, 11, 23, 24, 25, 32, 33, 34] (.ops [⟨0, some 55, .bin .add (.tmp 34) (.const (.int .i64 1)), none, []⟩, ⟨1, some 34, .mv (.tmp 55), none, []⟩]))))))))
  (.keep [0, 1, 7, 8, 11, 23, 24, 25] (.ops [⟨0, some 56, .mv (.tmp 7), none, []⟩, ⟨1, some 57, .mv (.tmp 11), none, []⟩, ⟨2, some 58, .bsl 22 1 (.slice none 0 0) [(0, .tmp 57)], none, []⟩, ⟨3, some 59, .app 22 24 (.tmp 56) (.tmp 58), none, []⟩, ⟨4, some 7, .mv (.tmp 59), none, []⟩]))))))
  (.keep [0, 1, 7, 8, 23, 24, 25] (.ops [⟨0, some 60, .bin .add (.tmp 25) (.const (.int .i64 1)), none, []⟩, ⟨1, some 25, .mv (.tmp 60), none, []⟩]))))))))
  (.seq (.keep [7, 8] (.ops [⟨0, some 61, .mv (.tmp 7), none, []⟩, ⟨1, some 62, .mv (.tmp 8), none, []⟩, ⟨2, some 4, .mv (.tmp 61), none, []⟩, ⟨3, some 5, .mv (.tmp 62), none, []⟩, ⟨4, some 6, .mv (.const (.bool true)), none, []⟩]))
  (.ret)))))
theorem k_i_SmallOut : FnOk Try.prog n_i_SmallOut 2 c_i_SmallOut [.tmp 4, .tmp 5, .tmp 6] := ⟨by kernel_rfl⟩
def c_w_eqFloat32SS : ACode :=
  .seq (.ops [⟨0, some 4, .mv (.const (.bool false)), none, []⟩])
  (.seq (.seq (.ops [⟨0, some 6, .mv (.tmp 0), none, []⟩, ⟨1, some 7, .len (.tmp 6), none, []⟩, ⟨2, some 8, .mv (.tmp 1), none, []⟩, ⟨3, some 9, .len (.tmp 8), none, []⟩, ⟨4, some 10, .bin .neq (.tmp 7) (.tmp 9), none, []⟩])
  (.cond (.tmp 10) (.seq (.keep [] (.ops [⟨0, some 4, .mv (.const (.bool false)), none, []⟩]))
  (.ret)) (.skip)))
  (.seq (.seq (.keep [0, 1] (.ops [⟨0, some 5, .mv (.const (.int .i64 0)), none, []⟩]))
  (.block 0 (.loop [0, 1, 5] (.seq (.seq (.ops [⟨0, some 11, .mv (.tmp 5), none, []⟩, ⟨1, some 12, .mv (.tmp 0), none, []⟩, ⟨2, some 13, .len (.tmp 12), none, []⟩, ⟨3, some 14, .bin .lss (.tmp 11) (.tmp 13), none, []⟩])
  (.cond (.tmp 14) (.skip) (.exit 0)))
  (.seq (.block 1 (.seq (.ops [⟨0, some 17, .mv (.tmp 0), none, []⟩, ⟨1, some 18, .mv (.tmp 5), none, []⟩, ⟨2, some 19, .ia (.tmp 17) (.tmp 18), none, []⟩, ⟨3, some 20, .ld (.tmp 19), none, []⟩, ⟨4, some 21, .mv (.tmp 1), none, []⟩, ⟨5, some 22, .mv (.tmp 5), none, []⟩, ⟨6, some 23, .ia (.tmp 21) (.tmp 22), none, []⟩, ⟨7, some 24, .ld (.tmp 23), none, []⟩, ⟨8, some 25, .call n_w_eqFloat32S [.tmp 20, .tmp 24], none, []⟩, ⟨9, some 26, .un .not (.tmp 25), none, []⟩])
  (.cond (.tmp 26) (.seq (.keep [] (.ops [⟨0, some 4, .mv (.const (.bool false)), none, []⟩]))
  (.ret)) (.skip))))
  (.keep [0, 1, 5] (.ops [⟨0, some 15, .mv (.tmp 5), none, []⟩, ⟨1, some 16, .bin .add (.tmp 15) (.const (.int .i64 1)), none, []⟩, ⟨2, some 5, .mv (.tmp 16), none, []⟩])))))))
  (.seq (.keep [] (.ops [⟨0, some 4, .mv (.const (.bool true)), none, []⟩]))
  (.ret))))
theorem k_w_eqFloat32SS : FnOk Try.prog n_w_eqFloat32SS 2 c_w_eqFloat32SS [.tmp 4] := ⟨by kernel_rfl⟩
def c_w_markFloat32SS : ACode :=
  .seq (.ops [⟨0, some 4, .mv (.const (.int .i64 0)), none, []⟩])
  (.seq (.seq (.ops [⟨0, some 5, .mv (.const (.int .i64 0)), none, []⟩])
  (.block 0 (.loop [0, 1, 5] (.seq (.seq (.ops [⟨0, some 6, .mv (.tmp 5), none, []⟩, ⟨1, some 7, .mv (.tmp 0), none, []⟩, ⟨2, some 8, .len (.tmp 7), none, []⟩, ⟨3, some 9, .bin .lss (.tmp 6) (.tmp 8), none, []⟩])
  (.cond (.tmp 9) (.skip) (.exit 0)))
  (.seq (.block 1 (.ops [⟨0, some 12, .mv (.tmp 0), none, []⟩, ⟨1, some 13, .mv (.tmp 5), none, []⟩, ⟨2, some 14, .ia (.tmp 12) (.tmp 13), none, []⟩, ⟨3, some 15, .ld (.tmp 14), none, []⟩, ⟨4, some 16, .mv (.tmp 1), none, []⟩, ⟨5, some 17, .call n_w_markFloat32S [.tmp 15, .tmp 16], none, []⟩, ⟨6, some 1, .mv (.tmp 17), none, []⟩]))
  (.keep [0, 1, 5] (.ops [⟨0, some 10, .mv (.tmp 5), none, []⟩, ⟨1, some 11, .bin .add (.tmp 10) (.const (.int .i64 1)), none, []⟩, ⟨2, some 5, .mv (.tmp 11), none, []⟩])))))))
  (.seq (.keep [1] (.ops [⟨0, some 18, .mv (.tmp 1), none, []⟩, ⟨1, some 4, .mv (.tmp 18), none, []⟩]))
  (.ret)))
theorem k_w_markFloat32SS : FnOk Try.prog n_w_markFloat32SS 2 c_w_markFloat32SS [.tmp 4] := ⟨by kernel_rfl⟩
def c_w_heldFloat32SS : ACode :=
  .seq (.ops [⟨0, some 4, .mv (.const (.int .i64 0)), none, []⟩])
  (.seq (.seq (.ops [⟨0, some 5, .mv (.const (.int .i64 0)), none, []⟩])
  (.block 0 (.loop [0, 1, 5] (.seq (.seq (.ops [⟨0, some 6, .mv (.tmp 5), none, []⟩, ⟨1, some 7, .mv (.tmp 0), none, []⟩, ⟨2, some 8, .len (.tmp 7), none, []⟩, ⟨3, some 9, .bin .lss (.tmp 6) (.tmp 8), none, []⟩])
  (.cond (.tmp 9) (.skip) (.exit 0)))
  (.seq (.block 1 (.seq (.ops [⟨0, some 12, .mv (.tmp 0), none, []⟩, ⟨1, some 13, .mv (.tmp 5), none, []⟩, ⟨2, some 14, .ia (.tmp 12) (.tmp 13), none, []⟩, ⟨3, some 15, .ld (.tmp 14), none, []⟩, ⟨4, some 16, .mv (.tmp 1), none, []⟩, ⟨5, some 17, .call n_w_heldFloat32S [.tmp 15, .tmp 16], none, []⟩, ⟨6, some 1, .mv (.tmp 17), none, []⟩])
  (.seq (.keep [0, 1, 5] (.ops [⟨0, some 18, .mv (.tmp 1), none, []⟩, ⟨1, some 19, .bin .lss (.tmp 18) (.const (.int .i64 0)), none, []⟩]))
  (.cond (.tmp 19) (.seq (.keep [] (.ops [⟨0, some 4, .mv (.const (.int .i64 (-1))), none, []⟩]))
  (.ret)) (.skip)))))
  (.ops [⟨0, some 10, .mv (.tmp 5), none, []⟩, ⟨1, some 11, .bin .add (.tmp 10) (.const (.int .i64 1)), none, []⟩, ⟨2, some 5, .mv (.tmp 11), none, []⟩]))))))
  (.seq (.keep [1] (.ops [⟨0, some 20, .mv (.tmp 1), none, []⟩, ⟨1, some 4, .mv (.tmp 20), none, []⟩]))
  (.ret)))
theorem k_w_heldFloat32SS : FnOk Try.prog n_w_heldFloat32SS 2 c_w_heldFloat32SS [.tmp 4] := ⟨by kernel_rfl⟩
def c_w_toFloat32S : ACode :=
  .seq (.ops [⟨0, some 2, .mv (.const (.slice none 0 0)), none, []⟩])
  (.seq (.ops [⟨0, some 5, .mv (.tmp 0), none, []⟩, ⟨1, some 6, .len (.tmp 5), none, []⟩, ⟨2, some 7, .mks 34 4 (.float .f32 0) (.tmp 6) (.tmp 6), none, []⟩, ⟨3, some 3, .mv (.tmp 7), none, []⟩])
  (.seq (.seq (.ops [⟨0, some 4, .mv (.const (.int .i64 0)), none, []⟩])
  (.block 0 (.loop [0, 3, 4] (.seq (.seq (.ops [⟨0, some 8, .mv (.tmp 4), none, []⟩, ⟨1, some 9, .mv (.tmp 0), none, []⟩, ⟨2, some 10, .len (.tmp 9), none, []⟩, ⟨3, some 11, .bin .lss (.tmp 8) (.tmp 10), none, []⟩])
  (.cond (.tmp 11) (.skip) (.exit 0)))
  (.seq (.block 1 (.ops [⟨0, some 14, .mv (.tmp 3), none, []⟩, ⟨1, some 15, .mv (.tmp 4), none, []⟩, ⟨2, some 16, .mv (.tmp 0), none, []⟩, ⟨3, some 17, .mv (.tmp 4), none, []⟩, ⟨4, some 18, .ia (.tmp 16) (.tmp 17), none, []⟩, ⟨5, some 19, .ld (.tmp 18), none, []⟩, ⟨6, some 20, .ia (.tmp 14) (.tmp 15), none, []⟩, ⟨7, none, .st (.tmp 20) (.tmp 19), none, []⟩]))
  (.keep [0, 3, 4] (.ops [⟨0, some 12, .mv (.tmp 4), none, []⟩, ⟨1, some 13, .bin .add (.tmp 12) (.const (.int .i64 1)), none, []⟩, ⟨2, some 4, .mv (.tmp 13), none, []⟩])))))))
  (.seq (.keep [3] (.ops [⟨0, some 21, .mv (.tmp 3), none, []⟩, ⟨1, some 2, .mv (.tmp 21), none, []⟩]))
  (.ret))))
theorem k_w_toFloat32S : FnOk Try.prog n_w_toFloat32S 1 c_w_toFloat32S [.tmp 2] := ⟨by kernel_rfl⟩
def c_w_eqFloat32S : ACode :=
  .seq (.ops [⟨0, some 4, .mv (.const (.bool false)), none, []⟩])
  (.seq (.seq (.ops [⟨0, some 6, .mv (.tmp 0), none, []⟩, ⟨1, some 7, .len (.tmp 6), none, []⟩, ⟨2, some 8, .mv (.tmp 1), none, []⟩, ⟨3, some 9, .len (.tmp 8), none, []⟩, ⟨4, some 10, .bin .neq (.tmp 7) (.tmp 9), none, []⟩])
  (.cond (.tmp 10) (.seq (.keep [] (.ops [⟨0, some 4, .mv (.const (.bool false)), none, []⟩]))
  (.ret)) (.skip)))
  (.seq (.seq (.keep [0, 1] (.ops [⟨0, some 5, .mv (.const (.int .i64 0)), none, []⟩]))
  (.block 0 (.loop [0, 1, 5] (.seq (.seq (.ops [⟨0, some 11, .mv (.tmp 5), none, []⟩, ⟨1, some 12, .mv (.tmp 0), none, []⟩, ⟨2, some 13, .len (.tmp 12), none, []⟩, ⟨3, some 14, .bin .lss (.tmp 11) (.tmp 13), none, []⟩])
  (.cond (.tmp 14) (.skip) (.exit 0)))
  (.seq (.block 1 (.seq (.ops [⟨0, some 17, .mv (.tmp 0), none, []⟩, ⟨1, some 18, .mv (.tmp 5), none, []⟩, ⟨2, some 19, .ia (.tmp 17) (.tmp 18), none, []⟩, ⟨3, some 20, .ld (.tmp 19), none, []⟩, ⟨4, some 21, .cv (.f .f64) (.tmp 20), none, []⟩, ⟨5, some 22, .mv (.tmp 1), none, []⟩, ⟨6, some 23, .mv (.tmp 5), none, []⟩, ⟨7, some 24, .ia (.tmp 22) (.tmp 23), none, []⟩, ⟨8, some 25, .ld (.tmp 24), none, []⟩, ⟨9, some 26, .cv (.f .f64) (.tmp 25), none, []⟩, ⟨10, some 27, .call n_w_sameFloat [.tmp 21, .tmp 26], none, []⟩, ⟨11, some 28, .un .not (.tmp 27), none, []⟩])
  (.cond (.tmp 28) (.seq (.keep [] (.ops [⟨0, some 4, .mv (.const (.bool false)), none, []⟩]))
  (.ret)) (.skip))))
  (.keep [0, 1, 5] (.ops [⟨0, some 15, .mv (.tmp 5), none, []⟩, ⟨1, some 16, .bin .add (.tmp 15) (.const (.int .i64 1)), none, []⟩, ⟨2, some 5, .mv (.tmp 16), none, []⟩])))))))
  (.seq (.keep [] (.ops [⟨0, some 4, .mv (.const (.bool true)), none, []⟩]))
  (.ret))))
theorem k_w_eqFloat32S : FnOk Try.prog n_w_eqFloat32S 2 c_w_eqFloat32S [.tmp 4] := ⟨by kernel_rfl⟩
def c_w_markFloat32S : ACode :=
  .seq (.ops [⟨0, some 4, .mv (.const (.int .i64 0)), none, []⟩])
  (.seq (.seq (.ops [⟨0, some 5, .mv (.const (.int .i64 0)), none, []⟩])
  (.block 0 (.loop [0, 1, 5] (.seq (.seq (.ops [⟨0, some 6, .mv (.tmp 5), none, []⟩, ⟨1, some 7, .mv (.tmp 0), none, []⟩, ⟨2, some 8, .len (.tmp 7), none, []⟩, ⟨3, some 9, .bin .lss (.tmp 6) (.tmp 8), none, []⟩])
  (.cond (.tmp 9) (.skip) (.exit 0)))
  (.seq (.block 1 (.seq (.ops [⟨0, some 12, .mv (.tmp 0), none, []⟩, ⟨1, some 13, .mv (.tmp 5), none, []⟩, ⟨2, some 14, .mv (.tmp 1), none, []⟩, ⟨3, some 15, .cv (.f .f32) (.tmp 14), none, []⟩, ⟨4, some 16, .ia (.tmp 12) (.tmp 13), none, []⟩, ⟨5, none, .st (.tmp 16) (.tmp 15), none, []⟩])
  (.keep [0, 1, 5] (.ops [⟨0, some 17, .mv (.tmp 1), none, []⟩, ⟨1, some 18, .bin .add (.tmp 17) (.const (.int .i64 1)), none, []⟩, ⟨2, some 1, .mv (.tmp 18), none, []⟩]))))
  (.ops [⟨0, some 10, .mv (.tmp 5), none, []⟩, ⟨1, some 11, .bin .add (.tmp 10) (.const (.int .i64 1)), none, []⟩, ⟨2, some 5, .mv (.tmp 11), none, []⟩]))))))
  (.seq (.keep [1] (.ops [⟨0, some 19, .mv (.tmp 1), none, []⟩, ⟨1, some 4, .mv (.tmp 19), none, []⟩]))
  (.ret)))
theorem k_w_markFloat32S : FnOk Try.prog n_w_markFloat32S 2 c_w_markFloat32S [.tmp 4] := ⟨by kernel_rfl⟩
def c_w_heldFloat32S : ACode :=
  .seq (.ops [⟨0, some 4, .mv (.const (.int .i64 0)), none, []⟩])
  (.seq (.seq (.ops [⟨0, some 5, .mv (.const (.int .i64 0)), none, []⟩])
  (.block 0 (.loop [0, 1, 5] (.seq (.seq (.ops [⟨0, some 6, .mv (.tmp 5), none, []⟩, ⟨1, some 7, .mv (.tmp 0), none, []⟩, ⟨2, some 8, .len (.tmp 7), none, []⟩, ⟨3, some 9, .bin .lss (.tmp 6) (.tmp 8), none, []⟩])
  (.cond (.tmp 9) (.skip) (.exit 0)))
  (.seq (.block 1 (.seq (.seq (.ops [⟨0, some 12, .mv (.tmp 0), none, []⟩, ⟨1, some 13, .mv (.tmp 5), none, []⟩, ⟨2, some 14, .ia (.tmp 12) (.tmp 13), none, []⟩, ⟨3, some 15, .ld (.tmp 14), none, []⟩, ⟨4, some 16, .mv (.tmp 1), none, []⟩, ⟨5, some 17, .cv (.f .f32) (.tmp 16), none, []⟩, ⟨6, some 18, .bin .neq (.tmp 15) (.tmp 17), none, []⟩])
  (.cond (.tmp 18) (.seq (.keep [] (.ops [⟨0, some 4, .mv (.const (.int .i64 (-1))), none, []⟩]))
  (.ret)) (.skip)))
  (.keep [0, 1, 5] (.ops [⟨0, some 19, .mv (.tmp 1), none, []⟩, ⟨1, some 20, .bin .add (.tmp 19) (.const (.int .i64 1)), none, []⟩, ⟨2, some 1, .mv (.tmp 20), none, []⟩]))))
  (.ops [⟨0, some 10, .mv (.tmp 5), none, []⟩, ⟨1, some 11, .bin .add (.tmp 10) (.const (.int .i64 1)), none, []⟩, ⟨2, some 5, .mv (.tmp 11), none, []⟩]))))))
  (.seq (.keep [1] (.ops [⟨0, some 21, .mv (.tmp 1), none, []⟩, ⟨1, some 4, .mv (.tmp 21), none, []⟩]))
  (.ret)))
theorem k_w_heldFloat32S : FnOk Try.prog n_w_heldFloat32S 2 c_w_heldFloat32S [.tmp 4] := ⟨by kernel_rfl⟩
def c_i_AreBands : ACode :=
  .seq (.ops [⟨0, some 2, .mv (.const (.bool false)), none, []⟩])
  (.seq (.ops [⟨0, some 3, .mv (.tmp 0), none, []⟩, ⟨1, some 4, .call n_i_sizesOf_float32_ [.tmp 3], none, []⟩, ⟨2, some 5, .call n_i_areSizes [.tmp 4], none, []⟩, ⟨3, some 6, .mv (.tmp 5), none, []⟩, ⟨4, some 7, .mv (.tmp 0), (some (6, true)), []⟩, ⟨5, some 8, .call n_i_areFinite [.tmp 7], (some (6, true)), []⟩, ⟨6, some 9, .pick (.tmp 6) (.tmp 8) (.const (.bool false)), none, []⟩, ⟨7, some 2, .mv (.tmp 9), none, []⟩])
  (.ret))
theorem k_i_AreBands : FnOk Try.prog n_i_AreBands 1 c_i_AreBands [.tmp 2] := ⟨by kernel_rfl⟩
def c_w_szFloat32S : ACode :=
  .seq (.ops [⟨0, some 4, .mv (.const (.int .i64 0)), none, []⟩])
  (.seq (.ops [⟨0, some 5, .mv (.tmp 1), none, []⟩, ⟨1, some 6, .mv (.tmp 0), none, []⟩, ⟨2, some 7, .len (.tmp 6), none, []⟩, ⟨3, some 8, .bin .sub (.tmp 5) (.tmp 7), none, []⟩, ⟨4, some 1, .mv (.tmp 8), none, []⟩])
  (.seq (.seq (.keep [1] (.ops [⟨0, some 9, .mv (.tmp 1), none, []⟩, ⟨1, some 10, .bin .lss (.tmp 9) (.const (.int .i64 0)), none, []⟩]))
  (.cond (.tmp 10) (.seq (.ops [⟨0, some 4, .mv (.const (.int .i64 (-1))), none, []⟩])
  (.ret)) (.skip)))
  (.seq (.ops [⟨0, some 11, .mv (.tmp 1), none, []⟩, ⟨1, some 4, .mv (.tmp 11), none, []⟩])
  (.ret))))
theorem k_w_szFloat32S : FnOk Try.prog n_w_szFloat32S 2 c_w_szFloat32S [.tmp 4] := ⟨by kernel_rfl⟩
def c_s_l02Bands : ACode :=
  .seq (.ops [⟨0, some 2, .mv (.const (.bool false)), none, []⟩])
  (.seq (.ops [⟨0, some 5, .bsl 3 0 (.int .i64 0) [], none, []⟩, ⟨1, some 3, .mv (.tmp 5), none, []⟩])
  (.seq (.seq (.ops [⟨0, some 4, .mv (.const (.int .i64 0)), none, []⟩])
  (.block 0 (.loop [0, 3, 4] (.seq (.seq (.ops [⟨0, some 6, .mv (.tmp 4), none, []⟩, ⟨1, some 7, .mv (.tmp 0), none, []⟩, ⟨2, some 8, .len (.tmp 7), none, []⟩, ⟨3, some 9, .bin .lss (.tmp 6) (.tmp 8), none, []⟩])
  (.cond (.tmp 9) (.skip) (.exit 0)))
  (.seq (.block 1 (.seq (.ops [⟨0, some 12, .mv (.tmp 3), none, []⟩, ⟨1, some 13, .mv (.tmp 0), none, []⟩, ⟨2, some 14, .mv (.tmp 4), none, []⟩, ⟨3, some 15, .ia (.tmp 13) (.tmp 14), none, []⟩, ⟨4, some 16, .ld (.tmp 15), none, []⟩, ⟨5, some 17, .len (.tmp 16), none, []⟩, ⟨6, some 18, .bsl 3 1 (.int .i64 0) [(0, .tmp 17)], none, []⟩, ⟨7, some 19, .app 3 8 (.tmp 12) (.tmp 18), none, []⟩, ⟨8, some 3, .mv (.tmp 19), none, []⟩])
  (.seq (.keep [0, 3, 4] (.ops [⟨0, some 20, .mv (.tmp 0), none, []⟩, ⟨1, some 21, .len (.tmp 20), none, []⟩, ⟨2, some 22, .bin .gtr (.tmp 21) (.const (.int .i64 7)), none, []⟩, ⟨3, some 23, .mv (.tmp 22), none, []⟩, ⟨4, some 24, .mv (.tmp 0), (some (23, false)), []⟩, ⟨5, some 25, .mv (.tmp 4), (some (23, false)), []⟩, ⟨6, some 26, .ia (.tmp 24) (.tmp 25), (some (23, false)), []⟩, ⟨7, some 27, .ld (.tmp 26), (some (23, false)), []⟩, ⟨8, some 28, .call n_s_l02Finite [.tmp 27], (some (23, false)), []⟩, ⟨9, some 29, .un .not (.tmp 28), (some (23, false)), []⟩, ⟨10, some 30, .pick (.tmp 23) (.const (.bool true)) (.tmp 29), none, []⟩]))
  (.cond (.tmp 30) (.seq (.keep [] (.ops [⟨0, some 2, .mv (.const (.bool false)), none, []⟩]))
  (.ret)) (.skip)))))
  (.keep [0, 3, 4] (.ops [⟨0, some 10, .mv (.tmp 4), none, []⟩, ⟨1, some 11, .bin .add (.tmp 10) (.const (.int .i64 1)), none, []⟩, ⟨2, some 4, .mv (.tmp 11), none, []⟩])))))))
  (.seq (.keep [3] (.ops [⟨0, some 31, .mv (.tmp 3), none, []⟩, ⟨1, some 32, .call n_s_l02Sizes [.tmp 31], none, []⟩, ⟨2, some 2, .mv (.tmp 32), none, []⟩]))
  (.ret))))
theorem k_s_l02Bands : FnOk Try.prog n_s_l02Bands 1 c_s_l02Bands [.tmp 2] := ⟨by kernel_rfl⟩
def c_s_l02Least : ACode :=
  .seq (.ops [⟨0, some 2, .mv (.const (.bool false)), none, []⟩])
  (.seq (.ops [⟨0, some 3, .mv (.tmp 0), none, []⟩, ⟨1, some 4, .call n_s_l01Finite [.tmp 3], none, []⟩, ⟨2, some 5, .mv (.tmp 4), none, []⟩, ⟨3, some 6, .mv (.tmp 0), (some (5, true)), []⟩, ⟨4, some 7, .bin .geq (.tmp 6) (.const (.float .f32 0)), (some (5, true)), []⟩, ⟨5, some 8, .pick (.tmp 5) (.tmp 7) (.const (.bool false)), none, []⟩, ⟨6, some 2, .mv (.tmp 8), none, []⟩])
  (.ret))
theorem k_s_l02Least : FnOk Try.prog n_s_l02Least 1 c_s_l02Least [.tmp 2] := ⟨by kernel_rfl⟩
def c_s_l02Size : ACode :=
  .seq (.ops [⟨0, some 2, .mv (.const (.float .f32 0)), none, []⟩])
  (.seq (.seq (.ops [⟨0, some 3, .mv (.tmp 0), none, []⟩, ⟨1, some 4, .bin .leq (.tmp 3) (.const (.float .f32 0)), none, []⟩])
  (.cond (.tmp 4) (.seq (.ops [⟨0, some 5, .mv (.tmp 0), none, []⟩, ⟨1, some 6, .bin .sub (.const (.float .f32 0)) (.tmp 5), none, []⟩, ⟨2, some 2, .mv (.tmp 6), none, []⟩])
  (.ret)) (.skip)))
  (.seq (.ops [⟨0, some 7, .mv (.tmp 0), none, []⟩, ⟨1, some 2, .mv (.tmp 7), none, []⟩])
  (.ret)))
theorem k_s_l02Size : FnOk Try.prog n_s_l02Size 1 c_s_l02Size [.tmp 2] := ⟨by kernel_rfl⟩
def c_i_isLeast : ACode :=
  .seq (.ops [⟨0, some 2, .mv (.const (.bool false)), none, []⟩])
  (.seq (.ops [⟨0, some 3, .mv (.tmp 0), none, []⟩, ⟨1, some 4, .call n_i_IsFinite [.tmp 3], none, []⟩, ⟨2, some 5, .mv (.tmp 4), none, []⟩, ⟨3, some 6, .mv (.tmp 0), (some (5, true)), []⟩, ⟨4, some 7, .bin .geq (.tmp 6) (.const (.float .f32 0)), (some (5, true)), []⟩, ⟨5, some 8, .pick (.tmp 5) (.tmp 7) (.const (.bool false)), none, []⟩, ⟨6, some 2, .mv (.tmp 8), none, []⟩])
  (.ret))
theorem k_i_isLeast : FnOk Try.prog n_i_isLeast 1 c_i_isLeast [.tmp 2] := ⟨by kernel_rfl⟩
def c_i_copyOf : ACode :=
  .seq (.ops [⟨0, some 2, .mv (.const (.slice none 0 0)), none, []⟩])
  (.seq (.ops [⟨0, some 3, .bsl 34 0 (.float .f32 0) [], none, []⟩, ⟨1, some 4, .mv (.tmp 0), none, []⟩, ⟨2, some 5, .app 34 4 (.tmp 3) (.tmp 4), none, []⟩, ⟨3, some 2, .mv (.tmp 5), none, []⟩])
  (.ret))
theorem k_i_copyOf : FnOk Try.prog n_i_copyOf 1 c_i_copyOf [.tmp 2] := ⟨by kernel_rfl⟩
def c_i_size : ACode :=
  .seq (.ops [⟨0, some 2, .mv (.const (.float .f32 0)), none, []⟩])
  (.seq (.seq (.ops [⟨0, some 3, .mv (.tmp 0), none, []⟩, ⟨1, some 4, .bin .lss (.tmp 3) (.const (.float .f32 0)), none, []⟩])
  (.cond (.tmp 4) (.seq (.ops [⟨0, some 5, .mv (.tmp 0), none, []⟩, ⟨1, some 6, .un .neg (.tmp 5), none, []⟩, ⟨2, some 2, .mv (.tmp 6), none, []⟩])
  (.ret)) (.skip)))
  (.seq (.seq (.ops [⟨0, some 7, .mv (.tmp 0), none, []⟩, ⟨1, some 8, .bin .eql (.tmp 7) (.const (.float .f32 0)), none, []⟩])
  (.cond (.tmp 8) (.seq (.keep [] (.ops [⟨0, some 2, .mv (.const (.float .f32 0)), none, []⟩]))
  (.ret)) (.skip)))
  (.seq (.keep [0] (.ops [⟨0, some 9, .mv (.tmp 0), none, []⟩, ⟨1, some 2, .mv (.tmp 9), none, []⟩]))
  (.ret))))
theorem k_i_size : FnOk Try.prog n_i_size 1 c_i_size [.tmp 2] := ⟨by kernel_rfl⟩
def c_i_areFinite : ACode :=
  .seq (.ops [⟨0, some 2, .mv (.const (.bool false)), none, []⟩])
  (.seq (.seq (.ops [⟨0, some 7, .mv (.tmp 0), none, []⟩, ⟨1, some 8, .len (.tmp 7), none, []⟩, ⟨2, some 9, .mv (.const (.int .i64 0)), none, []⟩])
  (.block 0 (.loop [7, 8, 9] (.seq (.ops [⟨0, some 10, .bin .lss (.tmp 9) (.tmp 8), none, []⟩])
  (.seq (.cond (.tmp 10) (.skip) (.exit 0))
  (.seq (.block 1 (.seq (.ops [⟨0, some 11, .ia (.tmp 7) (.tmp 9), none, []⟩, ⟨1, some 12, .ld (.tmp 11), none, []⟩, ⟨2, some 4, .mv (.tmp 12), none, []⟩])
  (.seq (.ops [⟨0, some 13, .mv (.tmp 4), none, []⟩, ⟨1, some 14, .len (.tmp 13), none, []⟩, ⟨2, some 15, .mv (.const (.int .i64 0)), none, []⟩])
  (.block 2 (.loop [7, 8, 9, 13, 14, 15] (.seq (.ops [⟨0, some 16, .bin .lss (.tmp 15) (.tmp 14), none, []⟩])
  (.seq (.cond (.tmp 16) (.skip) (.exit 2))
  (.seq (.block 3 (.seq (.ops [⟨0, some 17, .ia (.tmp 13) (.tmp 15), none, []⟩, ⟨1, some 18, .ld (.tmp 17), none, []⟩, ⟨2, some 6, .mv (.tmp 18), none, []⟩])
  (.seq (.ops [⟨0, some 19, .mv (.tmp 6), none, []⟩, ⟨1, some 20, .call n_i_IsFinite [.tmp 19], none, []⟩, ⟨2, some 21, .un .not (.tmp 20), none, []⟩])
  (.cond (.tmp 21) (.seq (.keep [] (.ops [⟨0, some 2, .mv (.const (.bool false)), none, []⟩]))
  (.ret)) (.skip)))))
  (.keep [7, 8, 9, 13, 14, 15] (.ops [⟨0, some 22, .bin .add (.tmp 15) (.const (.int .i64 1)), none, []⟩, ⟨1, some 15, .mv (.tmp 22), none, []⟩]))))))))))
  (.ops [⟨0, some 23, .bin .add (.tmp 9) (.const (.int .i64 1)), none, []⟩, ⟨1, some 9, .mv (.tmp 23), none, []⟩])))))))
  (.seq (.ops [⟨0, some 2, .mv (.const (.bool true)), none, []⟩])
  (.ret)))
theorem k_i_areFinite : FnOk Try.prog n_i_areFinite 1 c_i_areFinite [.tmp 2] := ⟨by kernel_rfl⟩
def c_i_within : ACode :=
  .seq (.ops [⟨0, some 6, .mv (.const (.bool false)), none, []⟩])
  (.seq (.ops [⟨0, some 7, .mv (.tmp 0), none, []⟩, ⟨1, some 8, .mv (.tmp 1), none, []⟩, ⟨2, some 9, .bin .geq (.tmp 7) (.tmp 8), none, []⟩, ⟨3, some 10, .mv (.tmp 9), none, []⟩, ⟨4, some 11, .mv (.tmp 0), (some (10, true)), []⟩, ⟨5, some 12, .mv (.tmp 2), (some (10, true)), []⟩, ⟨6, some 13, .bin .leq (.tmp 11) (.tmp 12), (some (10, true)), []⟩, ⟨7, some 14, .pick (.tmp 10) (.tmp 13) (.const (.bool false)), none, []⟩, ⟨8, some 6, .mv (.tmp 14), none, []⟩])
  (.ret))
theorem k_i_within : FnOk Try.prog n_i_within 3 c_i_within [.tmp 6] := ⟨by kernel_rfl⟩
def c_w_sameFloat : ACode :=
  .seq (.ops [⟨0, some 4, .mv (.const (.bool false)), none, []⟩])
  (.seq (.seq (.ops [⟨0, some 5, .mv (.tmp 0), none, []⟩, ⟨1, some 6, .mv (.tmp 0), none, []⟩, ⟨2, some 7, .bin .neq (.tmp 5) (.tmp 6), none, []⟩, ⟨3, some 8, .mv (.tmp 7), none, []⟩, ⟨4, some 9, .mv (.tmp 1), (some (8, false)), []⟩, ⟨5, some 10, .mv (.tmp 1), (some (8, false)), []⟩, ⟨6, some 11, .bin .neq (.tmp 9) (.tmp 10), (some (8, false)), []⟩, ⟨7, some 12, .pick (.tmp 8) (.const (.bool true)) (.tmp 11), none, []⟩])
  (.cond (.tmp 12) (.seq (.keep [0, 1] (.ops [⟨0, some 13, .mv (.tmp 0), none, []⟩, ⟨1, some 14, .mv (.tmp 0), none, []⟩, ⟨2, some 15, .bin .neq (.tmp 13) (.tmp 14), none, []⟩, ⟨3, some 16, .mv (.tmp 15), none, []⟩, ⟨4, some 17, .mv (.tmp 1), (some (16, true)), []⟩, ⟨5, some 18, .mv (.tmp 1), (some (16, true)), []⟩, ⟨6, some 19, .bin .neq (.tmp 17) (.tmp 18), (some (16, true)), []⟩, ⟨7, some 20, .pick (.tmp 16) (.tmp 19) (.const (.bool false)), none, []⟩, ⟨8, some 4, .mv (.tmp 20), none, []⟩]))
  (.ret)) (.skip)))
  (.seq (.seq (.keep [0, 1] (.ops [⟨0, some 21, .mv (.tmp 0), none, []⟩, ⟨1, some 22, .bin .eql (.tmp 21) (.const (.float .f64 0)), none, []⟩, ⟨2, some 23, .mv (.tmp 22), none, []⟩, ⟨3, some 24, .mv (.tmp 1), (some (23, true)), []⟩, ⟨4, some 25, .bin .eql (.tmp 24) (.const (.float .f64 0)), (some (23, true)), []⟩, ⟨5, some 26, .pick (.tmp 23) (.tmp 25) (.const (.bool false)), none, []⟩]))
  (.cond (.tmp 26) (.seq (.keep [0, 1] (.ops [⟨0, some 27, .mv (.tmp 0), none, []⟩, ⟨1, some 28, .bin .quo (.const (.float .f64 4607182418800017408)) (.tmp 27), none, []⟩, ⟨2, some 29, .bin .gtr (.tmp 28) (.const (.float .f64 0)), none, []⟩, ⟨3, some 30, .mv (.tmp 1), none, []⟩, ⟨4, some 31, .bin .quo (.const (.float .f64 4607182418800017408)) (.tmp 30), none, []⟩, ⟨5, some 32, .bin .gtr (.tmp 31) (.const (.float .f64 0)), none, []⟩, ⟨6, some 33, .beq false (.tmp 29) (.tmp 32), none, []⟩, ⟨7, some 4, .mv (.tmp 33), none, []⟩]))
  (.ret)) (.skip)))
  (.seq (.keep [0, 1] (.ops [⟨0, some 34, .mv (.tmp 0), none, []⟩, ⟨1, some 35, .mv (.tmp 1), none, []⟩, ⟨2, some 36, .bin .eql (.tmp 34) (.tmp 35), none, []⟩, ⟨3, some 4, .mv (.tmp 36), none, []⟩]))
  (.ret))))
theorem k_w_sameFloat : FnOk Try.prog n_w_sameFloat 2 c_w_sameFloat [.tmp 4] := ⟨by kernel_rfl⟩
def c_i_areSizes : ACode :=
  .seq (.ops [⟨0, some 2, .mv (.const (.bool false)), none, []⟩])
  (.seq (.ops [⟨0, some 7, .mv (.tmp 0), none, []⟩, ⟨1, some 8, .len (.tmp 7), none, []⟩, ⟨2, some 9, .bin .sub (.tmp 8) (.const (.int .i64 1)), none, []⟩, ⟨3, some 3, .mv (.tmp 9), none, []⟩])
  (.seq (.seq (.ops [⟨0, some 10, .mv (.tmp 3), none, []⟩, ⟨1, some 11, .call n_i_within [.tmp 10, .const (.int .i64 0), .const (.int .i64 6)], none, []⟩, ⟨2, some 12, .un .not (.tmp 11), none, []⟩, ⟨3, some 13, .mv (.tmp 12), none, []⟩, ⟨4, some 14, .mv (.tmp 0), (some (13, false)), []⟩, ⟨5, some 15, .mv (.tmp 3), (some (13, false)), []⟩, ⟨6, some 16, .ia (.tmp 14) (.tmp 15), (some (13, false)), []⟩, ⟨7, some 17, .ld (.tmp 16), (some (13, false)), []⟩, ⟨8, some 18, .bin .lss (.tmp 17) (.const (.int .i64 1)), (some (13, false)), []⟩, ⟨9, some 19, .pick (.tmp 13) (.const (.bool true)) (.tmp 18), none, []⟩, ⟨10, some 20, .mv (.tmp 19), none, []⟩, ⟨11, some 21, .mv (.tmp 3), (some (20, false)), []⟩, ⟨12, some 22, .bin .eql (.tmp 21) (.const (.int .i64 0)), (some (20, false)), []⟩, ⟨13, some 23, .mv (.tmp 22), (some (20, false)), []⟩, ⟨14, some 24, .mv (.tmp 0), (some (23, true)), []⟩, ⟨15, some 25, .ia (.tmp 24) (.const (.int .i64 0)), (some (23, true)), []⟩, ⟨16, some 26, .ld (.tmp 25), (some (23, true)), []⟩, ⟨17, some 27, .bin .neq (.tmp 26) (.const (.int .i64 1)), (some (23, true)), []⟩, ⟨18, some 28, .pick (.tmp 23) (.tmp 27) (.const (.bool false)), (some (20, false)), []⟩, ⟨19, some 29, .pick (.tmp 20) (.const (.bool true)) (.tmp 28), none, []⟩])
  (.cond (.tmp 29) (.seq (.keep [] (.ops [⟨0, some 2, .mv (.const (.bool false)), none, []⟩]))
  (.ret)) (.skip)))
  (.seq (.keep [0, 3] (.ops [⟨0, some 30, .mv (.tmp 0), none, []⟩, ⟨1, some 31, .mv (.tmp 3), none, []⟩, ⟨2, some 32, .ia (.tmp 30) (.tmp 31), none, []⟩, ⟨3, some 33, .ld (.tmp 32), none, []⟩, ⟨4, some 4, .mv (.tmp 33), none, []⟩]))
  (.seq (.seq (.ops [⟨0, some 34, .mv (.tmp 3), none, []⟩, ⟨1, some 35, .bin .sub (.tmp 34) (.const (.int .i64 1)), none, []⟩, ⟨2, some 5, .mv (.tmp 35), none, []⟩])
  (.block 0 (.loop [0, 4, 5] (.seq (.seq (.ops [⟨0, some 36, .mv (.tmp 5), none, []⟩, ⟨1, some 37, .bin .geq (.tmp 36) (.const (.int .i64 0)), none, []⟩])
  (.cond (.tmp 37) (.skip) (.exit 0)))
  (.seq (.block 1 (.seq (.seq (.ops [⟨0, some 40, .mv (.tmp 0), none, []⟩, ⟨1, some 41, .mv (.tmp 5), none, []⟩, ⟨2, some 42, .ia (.tmp 40) (.tmp 41), none, []⟩, ⟨3, some 43, .ld (.tmp 42), none, []⟩, ⟨4, some 6, .mv (.tmp 43), none, []⟩])
  (.seq (.keep [0, 4, 5, 6] (.ops [⟨0, some 44, .mv (.tmp 6), none, []⟩, ⟨1, some 45, .bin .lss (.tmp 44) (.const (.int .i64 1)), none, []⟩, ⟨2, some 46, .mv (.tmp 45), none, []⟩, ⟨3, some 47, .mv (.tmp 6), (some (46, false)), []⟩, ⟨4, some 48, .mv (.tmp 4), (some (46, false)), []⟩, ⟨5, some 49, .bin .neq (.tmp 47) (.tmp 48), (some (46, false)), []⟩, ⟨6, some 50, .mv (.tmp 49), (some (46, false)), []⟩, ⟨7, some 51, .mv (.tmp 6), (some (50, true)), []⟩, ⟨8, some 52, .mv (.tmp 4), (some (50, true)), []⟩, ⟨9, some 53, .bin .sub (.tmp 52) (.const (.int .i64 1)), (some (50, true)), []⟩, ⟨10, some 54, .bin .neq (.tmp 51) (.tmp 53), (some (50, true)), []⟩, ⟨11, some 55, .pick (.tmp 50) (.tmp 54) (.const (.bool false)), (some (46, false)), []⟩, ⟨12, some 56, .pick (.tmp 46) (.const (.bool true)) (.tmp 55), none, []⟩]))
  (.cond (.tmp 56) (.seq (.keep [] (.ops [⟨0, some 2, .mv (.const (.bool false)), none, []⟩]))
  (.ret)) (.skip))))
  (.seq (.keep [0, 4, 5] (.ops [⟨0, some 57, .mv (.tmp 4), none, []⟩, ⟨1, some 58, .mv (.tmp 0), none, []⟩, ⟨2, some 59, .mv (.tmp 5), none, []⟩, ⟨3, some 60, .ia (.tmp 58) (.tmp 59), none, []⟩, ⟨4, some 61, .ld (.tmp 60), none, []⟩, ⟨5, some 62, .bin .add (.tmp 57) (.tmp 61), none, []⟩, ⟨6, some 4, .mv (.tmp 62), none, []⟩]))
  (.seq (.keep [0, 4, 5] (.ops [⟨0, some 63, .mv (.tmp 4), none, []⟩, ⟨1, some 64, .bin .gtr (.tmp 63) (.const (.int .i64 128)), none, []⟩]))
  (.cond (.tmp 64) (.seq (.keep [] (.ops [⟨0, some 2, .mv (.const (.bool false)), none, []⟩]))
  (.ret)) (.skip))))))
  (.ops [⟨0, some 38, .mv (.tmp 5), none, []⟩, ⟨1, some 39, .bin .sub (.tmp 38) (.const (.int .i64 1)), none, []⟩, ⟨2, some 5, .mv (.tmp 39), none, []⟩]))))))
  (.seq (.ops [⟨0, some 65, .mv (.tmp 4), none, []⟩, ⟨1, some 66, .bin .leq (.tmp 65) (.const (.int .i64 128)), none, []⟩, ⟨2, some 2, .mv (.tmp 66), none, []⟩])
  (.ret))))))
theorem k_i_areSizes : FnOk Try.prog n_i_areSizes 1 c_i_areSizes [.tmp 2] := ⟨by kernel_rfl⟩
def c_i_sizesOf_float32_ : ACode :=
  .seq (.ops [⟨0, some 2, .mv (.const (.slice none 0 0)), none, []⟩])
  (.seq (.ops [⟨0, some 6, .bsl 3 0 (.int .i64 0) [], none, []⟩, ⟨1, some 3, .mv (.tmp 6), none, []⟩])
  (.seq (.seq (.ops [⟨0, some 7, .mv (.tmp 0), none, []⟩, ⟨1, some 8, .len (.tmp 7), none, []⟩, ⟨2, some 9, .mv (.const (.int .i64 0)), none, []⟩])
  (.block 0 (.loop [3, 7, 8, 9] (.seq (.ops [⟨0, some 10, .bin .lss (.tmp 9) (.tmp 8), none, []⟩])
  (.seq (.cond (.tmp 10) (.skip) (.exit 0))
  (.seq (.block 1 (.seq (.ops [⟨0, some 11, .ia (.tmp 7) (.tmp 9), none, []⟩, ⟨1, some 12, .ld (.tmp 11), none, []⟩, ⟨2, some 5, .mv (.tmp 12), none, []⟩])
  (.ops [⟨0, some 13, .mv (.tmp 3), none, []⟩, ⟨1, some 14, .mv (.tmp 5), none, []⟩, ⟨2, some 15, .len (.tmp 14), none, []⟩, ⟨3, some 16, .bsl 3 1 (.int .i64 0) [(0, .tmp 15)], none, []⟩, ⟨4, some 17, .app 3 8 (.tmp 13) (.tmp 16), none, []⟩, ⟨5, some 3, .mv (.tmp 17), none, []⟩])))
  (.keep [3, 7, 8, 9] (.ops [⟨0, some 18, .bin .add (.tmp 9) (.const (.int .i64 1)), none, []⟩, ⟨1, some 9, .mv (.tmp 18), none, []⟩]))))))))
  (.seq (.ops [⟨0, some 19, .mv (.tmp 3), none, []⟩, ⟨1, some 2, .mv (.tmp 19), none, []⟩])
  (.ret))))
theorem k_i_sizesOf_float32_ : FnOk Try.prog n_i_sizesOf_float32_ 1 c_i_sizesOf_float32_ [.tmp 2] := ⟨by kernel_rfl⟩
def c_s_l02Finite : ACode :=
  .seq (.ops [⟨0, some 2, .mv (.const (.bool false)), none, []⟩])
  (.seq (.seq (.ops [⟨0, some 3, .mv (.const (.int .i64 0)), none, []⟩])
  (.block 0 (.loop [0, 3] (.seq (.seq (.ops [⟨0, some 4, .mv (.tmp 3), none, []⟩, ⟨1, some 5, .mv (.tmp 0), none, []⟩, ⟨2, some 6, .len (.tmp 5), none, []⟩, ⟨3, some 7, .bin .lss (.tmp 4) (.tmp 6), none, []⟩])
  (.cond (.tmp 7) (.skip) (.exit 0)))
  (.seq (.block 1 (.seq (.ops [⟨0, some 10, .mv (.tmp 0), none, []⟩, ⟨1, some 11, .mv (.tmp 3), none, []⟩, ⟨2, some 12, .ia (.tmp 10) (.tmp 11), none, []⟩, ⟨3, some 13, .ld (.tmp 12), none, []⟩, ⟨4, some 14, .call n_s_l01Finite [.tmp 13], none, []⟩, ⟨5, some 15, .un .not (.tmp 14), none, []⟩])
  (.cond (.tmp 15) (.seq (.keep [] (.ops [⟨0, some 2, .mv (.const (.bool false)), none, []⟩]))
  (.ret)) (.skip))))
  (.keep [0, 3] (.ops [⟨0, some 8, .mv (.tmp 3), none, []⟩, ⟨1, some 9, .bin .add (.tmp 8) (.const (.int .i64 1)), none, []⟩, ⟨2, some 3, .mv (.tmp 9), none, []⟩])))))))
  (.seq (.keep [] (.ops [⟨0, some 2, .mv (.const (.bool true)), none, []⟩]))
  (.ret)))
theorem k_s_l02Finite : FnOk Try.prog n_s_l02Finite 1 c_s_l02Finite [.tmp 2] := ⟨by kernel_rfl⟩
def c_s_l02Sizes : ACode :=
  .seq (.ops [⟨0, some 2, .mv (.const (.bool false)), none, []⟩])
  (.seq (.ops [⟨0, some 6, .mv (.tmp 0), none, []⟩, ⟨1, some 7, .len (.tmp 6), none, []⟩, ⟨2, some 8, .bin .sub (.tmp 7) (.const (.int .i64 1)), none, []⟩, ⟨3, some 3, .mv (.tmp 8), none, []⟩])
  (.seq (.seq (.ops [⟨0, some 9, .mv (.tmp 3), none, []⟩, ⟨1, some 10, .bin .lss (.tmp 9) (.const (.int .i64 0)), none, []⟩, ⟨2, some 11, .mv (.tmp 10), none, []⟩, ⟨3, some 12, .mv (.tmp 3), (some (11, false)), []⟩, ⟨4, some 13, .bin .gtr (.tmp 12) (.const (.int .i64 6)), (some (11, false)), []⟩, ⟨5, some 14, .pick (.tmp 11) (.const (.bool true)) (.tmp 13), none, []⟩, ⟨6, some 15, .mv (.tmp 14), none, []⟩, ⟨7, some 16, .mv (.tmp 0), (some (15, false)), []⟩, ⟨8, some 17, .mv (.tmp 3), (some (15, false)), []⟩, ⟨9, some 18, .ia (.tmp 16) (.tmp 17), (some (15, false)), []⟩, ⟨10, some 19, .ld (.tmp 18), (some (15, false)), []⟩, ⟨11, some 20, .bin .lss (.tmp 19) (.const (.int .i64 1)), (some (15, false)), []⟩, ⟨12, some 21, .pick (.tmp 15) (.const (.bool true)) (.tmp 20), none, []⟩, ⟨13, some 22, .mv (.tmp 21), none, []⟩, ⟨14, some 23, .mv (.tmp 3), (some (22, false)), []⟩, ⟨15, some 24, .bin .eql (.tmp 23) (.const (.int .i64 0)), (some (22, false)), []⟩, ⟨16, some 25, .mv (.tmp 24), (some (22, false)), []⟩, ⟨17, some 26, .mv (.tmp 0), (some (25, true)), []⟩, ⟨18, some 27, .ia (.tmp 26) (.const (.int .i64 0)), (some (25, true)), []⟩, ⟨19, some 28, .ld (.tmp 27), (some (25, true)), []⟩, ⟨20, some 29, .bin .gtr (.tmp 28) (.const (.int .i64 1)), (some (25, true)), []⟩, ⟨21, some 30, .pick (.tmp 25) (.tmp 29) (.const (.bool false)), (some (22, false)), []⟩, ⟨22, some 31, .pick (.tmp 22) (.const (.bool true)) (.tmp 30), none, []⟩])
  (.cond (.tmp 31) (.seq (.keep [] (.ops [⟨0, some 2, .mv (.const (.bool false)), none, []⟩]))
  (.ret)) (.skip)))
  (.seq (.keep [0, 3] (.ops [⟨0, some 32, .mv (.tmp 0), none, []⟩, ⟨1, some 33, .mv (.tmp 3), none, []⟩, ⟨2, some 34, .ia (.tmp 32) (.tmp 33), none, []⟩, ⟨3, some 35, .ld (.tmp 34), none, []⟩, ⟨4, some 4, .mv (.tmp 35), none, []⟩]))
  (.seq (.seq (.ops [⟨0, some 36, .mv (.tmp 3), none, []⟩, ⟨1, some 37, .bin .sub (.tmp 36) (.const (.int .i64 1)), none, []⟩, ⟨2, some 5, .mv (.tmp 37), none, []⟩])
  (.block 0 (.loop [0, 4, 5] (.seq (.seq (.ops [⟨0, some 38, .mv (.tmp 5), none, []⟩, ⟨1, some 39, .bin .geq (.tmp 38) (.const (.int .i64 0)), none, []⟩])
  (.cond (.tmp 39) (.skip) (.exit 0)))
  (.seq (.block 1 (.seq (.seq (.ops [⟨0, some 42, .mv (.tmp 0), none, []⟩, ⟨1, some 43, .mv (.tmp 5), none, []⟩, ⟨2, some 44, .ia (.tmp 42) (.tmp 43), none, []⟩, ⟨3, some 45, .ld (.tmp 44), none, []⟩, ⟨4, some 46, .bin .lss (.tmp 45) (.const (.int .i64 1)), none, []⟩, ⟨5, some 47, .mv (.tmp 46), none, []⟩, ⟨6, some 48, .mv (.tmp 4), (some (47, false)), []⟩, ⟨7, some 49, .mv (.tmp 0), (some (47, false)), []⟩, ⟨8, some 50, .mv (.tmp 5), (some (47, false)), []⟩, ⟨9, some 51, .ia (.tmp 49) (.tmp 50), (some (47, false)), []⟩, ⟨10, some 52, .ld (.tmp 51), (some (47, false)), []⟩, ⟨11, some 53, .call n_s_l02Fit [.tmp 48, .tmp 52], (some (47, false)), []⟩, ⟨12, some 54, .un .not (.tmp 53), (some (47, false)), []⟩, ⟨13, some 55, .pick (.tmp 47) (.const (.bool true)) (.tmp 54), none, []⟩])
  (.cond (.tmp 55) (.seq (.keep [] (.ops [⟨0, some 2, .mv (.const (.bool false)), none, []⟩]))
  (.ret)) (.skip)))
  (.keep [0, 4, 5] (.ops [⟨0, some 56, .mv (.tmp 4), none, []⟩, ⟨1, some 57, .mv (.tmp 0), none, []⟩, ⟨2, some 58, .mv (.tmp 5), none, []⟩, ⟨3, some 59, .ia (.tmp 57) (.tmp 58), none, []⟩, ⟨4, some 60, .ld (.tmp 59), none, []⟩, ⟨5, some 61, .bin .add (.tmp 56) (.tmp 60), none, []⟩, ⟨6, some 4, .mv (.tmp 61), none, []⟩]))))
  (.keep [0, 4, 5] (.ops [⟨0, some 40, .mv (.tmp 5), none, []⟩, ⟨1, some 41, .bin .sub (.tmp 40) (.const (.int .i64 1)), none, []⟩, ⟨2, some 5, .mv (.tmp 41), none, []⟩])))))))
  (.seq (.ops [⟨0, some 62, .mv (.tmp 4), none, []⟩, ⟨1, some 63, .bin .leq (.tmp 62) (.const (.int .i64 128)), none, []⟩, ⟨2, some 2, .mv (.tmp 63), none, []⟩])
  (.ret))))))
theorem k_s_l02Sizes : FnOk Try.prog n_s_l02Sizes 1 c_s_l02Sizes [.tmp 2] := ⟨by kernel_rfl⟩
def c_s_l01Finite : ACode :=
  .seq (.ops [⟨0, some 2, .mv (.const (.bool false)), none, []⟩])
  (.seq (.ops [⟨0, some 3, .mv (.tmp 0), none, []⟩, ⟨1, some 4, .mv (.tmp 0), none, []⟩, ⟨2, some 5, .bin .sub (.tmp 3) (.tmp 4), none, []⟩, ⟨3, some 6, .bin .eql (.tmp 5) (.const (.float .f32 0)), none, []⟩, ⟨4, some 2, .mv (.tmp 6), none, []⟩])
  (.ret))
theorem k_s_l01Finite : FnOk Try.prog n_s_l01Finite 1 c_s_l01Finite [.tmp 2] := ⟨by kernel_rfl⟩
def c_i_IsFinite : ACode :=
  .seq (.ops [⟨0, some 2, .mv (.const (.bool false)), none, []⟩])
  (.seq (.ops [⟨0, some 3, .mv (.tmp 0), none, []⟩, ⟨1, some 4, .mv (.tmp 0), none, []⟩, ⟨2, some 5, .bin .sub (.tmp 3) (.tmp 4), none, []⟩, ⟨3, some 6, .bin .eql (.tmp 5) (.const (.float .f32 0)), none, []⟩, ⟨4, some 2, .mv (.tmp 6), none, []⟩])
  (.ret))
theorem k_i_IsFinite : FnOk Try.prog n_i_IsFinite 1 c_i_IsFinite [.tmp 2] := ⟨by kernel_rfl⟩
def c_s_l02Fit : ACode :=
  .seq (.ops [⟨0, some 4, .mv (.const (.bool false)), none, []⟩])
  (.seq (.ops [⟨0, some 5, .mv (.tmp 0), none, []⟩, ⟨1, some 6, .bin .geq (.tmp 5) (.const (.int .i64 1)), none, []⟩, ⟨2, some 7, .mv (.tmp 6), none, []⟩, ⟨3, some 8, .mv (.tmp 1), (some (7, true)), []⟩, ⟨4, some 9, .mv (.tmp 0), (some (7, true)), []⟩, ⟨5, some 10, .bin .eql (.tmp 8) (.tmp 9), (some (7, true)), []⟩, ⟨6, some 11, .mv (.tmp 10), (some (7, true)), []⟩, ⟨7, some 12, .mv (.tmp 1), (some (11, false)), []⟩, ⟨8, some 13, .mv (.tmp 0), (some (11, false)), []⟩, ⟨9, some 14, .bin .sub (.tmp 13) (.const (.int .i64 1)), (some (11, false)), []⟩, ⟨10, some 15, .bin .eql (.tmp 12) (.tmp 14), (some (11, false)), []⟩, ⟨11, some 16, .pick (.tmp 11) (.const (.bool true)) (.tmp 15), (some (7, true)), []⟩, ⟨12, some 17, .pick (.tmp 7) (.tmp 16) (.const (.bool false)), none, []⟩, ⟨13, some 18, .mv (.tmp 17), none, []⟩, ⟨14, some 19, .mv (.tmp 0), (some (18, true)), []⟩, ⟨15, some 20, .mv (.tmp 1), (some (18, true)), []⟩, ⟨16, some 21, .bin .add (.tmp 19) (.tmp 20), (some (18, true)), []⟩, ⟨17, some 22, .bin .leq (.tmp 21) (.const (.int .i64 128)), (some (18, true)), []⟩, ⟨18, some 23, .pick (.tmp 18) (.tmp 22) (.const (.bool false)), none, []⟩, ⟨19, some 4, .mv (.tmp 23), none, []⟩])
  (.ret))
theorem k_s_l02Fit : FnOk Try.prog n_s_l02Fit 2 c_s_l02Fit [.tmp 4] := ⟨by kernel_rfl⟩
end Go.Proofs.Ytkojmlpaamdhoad

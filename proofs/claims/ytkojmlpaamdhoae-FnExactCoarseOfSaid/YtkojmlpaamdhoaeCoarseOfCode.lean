/- The code of functions, for the abstract machine; printed by a program (gen.py). -/
import Derived.Test.YtkojmlpaamdhoaeGxFn
import Derived.Test.YtkojmlpaamdhoaeProg
namespace Go.Proofs.Ytkojmlpaamdhoae
open Go.Gx
set_option maxRecDepth 100000
abbrev t_int64 : Nat := 2
abbrev t_int : Nat := 3
abbrev t_bool : Nat := 4
abbrev t_uint8 : Nat := 5
abbrev t_ssint64 : Nat := 22
abbrev t_sint64 : Nat := 24
abbrev t_sfloat32 : Nat := 32
abbrev t_ssfloat32 : Nat := 33
abbrev t_float32 : Nat := 37
abbrev t_float64 : Nat := 43
abbrev t_scomplex64 : Nat := 71
abbrev t_suint8 : Nat := 84
abbrev t_sbool : Nat := 90
abbrev t_sint : Nat := 95
abbrev t_complex64 : Nat := 126
abbrev t_Bands : Nat := 40
abbrev t_Pair : Nat := 51
abbrev t_Scheme : Nat := 64
abbrev n_w_FnExactCoarseOf : Nat := 9
abbrev n_w_sameFloat : Nat := 25
abbrev n_w_eqFloat32S : Nat := 31
abbrev n_w_markFloat32S : Nat := 35
abbrev n_w_heldFloat32S : Nat := 36
abbrev n_w_szScheme : Nat := 37
abbrev n_w_toScheme : Nat := 40
abbrev n_i_DropDeep : Nat := 42
abbrev n_w_eqScheme : Nat := 43
abbrev n_w_markScheme : Nat := 45
abbrev n_s_CoarseOf : Nat := 54
abbrev n_w_toFloat32S : Nat := 55
abbrev n_i_CoarseOf : Nat := 56
abbrev n_i_within : Nat := 75
abbrev n_i_areSizes : Nat := 76
abbrev n_w_szFloat32S : Nat := 80
abbrev n_s_l02Scheme : Nat := 93
abbrev n_s_l02Undeep : Nat := 95
abbrev n_i_ValidScheme : Nat := 96
abbrev n_i_AreBands : Nat := 97
abbrev n_i_copyOf : Nat := 98
abbrev n_i_DropOnce : Nat := 99
abbrev n_s_l00In : Nat := 106
abbrev n_s_LiftDeep : Nat := 109
abbrev n_i_LiftDeep : Nat := 110
abbrev n_s_l02Finite : Nat := 139
abbrev n_s_l01Finite : Nat := 142
abbrev n_i_finiteList : Nat := 144
abbrev n_i_IsFinite : Nat := 147
abbrev n_i_areFinite : Nat := 150
abbrev n_s_l02Above : Nat := 153
abbrev n_s_l02DropOnce : Nat := 154
abbrev n_i_isOver : Nat := 155
abbrev n_i_sizesOf_float32_ : Nat := 156
abbrev n_i_weigh : Nat := 157
abbrev n_i_woven_float32_ : Nat := 158
abbrev n_s_l02Is : Nat := 167
abbrev n_s_l02Levels : Nat := 168
abbrev n_s_l02Deep : Nat := 169
abbrev n_i_IsList : Nat := 170
abbrev n_i_LiftOnce : Nat := 171
abbrev n_s_l02Weigh : Nat := 188
abbrev n_s_l02List : Nat := 189
abbrev n_i_weigh_1 : Nat := 190
abbrev n_i_besideOdd_float32_ : Nat := 191
abbrev n_i_besideEven_float32_ : Nat := 192
abbrev n_s_l02LiftOnce : Nat := 203
abbrev n_i_split_float32_ : Nat := 204
abbrev n_s_l02Beside : Nat := 206
def c_w_FnExactCoarseOf : ACode :=
  .seq (.ops [⟨0, some 4, .box 60 (.tmp 0), none, []⟩, ⟨1, some 8, .mv (.const (.bool false)), none, []⟩])
  (.seq (.seq (.ops [⟨0, some 21, .mv (.tmp 1), none, []⟩, ⟨1, some 22, .len (.tmp 21), none, []⟩, ⟨2, some 23, .bin .gtr (.tmp 22) (.const (.int .i64 1048576)), none, []⟩])
  (.cond (.tmp 23) (.seq (.keep [] (.ops [⟨0, some 8, .mv (.const (.bool true)), none, []⟩]))
  (.ret)) (.skip)))
  (.seq (.keep [1, 2, 3, 4] (.ops [⟨0, some 9, .mv (.const (.int .i64 1048576)), none, []⟩]))
  (.seq (.ops [⟨0, some 24, .ldn 2 (.tmp 4), none, []⟩, ⟨1, some 25, .mv (.tmp 9), none, []⟩, ⟨2, some 26, .call n_w_szScheme [.tmp 24, .tmp 25], none, []⟩, ⟨3, some 9, .mv (.tmp 26), none, []⟩])
  (.seq (.seq (.ops [⟨0, some 27, .mv (.tmp 9), none, []⟩, ⟨1, some 28, .bin .lss (.tmp 27) (.const (.int .i64 0)), none, []⟩])
  (.cond (.tmp 28) (.seq (.keep [] (.ops [⟨0, some 8, .mv (.const (.bool true)), none, []⟩]))
  (.ret)) (.skip)))
  (.seq (.keep [1, 2, 3, 4] (.ops [⟨0, some 30, .ldn 2 (.tmp 4), none, []⟩, ⟨1, some 31, .call n_w_toScheme [.tmp 30], none, []⟩, ⟨2, some 32, .mv (.tmp 1), none, []⟩, ⟨3, some 33, .call n_w_toFloat32S [.tmp 32], none, []⟩, ⟨4, some 34, .mv (.tmp 2), none, []⟩, ⟨5, some 35, .mv (.tmp 3), none, []⟩, ⟨6, some 36, .call n_s_CoarseOf [.tmp 31, .tmp 33, .tmp 34, .tmp 35], none, []⟩, ⟨7, some 29, .mv (.tmp 36), none, []⟩, ⟨8, some 37, .ext (.tmp 29) 0, none, []⟩, ⟨9, some 38, .ext (.tmp 29) 1, none, []⟩, ⟨10, some 10, .mv (.tmp 37), none, []⟩, ⟨11, some 11, .mv (.tmp 38), none, []⟩]))
  (.seq (.keep [1, 2, 3, 4, 10, 11] (.ops [⟨0, some 39, .ldn 2 (.tmp 4), none, []⟩, ⟨1, some 40, .call n_w_toScheme [.tmp 39], none, []⟩, ⟨2, some 12, .new 64 [.slice none 0 0, .float .f32 0], none, []⟩, ⟨3, none, .stn 2 (.tmp 12) (.tmp 40), none, []⟩]))
  (.seq (.ops [⟨0, some 41, .mv (.tmp 1), none, []⟩, ⟨1, some 42, .call n_w_toFloat32S [.tmp 41], none, []⟩, ⟨2, some 13, .mv (.tmp 42), none, []⟩])
  (.seq (.ops [⟨0, some 44, .ldn 2 (.tmp 12), none, []⟩, ⟨1, some 45, .mv (.tmp 13), none, []⟩, ⟨2, some 46, .mv (.tmp 2), none, []⟩, ⟨3, some 47, .mv (.tmp 3), none, []⟩, ⟨4, some 48, .call n_i_CoarseOf [.tmp 44, .tmp 45, .tmp 46, .tmp 47], none, []⟩, ⟨5, some 43, .mv (.tmp 48), none, []⟩, ⟨6, some 49, .ext (.tmp 43) 0, none, []⟩, ⟨7, some 50, .ext (.tmp 43) 1, none, []⟩, ⟨8, some 14, .mv (.tmp 49), none, []⟩, ⟨9, some 15, .mv (.tmp 50), none, []⟩])
  (.seq (.seq (.keep [1, 2, 3, 4, 10, 11, 12, 13, 14, 15] (.ops [⟨0, some 51, .mv (.tmp 14), none, []⟩, ⟨1, some 52, .mv (.tmp 10), none, []⟩, ⟨2, some 53, .call n_w_eqFloat32S [.tmp 51, .tmp 52], none, []⟩, ⟨3, some 54, .un .not (.tmp 53), none, []⟩, ⟨4, some 55, .mv (.tmp 54), none, []⟩, ⟨5, some 56, .mv (.tmp 15), (some (55, false)), []⟩, ⟨6, some 57, .mv (.tmp 11), (some (55, false)), []⟩, ⟨7, some 58, .beq true (.tmp 56) (.tmp 57), (some (55, false)), []⟩, ⟨8, some 59, .pick (.tmp 55) (.const (.bool true)) (.tmp 58), none, []⟩]))
  (.cond (.tmp 59) (.seq (.keep [] (.ops [⟨0, some 8, .mv (.const (.bool false)), none, []⟩]))
  (.ret)) (.skip)))
  (.seq (.seq (.keep [1, 2, 3, 4, 10, 11, 12, 13, 14, 15] (.ops [⟨0, some 60, .ldn 2 (.tmp 12), none, []⟩, ⟨1, some 61, .ldn 2 (.tmp 4), none, []⟩, ⟨2, some 62, .call n_w_toScheme [.tmp 61], none, [(some 60, .ldn 2 (.tmp 12), none)]⟩, ⟨3, some 63, .call n_w_eqScheme [.tmp 60, .tmp 62], none, []⟩, ⟨4, some 64, .un .not (.tmp 63), none, []⟩]))
  (.cond (.tmp 64) (.seq (.keep [] (.ops [⟨0, some 8, .mv (.const (.bool false)), none, []⟩]))
  (.ret)) (.skip)))
  (.seq (.seq (.keep [1, 2, 3, 4, 10, 11, 12, 13, 14, 15] (.ops [⟨0, some 65, .mv (.tmp 13), none, []⟩, ⟨1, some 66, .mv (.tmp 1), none, []⟩, ⟨2, some 67, .call n_w_toFloat32S [.tmp 66], none, []⟩, ⟨3, some 68, .call n_w_eqFloat32S [.tmp 65, .tmp 67], none, []⟩, ⟨4, some 69, .un .not (.tmp 68), none, []⟩]))
  (.cond (.tmp 69) (.seq (.keep [] (.ops [⟨0, some 8, .mv (.const (.bool false)), none, []⟩]))
  (.ret)) (.skip)))
  (.seq (.keep [1, 2, 3, 4, 10, 11, 12, 13, 14, 15] (.ops [⟨0, some 16, .mv (.const (.int .i64 1)), none, []⟩]))
  (.seq (.ops [⟨0, some 70, .ldn 2 (.tmp 12), none, []⟩, ⟨1, some 71, .mv (.tmp 16), none, []⟩, ⟨2, some 72, .call n_w_markScheme [.tmp 70, .tmp 71], none, []⟩, ⟨3, some 16, .mv (.tmp 72), none, []⟩])
  (.seq (.ops [⟨0, some 73, .mv (.tmp 13), none, []⟩, ⟨1, some 74, .mv (.tmp 16), none, []⟩, ⟨2, some 75, .call n_w_markFloat32S [.tmp 73, .tmp 74], none, []⟩, ⟨3, some 16, .mv (.tmp 75), none, []⟩])
  (.seq (.seq (.keep [1, 2, 3, 4, 10, 11, 14, 15, 16] (.ops [⟨0, some 76, .mv (.tmp 16), none, []⟩, ⟨1, some 77, .bin .lss (.tmp 76) (.const (.int .i64 0)), none, []⟩, ⟨2, some 78, .mv (.tmp 77), none, []⟩, ⟨3, some 79, .mv (.tmp 14), (some (78, false)), []⟩, ⟨4, some 80, .mv (.tmp 10), (some (78, false)), []⟩, ⟨5, some 81, .call n_w_eqFloat32S [.tmp 79, .tmp 80], (some (78, false)), []⟩, ⟨6, some 82, .un .not (.tmp 81), (some (78, false)), []⟩, ⟨7, some 83, .pick (.tmp 78) (.const (.bool true)) (.tmp 82), none, []⟩, ⟨8, some 84, .mv (.tmp 83), none, []⟩, ⟨9, some 85, .mv (.tmp 15), (some (84, false)), []⟩, ⟨10, some 86, .mv (.tmp 11), (some (84, false)), []⟩, ⟨11, some 87, .beq true (.tmp 85) (.tmp 86), (some (84, false)), []⟩, ⟨12, some 88, .pick (.tmp 84) (.const (.bool true)) (.tmp 87), none, []⟩]))
  (.cond (.tmp 88) (.seq (.keep [] (.ops [⟨0, some 8, .mv (.const (.bool false)), none, []⟩]))
  (.ret)) (.skip)))
  (.seq (.keep [1, 2, 3, 4, 10, 11, 14] (.ops [⟨0, some 17, .mv (.const (.int .i64 1)), none, []⟩]))
  (.seq (.ops [⟨0, some 89, .mv (.tmp 14), none, []⟩, ⟨1, some 90, .mv (.tmp 17), none, []⟩, ⟨2, some 91, .call n_w_markFloat32S [.tmp 89, .tmp 90], none, []⟩, ⟨3, some 17, .mv (.tmp 91), none, []⟩])
  (.seq (.ops [⟨0, some 18, .mv (.const (.int .i64 1)), none, []⟩])
  (.seq (.ops [⟨0, some 92, .mv (.tmp 14), none, []⟩, ⟨1, some 93, .mv (.tmp 18), none, []⟩, ⟨2, some 94, .call n_w_heldFloat32S [.tmp 92, .tmp 93], none, []⟩, ⟨3, some 18, .mv (.tmp 94), none, []⟩])
  (.seq (.seq (.keep [1, 2, 3, 4, 10, 11, 14, 17, 18] (.ops [⟨0, some 95, .mv (.tmp 18), none, []⟩, ⟨1, some 96, .bin .lss (.tmp 95) (.const (.int .i64 0)), none, []⟩]))
  (.cond (.tmp 96) (.seq (.keep [] (.ops [⟨0, some 8, .mv (.const (.bool false)), none, []⟩]))
  (.ret)) (.skip)))
  (.seq (.seq (.ops [⟨0, some 97, .mv (.tmp 18), none, []⟩, ⟨1, some 98, .mv (.tmp 17), none, []⟩, ⟨2, some 99, .bin .neq (.tmp 97) (.tmp 98), none, []⟩])
  (.cond (.tmp 99) (.seq (.keep [] (.ops [⟨0, some 8, .mv (.const (.bool false)), none, []⟩]))
  (.ret)) (.skip)))
  (.seq (.keep [1, 2, 3, 4, 10, 11, 14, 17] (.ops [⟨0, some 101, .ldn 2 (.tmp 4), none, []⟩, ⟨1, some 102, .call n_w_toScheme [.tmp 101], none, []⟩, ⟨2, some 103, .mv (.tmp 1), none, []⟩, ⟨3, some 104, .call n_w_toFloat32S [.tmp 103], none, []⟩, ⟨4, some 105, .mv (.tmp 2), none, []⟩, ⟨5, some 106, .mv (.tmp 3), none, []⟩, ⟨6, some 107, .call n_i_CoarseOf [.tmp 102, .tmp 104, .tmp 105, .tmp 106], none, []⟩, ⟨7, some 100, .mv (.tmp 107), none, []⟩, ⟨8, some 108, .ext (.tmp 100) 0, none, []⟩, ⟨9, some 109, .ext (.tmp 100) 1, none, []⟩, ⟨10, some 19, .mv (.tmp 108), none, []⟩, ⟨11, some 20, .mv (.tmp 109), none, []⟩]))
  (.seq (.seq (.keep [10, 11, 14, 17, 19, 20] (.ops [⟨0, some 110, .mv (.tmp 19), none, []⟩, ⟨1, some 111, .mv (.tmp 10), none, []⟩, ⟨2, some 112, .call n_w_eqFloat32S [.tmp 110, .tmp 111], none, []⟩, ⟨3, some 113, .un .not (.tmp 112), none, []⟩, ⟨4, some 114, .mv (.tmp 113), none, []⟩, ⟨5, some 115, .mv (.tmp 20), (some (114, false)), []⟩, ⟨6, some 116, .mv (.tmp 11), (some (114, false)), []⟩, ⟨7, some 117, .beq true (.tmp 115) (.tmp 116), (some (114, false)), []⟩, ⟨8, some 118, .pick (.tmp 114) (.const (.bool true)) (.tmp 117), none, []⟩]))
  (.cond (.tmp 118) (.seq (.keep [] (.ops [⟨0, some 8, .mv (.const (.bool false)), none, []⟩]))
  (.ret)) (.skip)))
  (.seq (.keep [14, 17] (.ops [⟨0, some 18, .mv (.const (.int .i64 1)), none, []⟩]))
  (.seq (.ops [⟨0, some 119, .mv (.tmp 14), none, []⟩, ⟨1, some 120, .mv (.tmp 18), none, []⟩, ⟨2, some 121, .call n_w_heldFloat32S [.tmp 119, .tmp 120], none, []⟩, ⟨3, some 18, .mv (.tmp 121), none, []⟩])
  (.seq (.seq (.ops [⟨0, some 122, .mv (.tmp 18), none, []⟩, ⟨1, some 123, .bin .lss (.tmp 122) (.const (.int .i64 0)), none, []⟩])
  (.cond (.tmp 123) (.seq (.keep [] (.ops [⟨0, some 8, .mv (.const (.bool false)), none, []⟩]))
  (.ret)) (.skip)))
  (.seq (.seq (.keep [17, 18] (.ops [⟨0, some 124, .mv (.tmp 18), none, []⟩, ⟨1, some 125, .mv (.tmp 17), none, []⟩, ⟨2, some 126, .bin .neq (.tmp 124) (.tmp 125), none, []⟩]))
  (.cond (.tmp 126) (.seq (.keep [] (.ops [⟨0, some 8, .mv (.const (.bool false)), none, []⟩]))
  (.ret)) (.skip)))
  (.seq (.keep [] (.ops [⟨0, some 8, .mv (.const (.bool true)), none, []⟩]))
  (.ret)))))))))))))))))))))))))))))
theorem k_w_FnExactCoarseOf : FnOk Try.prog n_w_FnExactCoarseOf 4 c_w_FnExactCoarseOf [.tmp 8] := ⟨by kernel_rfl⟩
def c_w_sameFloat : ACode :=
  .seq (.ops [⟨0, some 4, .mv (.const (.bool false)), none, []⟩])
  (.seq (.seq (.ops [⟨0, some 5, .mv (.tmp 0), none, []⟩, ⟨1, some 6, .mv (.tmp 0), none, []⟩, ⟨2, some 7, .bin .neq (.tmp 5) (.tmp 6), none, []⟩, ⟨3, some 8, .mv (.tmp 7), none, []⟩, ⟨4, some 9, .mv (.tmp 1), (some (8, false)), []⟩, ⟨5, some 10, .mv (.tmp 1), (some (8, false)), []⟩, ⟨6, some 11, .bin .neq (.tmp 9) (.tmp 10), (some (8, false)), []⟩, ⟨7, some 12, .pick (.tmp 8) (.const (.bool true)) (.tmp 11), none, []⟩])
  (.cond (.tmp 12) (.seq (.keep [0, 1] (.ops [⟨0, some 13, .mv (.tmp 0), none, []⟩, ⟨1, some 14, .mv (.tmp 0), none, []⟩, ⟨2, some 15, .bin .neq (.tmp 13) (.tmp 14), none, []⟩, ⟨3, some 16, .mv (.tmp 15), none, []⟩, ⟨4, some 17, .mv (.tmp 1), (some (16, true)), []⟩, ⟨5, some 18, .mv (.tmp 1), (some (16, true)), []⟩, ⟨6, some 19, .bin .neq (.tmp 17) (.tmp 18), (some (16, true)), []⟩, ⟨7, some 20, .pick (.tmp 16) (.tmp 19) (.const (.bool false)), none, []⟩, ⟨8, some 4, .mv (.tmp 20), none, []⟩]))
  (.ret)) (.skip)))
  (.seq (.seq (.keep [0, 1] (.ops [⟨0, some 21, .mv (.tmp 0), none, []⟩, ⟨1, some 22, .bin .eql (.tmp 21) (.const (.float .f64 0)), none, []⟩, ⟨2, some 23, .mv (.tmp 22), none, []⟩, ⟨3, some 24, .mv (.tmp 1), (some (23, true)), []⟩, ⟨4, some 25, .bin .eql (.tmp 24) (.const (.float .f64 0)), (some (23, true)), []⟩, ⟨5, some 26, .pick (.tmp 23) (.tmp 25) (.const (.bool false)), none, []⟩]))
  (.cond (.tmp 26) (.seq (.keep [0, 1] (.ops [⟨0, some 27, .mv (.tmp 0), none, []⟩, ⟨1, some 28, .bin .quo (.const (.float .f64 4607182418800017408)) (.tmp 27), none, []⟩, ⟨2, some 29, .bin .gtr (.tmp 28) (.const (.float .f64 0)), none, []⟩, ⟨3, some 30, .mv (.tmp 1), none, []⟩, ⟨4, some 31, .bin .quo (.const (.float .f64 4607182418800017408)) (.tmp 30), none, []⟩, ⟨5, some 32, .bin .gtr (.tmp 31) (.const (.float .f64 0)), none, []⟩, ⟨6, some 33, .beq false (.tmp 29) (.tmp 32), none, []⟩, ⟨7, some 4, .mv (.tmp 33), none, []⟩]))
  (.ret)) (.skip)))
  (.seq (.keep [0, 1] (.ops [⟨0, some 34, .mv (.tmp 0), none, []⟩, ⟨1, some 35, .mv (.tmp 1), none, []⟩, ⟨2, some 36, .bin .eql (.tmp 34) (.tmp 35), none, []⟩, ⟨3, some 4, .mv (.tmp 36), none, []⟩]))
  (.ret))))
theorem k_w_sameFloat : FnOk Try.prog n_w_sameFloat 2 c_w_sameFloat [.tmp 4] := ⟨by kernel_rfl⟩
def c_w_eqFloat32S : ACode :=
  .seq (.ops [⟨0, some 4, .mv (.const (.bool false)), none, []⟩])
  (.seq (.seq (.ops [⟨0, some 6, .mv (.tmp 0), none, []⟩, ⟨1, some 7, .len (.tmp 6), none, []⟩, ⟨2, some 8, .mv (.tmp 1), none, []⟩, ⟨3, some 9, .len (.tmp 8), none, []⟩, ⟨4, some 10, .bin .neq (.tmp 7) (.tmp 9), none, []⟩])
  (.cond (.tmp 10) (.seq (.keep [] (.ops [⟨0, some 4, .mv (.const (.bool false)), none, []⟩]))
  (.ret)) (.skip)))
  (.seq (.seq (.keep [0, 1] (.ops [⟨0, some 5, .mv (.const (.int .i64 0)), none, []⟩]))
  (.block 0 (.loop [0, 1, 5] (.seq (.seq (.ops [⟨0, some 11, .mv (.tmp 5), none, []⟩, ⟨1, some 12, .mv (.tmp 0), none, []⟩, ⟨2, some 13, .len (.tmp 12), none, []⟩, ⟨3, some 14, .bin .lss (.tmp 11) (.tmp 13), none, []⟩])
  (.cond (.tmp 14) (.skip) (.exit 0)))
  (.seq (.block 1 (.seq (.ops [⟨0, some 17, .mv (.tmp 0), none, []⟩, ⟨1, some 18, .mv (.tmp 5), none, []⟩, ⟨2, some 19, .ia (.tmp 17) (.tmp 18), none, []⟩, ⟨3, some 20, .ld (.tmp 19), none, []⟩, ⟨4, some 21, .cv (.f .f64) (.tmp 20), none, []⟩, ⟨5, some 22, .mv (.tmp 1), none, []⟩, ⟨6, some 23, .mv (.tmp 5), none, []⟩, ⟨7, some 24, .ia (.tmp 22) (.tmp 23), none, []⟩, ⟨8, some 25, .ld (.tmp 24), none, []⟩, ⟨9, some 26, .cv (.f .f64) (.tmp 25), none, []⟩, ⟨10, some 27, .call n_w_sameFloat [.tmp 21, .tmp 26], none, []⟩, ⟨11, some 28, .un .not (.tmp 27), none, []⟩])
  (.cond (.tmp 28) (.seq (.keep [] (.ops [⟨0, some 4, .mv (.const (.bool false)), none, []⟩]))
  (.ret)) (.skip))))
  (.keep [0, 1, 5] (.ops [⟨0, some 15, .mv (.tmp 5), none, []⟩, ⟨1, some 16, .bin .add (.tmp 15) (.const (.int .i64 1)), none, []⟩, ⟨2, some 5, .mv (.tmp 16), none, []⟩])))))))
  (.seq (.keep [] (.ops [⟨0, some 4, .mv (.const (.bool true)), none, []⟩]))
  (.ret))))
theorem k_w_eqFloat32S : FnOk Try.prog n_w_eqFloat32S 2 c_w_eqFloat32S [.tmp 4] := ⟨by kernel_rfl⟩
def c_w_markFloat32S : ACode :=
  .seq (.ops [⟨0, some 4, .mv (.const (.int .i64 0)), none, []⟩])
  (.seq (.seq (.ops [⟨0, some 5, .mv (.const (.int .i64 0)), none, []⟩])
  (.block 0 (.loop [0, 1, 5] (.seq (.seq (.ops [⟨0, some 6, .mv (.tmp 5), none, []⟩, ⟨1, some 7, .mv (.tmp 0), none, []⟩, ⟨2, some 8, .len (.tmp 7), none, []⟩, ⟨3, some 9, .bin .lss (.tmp 6) (.tmp 8), none, []⟩])
  (.cond (.tmp 9) (.skip) (.exit 0)))
  (.seq (.block 1 (.seq (.ops [⟨0, some 12, .mv (.tmp 0), none, []⟩, ⟨1, some 13, .mv (.tmp 5), none, []⟩, ⟨2, some 14, .mv (.tmp 1), none, []⟩, ⟨3, some 15, .cv (.f .f32) (.tmp 14), none, []⟩, ⟨4, some 16, .ia (.tmp 12) (.tmp 13), none, []⟩, ⟨5, none, .st (.tmp 16) (.tmp 15), none, []⟩])
  (.keep [0, 1, 5] (.ops [⟨0, some 17, .mv (.tmp 1), none, []⟩, ⟨1, some 18, .bin .add (.tmp 17) (.const (.int .i64 1)), none, []⟩, ⟨2, some 1, .mv (.tmp 18), none, []⟩]))))
  (.ops [⟨0, some 10, .mv (.tmp 5), none, []⟩, ⟨1, some 11, .bin .add (.tmp 10) (.const (.int .i64 1)), none, []⟩, ⟨2, some 5, .mv (.tmp 11), none, []⟩]))))))
  (.seq (.keep [1] (.ops [⟨0, some 19, .mv (.tmp 1), none, []⟩, ⟨1, some 4, .mv (.tmp 19), none, []⟩]))
  (.ret)))
theorem k_w_markFloat32S : FnOk Try.prog n_w_markFloat32S 2 c_w_markFloat32S [.tmp 4] := ⟨by kernel_rfl⟩
def c_w_heldFloat32S : ACode :=
  .seq (.ops [⟨0, some 4, .mv (.const (.int .i64 0)), none, []⟩])
  (.seq (.seq (.ops [⟨0, some 5, .mv (.const (.int .i64 0)), none, []⟩])
  (.block 0 (.loop [0, 1, 5] (.seq (.seq (.ops [⟨0, some 6, .mv (.tmp 5), none, []⟩, ⟨1, some 7, .mv (.tmp 0), none, []⟩, ⟨2, some 8, .len (.tmp 7), none, []⟩, ⟨3, some 9, .bin .lss (.tmp 6) (.tmp 8), none, []⟩])
  (.cond (.tmp 9) (.skip) (.exit 0)))
  (.seq (.block 1 (.seq (.seq (.ops [⟨0, some 12, .mv (.tmp 0), none, []⟩, ⟨1, some 13, .mv (.tmp 5), none, []⟩, ⟨2, some 14, .ia (.tmp 12) (.tmp 13), none, []⟩, ⟨3, some 15, .ld (.tmp 14), none, []⟩, ⟨4, some 16, .mv (.tmp 1), none, []⟩, ⟨5, some 17, .cv (.f .f32) (.tmp 16), none, []⟩, ⟨6, some 18, .bin .neq (.tmp 15) (.tmp 17), none, []⟩])
  (.cond (.tmp 18) (.seq (.keep [] (.ops [⟨0, some 4, .mv (.const (.int .i64 (-1))), none, []⟩]))
  (.ret)) (.skip)))
  (.keep [0, 1, 5] (.ops [⟨0, some 19, .mv (.tmp 1), none, []⟩, ⟨1, some 20, .bin .add (.tmp 19) (.const (.int .i64 1)), none, []⟩, ⟨2, some 1, .mv (.tmp 20), none, []⟩]))))
  (.ops [⟨0, some 10, .mv (.tmp 5), none, []⟩, ⟨1, some 11, .bin .add (.tmp 10) (.const (.int .i64 1)), none, []⟩, ⟨2, some 5, .mv (.tmp 11), none, []⟩]))))))
  (.seq (.keep [1] (.ops [⟨0, some 21, .mv (.tmp 1), none, []⟩, ⟨1, some 4, .mv (.tmp 21), none, []⟩]))
  (.ret)))
theorem k_w_heldFloat32S : FnOk Try.prog n_w_heldFloat32S 2 c_w_heldFloat32S [.tmp 4] := ⟨by kernel_rfl⟩
def c_w_szScheme : ACode :=
  .seq (.ops [⟨0, some 2, .box 60 (.tmp 0), none, []⟩, ⟨1, some 4, .mv (.const (.int .i64 0)), none, []⟩])
  (.seq (.ops [⟨0, some 5, .fa 0 (.tmp 2), none, []⟩, ⟨1, some 6, .ld (.tmp 5), none, []⟩, ⟨2, some 7, .mv (.tmp 1), none, []⟩, ⟨3, some 8, .call n_w_szFloat32S [.tmp 6, .tmp 7], none, []⟩, ⟨4, some 1, .mv (.tmp 8), none, []⟩])
  (.seq (.seq (.keep [1] (.ops [⟨0, some 9, .mv (.tmp 1), none, []⟩, ⟨1, some 10, .bin .lss (.tmp 9) (.const (.int .i64 0)), none, []⟩]))
  (.cond (.tmp 10) (.seq (.ops [⟨0, some 4, .mv (.const (.int .i64 (-1))), none, []⟩])
  (.ret)) (.skip)))
  (.seq (.ops [⟨0, some 11, .mv (.tmp 1), none, []⟩, ⟨1, some 4, .mv (.tmp 11), none, []⟩])
  (.ret))))
theorem k_w_szScheme : FnOk Try.prog n_w_szScheme 2 c_w_szScheme [.tmp 4] := ⟨by kernel_rfl⟩
def c_w_toScheme : ACode :=
  .seq (.ops [⟨0, some 1, .box 60 (.tmp 0), none, []⟩, ⟨1, some 2, .new 64 [.slice none 0 0, .float .f32 0], none, []⟩])
  (.seq (.ops [⟨0, some 3, .new 64 [.slice none 0 0, .float .f32 0], none, []⟩])
  (.seq (.ops [⟨0, some 4, .fa 0 (.tmp 1), none, []⟩, ⟨1, some 5, .ld (.tmp 4), none, []⟩, ⟨2, some 6, .call n_w_toFloat32S [.tmp 5], none, []⟩, ⟨3, some 7, .fa 0 (.tmp 3), none, []⟩, ⟨4, none, .st (.tmp 7) (.tmp 6), none, []⟩])
  (.seq (.keep [1, 2, 3] (.ops [⟨0, some 8, .fa 1 (.tmp 1), none, []⟩, ⟨1, some 9, .ld (.tmp 8), none, []⟩, ⟨2, some 10, .fa 1 (.tmp 3), none, []⟩, ⟨3, none, .st (.tmp 10) (.tmp 9), none, []⟩]))
  (.seq (.ops [⟨0, some 11, .ldn 2 (.tmp 3), none, []⟩, ⟨1, none, .stn 2 (.tmp 2) (.tmp 11), none, []⟩])
  (.ret)))))
theorem k_w_toScheme : FnOk Try.prog n_w_toScheme 1 c_w_toScheme [.celln 2 2] := ⟨by kernel_rfl⟩
def c_i_DropDeep : ACode :=
  .seq (.ops [⟨0, some 2, .box 64 (.tmp 0), none, []⟩, ⟨1, some 4, .mv (.const (.slice none 0 0)), none, []⟩, ⟨2, some 5, .mv (.const (.bool false)), none, []⟩])
  (.seq (.seq (.ops [⟨0, some 10, .ldn 2 (.tmp 2), none, []⟩, ⟨1, some 11, .call n_i_ValidScheme [.tmp 10], none, []⟩, ⟨2, some 12, .un .not (.tmp 11), none, []⟩, ⟨3, some 13, .mv (.tmp 12), none, []⟩, ⟨4, some 14, .mv (.tmp 1), (some (13, false)), []⟩, ⟨5, some 15, .call n_i_AreBands [.tmp 14], (some (13, false)), []⟩, ⟨6, some 16, .un .not (.tmp 15), (some (13, false)), []⟩, ⟨7, some 17, .pick (.tmp 13) (.const (.bool true)) (.tmp 16), none, []⟩])
  (.cond (.tmp 17) (.seq (.keep [] (.ops [⟨0, some 4, .mv (.const (.slice none 0 0)), none, []⟩, ⟨1, some 5, .mv (.const (.bool false)), none, []⟩]))
  (.ret)) (.skip)))
  (.seq (.keep [1, 2] (.ops [⟨0, some 18, .mv (.tmp 1), none, []⟩, ⟨1, some 19, .mv (.tmp 1), none, []⟩, ⟨2, some 20, .len (.tmp 19), none, []⟩, ⟨3, some 21, .bin .sub (.tmp 20) (.const (.int .i64 1)), none, []⟩, ⟨4, some 22, .ia (.tmp 18) (.tmp 21), none, []⟩, ⟨5, some 23, .ld (.tmp 22), none, []⟩, ⟨6, some 24, .call n_i_copyOf [.tmp 23], none, []⟩, ⟨7, some 6, .mv (.tmp 24), none, []⟩]))
  (.seq (.seq (.keep [1, 2, 6] (.ops [⟨0, some 25, .mv (.tmp 1), none, []⟩, ⟨1, some 26, .len (.tmp 25), none, []⟩, ⟨2, some 27, .bin .sub (.tmp 26) (.const (.int .i64 2)), none, []⟩, ⟨3, some 7, .mv (.tmp 27), none, []⟩]))
  (.block 0 (.loop [1, 2, 6, 7] (.seq (.seq (.ops [⟨0, some 28, .mv (.tmp 7), none, []⟩, ⟨1, some 29, .bin .geq (.tmp 28) (.const (.int .i64 0)), none, []⟩])
  (.cond (.tmp 29) (.skip) (.exit 0)))
  (.seq (.block 1 (.seq (.ops [⟨0, some 33, .ldn 2 (.tmp 2), none, []⟩, ⟨1, some 34, .mv (.tmp 6), none, []⟩, ⟨2, some 35, .mv (.tmp 1), none, []⟩, ⟨3, some 36, .mv (.tmp 7), none, []⟩, ⟨4, some 37, .ia (.tmp 35) (.tmp 36), none, []⟩, ⟨5, some 38, .ld (.tmp 37), none, []⟩, ⟨6, some 39, .call n_i_DropOnce [.tmp 33, .tmp 34, .tmp 38], none, []⟩, ⟨7, some 32, .mv (.tmp 39), none, []⟩, ⟨8, some 40, .ext (.tmp 32) 0, none, []⟩, ⟨9, some 41, .ext (.tmp 32) 1, none, []⟩, ⟨10, some 8, .mv (.tmp 40), none, []⟩, ⟨11, some 9, .mv (.tmp 41), none, []⟩])
  (.seq (.seq (.keep [1, 2, 7, 8, 9] (.ops [⟨0, some 42, .mv (.tmp 9), none, []⟩, ⟨1, some 43, .un .not (.tmp 42), none, []⟩]))
  (.cond (.tmp 43) (.seq (.keep [] (.ops [⟨0, some 4, .mv (.const (.slice none 0 0)), none, []⟩, ⟨1, some 5, .mv (.const (.bool false)), none, []⟩]))
  (.ret)) (.skip)))
  (.ops [⟨0, some 44, .mv (.tmp 8), none, []⟩, ⟨1, some 6, .mv (.tmp 44), none, []⟩]))))
  (.keep [1, 2, 6, 7] (.ops [⟨0, some 30, .mv (.tmp 7), none, []⟩, ⟨1, some 31, .bin .sub (.tmp 30) (.const (.int .i64 1)), none, []⟩, ⟨2, some 7, .mv (.tmp 31), none, []⟩])))))))
  (.seq (.keep [6] (.ops [⟨0, some 45, .mv (.tmp 6), none, []⟩, ⟨1, some 4, .mv (.tmp 45), none, []⟩, ⟨2, some 5, .mv (.const (.bool true)), none, []⟩]))
  (.ret)))))
theorem k_i_DropDeep : FnOk Try.prog n_i_DropDeep 2 c_i_DropDeep [.tmp 4, .tmp 5] := ⟨by kernel_rfl⟩
def c_w_eqScheme : ACode :=
  .seq (.ops [⟨0, some 2, .box 64 (.tmp 0), none, []⟩, ⟨1, some 3, .box 64 (.tmp 1), none, []⟩, ⟨2, some 4, .mv (.const (.bool false)), none, []⟩])
  (.seq (.seq (.ops [⟨0, some 5, .fa 0 (.tmp 2), none, []⟩, ⟨1, some 6, .ld (.tmp 5), none, []⟩, ⟨2, some 7, .fa 0 (.tmp 3), none, []⟩, ⟨3, some 8, .ld (.tmp 7), none, []⟩, ⟨4, some 9, .call n_w_eqFloat32S [.tmp 6, .tmp 8], none, []⟩, ⟨5, some 10, .un .not (.tmp 9), none, []⟩])
  (.cond (.tmp 10) (.seq (.keep [] (.ops [⟨0, some 4, .mv (.const (.bool false)), none, []⟩]))
  (.ret)) (.skip)))
  (.seq (.seq (.keep [2, 3] (.ops [⟨0, some 11, .fa 1 (.tmp 2), none, []⟩, ⟨1, some 12, .ld (.tmp 11), none, []⟩, ⟨2, some 13, .cv (.f .f64) (.tmp 12), none, []⟩, ⟨3, some 14, .fa 1 (.tmp 3), none, []⟩, ⟨4, some 15, .ld (.tmp 14), none, []⟩, ⟨5, some 16, .cv (.f .f64) (.tmp 15), none, []⟩, ⟨6, some 17, .call n_w_sameFloat [.tmp 13, .tmp 16], none, []⟩, ⟨7, some 18, .un .not (.tmp 17), none, []⟩]))
  (.cond (.tmp 18) (.seq (.keep [] (.ops [⟨0, some 4, .mv (.const (.bool false)), none, []⟩]))
  (.ret)) (.skip)))
  (.seq (.keep [] (.ops [⟨0, some 4, .mv (.const (.bool true)), none, []⟩]))
  (.ret))))
theorem k_w_eqScheme : FnOk Try.prog n_w_eqScheme 2 c_w_eqScheme [.tmp 4] := ⟨by kernel_rfl⟩
def c_w_markScheme : ACode :=
  .seq (.ops [⟨0, some 2, .box 64 (.tmp 0), none, []⟩, ⟨1, some 4, .mv (.const (.int .i64 0)), none, []⟩])
  (.seq (.ops [⟨0, some 5, .fa 0 (.tmp 2), none, []⟩, ⟨1, some 6, .ld (.tmp 5), none, []⟩, ⟨2, some 7, .mv (.tmp 1), none, []⟩, ⟨3, some 8, .call n_w_markFloat32S [.tmp 6, .tmp 7], none, []⟩, ⟨4, some 1, .mv (.tmp 8), none, []⟩])
  (.seq (.keep [1] (.ops [⟨0, some 9, .mv (.tmp 1), none, []⟩, ⟨1, some 4, .mv (.tmp 9), none, []⟩]))
  (.ret)))
theorem k_w_markScheme : FnOk Try.prog n_w_markScheme 2 c_w_markScheme [.tmp 4] := ⟨by kernel_rfl⟩
def c_s_CoarseOf : ACode :=
  .seq (.ops [⟨0, some 4, .box 64 (.tmp 0), none, []⟩, ⟨1, some 8, .mv (.const (.slice none 0 0)), none, []⟩, ⟨2, some 9, .mv (.const (.bool false)), none, []⟩])
  (.seq (.seq (.ops [⟨0, some 13, .mv (.tmp 3), none, []⟩, ⟨1, some 14, .bin .lss (.tmp 13) (.const (.int .i64 0)), none, []⟩])
  (.cond (.tmp 14) (.seq (.keep [] (.ops [⟨0, some 8, .mv (.const (.slice none 0 0)), none, []⟩, ⟨1, some 9, .mv (.const (.bool false)), none, []⟩]))
  (.ret)) (.skip)))
  (.seq (.keep [1, 2, 3, 4] (.ops [⟨0, some 16, .ldn 2 (.tmp 4), none, []⟩, ⟨1, some 17, .mv (.tmp 1), none, []⟩, ⟨2, some 18, .mv (.tmp 2), none, []⟩, ⟨3, some 19, .call n_s_LiftDeep [.tmp 16, .tmp 17, .tmp 18], none, []⟩, ⟨4, some 15, .mv (.tmp 19), none, []⟩, ⟨5, some 20, .ext (.tmp 15) 0, none, []⟩, ⟨6, some 21, .ext (.tmp 15) 1, none, []⟩, ⟨7, some 10, .mv (.tmp 20), none, []⟩, ⟨8, some 11, .mv (.tmp 21), none, []⟩]))
  (.seq (.seq (.keep [3, 4, 10, 11] (.ops [⟨0, some 22, .mv (.tmp 11), none, []⟩, ⟨1, some 23, .un .not (.tmp 22), none, []⟩]))
  (.cond (.tmp 23) (.seq (.keep [] (.ops [⟨0, some 8, .mv (.const (.slice none 0 0)), none, []⟩, ⟨1, some 9, .mv (.const (.bool false)), none, []⟩]))
  (.ret)) (.skip)))
  (.seq (.seq (.ops [⟨0, some 12, .mv (.const (.int .i64 0)), none, []⟩])
  (.block 0 (.loop [3, 4, 10, 12] (.seq (.seq (.ops [⟨0, some 24, .mv (.tmp 12), none, []⟩, ⟨1, some 25, .mv (.tmp 10), none, []⟩, ⟨2, some 26, .len (.tmp 25), none, []⟩, ⟨3, some 27, .bin .sub (.tmp 26) (.const (.int .i64 1)), none, []⟩, ⟨4, some 28, .mv (.tmp 3), none, []⟩, ⟨5, some 29, .bin .sub (.tmp 27) (.tmp 28), none, []⟩, ⟨6, some 30, .bin .lss (.tmp 24) (.tmp 29), none, []⟩])
  (.cond (.tmp 30) (.skip) (.exit 0)))
  (.seq (.block 1 (.keep [3, 4, 10, 12] (.ops [⟨0, some 33, .mv (.tmp 10), none, []⟩, ⟨1, some 34, .mv (.tmp 12), none, []⟩, ⟨2, some 35, .mv (.tmp 10), none, []⟩, ⟨3, some 36, .mv (.tmp 12), none, []⟩, ⟨4, some 37, .ia (.tmp 35) (.tmp 36), none, []⟩, ⟨5, some 38, .ld (.tmp 37), none, []⟩, ⟨6, some 39, .len (.tmp 38), none, []⟩, ⟨7, some 40, .mks 37 4 (.float .f32 0) (.tmp 39) (.tmp 39), none, []⟩, ⟨8, some 41, .ia (.tmp 33) (.tmp 34), none, []⟩, ⟨9, none, .st (.tmp 41) (.tmp 40), none, []⟩])))
  (.keep [3, 4, 10, 12] (.ops [⟨0, some 31, .mv (.tmp 12), none, []⟩, ⟨1, some 32, .bin .add (.tmp 31) (.const (.int .i64 1)), none, []⟩, ⟨2, some 12, .mv (.tmp 32), none, []⟩])))))))
  (.seq (.keep [4, 10] (.ops [⟨0, some 42, .mv (.tmp 10), none, []⟩, ⟨1, some 43, .call n_s_l02Undeep [.tmp 4, .tmp 42], none, []⟩, ⟨2, some 44, .ext (.tmp 43) 0, none, []⟩, ⟨3, some 45, .ext (.tmp 43) 1, none, []⟩, ⟨4, some 8, .mv (.tmp 44), none, []⟩, ⟨5, some 9, .mv (.tmp 45), none, []⟩]))
  (.ret))))))
theorem k_s_CoarseOf : FnOk Try.prog n_s_CoarseOf 4 c_s_CoarseOf [.tmp 8, .tmp 9] := ⟨by kernel_rfl⟩
def c_w_toFloat32S : ACode :=
  .seq (.ops [⟨0, some 2, .mv (.const (.slice none 0 0)), none, []⟩])
  (.seq (.ops [⟨0, some 5, .mv (.tmp 0), none, []⟩, ⟨1, some 6, .len (.tmp 5), none, []⟩, ⟨2, some 7, .mks 37 4 (.float .f32 0) (.tmp 6) (.tmp 6), none, []⟩, ⟨3, some 3, .mv (.tmp 7), none, []⟩])
  (.seq (.seq (.ops [⟨0, some 4, .mv (.const (.int .i64 0)), none, []⟩])
  (.block 0 (.loop [0, 3, 4] (.seq (.seq (.ops [⟨0, some 8, .mv (.tmp 4), none, []⟩, ⟨1, some 9, .mv (.tmp 0), none, []⟩, ⟨2, some 10, .len (.tmp 9), none, []⟩, ⟨3, some 11, .bin .lss (.tmp 8) (.tmp 10), none, []⟩])
  (.cond (.tmp 11) (.skip) (.exit 0)))
  (.seq (.block 1 (.ops [⟨0, some 14, .mv (.tmp 3), none, []⟩, ⟨1, some 15, .mv (.tmp 4), none, []⟩, ⟨2, some 16, .mv (.tmp 0), none, []⟩, ⟨3, some 17, .mv (.tmp 4), none, []⟩, ⟨4, some 18, .ia (.tmp 16) (.tmp 17), none, []⟩, ⟨5, some 19, .ld (.tmp 18), none, []⟩, ⟨6, some 20, .ia (.tmp 14) (.tmp 15), none, []⟩, ⟨7, none, .st (.tmp 20) (.tmp 19), none, []⟩]))
  (.keep [0, 3, 4] (.ops [⟨0, some 12, .mv (.tmp 4), none, []⟩, ⟨1, some 13, .bin .add (.tmp 12) (.const (.int .i64 1)), none, []⟩, ⟨2, some 4, .mv (.tmp 13), none, []⟩])))))))
  (.seq (.keep [3] (.ops [⟨0, some 21, .mv (.tmp 3), none, []⟩, ⟨1, some 2, .mv (.tmp 21), none, []⟩]))
  (.ret))))
theorem k_w_toFloat32S : FnOk Try.prog n_w_toFloat32S 1 c_w_toFloat32S [.tmp 2] := ⟨by kernel_rfl⟩
def c_i_CoarseOf : ACode :=
  .seq (.ops [⟨0, some 4, .box 64 (.tmp 0), none, []⟩, ⟨1, some 8, .mv (.const (.slice none 0 0)), none, []⟩, ⟨2, some 9, .mv (.const (.bool false)), none, []⟩])
  (.seq (.ops [⟨0, some 14, .ldn 2 (.tmp 4), none, []⟩, ⟨1, some 15, .mv (.tmp 1), none, []⟩, ⟨2, some 16, .mv (.tmp 2), none, []⟩, ⟨3, some 17, .call n_i_LiftDeep [.tmp 14, .tmp 15, .tmp 16], none, []⟩, ⟨4, some 13, .mv (.tmp 17), none, []⟩, ⟨5, some 18, .ext (.tmp 13) 0, none, []⟩, ⟨6, some 19, .ext (.tmp 13) 1, none, []⟩, ⟨7, some 10, .mv (.tmp 18), none, []⟩, ⟨8, some 11, .mv (.tmp 19), none, []⟩])
  (.seq (.seq (.keep [3, 4, 10, 11] (.ops [⟨0, some 20, .mv (.tmp 11), none, []⟩, ⟨1, some 21, .un .not (.tmp 20), none, []⟩, ⟨2, some 22, .mv (.tmp 21), none, []⟩, ⟨3, some 23, .mv (.tmp 3), (some (22, false)), []⟩, ⟨4, some 24, .bin .lss (.tmp 23) (.const (.int .i64 0)), (some (22, false)), []⟩, ⟨5, some 25, .pick (.tmp 22) (.const (.bool true)) (.tmp 24), none, []⟩]))
  (.cond (.tmp 25) (.seq (.keep [] (.ops [⟨0, some 8, .mv (.const (.slice none 0 0)), none, []⟩, ⟨1, some 9, .mv (.const (.bool false)), none, []⟩]))
  (.ret)) (.skip)))
  (.seq (.seq (.keep [3, 4, 10] (.ops [⟨0, some 12, .mv (.const (.int .i64 0)), none, []⟩]))
  (.block 0 (.loop [3, 4, 10, 12] (.seq (.seq (.ops [⟨0, some 26, .mv (.tmp 12), none, []⟩, ⟨1, some 27, .mv (.tmp 10), none, []⟩, ⟨2, some 28, .len (.tmp 27), none, []⟩, ⟨3, some 29, .bin .sub (.tmp 28) (.const (.int .i64 1)), none, []⟩, ⟨4, some 30, .mv (.tmp 3), none, []⟩, ⟨5, some 31, .bin .sub (.tmp 29) (.tmp 30), none, []⟩, ⟨6, some 32, .bin .lss (.tmp 26) (.tmp 31), none, []⟩])
  (.cond (.tmp 32) (.skip) (.exit 0)))
  (.seq (.block 1 (.keep [3, 4, 10, 12] (.ops [⟨0, some 35, .mv (.tmp 10), none, []⟩, ⟨1, some 36, .mv (.tmp 12), none, []⟩, ⟨2, some 37, .mv (.tmp 10), none, []⟩, ⟨3, some 38, .mv (.tmp 12), none, []⟩, ⟨4, some 39, .ia (.tmp 37) (.tmp 38), none, []⟩, ⟨5, some 40, .ld (.tmp 39), none, []⟩, ⟨6, some 41, .len (.tmp 40), none, []⟩, ⟨7, some 42, .mks 37 4 (.float .f32 0) (.tmp 41) (.tmp 41), none, []⟩, ⟨8, some 43, .ia (.tmp 35) (.tmp 36), none, []⟩, ⟨9, none, .st (.tmp 43) (.tmp 42), none, []⟩])))
  (.keep [3, 4, 10, 12] (.ops [⟨0, some 33, .mv (.tmp 12), none, []⟩, ⟨1, some 34, .bin .add (.tmp 33) (.const (.int .i64 1)), none, []⟩, ⟨2, some 12, .mv (.tmp 34), none, []⟩])))))))
  (.seq (.keep [4, 10] (.ops [⟨0, some 44, .ldn 2 (.tmp 4), none, []⟩, ⟨1, some 45, .mv (.tmp 10), none, []⟩, ⟨2, some 46, .call n_i_DropDeep [.tmp 44, .tmp 45], none, []⟩, ⟨3, some 47, .ext (.tmp 46) 0, none, []⟩, ⟨4, some 48, .ext (.tmp 46) 1, none, []⟩, ⟨5, some 8, .mv (.tmp 47), none, []⟩, ⟨6, some 9, .mv (.tmp 48), none, []⟩]))
  (.ret)))))
theorem k_i_CoarseOf : FnOk Try.prog n_i_CoarseOf 4 c_i_CoarseOf [.tmp 8, .tmp 9] := ⟨by kernel_rfl⟩
def c_i_within : ACode :=
  .seq (.ops [⟨0, some 6, .mv (.const (.bool false)), none, []⟩])
  (.seq (.ops [⟨0, some 7, .mv (.tmp 0), none, []⟩, ⟨1, some 8, .mv (.tmp 1), none, []⟩, ⟨2, some 9, .bin .geq (.tmp 7) (.tmp 8), none, []⟩, ⟨3, some 10, .mv (.tmp 9), none, []⟩, ⟨4, some 11, .mv (.tmp 0), (some (10, true)), []⟩, ⟨5, some 12, .mv (.tmp 2), (some (10, true)), []⟩, ⟨6, some 13, .bin .leq (.tmp 11) (.tmp 12), (some (10, true)), []⟩, ⟨7, some 14, .pick (.tmp 10) (.tmp 13) (.const (.bool false)), none, []⟩, ⟨8, some 6, .mv (.tmp 14), none, []⟩])
  (.ret))
theorem k_i_within : FnOk Try.prog n_i_within 3 c_i_within [.tmp 6] := ⟨by kernel_rfl⟩
def c_i_areSizes : ACode :=
  .seq (.ops [⟨0, some 2, .mv (.const (.bool false)), none, []⟩])
  (.seq (.ops [⟨0, some 7, .mv (.tmp 0), none, []⟩, ⟨1, some 8, .len (.tmp 7), none, []⟩, ⟨2, some 9, .bin .sub (.tmp 8) (.const (.int .i64 1)), none, []⟩, ⟨3, some 3, .mv (.tmp 9), none, []⟩])
  (.seq (.seq (.ops [⟨0, some 10, .mv (.tmp 3), none, []⟩, ⟨1, some 11, .call n_i_within [.tmp 10, .const (.int .i64 0), .const (.int .i64 6)], none, []⟩, ⟨2, some 12, .un .not (.tmp 11), none, []⟩, ⟨3, some 13, .mv (.tmp 12), none, []⟩, ⟨4, some 14, .mv (.tmp 0), (some (13, false)), []⟩, ⟨5, some 15, .mv (.tmp 3), (some (13, false)), []⟩, ⟨6, some 16, .ia (.tmp 14) (.tmp 15), (some (13, false)), []⟩, ⟨7, some 17, .ld (.tmp 16), (some (13, false)), []⟩, ⟨8, some 18, .bin .lss (.tmp 17) (.const (.int .i64 1)), (some (13, false)), []⟩, ⟨9, some 19, .pick (.tmp 13) (.const (.bool true)) (.tmp 18), none, []⟩, ⟨10, some 20, .mv (.tmp 19), none, []⟩, ⟨11, some 21, .mv (.tmp 3), (some (20, false)), []⟩, ⟨12, some 22, .bin .eql (.tmp 21) (.const (.int .i64 0)), (some (20, false)), []⟩, ⟨13, some 23, .mv (.tmp 22), (some (20, false)), []⟩, ⟨14, some 24, .mv (.tmp 0), (some (23, true)), []⟩, ⟨15, some 25, .ia (.tmp 24) (.const (.int .i64 0)), (some (23, true)), []⟩, ⟨16, some 26, .ld (.tmp 25), (some (23, true)), []⟩, ⟨17, some 27, .bin .neq (.tmp 26) (.const (.int .i64 1)), (some (23, true)), []⟩, ⟨18, some 28, .pick (.tmp 23) (.tmp 27) (.const (.bool false)), (some (20, false)), []⟩, ⟨19, some 29, .pick (.tmp 20) (.const (.bool true)) (.tmp 28), none, []⟩])
  (.cond (.tmp 29) (.seq (.keep [] (.ops [⟨0, some 2, .mv (.const (.bool false)), none, []⟩]))
  (.ret)) (.skip)))
  (.seq (.keep [0, 3] (.ops [⟨0, some 30, .mv (.tmp 0), none, []⟩, ⟨1, some 31, .mv (.tmp 3), none, []⟩, ⟨2, some 32, .ia (.tmp 30) (.tmp 31), none, []⟩, ⟨3, some 33, .ld (.tmp 32), none, []⟩, ⟨4, some 4, .mv (.tmp 33), none, []⟩]))
  (.seq (.seq (.ops [⟨0, some 34, .mv (.tmp 3), none, []⟩, ⟨1, some 35, .bin .sub (.tmp 34) (.const (.int .i64 1)), none, []⟩, ⟨2, some 5, .mv (.tmp 35), none, []⟩])
  (.block 0 (.loop [0, 4, 5] (.seq (.seq (.ops [⟨0, some 36, .mv (.tmp 5), none, []⟩, ⟨1, some 37, .bin .geq (.tmp 36) (.const (.int .i64 0)), none, []⟩])
  (.cond (.tmp 37) (.skip) (.exit 0)))
  (.seq (.block 1 (.seq (.seq (.ops [⟨0, some 40, .mv (.tmp 0), none, []⟩, ⟨1, some 41, .mv (.tmp 5), none, []⟩, ⟨2, some 42, .ia (.tmp 40) (.tmp 41), none, []⟩, ⟨3, some 43, .ld (.tmp 42), none, []⟩, ⟨4, some 6, .mv (.tmp 43), none, []⟩])
  (.seq (.keep [0, 4, 5, 6] (.ops [⟨0, some 44, .mv (.tmp 6), none, []⟩, ⟨1, some 45, .bin .lss (.tmp 44) (.const (.int .i64 1)), none, []⟩, ⟨2, some 46, .mv (.tmp 45), none, []⟩, ⟨3, some 47, .mv (.tmp 6), (some (46, false)), []⟩, ⟨4, some 48, .mv (.tmp 4), (some (46, false)), []⟩, ⟨5, some 49, .bin .neq (.tmp 47) (.tmp 48), (some (46, false)), []⟩, ⟨6, some 50, .mv (.tmp 49), (some (46, false)), []⟩, ⟨7, some 51, .mv (.tmp 6), (some (50, true)), []⟩, ⟨8, some 52, .mv (.tmp 4), (some (50, true)), []⟩, ⟨9, some 53, .bin .sub (.tmp 52) (.const (.int .i64 1)), (some (50, true)), []⟩, ⟨10, some 54, .bin .neq (.tmp 51) (.tmp 53), (some (50, true)), []⟩, ⟨11, some 55, .pick (.tmp 50) (.tmp 54) (.const (.bool false)), (some (46, false)), []⟩, ⟨12, some 56, .pick (.tmp 46) (.const (.bool true)) (.tmp 55), none, []⟩]))
  (.cond (.tmp 56) (.seq (.keep [] (.ops [⟨0, some 2, .mv (.const (.bool false)), none, []⟩]))
  (.ret)) (.skip))))
  (.seq (.keep [0, 4, 5] (.ops [⟨0, some 57, .mv (.tmp 4), none, []⟩, ⟨1, some 58, .mv (.tmp 0), none, []⟩, ⟨2, some 59, .mv (.tmp 5), none, []⟩, ⟨3, some 60, .ia (.tmp 58) (.tmp 59), none, []⟩, ⟨4, some 61, .ld (.tmp 60), none, []⟩, ⟨5, some 62, .bin .add (.tmp 57) (.tmp 61), none, []⟩, ⟨6, some 4, .mv (.tmp 62), none, []⟩]))
  (.seq (.keep [0, 4, 5] (.ops [⟨0, some 63, .mv (.tmp 4), none, []⟩, ⟨1, some 64, .bin .gtr (.tmp 63) (.const (.int .i64 128)), none, []⟩]))
  (.cond (.tmp 64) (.seq (.keep [] (.ops [⟨0, some 2, .mv (.const (.bool false)), none, []⟩]))
  (.ret)) (.skip))))))
  (.ops [⟨0, some 38, .mv (.tmp 5), none, []⟩, ⟨1, some 39, .bin .sub (.tmp 38) (.const (.int .i64 1)), none, []⟩, ⟨2, some 5, .mv (.tmp 39), none, []⟩]))))))
  (.seq (.ops [⟨0, some 65, .mv (.tmp 4), none, []⟩, ⟨1, some 66, .bin .leq (.tmp 65) (.const (.int .i64 128)), none, []⟩, ⟨2, some 2, .mv (.tmp 66), none, []⟩])
  (.ret))))))
theorem k_i_areSizes : FnOk Try.prog n_i_areSizes 1 c_i_areSizes [.tmp 2] := ⟨by kernel_rfl⟩
def c_w_szFloat32S : ACode :=
  .seq (.ops [⟨0, some 4, .mv (.const (.int .i64 0)), none, []⟩])
  (.seq (.ops [⟨0, some 5, .mv (.tmp 1), none, []⟩, ⟨1, some 6, .mv (.tmp 0), none, []⟩, ⟨2, some 7, .len (.tmp 6), none, []⟩, ⟨3, some 8, .bin .sub (.tmp 5) (.tmp 7), none, []⟩, ⟨4, some 1, .mv (.tmp 8), none, []⟩])
  (.seq (.seq (.keep [1] (.ops [⟨0, some 9, .mv (.tmp 1), none, []⟩, ⟨1, some 10, .bin .lss (.tmp 9) (.const (.int .i64 0)), none, []⟩]))
  (.cond (.tmp 10) (.seq (.ops [⟨0, some 4, .mv (.const (.int .i64 (-1))), none, []⟩])
  (.ret)) (.skip)))
  (.seq (.ops [⟨0, some 11, .mv (.tmp 1), none, []⟩, ⟨1, some 4, .mv (.tmp 11), none, []⟩])
  (.ret))))
theorem k_w_szFloat32S : FnOk Try.prog n_w_szFloat32S 2 c_w_szFloat32S [.tmp 4] := ⟨by kernel_rfl⟩
def c_s_l02Scheme : ACode :=
  .seq (.ops [⟨0, some 2, .mv (.const (.bool false)), none, []⟩])
  (.seq (.ops [⟨0, some 3, .mv (.tmp 0), none, []⟩, ⟨1, some 4, .nc (.tmp 3), none, []⟩, ⟨2, some 5, .fa 0 (.tmp 4), none, []⟩, ⟨3, some 6, .ld (.tmp 5), none, []⟩, ⟨4, some 7, .len (.tmp 6), none, []⟩, ⟨5, some 8, .bin .geq (.tmp 7) (.const (.int .i64 1)), none, []⟩, ⟨6, some 9, .mv (.tmp 8), none, []⟩, ⟨7, some 10, .mv (.tmp 0), (some (9, true)), []⟩, ⟨8, some 11, .nc (.tmp 10), (some (9, true)), []⟩, ⟨9, some 12, .fa 0 (.tmp 11), (some (9, true)), []⟩, ⟨10, some 13, .ld (.tmp 12), (some (9, true)), []⟩, ⟨11, some 14, .len (.tmp 13), (some (9, true)), []⟩, ⟨12, some 15, .bin .leq (.tmp 14) (.const (.int .i64 8)), (some (9, true)), []⟩, ⟨13, some 16, .pick (.tmp 9) (.tmp 15) (.const (.bool false)), none, []⟩, ⟨14, some 17, .mv (.tmp 16), none, []⟩, ⟨15, some 18, .mv (.tmp 0), (some (17, true)), []⟩, ⟨16, some 19, .nc (.tmp 18), (some (17, true)), []⟩, ⟨17, some 20, .fa 0 (.tmp 19), (some (17, true)), []⟩, ⟨18, some 21, .ld (.tmp 20), (some (17, true)), []⟩, ⟨19, some 22, .call n_s_l02Finite [.tmp 21], (some (17, true)), []⟩, ⟨20, some 23, .pick (.tmp 17) (.tmp 22) (.const (.bool false)), none, []⟩, ⟨21, some 24, .mv (.tmp 23), none, []⟩, ⟨22, some 25, .mv (.tmp 0), (some (24, true)), []⟩, ⟨23, some 26, .nc (.tmp 25), (some (24, true)), []⟩, ⟨24, some 27, .fa 1 (.tmp 26), (some (24, true)), []⟩, ⟨25, some 28, .ld (.tmp 27), (some (24, true)), []⟩, ⟨26, some 29, .call n_s_l02Above [.tmp 28], (some (24, true)), []⟩, ⟨27, some 30, .pick (.tmp 24) (.tmp 29) (.const (.bool false)), none, []⟩, ⟨28, some 2, .mv (.tmp 30), none, []⟩])
  (.ret))
theorem k_s_l02Scheme : FnOk Try.prog n_s_l02Scheme 1 c_s_l02Scheme [.tmp 2] := ⟨by kernel_rfl⟩
def c_s_l02Undeep : ACode :=
  .seq (.ops [⟨0, some 4, .mv (.const (.slice none 0 0)), none, []⟩, ⟨1, some 5, .mv (.const (.bool false)), none, []⟩])
  (.seq (.ops [⟨0, some 10, .bsl 37 0 (.float .f32 0) [], none, []⟩, ⟨1, some 11, .mv (.tmp 1), none, []⟩, ⟨2, some 12, .mv (.tmp 1), none, []⟩, ⟨3, some 13, .len (.tmp 12), none, []⟩, ⟨4, some 14, .bin .sub (.tmp 13) (.const (.int .i64 1)), none, []⟩, ⟨5, some 15, .ia (.tmp 11) (.tmp 14), none, []⟩, ⟨6, some 16, .ld (.tmp 15), none, []⟩, ⟨7, some 17, .app 37 4 (.tmp 10) (.tmp 16), none, []⟩, ⟨8, some 6, .mv (.tmp 17), none, []⟩])
  (.seq (.seq (.keep [0, 1, 6] (.ops [⟨0, some 18, .mv (.tmp 1), none, []⟩, ⟨1, some 19, .len (.tmp 18), none, []⟩, ⟨2, some 20, .bin .sub (.tmp 19) (.const (.int .i64 2)), none, []⟩, ⟨3, some 7, .mv (.tmp 20), none, []⟩]))
  (.block 0 (.loop [0, 1, 6, 7] (.seq (.seq (.ops [⟨0, some 21, .mv (.tmp 7), none, []⟩, ⟨1, some 22, .bin .geq (.tmp 21) (.const (.int .i64 0)), none, []⟩])
  (.cond (.tmp 22) (.skip) (.exit 0)))
  (.seq (.block 1 (.seq (.ops [⟨0, some 26, .mv (.tmp 0), none, []⟩, ⟨1, some 27, .mv (.tmp 6), none, []⟩, ⟨2, some 28, .mv (.tmp 1), none, []⟩, ⟨3, some 29, .mv (.tmp 7), none, []⟩, ⟨4, some 30, .ia (.tmp 28) (.tmp 29), none, []⟩, ⟨5, some 31, .ld (.tmp 30), none, []⟩, ⟨6, some 32, .call n_s_l02DropOnce [.tmp 26, .tmp 27, .tmp 31], none, []⟩, ⟨7, some 25, .mv (.tmp 32), none, []⟩, ⟨8, some 33, .ext (.tmp 25) 0, none, []⟩, ⟨9, some 34, .ext (.tmp 25) 1, none, []⟩, ⟨10, some 8, .mv (.tmp 33), none, []⟩, ⟨11, some 9, .mv (.tmp 34), none, []⟩])
  (.seq (.seq (.keep [0, 1, 7, 8, 9] (.ops [⟨0, some 35, .mv (.tmp 9), none, []⟩, ⟨1, some 36, .un .not (.tmp 35), none, []⟩]))
  (.cond (.tmp 36) (.seq (.keep [] (.ops [⟨0, some 4, .mv (.const (.slice none 0 0)), none, []⟩, ⟨1, some 5, .mv (.const (.bool false)), none, []⟩]))
  (.ret)) (.skip)))
  (.ops [⟨0, some 37, .mv (.tmp 8), none, []⟩, ⟨1, some 6, .mv (.tmp 37), none, []⟩]))))
  (.keep [0, 1, 6, 7] (.ops [⟨0, some 23, .mv (.tmp 7), none, []⟩, ⟨1, some 24, .bin .sub (.tmp 23) (.const (.int .i64 1)), none, []⟩, ⟨2, some 7, .mv (.tmp 24), none, []⟩])))))))
  (.seq (.keep [6] (.ops [⟨0, some 38, .mv (.tmp 6), none, []⟩, ⟨1, some 4, .mv (.tmp 38), none, []⟩, ⟨2, some 5, .mv (.const (.bool true)), none, []⟩]))
  (.ret))))
theorem k_s_l02Undeep : FnOk Try.prog n_s_l02Undeep 2 c_s_l02Undeep [.tmp 4, .tmp 5] := ⟨by kernel_rfl⟩
def c_i_ValidScheme : ACode :=
  .seq (.ops [⟨0, some 1, .box 64 (.tmp 0), none, []⟩, ⟨1, some 2, .mv (.const (.bool false)), none, []⟩])
  (.seq (.ops [⟨0, some 3, .fa 0 (.tmp 1), none, []⟩, ⟨1, some 4, .ld (.tmp 3), none, []⟩, ⟨2, some 5, .len (.tmp 4), none, []⟩, ⟨3, some 6, .call n_i_within [.tmp 5, .const (.int .i64 1), .const (.int .i64 8)], none, []⟩, ⟨4, some 7, .mv (.tmp 6), none, []⟩, ⟨5, some 8, .fa 0 (.tmp 1), (some (7, true)), []⟩, ⟨6, some 9, .ld (.tmp 8), (some (7, true)), []⟩, ⟨7, some 10, .bsl 32 1 (.slice none 0 0) [(0, .tmp 9)], (some (7, true)), []⟩, ⟨8, some 11, .call n_i_areFinite [.tmp 10], (some (7, true)), []⟩, ⟨9, some 12, .pick (.tmp 7) (.tmp 11) (.const (.bool false)), none, []⟩, ⟨10, some 13, .mv (.tmp 12), none, []⟩, ⟨11, some 14, .fa 1 (.tmp 1), (some (13, true)), []⟩, ⟨12, some 15, .ld (.tmp 14), (some (13, true)), []⟩, ⟨13, some 16, .call n_i_isOver [.tmp 15], (some (13, true)), []⟩, ⟨14, some 17, .pick (.tmp 13) (.tmp 16) (.const (.bool false)), none, []⟩, ⟨15, some 2, .mv (.tmp 17), none, []⟩])
  (.ret))
theorem k_i_ValidScheme : FnOk Try.prog n_i_ValidScheme 1 c_i_ValidScheme [.tmp 2] := ⟨by kernel_rfl⟩
def c_i_AreBands : ACode :=
  .seq (.ops [⟨0, some 2, .mv (.const (.bool false)), none, []⟩])
  (.seq (.ops [⟨0, some 3, .mv (.tmp 0), none, []⟩, ⟨1, some 4, .call n_i_sizesOf_float32_ [.tmp 3], none, []⟩, ⟨2, some 5, .call n_i_areSizes [.tmp 4], none, []⟩, ⟨3, some 6, .mv (.tmp 5), none, []⟩, ⟨4, some 7, .mv (.tmp 0), (some (6, true)), []⟩, ⟨5, some 8, .call n_i_areFinite [.tmp 7], (some (6, true)), []⟩, ⟨6, some 9, .pick (.tmp 6) (.tmp 8) (.const (.bool false)), none, []⟩, ⟨7, some 2, .mv (.tmp 9), none, []⟩])
  (.ret))
theorem k_i_AreBands : FnOk Try.prog n_i_AreBands 1 c_i_AreBands [.tmp 2] := ⟨by kernel_rfl⟩
def c_i_copyOf : ACode :=
  .seq (.ops [⟨0, some 2, .mv (.const (.slice none 0 0)), none, []⟩])
  (.seq (.ops [⟨0, some 3, .bsl 37 0 (.float .f32 0) [], none, []⟩, ⟨1, some 4, .mv (.tmp 0), none, []⟩, ⟨2, some 5, .app 37 4 (.tmp 3) (.tmp 4), none, []⟩, ⟨3, some 2, .mv (.tmp 5), none, []⟩])
  (.ret))
theorem k_i_copyOf : FnOk Try.prog n_i_copyOf 1 c_i_copyOf [.tmp 2] := ⟨by kernel_rfl⟩
def c_i_DropOnce : ACode :=
  .seq (.ops [⟨0, some 3, .box 64 (.tmp 0), none, []⟩, ⟨1, some 6, .mv (.const (.slice none 0 0)), none, []⟩, ⟨2, some 7, .mv (.const (.bool false)), none, []⟩])
  (.seq (.ops [⟨0, some 14, .mv (.tmp 1), none, []⟩, ⟨1, some 15, .len (.tmp 14), none, []⟩, ⟨2, some 8, .mv (.tmp 15), none, []⟩])
  (.seq (.seq (.keep [1, 2, 3, 8] (.ops [⟨0, some 16, .ldn 2 (.tmp 3), none, []⟩, ⟨1, some 17, .call n_i_ValidScheme [.tmp 16], none, []⟩, ⟨2, some 18, .un .not (.tmp 17), none, []⟩, ⟨3, some 19, .mv (.tmp 18), none, []⟩, ⟨4, some 20, .mv (.tmp 8), (some (19, false)), []⟩, ⟨5, some 21, .bin .lss (.tmp 20) (.const (.int .i64 1)), (some (19, false)), []⟩, ⟨6, some 22, .pick (.tmp 19) (.const (.bool true)) (.tmp 21), none, []⟩, ⟨7, some 23, .mv (.tmp 22), none, []⟩, ⟨8, some 24, .mv (.tmp 2), (some (23, false)), []⟩, ⟨9, some 25, .len (.tmp 24), (some (23, false)), []⟩, ⟨10, some 26, .mv (.tmp 8), (some (23, false)), []⟩, ⟨11, some 27, .bin .neq (.tmp 25) (.tmp 26), (some (23, false)), []⟩, ⟨12, some 28, .mv (.tmp 27), (some (23, false)), []⟩, ⟨13, some 29, .mv (.tmp 2), (some (28, true)), []⟩, ⟨14, some 30, .len (.tmp 29), (some (28, true)), []⟩, ⟨15, some 31, .mv (.tmp 8), (some (28, true)), []⟩, ⟨16, some 32, .bin .sub (.tmp 31) (.const (.int .i64 1)), (some (28, true)), []⟩, ⟨17, some 33, .bin .neq (.tmp 30) (.tmp 32), (some (28, true)), []⟩, ⟨18, some 34, .pick (.tmp 28) (.tmp 33) (.const (.bool false)), (some (23, false)), []⟩, ⟨19, some 35, .pick (.tmp 23) (.const (.bool true)) (.tmp 34), none, []⟩, ⟨20, some 36, .mv (.tmp 35), none, []⟩, ⟨21, some 37, .mv (.tmp 8), (some (36, false)), []⟩, ⟨22, some 38, .mv (.tmp 2), (some (36, false)), []⟩, ⟨23, some 39, .len (.tmp 38), (some (36, false)), []⟩, ⟨24, some 40, .bin .add (.tmp 37) (.tmp 39), (some (36, false)), []⟩, ⟨25, some 41, .bin .gtr (.tmp 40) (.const (.int .i64 128)), (some (36, false)), []⟩, ⟨26, some 42, .pick (.tmp 36) (.const (.bool true)) (.tmp 41), none, []⟩, ⟨27, some 43, .mv (.tmp 42), none, []⟩, ⟨28, some 44, .mv (.tmp 1), (some (43, false)), []⟩, ⟨29, some 45, .mv (.tmp 2), (some (43, false)), []⟩, ⟨30, some 46, .bsl 32 2 (.slice none 0 0) [(0, .tmp 44), (1, .tmp 45)], (some (43, false)), []⟩, ⟨31, some 47, .call n_i_areFinite [.tmp 46], (some (43, false)), []⟩, ⟨32, some 48, .un .not (.tmp 47), (some (43, false)), []⟩, ⟨33, some 49, .pick (.tmp 43) (.const (.bool true)) (.tmp 48), none, []⟩]))
  (.cond (.tmp 49) (.seq (.keep [] (.ops [⟨0, some 6, .mv (.const (.slice none 0 0)), none, []⟩, ⟨1, some 7, .mv (.const (.bool false)), none, []⟩]))
  (.ret)) (.skip)))
  (.seq (.keep [1, 2, 3] (.ops [⟨0, some 50, .mv (.tmp 1), none, []⟩, ⟨1, some 51, .call n_i_copyOf [.tmp 50], none, []⟩, ⟨2, some 52, .mv (.tmp 2), none, []⟩, ⟨3, some 53, .call n_i_copyOf [.tmp 52], none, []⟩, ⟨4, some 9, .mv (.tmp 51), none, []⟩, ⟨5, some 10, .mv (.tmp 53), none, []⟩]))
  (.seq (.seq (.keep [3, 9, 10] (.ops [⟨0, some 54, .mv (.tmp 10), none, []⟩, ⟨1, some 55, .len (.tmp 54), none, []⟩, ⟨2, some 56, .bin .eql (.tmp 55) (.const (.int .i64 0)), none, []⟩]))
  (.cond (.tmp 56) (.seq (.keep [9] (.ops [⟨0, some 57, .mv (.tmp 9), none, []⟩, ⟨1, some 6, .mv (.tmp 57), none, []⟩, ⟨2, some 7, .mv (.const (.bool true)), none, []⟩]))
  (.ret)) (.skip)))
  (.seq (.seq (.ops [⟨0, some 58, .mv (.tmp 9), none, []⟩, ⟨1, some 59, .len (.tmp 58), none, []⟩, ⟨2, some 60, .mv (.const (.int .i64 0)), none, []⟩])
  (.block 0 (.loop [3, 9, 10, 59, 60] (.seq (.ops [⟨0, some 61, .bin .lss (.tmp 60) (.tmp 59), none, []⟩])
  (.seq (.cond (.tmp 61) (.skip) (.exit 0))
  (.seq (.block 1 (.seq (.ops [⟨0, some 62, .mv (.tmp 60), none, []⟩, ⟨1, some 11, .mv (.tmp 62), none, []⟩])
  (.ops [⟨0, some 63, .mv (.tmp 9), none, []⟩, ⟨1, some 64, .mv (.tmp 11), none, []⟩, ⟨2, some 65, .ia (.tmp 63) (.tmp 64), none, []⟩, ⟨3, some 66, .ld (.tmp 65), none, []⟩, ⟨4, some 67, .fa 1 (.tmp 3), none, []⟩, ⟨5, some 68, .ld (.tmp 67), none, []⟩, ⟨6, some 69, .bin .quo (.tmp 66) (.tmp 68), none, []⟩, ⟨7, some 70, .ia (.tmp 63) (.tmp 64), none, []⟩, ⟨8, none, .st (.tmp 70) (.tmp 69), none, []⟩])))
  (.keep [3, 9, 10, 59, 60] (.ops [⟨0, some 71, .bin .add (.tmp 60) (.const (.int .i64 1)), none, []⟩, ⟨1, some 60, .mv (.tmp 71), none, []⟩]))))))))
  (.seq (.seq (.ops [⟨0, some 72, .mv (.tmp 10), none, []⟩, ⟨1, some 73, .len (.tmp 72), none, []⟩, ⟨2, some 74, .mv (.const (.int .i64 0)), none, []⟩])
  (.block 2 (.loop [3, 9, 10, 73, 74] (.seq (.ops [⟨0, some 75, .bin .lss (.tmp 74) (.tmp 73), none, []⟩])
  (.seq (.cond (.tmp 75) (.skip) (.exit 2))
  (.seq (.block 3 (.seq (.ops [⟨0, some 76, .mv (.tmp 74), none, []⟩, ⟨1, some 12, .mv (.tmp 76), none, []⟩])
  (.ops [⟨0, some 77, .mv (.tmp 10), none, []⟩, ⟨1, some 78, .mv (.tmp 12), none, []⟩, ⟨2, some 79, .ia (.tmp 77) (.tmp 78), none, []⟩, ⟨3, some 80, .ld (.tmp 79), none, []⟩, ⟨4, some 81, .fa 1 (.tmp 3), none, []⟩, ⟨5, some 82, .ld (.tmp 81), none, []⟩, ⟨6, some 83, .bin .mul (.tmp 80) (.tmp 82), none, []⟩, ⟨7, some 84, .ia (.tmp 77) (.tmp 78), none, []⟩, ⟨8, none, .st (.tmp 84) (.tmp 83), none, []⟩])))
  (.keep [3, 9, 10, 73, 74] (.ops [⟨0, some 85, .bin .add (.tmp 74) (.const (.int .i64 1)), none, []⟩, ⟨1, some 74, .mv (.tmp 85), none, []⟩]))))))))
  (.seq (.seq (.ops [⟨0, some 86, .fa 0 (.tmp 3), none, []⟩, ⟨1, some 87, .ld (.tmp 86), none, []⟩, ⟨2, some 88, .len (.tmp 87), none, []⟩, ⟨3, some 89, .bin .sub (.tmp 88) (.const (.int .i64 1)), none, []⟩, ⟨4, some 13, .mv (.tmp 89), none, []⟩])
  (.block 4 (.loop [3, 9, 10, 13] (.seq (.seq (.ops [⟨0, some 90, .mv (.tmp 13), none, []⟩, ⟨1, some 91, .bin .geq (.tmp 90) (.const (.int .i64 0)), none, []⟩])
  (.cond (.tmp 91) (.skip) (.exit 4)))
  (.seq (.block 5 (.ops [⟨0, some 94, .mv (.tmp 9), none, []⟩, ⟨1, some 95, .mv (.tmp 10), none, []⟩, ⟨2, some 96, .mv (.tmp 13), none, []⟩, ⟨3, some 97, .fa 0 (.tmp 3), none, []⟩, ⟨4, some 98, .ld (.tmp 97), none, []⟩, ⟨5, some 99, .mv (.tmp 13), none, []⟩, ⟨6, some 100, .ia (.tmp 98) (.tmp 99), none, []⟩, ⟨7, some 101, .ld (.tmp 100), none, []⟩, ⟨8, some 102, .call n_i_weigh [.tmp 94, .tmp 95, .tmp 96, .tmp 101, .const (.bool true)], none, []⟩]))
  (.keep [3, 9, 10, 13] (.ops [⟨0, some 92, .mv (.tmp 13), none, []⟩, ⟨1, some 93, .bin .sub (.tmp 92) (.const (.int .i64 1)), none, []⟩, ⟨2, some 13, .mv (.tmp 93), none, []⟩])))))))
  (.seq (.ops [⟨0, some 103, .mv (.tmp 9), none, []⟩, ⟨1, some 104, .mv (.tmp 10), none, []⟩, ⟨2, some 105, .call n_i_woven_float32_ [.tmp 103, .tmp 104], none, []⟩, ⟨3, some 106, .call n_i_finiteList [.tmp 105], none, []⟩, ⟨4, some 107, .ext (.tmp 106) 0, none, []⟩, ⟨5, some 108, .ext (.tmp 106) 1, none, []⟩, ⟨6, some 6, .mv (.tmp 107), none, []⟩, ⟨7, some 7, .mv (.tmp 108), none, []⟩])
  (.ret)))))))))
theorem k_i_DropOnce : FnOk Try.prog n_i_DropOnce 3 c_i_DropOnce [.tmp 6, .tmp 7] := ⟨by kernel_rfl⟩
def c_s_l00In : ACode :=
  .seq (.ops [⟨0, some 6, .mv (.const (.bool false)), none, []⟩])
  (.seq (.ops [⟨0, some 7, .mv (.tmp 0), none, []⟩, ⟨1, some 8, .mv (.tmp 1), none, []⟩, ⟨2, some 9, .bin .geq (.tmp 7) (.tmp 8), none, []⟩, ⟨3, some 10, .mv (.tmp 9), none, []⟩, ⟨4, some 11, .mv (.tmp 0), (some (10, true)), []⟩, ⟨5, some 12, .mv (.tmp 2), (some (10, true)), []⟩, ⟨6, some 13, .bin .leq (.tmp 11) (.tmp 12), (some (10, true)), []⟩, ⟨7, some 14, .pick (.tmp 10) (.tmp 13) (.const (.bool false)), none, []⟩, ⟨8, some 6, .mv (.tmp 14), none, []⟩])
  (.ret))
theorem k_s_l00In : FnOk Try.prog n_s_l00In 3 c_s_l00In [.tmp 6] := ⟨by kernel_rfl⟩
def c_s_LiftDeep : ACode :=
  .seq (.ops [⟨0, some 3, .box 64 (.tmp 0), none, []⟩, ⟨1, some 6, .mv (.const (.slice none 0 0)), none, []⟩, ⟨2, some 7, .mv (.const (.bool false)), none, []⟩])
  (.seq (.seq (.ops [⟨0, some 8, .call n_s_l02Scheme [.tmp 3], none, []⟩, ⟨1, some 9, .un .not (.tmp 8), none, []⟩, ⟨2, some 10, .mv (.tmp 9), none, []⟩, ⟨3, some 11, .mv (.tmp 1), (some (10, false)), []⟩, ⟨4, some 12, .call n_s_l02Is [.tmp 11], (some (10, false)), []⟩, ⟨5, some 13, .un .not (.tmp 12), (some (10, false)), []⟩, ⟨6, some 14, .pick (.tmp 10) (.const (.bool true)) (.tmp 13), none, []⟩, ⟨7, some 15, .mv (.tmp 14), none, []⟩, ⟨8, some 16, .mv (.tmp 2), (some (15, false)), []⟩, ⟨9, some 17, .call n_s_l02Levels [.tmp 16], (some (15, false)), []⟩, ⟨10, some 18, .un .not (.tmp 17), (some (15, false)), []⟩, ⟨11, some 19, .pick (.tmp 15) (.const (.bool true)) (.tmp 18), none, []⟩])
  (.cond (.tmp 19) (.seq (.keep [] (.ops [⟨0, some 6, .mv (.const (.slice none 0 0)), none, []⟩, ⟨1, some 7, .mv (.const (.bool false)), none, []⟩]))
  (.ret)) (.skip)))
  (.seq (.keep [1, 2, 3] (.ops [⟨0, some 20, .mv (.tmp 1), none, []⟩, ⟨1, some 21, .mv (.tmp 2), none, []⟩, ⟨2, some 22, .call n_s_l02Deep [.tmp 3, .tmp 20, .tmp 21], none, []⟩, ⟨3, some 23, .ext (.tmp 22) 0, none, []⟩, ⟨4, some 24, .ext (.tmp 22) 1, none, []⟩, ⟨5, some 6, .mv (.tmp 23), none, []⟩, ⟨6, some 7, .mv (.tmp 24), none, []⟩]))
  (.ret)))
theorem k_s_LiftDeep : FnOk Try.prog n_s_LiftDeep 3 c_s_LiftDeep [.tmp 6, .tmp 7] := ⟨by kernel_rfl⟩
def c_i_LiftDeep : ACode :=
  .seq (.ops [⟨0, some 3, .box 64 (.tmp 0), none, []⟩, ⟨1, some 6, .mv (.const (.slice none 0 0)), none, []⟩, ⟨2, some 7, .mv (.const (.bool false)), none, []⟩])
  (.seq (.seq (.ops [⟨0, some 14, .ldn 2 (.tmp 3), none, []⟩, ⟨1, some 15, .call n_i_ValidScheme [.tmp 14], none, []⟩, ⟨2, some 16, .un .not (.tmp 15), none, []⟩, ⟨3, some 17, .mv (.tmp 16), none, []⟩, ⟨4, some 18, .mv (.tmp 1), (some (17, false)), []⟩, ⟨5, some 19, .call n_i_IsList [.tmp 18], (some (17, false)), []⟩, ⟨6, some 20, .un .not (.tmp 19), (some (17, false)), []⟩, ⟨7, some 21, .pick (.tmp 17) (.const (.bool true)) (.tmp 20), none, []⟩, ⟨8, some 22, .mv (.tmp 21), none, []⟩, ⟨9, some 23, .mv (.tmp 2), (some (22, false)), []⟩, ⟨10, some 24, .call n_i_within [.tmp 23, .const (.int .i64 1), .const (.int .i64 6)], (some (22, false)), []⟩, ⟨11, some 25, .un .not (.tmp 24), (some (22, false)), []⟩, ⟨12, some 26, .pick (.tmp 22) (.const (.bool true)) (.tmp 25), none, []⟩])
  (.cond (.tmp 26) (.seq (.keep [] (.ops [⟨0, some 6, .mv (.const (.slice none 0 0)), none, []⟩, ⟨1, some 7, .mv (.const (.bool false)), none, []⟩]))
  (.ret)) (.skip)))
  (.seq (.keep [1, 2, 3] (.ops [⟨0, some 27, .bsl 32 0 (.slice none 0 0) [], none, []⟩, ⟨1, some 28, .mv (.tmp 1), none, []⟩, ⟨2, some 29, .call n_i_copyOf [.tmp 28], none, []⟩, ⟨3, some 8, .mv (.tmp 27), none, []⟩, ⟨4, some 9, .mv (.tmp 29), none, []⟩]))
  (.seq (.seq (.ops [⟨0, some 10, .mv (.const (.int .i64 0)), none, []⟩])
  (.block 0 (.loop [2, 3, 8, 9, 10] (.seq (.seq (.ops [⟨0, some 30, .mv (.tmp 10), none, []⟩, ⟨1, some 31, .mv (.tmp 2), none, []⟩, ⟨2, some 32, .bin .lss (.tmp 30) (.tmp 31), none, []⟩, ⟨3, some 33, .mv (.tmp 32), none, []⟩, ⟨4, some 34, .mv (.tmp 9), (some (33, true)), []⟩, ⟨5, some 35, .len (.tmp 34), (some (33, true)), []⟩, ⟨6, some 36, .bin .gtr (.tmp 35) (.const (.int .i64 1)), (some (33, true)), []⟩, ⟨7, some 37, .pick (.tmp 33) (.tmp 36) (.const (.bool false)), none, []⟩])
  (.cond (.tmp 37) (.skip) (.exit 0)))
  (.seq (.block 1 (.seq (.keep [2, 3, 8, 9, 10] (.ops [⟨0, some 41, .ldn 2 (.tmp 3), none, []⟩, ⟨1, some 42, .mv (.tmp 9), none, []⟩, ⟨2, some 43, .call n_i_LiftOnce [.tmp 41, .tmp 42], none, []⟩, ⟨3, some 40, .mv (.tmp 43), none, []⟩, ⟨4, some 44, .ext (.tmp 40) 0, none, []⟩, ⟨5, some 45, .ext (.tmp 40) 1, none, []⟩, ⟨6, some 46, .ext (.tmp 40) 2, none, []⟩, ⟨7, some 11, .mv (.tmp 44), none, []⟩, ⟨8, some 12, .mv (.tmp 45), none, []⟩, ⟨9, some 13, .mv (.tmp 46), none, []⟩]))
  (.seq (.seq (.keep [2, 3, 8, 10, 11, 12, 13] (.ops [⟨0, some 47, .mv (.tmp 13), none, []⟩, ⟨1, some 48, .un .not (.tmp 47), none, []⟩]))
  (.cond (.tmp 48) (.seq (.keep [] (.ops [⟨0, some 6, .mv (.const (.slice none 0 0)), none, []⟩, ⟨1, some 7, .mv (.const (.bool false)), none, []⟩]))
  (.ret)) (.skip)))
  (.seq (.ops [⟨0, some 49, .mv (.tmp 8), none, []⟩, ⟨1, some 50, .mv (.tmp 12), none, []⟩, ⟨2, some 51, .bsl 32 1 (.slice none 0 0) [(0, .tmp 50)], none, []⟩, ⟨3, some 52, .app 32 24 (.tmp 49) (.tmp 51), none, []⟩, ⟨4, some 8, .mv (.tmp 52), none, []⟩])
  (.keep [2, 3, 8, 10, 11] (.ops [⟨0, some 53, .mv (.tmp 11), none, []⟩, ⟨1, some 9, .mv (.tmp 53), none, []⟩]))))))
  (.ops [⟨0, some 38, .mv (.tmp 10), none, []⟩, ⟨1, some 39, .bin .add (.tmp 38) (.const (.int .i64 1)), none, []⟩, ⟨2, some 10, .mv (.tmp 39), none, []⟩]))))))
  (.seq (.keep [8, 9] (.ops [⟨0, some 54, .mv (.tmp 8), none, []⟩, ⟨1, some 55, .mv (.tmp 9), none, []⟩, ⟨2, some 56, .bsl 32 1 (.slice none 0 0) [(0, .tmp 55)], none, []⟩, ⟨3, some 57, .app 32 24 (.tmp 54) (.tmp 56), none, []⟩, ⟨4, some 6, .mv (.tmp 57), none, []⟩, ⟨5, some 7, .mv (.const (.bool true)), none, []⟩]))
  (.ret)))))
theorem k_i_LiftDeep : FnOk Try.prog n_i_LiftDeep 3 c_i_LiftDeep [.tmp 6, .tmp 7] := ⟨by kernel_rfl⟩
def c_s_l02Finite : ACode :=
  .seq (.ops [⟨0, some 2, .mv (.const (.bool false)), none, []⟩])
  (.seq (.seq (.ops [⟨0, some 3, .mv (.const (.int .i64 0)), none, []⟩])
  (.block 0 (.loop [0, 3] (.seq (.seq (.ops [⟨0, some 4, .mv (.tmp 3), none, []⟩, ⟨1, some 5, .mv (.tmp 0), none, []⟩, ⟨2, some 6, .len (.tmp 5), none, []⟩, ⟨3, some 7, .bin .lss (.tmp 4) (.tmp 6), none, []⟩])
  (.cond (.tmp 7) (.skip) (.exit 0)))
  (.seq (.block 1 (.seq (.ops [⟨0, some 10, .mv (.tmp 0), none, []⟩, ⟨1, some 11, .mv (.tmp 3), none, []⟩, ⟨2, some 12, .ia (.tmp 10) (.tmp 11), none, []⟩, ⟨3, some 13, .ld (.tmp 12), none, []⟩, ⟨4, some 14, .call n_s_l01Finite [.tmp 13], none, []⟩, ⟨5, some 15, .un .not (.tmp 14), none, []⟩])
  (.cond (.tmp 15) (.seq (.keep [] (.ops [⟨0, some 2, .mv (.const (.bool false)), none, []⟩]))
  (.ret)) (.skip))))
  (.keep [0, 3] (.ops [⟨0, some 8, .mv (.tmp 3), none, []⟩, ⟨1, some 9, .bin .add (.tmp 8) (.const (.int .i64 1)), none, []⟩, ⟨2, some 3, .mv (.tmp 9), none, []⟩])))))))
  (.seq (.keep [] (.ops [⟨0, some 2, .mv (.const (.bool true)), none, []⟩]))
  (.ret)))
theorem k_s_l02Finite : FnOk Try.prog n_s_l02Finite 1 c_s_l02Finite [.tmp 2] := ⟨by kernel_rfl⟩
def c_s_l01Finite : ACode :=
  .seq (.ops [⟨0, some 2, .mv (.const (.bool false)), none, []⟩])
  (.seq (.ops [⟨0, some 3, .mv (.tmp 0), none, []⟩, ⟨1, some 4, .mv (.tmp 0), none, []⟩, ⟨2, some 5, .bin .sub (.tmp 3) (.tmp 4), none, []⟩, ⟨3, some 6, .bin .eql (.tmp 5) (.const (.float .f32 0)), none, []⟩, ⟨4, some 2, .mv (.tmp 6), none, []⟩])
  (.ret))
theorem k_s_l01Finite : FnOk Try.prog n_s_l01Finite 1 c_s_l01Finite [.tmp 2] := ⟨by kernel_rfl⟩
def c_i_finiteList : ACode :=
  .seq (.ops [⟨0, some 2, .mv (.const (.slice none 0 0)), none, []⟩, ⟨1, some 3, .mv (.const (.bool false)), none, []⟩])
  (.seq (.seq (.ops [⟨0, some 4, .mv (.tmp 0), none, []⟩, ⟨1, some 5, .bsl 32 1 (.slice none 0 0) [(0, .tmp 4)], none, []⟩, ⟨2, some 6, .call n_i_areFinite [.tmp 5], none, []⟩, ⟨3, some 7, .un .not (.tmp 6), none, []⟩])
  (.cond (.tmp 7) (.seq (.keep [] (.ops [⟨0, some 2, .mv (.const (.slice none 0 0)), none, []⟩, ⟨1, some 3, .mv (.const (.bool false)), none, []⟩]))
  (.ret)) (.skip)))
  (.seq (.keep [0] (.ops [⟨0, some 8, .mv (.tmp 0), none, []⟩, ⟨1, some 2, .mv (.tmp 8), none, []⟩, ⟨2, some 3, .mv (.const (.bool true)), none, []⟩]))
  (.ret)))
theorem k_i_finiteList : FnOk Try.prog n_i_finiteList 1 c_i_finiteList [.tmp 2, .tmp 3] := ⟨by kernel_rfl⟩
def c_i_IsFinite : ACode :=
  .seq (.ops [⟨0, some 2, .mv (.const (.bool false)), none, []⟩])
  (.seq (.ops [⟨0, some 3, .mv (.tmp 0), none, []⟩, ⟨1, some 4, .mv (.tmp 0), none, []⟩, ⟨2, some 5, .bin .sub (.tmp 3) (.tmp 4), none, []⟩, ⟨3, some 6, .bin .eql (.tmp 5) (.const (.float .f32 0)), none, []⟩, ⟨4, some 2, .mv (.tmp 6), none, []⟩])
  (.ret))
theorem k_i_IsFinite : FnOk Try.prog n_i_IsFinite 1 c_i_IsFinite [.tmp 2] := ⟨by kernel_rfl⟩
def c_i_areFinite : ACode :=
  .seq (.ops [⟨0, some 2, .mv (.const (.bool false)), none, []⟩])
  (.seq (.seq (.ops [⟨0, some 7, .mv (.tmp 0), none, []⟩, ⟨1, some 8, .len (.tmp 7), none, []⟩, ⟨2, some 9, .mv (.const (.int .i64 0)), none, []⟩])
  (.block 0 (.loop [7, 8, 9] (.seq (.ops [⟨0, some 10, .bin .lss (.tmp 9) (.tmp 8), none, []⟩])
  (.seq (.cond (.tmp 10) (.skip) (.exit 0))
  (.seq (.block 1 (.seq (.ops [⟨0, some 11, .ia (.tmp 7) (.tmp 9), none, []⟩, ⟨1, some 12, .ld (.tmp 11), none, []⟩, ⟨2, some 4, .mv (.tmp 12), none, []⟩])
  (.seq (.ops [⟨0, some 13, .mv (.tmp 4), none, []⟩, ⟨1, some 14, .len (.tmp 13), none, []⟩, ⟨2, some 15, .mv (.const (.int .i64 0)), none, []⟩])
  (.block 2 (.loop [7, 8, 9, 13, 14, 15] (.seq (.ops [⟨0, some 16, .bin .lss (.tmp 15) (.tmp 14), none, []⟩])
  (.seq (.cond (.tmp 16) (.skip) (.exit 2))
  (.seq (.block 3 (.seq (.ops [⟨0, some 17, .ia (.tmp 13) (.tmp 15), none, []⟩, ⟨1, some 18, .ld (.tmp 17), none, []⟩, ⟨2, some 6, .mv (.tmp 18), none, []⟩])
  (.seq (.ops [⟨0, some 19, .mv (.tmp 6), none, []⟩, ⟨1, some 20, .call n_i_IsFinite [.tmp 19], none, []⟩, ⟨2, some 21, .un .not (.tmp 20), none, []⟩])
  (.cond (.tmp 21) (.seq (.keep [] (.ops [⟨0, some 2, .mv (.const (.bool false)), none, []⟩]))
  (.ret)) (.skip)))))
  (.keep [7, 8, 9, 13, 14, 15] (.ops [⟨0, some 22, .bin .add (.tmp 15) (.const (.int .i64 1)), none, []⟩, ⟨1, some 15, .mv (.tmp 22), none, []⟩]))))))))))
  (.ops [⟨0, some 23, .bin .add (.tmp 9) (.const (.int .i64 1)), none, []⟩, ⟨1, some 9, .mv (.tmp 23), none, []⟩])))))))
  (.seq (.ops [⟨0, some 2, .mv (.const (.bool true)), none, []⟩])
  (.ret)))
theorem k_i_areFinite : FnOk Try.prog n_i_areFinite 1 c_i_areFinite [.tmp 2] := ⟨by kernel_rfl⟩
def c_s_l02Above : ACode :=
  .seq (.ops [⟨0, some 2, .mv (.const (.bool false)), none, []⟩])
  (.seq (.ops [⟨0, some 3, .mv (.tmp 0), none, []⟩, ⟨1, some 4, .call n_s_l01Finite [.tmp 3], none, []⟩, ⟨2, some 5, .mv (.tmp 4), none, []⟩, ⟨3, some 6, .mv (.tmp 0), (some (5, true)), []⟩, ⟨4, some 7, .bin .gtr (.tmp 6) (.const (.float .f32 0)), (some (5, true)), []⟩, ⟨5, some 8, .pick (.tmp 5) (.tmp 7) (.const (.bool false)), none, []⟩, ⟨6, some 2, .mv (.tmp 8), none, []⟩])
  (.ret))
theorem k_s_l02Above : FnOk Try.prog n_s_l02Above 1 c_s_l02Above [.tmp 2] := ⟨by kernel_rfl⟩
def c_s_l02DropOnce : ACode :=
  .seq (.ops [⟨0, some 6, .mv (.const (.slice none 0 0)), none, []⟩, ⟨1, some 7, .mv (.const (.bool false)), none, []⟩])
  (.seq (.ops [⟨0, some 15, .bsl 37 0 (.float .f32 0) [], none, []⟩, ⟨1, some 16, .mv (.tmp 1), none, []⟩, ⟨2, some 17, .app 37 4 (.tmp 15) (.tmp 16), none, []⟩, ⟨3, some 8, .mv (.tmp 17), none, []⟩])
  (.seq (.keep [0, 2, 8] (.ops [⟨0, some 18, .bsl 37 0 (.float .f32 0) [], none, []⟩, ⟨1, some 19, .mv (.tmp 2), none, []⟩, ⟨2, some 20, .app 37 4 (.tmp 18) (.tmp 19), none, []⟩, ⟨3, some 9, .mv (.tmp 20), none, []⟩]))
  (.seq (.seq (.ops [⟨0, some 21, .mv (.tmp 9), none, []⟩, ⟨1, some 22, .len (.tmp 21), none, []⟩, ⟨2, some 23, .bin .gtr (.tmp 22) (.const (.int .i64 0)), none, []⟩])
  (.cond (.tmp 23) (.seq (.seq (.keep [0, 8, 9] (.ops [⟨0, some 10, .mv (.const (.int .i64 0)), none, []⟩]))
  (.block 0 (.loop [0, 8, 9, 10] (.seq (.seq (.ops [⟨0, some 24, .mv (.tmp 10), none, []⟩, ⟨1, some 25, .mv (.tmp 8), none, []⟩, ⟨2, some 26, .len (.tmp 25), none, []⟩, ⟨3, some 27, .bin .lss (.tmp 24) (.tmp 26), none, []⟩])
  (.cond (.tmp 27) (.skip) (.exit 0)))
  (.seq (.block 1 (.ops [⟨0, some 30, .mv (.tmp 8), none, []⟩, ⟨1, some 31, .mv (.tmp 10), none, []⟩, ⟨2, some 32, .mv (.tmp 8), none, []⟩, ⟨3, some 33, .mv (.tmp 10), none, []⟩, ⟨4, some 34, .ia (.tmp 32) (.tmp 33), none, []⟩, ⟨5, some 35, .ld (.tmp 34), none, []⟩, ⟨6, some 36, .mv (.tmp 0), none, []⟩, ⟨7, some 37, .nc (.tmp 36), none, []⟩, ⟨8, some 38, .fa 1 (.tmp 37), none, []⟩, ⟨9, some 39, .ld (.tmp 38), none, []⟩, ⟨10, some 40, .bin .quo (.tmp 35) (.tmp 39), none, []⟩, ⟨11, some 41, .ia (.tmp 30) (.tmp 31), none, []⟩, ⟨12, none, .st (.tmp 41) (.tmp 40), none, []⟩]))
  (.keep [0, 8, 9, 10] (.ops [⟨0, some 28, .mv (.tmp 10), none, []⟩, ⟨1, some 29, .bin .add (.tmp 28) (.const (.int .i64 1)), none, []⟩, ⟨2, some 10, .mv (.tmp 29), none, []⟩])))))))
  (.seq (.seq (.keep [0, 8, 9] (.ops [⟨0, some 11, .mv (.const (.int .i64 0)), none, []⟩]))
  (.block 2 (.loop [0, 8, 9, 11] (.seq (.seq (.ops [⟨0, some 42, .mv (.tmp 11), none, []⟩, ⟨1, some 43, .mv (.tmp 9), none, []⟩, ⟨2, some 44, .len (.tmp 43), none, []⟩, ⟨3, some 45, .bin .lss (.tmp 42) (.tmp 44), none, []⟩])
  (.cond (.tmp 45) (.skip) (.exit 2)))
  (.seq (.block 3 (.ops [⟨0, some 48, .mv (.tmp 9), none, []⟩, ⟨1, some 49, .mv (.tmp 11), none, []⟩, ⟨2, some 50, .mv (.tmp 9), none, []⟩, ⟨3, some 51, .mv (.tmp 11), none, []⟩, ⟨4, some 52, .ia (.tmp 50) (.tmp 51), none, []⟩, ⟨5, some 53, .ld (.tmp 52), none, []⟩, ⟨6, some 54, .mv (.tmp 0), none, []⟩, ⟨7, some 55, .nc (.tmp 54), none, []⟩, ⟨8, some 56, .fa 1 (.tmp 55), none, []⟩, ⟨9, some 57, .ld (.tmp 56), none, []⟩, ⟨10, some 58, .bin .mul (.tmp 53) (.tmp 57), none, []⟩, ⟨11, some 59, .ia (.tmp 48) (.tmp 49), none, []⟩, ⟨12, none, .st (.tmp 59) (.tmp 58), none, []⟩]))
  (.keep [0, 8, 9, 11] (.ops [⟨0, some 46, .mv (.tmp 11), none, []⟩, ⟨1, some 47, .bin .add (.tmp 46) (.const (.int .i64 1)), none, []⟩, ⟨2, some 11, .mv (.tmp 47), none, []⟩])))))))
  (.seq (.keep [0, 8, 9] (.ops [⟨0, some 60, .mv (.tmp 0), none, []⟩, ⟨1, some 61, .nc (.tmp 60), none, []⟩, ⟨2, some 62, .fa 0 (.tmp 61), none, []⟩, ⟨3, some 63, .ld (.tmp 62), none, []⟩, ⟨4, some 64, .len (.tmp 63), none, []⟩, ⟨5, some 65, .bin .sub (.tmp 64) (.const (.int .i64 1)), none, []⟩, ⟨6, some 12, .mv (.tmp 65), none, []⟩]))
  (.block 4 (.loop [0, 8, 9, 12] (.seq (.seq (.ops [⟨0, some 66, .mv (.tmp 12), none, []⟩, ⟨1, some 67, .bin .geq (.tmp 66) (.const (.int .i64 0)), none, []⟩])
  (.cond (.tmp 67) (.skip) (.exit 4)))
  (.seq (.block 5 (.ops [⟨0, some 70, .mv (.tmp 8), none, []⟩, ⟨1, some 71, .mv (.tmp 9), none, []⟩, ⟨2, some 72, .mv (.tmp 12), none, []⟩, ⟨3, some 73, .mv (.tmp 0), none, []⟩, ⟨4, some 74, .nc (.tmp 73), none, []⟩, ⟨5, some 75, .fa 0 (.tmp 74), none, []⟩, ⟨6, some 76, .ld (.tmp 75), none, []⟩, ⟨7, some 77, .mv (.tmp 12), none, []⟩, ⟨8, some 78, .ia (.tmp 76) (.tmp 77), none, []⟩, ⟨9, some 79, .ld (.tmp 78), none, []⟩, ⟨10, some 80, .un .neg (.tmp 79), none, []⟩, ⟨11, some 81, .call n_s_l02Weigh [.tmp 70, .tmp 71, .tmp 72, .tmp 80], none, []⟩]))
  (.keep [0, 8, 9, 12] (.ops [⟨0, some 68, .mv (.tmp 12), none, []⟩, ⟨1, some 69, .bin .sub (.tmp 68) (.const (.int .i64 1)), none, []⟩, ⟨2, some 12, .mv (.tmp 69), none, []⟩]))))))))) (.skip)))
  (.seq (.keep [8, 9] (.ops [⟨0, some 82, .bsl 37 0 (.float .f32 0) [], none, []⟩, ⟨1, some 13, .mv (.tmp 82), none, []⟩]))
  (.seq (.seq (.ops [⟨0, some 14, .mv (.const (.int .i64 0)), none, []⟩])
  (.block 6 (.loop [8, 9, 13, 14] (.seq (.seq (.ops [⟨0, some 83, .mv (.tmp 14), none, []⟩, ⟨1, some 84, .mv (.tmp 8), none, []⟩, ⟨2, some 85, .len (.tmp 84), none, []⟩, ⟨3, some 86, .bin .lss (.tmp 83) (.tmp 85), none, []⟩])
  (.cond (.tmp 86) (.skip) (.exit 6)))
  (.seq (.block 7 (.seq (.ops [⟨0, some 89, .mv (.tmp 13), none, []⟩, ⟨1, some 90, .mv (.tmp 8), none, []⟩, ⟨2, some 91, .mv (.tmp 14), none, []⟩, ⟨3, some 92, .ia (.tmp 90) (.tmp 91), none, []⟩, ⟨4, some 93, .ld (.tmp 92), none, []⟩, ⟨5, some 94, .bsl 37 1 (.float .f32 0) [(0, .tmp 93)], none, []⟩, ⟨6, some 95, .app 37 4 (.tmp 89) (.tmp 94), none, []⟩, ⟨7, some 13, .mv (.tmp 95), none, []⟩])
  (.seq (.keep [8, 9, 13, 14] (.ops [⟨0, some 96, .mv (.tmp 14), none, []⟩, ⟨1, some 97, .mv (.tmp 9), none, []⟩, ⟨2, some 98, .len (.tmp 97), none, []⟩, ⟨3, some 99, .bin .lss (.tmp 96) (.tmp 98), none, []⟩]))
  (.cond (.tmp 99) (.ops [⟨0, some 100, .mv (.tmp 13), none, []⟩, ⟨1, some 101, .mv (.tmp 9), none, []⟩, ⟨2, some 102, .mv (.tmp 14), none, []⟩, ⟨3, some 103, .ia (.tmp 101) (.tmp 102), none, []⟩, ⟨4, some 104, .ld (.tmp 103), none, []⟩, ⟨5, some 105, .bsl 37 1 (.float .f32 0) [(0, .tmp 104)], none, []⟩, ⟨6, some 106, .app 37 4 (.tmp 100) (.tmp 105), none, []⟩, ⟨7, some 13, .mv (.tmp 106), none, []⟩]) (.skip)))))
  (.keep [8, 9, 13, 14] (.ops [⟨0, some 87, .mv (.tmp 14), none, []⟩, ⟨1, some 88, .bin .add (.tmp 87) (.const (.int .i64 1)), none, []⟩, ⟨2, some 14, .mv (.tmp 88), none, []⟩])))))))
  (.seq (.keep [13] (.ops [⟨0, some 107, .mv (.tmp 13), none, []⟩, ⟨1, some 108, .call n_s_l02List [.tmp 107], none, []⟩, ⟨2, some 109, .ext (.tmp 108) 0, none, []⟩, ⟨3, some 110, .ext (.tmp 108) 1, none, []⟩, ⟨4, some 6, .mv (.tmp 109), none, []⟩, ⟨5, some 7, .mv (.tmp 110), none, []⟩]))
  (.ret)))))))
theorem k_s_l02DropOnce : FnOk Try.prog n_s_l02DropOnce 3 c_s_l02DropOnce [.tmp 6, .tmp 7] := ⟨by kernel_rfl⟩
def c_i_isOver : ACode :=
  .seq (.ops [⟨0, some 2, .mv (.const (.bool false)), none, []⟩])
  (.seq (.ops [⟨0, some 3, .mv (.tmp 0), none, []⟩, ⟨1, some 4, .call n_i_IsFinite [.tmp 3], none, []⟩, ⟨2, some 5, .mv (.tmp 4), none, []⟩, ⟨3, some 6, .mv (.tmp 0), (some (5, true)), []⟩, ⟨4, some 7, .bin .gtr (.tmp 6) (.const (.float .f32 0)), (some (5, true)), []⟩, ⟨5, some 8, .pick (.tmp 5) (.tmp 7) (.const (.bool false)), none, []⟩, ⟨6, some 2, .mv (.tmp 8), none, []⟩])
  (.ret))
theorem k_i_isOver : FnOk Try.prog n_i_isOver 1 c_i_isOver [.tmp 2] := ⟨by kernel_rfl⟩
def c_i_sizesOf_float32_ : ACode :=
  .seq (.ops [⟨0, some 2, .mv (.const (.slice none 0 0)), none, []⟩])
  (.seq (.ops [⟨0, some 6, .bsl 3 0 (.int .i64 0) [], none, []⟩, ⟨1, some 3, .mv (.tmp 6), none, []⟩])
  (.seq (.seq (.ops [⟨0, some 7, .mv (.tmp 0), none, []⟩, ⟨1, some 8, .len (.tmp 7), none, []⟩, ⟨2, some 9, .mv (.const (.int .i64 0)), none, []⟩])
  (.block 0 (.loop [3, 7, 8, 9] (.seq (.ops [⟨0, some 10, .bin .lss (.tmp 9) (.tmp 8), none, []⟩])
  (.seq (.cond (.tmp 10) (.skip) (.exit 0))
  (.seq (.block 1 (.seq (.ops [⟨0, some 11, .ia (.tmp 7) (.tmp 9), none, []⟩, ⟨1, some 12, .ld (.tmp 11), none, []⟩, ⟨2, some 5, .mv (.tmp 12), none, []⟩])
  (.ops [⟨0, some 13, .mv (.tmp 3), none, []⟩, ⟨1, some 14, .mv (.tmp 5), none, []⟩, ⟨2, some 15, .len (.tmp 14), none, []⟩, ⟨3, some 16, .bsl 3 1 (.int .i64 0) [(0, .tmp 15)], none, []⟩, ⟨4, some 17, .app 3 8 (.tmp 13) (.tmp 16), none, []⟩, ⟨5, some 3, .mv (.tmp 17), none, []⟩])))
  (.keep [3, 7, 8, 9] (.ops [⟨0, some 18, .bin .add (.tmp 9) (.const (.int .i64 1)), none, []⟩, ⟨1, some 9, .mv (.tmp 18), none, []⟩]))))))))
  (.seq (.ops [⟨0, some 19, .mv (.tmp 3), none, []⟩, ⟨1, some 2, .mv (.tmp 19), none, []⟩])
  (.ret))))
theorem k_i_sizesOf_float32_ : FnOk Try.prog n_i_sizesOf_float32_ 1 c_i_sizesOf_float32_ [.tmp 2] := ⟨by kernel_rfl⟩
def c_i_weigh : ACode :=
  .seq (.ops [⟨0, some 8, .box 37 (.tmp 3), none, []⟩, ⟨1, some 9, .box 4 (.tmp 4), none, []⟩])
  (.seq (.ops [⟨0, some 17, .mkf (.func n_i_weigh_1) [] [.tmp 8, .tmp 9], none, []⟩, ⟨1, some 10, .mv (.tmp 17), none, []⟩])
  (.seq (.seq (.keep [0, 1, 2, 10] (.ops [⟨0, some 18, .mv (.tmp 2), none, []⟩, ⟨1, some 19, .bin .rem (.tmp 18) (.const (.int .i64 2)), none, []⟩, ⟨2, some 20, .bin .eql (.tmp 19) (.const (.int .i64 0)), none, []⟩]))
  (.cond (.tmp 20) (.seq (.seq (.ops [⟨0, some 21, .mv (.tmp 1), none, []⟩, ⟨1, some 22, .len (.tmp 21), none, []⟩, ⟨2, some 23, .mv (.const (.int .i64 0)), none, []⟩])
  (.block 0 (.loop [0, 1, 10, 22, 23] (.seq (.ops [⟨0, some 24, .bin .lss (.tmp 23) (.tmp 22), none, []⟩])
  (.seq (.cond (.tmp 24) (.skip) (.exit 0))
  (.seq (.block 1 (.seq (.ops [⟨0, some 25, .mv (.tmp 23), none, []⟩, ⟨1, some 11, .mv (.tmp 25), none, []⟩])
  (.seq (.ops [⟨0, some 27, .mv (.tmp 0), none, []⟩, ⟨1, some 28, .mv (.tmp 11), none, []⟩, ⟨2, some 29, .call n_i_besideOdd_float32_ [.tmp 27, .tmp 28], none, []⟩, ⟨3, some 26, .mv (.tmp 29), none, []⟩, ⟨4, some 30, .ext (.tmp 26) 0, none, []⟩, ⟨5, some 31, .ext (.tmp 26) 1, none, []⟩, ⟨6, some 12, .mv (.tmp 30), none, []⟩, ⟨7, some 13, .mv (.tmp 31), none, []⟩])
  (.keep [0, 1, 10, 11, 12, 13, 22, 23] (.ops [⟨0, some 32, .mv (.tmp 10), none, []⟩, ⟨1, some 33, .mv (.tmp 1), none, []⟩, ⟨2, some 34, .mv (.tmp 11), none, []⟩, ⟨3, some 35, .ia (.tmp 33) (.tmp 34), none, []⟩, ⟨4, some 36, .mv (.tmp 12), none, []⟩, ⟨5, some 37, .mv (.tmp 13), none, []⟩, ⟨6, some 38, .callv (.tmp 32) [.tmp 35, .tmp 36, .tmp 37], none, []⟩])))))
  (.keep [0, 1, 10, 22, 23] (.ops [⟨0, some 39, .bin .add (.tmp 23) (.const (.int .i64 1)), none, []⟩, ⟨1, some 23, .mv (.tmp 39), none, []⟩]))))))))
  (.ret)) (.skip)))
  (.seq (.ops [⟨0, some 40, .mv (.tmp 0), none, []⟩, ⟨1, some 41, .len (.tmp 40), none, []⟩, ⟨2, some 42, .mv (.const (.int .i64 0)), none, []⟩])
  (.block 2 (.loop [0, 1, 10, 41, 42] (.seq (.ops [⟨0, some 43, .bin .lss (.tmp 42) (.tmp 41), none, []⟩])
  (.seq (.cond (.tmp 43) (.skip) (.exit 2))
  (.seq (.block 3 (.seq (.ops [⟨0, some 44, .mv (.tmp 42), none, []⟩, ⟨1, some 14, .mv (.tmp 44), none, []⟩])
  (.seq (.ops [⟨0, some 46, .mv (.tmp 1), none, []⟩, ⟨1, some 47, .mv (.tmp 14), none, []⟩, ⟨2, some 48, .call n_i_besideEven_float32_ [.tmp 46, .tmp 47], none, []⟩, ⟨3, some 45, .mv (.tmp 48), none, []⟩, ⟨4, some 49, .ext (.tmp 45) 0, none, []⟩, ⟨5, some 50, .ext (.tmp 45) 1, none, []⟩, ⟨6, some 15, .mv (.tmp 49), none, []⟩, ⟨7, some 16, .mv (.tmp 50), none, []⟩])
  (.keep [0, 1, 10, 14, 15, 16, 41, 42] (.ops [⟨0, some 51, .mv (.tmp 10), none, []⟩, ⟨1, some 52, .mv (.tmp 0), none, []⟩, ⟨2, some 53, .mv (.tmp 14), none, []⟩, ⟨3, some 54, .ia (.tmp 52) (.tmp 53), none, []⟩, ⟨4, some 55, .mv (.tmp 15), none, []⟩, ⟨5, some 56, .mv (.tmp 16), none, []⟩, ⟨6, some 57, .callv (.tmp 51) [.tmp 54, .tmp 55, .tmp 56], none, []⟩])))))
  (.keep [0, 1, 10, 41, 42] (.ops [⟨0, some 58, .bin .add (.tmp 42) (.const (.int .i64 1)), none, []⟩, ⟨1, some 42, .mv (.tmp 58), none, []⟩]))))))))))
theorem k_i_weigh : FnOk Try.prog n_i_weigh 5 c_i_weigh [] := ⟨by kernel_rfl⟩
def c_i_woven_float32_ : ACode :=
  .seq (.ops [⟨0, some 4, .mv (.const (.slice none 0 0)), none, []⟩])
  (.seq (.ops [⟨0, some 8, .bsl 37 0 (.float .f32 0) [], none, []⟩, ⟨1, some 5, .mv (.tmp 8), none, []⟩])
  (.seq (.seq (.ops [⟨0, some 9, .mv (.tmp 0), none, []⟩, ⟨1, some 10, .len (.tmp 9), none, []⟩, ⟨2, some 11, .mv (.const (.int .i64 0)), none, []⟩])
  (.block 0 (.loop [1, 5, 9, 10, 11] (.seq (.ops [⟨0, some 12, .bin .lss (.tmp 11) (.tmp 10), none, []⟩])
  (.seq (.cond (.tmp 12) (.skip) (.exit 0))
  (.seq (.block 1 (.seq (.ops [⟨0, some 13, .mv (.tmp 11), none, []⟩, ⟨1, some 14, .ia (.tmp 9) (.tmp 11), none, []⟩, ⟨2, some 15, .ld (.tmp 14), none, []⟩, ⟨3, some 6, .mv (.tmp 13), none, []⟩, ⟨4, some 7, .mv (.tmp 15), none, []⟩])
  (.seq (.ops [⟨0, some 16, .mv (.tmp 5), none, []⟩, ⟨1, some 17, .mv (.tmp 7), none, []⟩, ⟨2, some 18, .bsl 37 1 (.float .f32 0) [(0, .tmp 17)], none, []⟩, ⟨3, some 19, .app 37 4 (.tmp 16) (.tmp 18), none, []⟩, ⟨4, some 5, .mv (.tmp 19), none, []⟩])
  (.seq (.keep [1, 5, 6, 9, 10, 11] (.ops [⟨0, some 20, .mv (.tmp 6), none, []⟩, ⟨1, some 21, .mv (.tmp 1), none, []⟩, ⟨2, some 22, .len (.tmp 21), none, []⟩, ⟨3, some 23, .bin .lss (.tmp 20) (.tmp 22), none, []⟩]))
  (.cond (.tmp 23) (.ops [⟨0, some 24, .mv (.tmp 5), none, []⟩, ⟨1, some 25, .mv (.tmp 1), none, []⟩, ⟨2, some 26, .mv (.tmp 6), none, []⟩, ⟨3, some 27, .ia (.tmp 25) (.tmp 26), none, []⟩, ⟨4, some 28, .ld (.tmp 27), none, []⟩, ⟨5, some 29, .bsl 37 1 (.float .f32 0) [(0, .tmp 28)], none, []⟩, ⟨6, some 30, .app 37 4 (.tmp 24) (.tmp 29), none, []⟩, ⟨7, some 5, .mv (.tmp 30), none, []⟩]) (.skip))))))
  (.keep [1, 5, 9, 10, 11] (.ops [⟨0, some 31, .bin .add (.tmp 11) (.const (.int .i64 1)), none, []⟩, ⟨1, some 11, .mv (.tmp 31), none, []⟩]))))))))
  (.seq (.keep [5] (.ops [⟨0, some 32, .mv (.tmp 5), none, []⟩, ⟨1, some 4, .mv (.tmp 32), none, []⟩]))
  (.ret))))
theorem k_i_woven_float32_ : FnOk Try.prog n_i_woven_float32_ 2 c_i_woven_float32_ [.tmp 4] := ⟨by kernel_rfl⟩
def c_s_l02Is : ACode :=
  .seq (.ops [⟨0, some 2, .mv (.const (.bool false)), none, []⟩])
  (.seq (.ops [⟨0, some 3, .mv (.tmp 0), none, []⟩, ⟨1, some 4, .len (.tmp 3), none, []⟩, ⟨2, some 5, .bin .geq (.tmp 4) (.const (.int .i64 1)), none, []⟩, ⟨3, some 6, .mv (.tmp 5), none, []⟩, ⟨4, some 7, .mv (.tmp 0), (some (6, true)), []⟩, ⟨5, some 8, .len (.tmp 7), (some (6, true)), []⟩, ⟨6, some 9, .bin .leq (.tmp 8) (.const (.int .i64 128)), (some (6, true)), []⟩, ⟨7, some 10, .pick (.tmp 6) (.tmp 9) (.const (.bool false)), none, []⟩, ⟨8, some 11, .mv (.tmp 10), none, []⟩, ⟨9, some 12, .mv (.tmp 0), (some (11, true)), []⟩, ⟨10, some 13, .call n_s_l02Finite [.tmp 12], (some (11, true)), []⟩, ⟨11, some 14, .pick (.tmp 11) (.tmp 13) (.const (.bool false)), none, []⟩, ⟨12, some 2, .mv (.tmp 14), none, []⟩])
  (.ret))
theorem k_s_l02Is : FnOk Try.prog n_s_l02Is 1 c_s_l02Is [.tmp 2] := ⟨by kernel_rfl⟩
def c_s_l02Levels : ACode :=
  .seq (.ops [⟨0, some 2, .mv (.const (.bool false)), none, []⟩])
  (.seq (.ops [⟨0, some 3, .mv (.tmp 0), none, []⟩, ⟨1, some 4, .call n_s_l00In [.tmp 3, .const (.int .i64 1), .const (.int .i64 6)], none, []⟩, ⟨2, some 2, .mv (.tmp 4), none, []⟩])
  (.ret))
theorem k_s_l02Levels : FnOk Try.prog n_s_l02Levels 1 c_s_l02Levels [.tmp 2] := ⟨by kernel_rfl⟩
def c_s_l02Deep : ACode :=
  .seq (.ops [⟨0, some 6, .mv (.const (.slice none 0 0)), none, []⟩, ⟨1, some 7, .mv (.const (.bool false)), none, []⟩])
  (.seq (.ops [⟨0, some 14, .bsl 32 0 (.slice none 0 0) [], none, []⟩, ⟨1, some 8, .mv (.tmp 14), none, []⟩])
  (.seq (.ops [⟨0, some 15, .bsl 37 0 (.float .f32 0) [], none, []⟩, ⟨1, some 16, .mv (.tmp 1), none, []⟩, ⟨2, some 17, .app 37 4 (.tmp 15) (.tmp 16), none, []⟩, ⟨3, some 9, .mv (.tmp 17), none, []⟩])
  (.seq (.seq (.keep [0, 2, 8, 9] (.ops [⟨0, some 10, .mv (.const (.int .i64 0)), none, []⟩]))
  (.block 0 (.loop [0, 2, 8, 9, 10] (.seq (.seq (.ops [⟨0, some 18, .mv (.tmp 10), none, []⟩, ⟨1, some 19, .mv (.tmp 2), none, []⟩, ⟨2, some 20, .bin .lss (.tmp 18) (.tmp 19), none, []⟩, ⟨3, some 21, .mv (.tmp 20), none, []⟩, ⟨4, some 22, .mv (.tmp 9), (some (21, true)), []⟩, ⟨5, some 23, .len (.tmp 22), (some (21, true)), []⟩, ⟨6, some 24, .bin .geq (.tmp 23) (.const (.int .i64 2)), (some (21, true)), []⟩, ⟨7, some 25, .pick (.tmp 21) (.tmp 24) (.const (.bool false)), none, []⟩])
  (.cond (.tmp 25) (.skip) (.exit 0)))
  (.seq (.block 1 (.seq (.keep [0, 2, 8, 9, 10] (.ops [⟨0, some 29, .mv (.tmp 0), none, []⟩, ⟨1, some 30, .mv (.tmp 9), none, []⟩, ⟨2, some 31, .call n_s_l02LiftOnce [.tmp 29, .tmp 30], none, []⟩, ⟨3, some 28, .mv (.tmp 31), none, []⟩, ⟨4, some 32, .ext (.tmp 28) 0, none, []⟩, ⟨5, some 33, .ext (.tmp 28) 1, none, []⟩, ⟨6, some 34, .ext (.tmp 28) 2, none, []⟩, ⟨7, some 11, .mv (.tmp 32), none, []⟩, ⟨8, some 12, .mv (.tmp 33), none, []⟩, ⟨9, some 13, .mv (.tmp 34), none, []⟩]))
  (.seq (.seq (.keep [0, 2, 8, 10, 11, 12, 13] (.ops [⟨0, some 35, .mv (.tmp 13), none, []⟩, ⟨1, some 36, .un .not (.tmp 35), none, []⟩]))
  (.cond (.tmp 36) (.seq (.keep [] (.ops [⟨0, some 6, .mv (.const (.slice none 0 0)), none, []⟩, ⟨1, some 7, .mv (.const (.bool false)), none, []⟩]))
  (.ret)) (.skip)))
  (.seq (.ops [⟨0, some 37, .mv (.tmp 8), none, []⟩, ⟨1, some 38, .mv (.tmp 12), none, []⟩, ⟨2, some 39, .bsl 32 1 (.slice none 0 0) [(0, .tmp 38)], none, []⟩, ⟨3, some 40, .app 32 24 (.tmp 37) (.tmp 39), none, []⟩, ⟨4, some 8, .mv (.tmp 40), none, []⟩])
  (.keep [0, 2, 8, 10, 11] (.ops [⟨0, some 41, .mv (.tmp 11), none, []⟩, ⟨1, some 9, .mv (.tmp 41), none, []⟩]))))))
  (.ops [⟨0, some 26, .mv (.tmp 10), none, []⟩, ⟨1, some 27, .bin .add (.tmp 26) (.const (.int .i64 1)), none, []⟩, ⟨2, some 10, .mv (.tmp 27), none, []⟩]))))))
  (.seq (.keep [8, 9] (.ops [⟨0, some 42, .mv (.tmp 8), none, []⟩, ⟨1, some 43, .mv (.tmp 9), none, []⟩, ⟨2, some 44, .bsl 32 1 (.slice none 0 0) [(0, .tmp 43)], none, []⟩, ⟨3, some 45, .app 32 24 (.tmp 42) (.tmp 44), none, []⟩, ⟨4, some 6, .mv (.tmp 45), none, []⟩, ⟨5, some 7, .mv (.const (.bool true)), none, []⟩]))
  (.ret)))))
theorem k_s_l02Deep : FnOk Try.prog n_s_l02Deep 3 c_s_l02Deep [.tmp 6, .tmp 7] := ⟨by kernel_rfl⟩
def c_i_IsList : ACode :=
  .seq (.ops [⟨0, some 2, .mv (.const (.bool false)), none, []⟩])
  (.seq (.ops [⟨0, some 3, .mv (.tmp 0), none, []⟩, ⟨1, some 4, .len (.tmp 3), none, []⟩, ⟨2, some 5, .call n_i_within [.tmp 4, .const (.int .i64 1), .const (.int .i64 128)], none, []⟩, ⟨3, some 6, .mv (.tmp 5), none, []⟩, ⟨4, some 7, .mv (.tmp 0), (some (6, true)), []⟩, ⟨5, some 8, .bsl 32 1 (.slice none 0 0) [(0, .tmp 7)], (some (6, true)), []⟩, ⟨6, some 9, .call n_i_areFinite [.tmp 8], (some (6, true)), []⟩, ⟨7, some 10, .pick (.tmp 6) (.tmp 9) (.const (.bool false)), none, []⟩, ⟨8, some 2, .mv (.tmp 10), none, []⟩])
  (.ret))
theorem k_i_IsList : FnOk Try.prog n_i_IsList 1 c_i_IsList [.tmp 2] := ⟨by kernel_rfl⟩
def c_i_LiftOnce : ACode :=
  .seq (.ops [⟨0, some 2, .box 64 (.tmp 0), none, []⟩, ⟨1, some 4, .mv (.const (.slice none 0 0)), none, []⟩, ⟨2, some 5, .mv (.const (.slice none 0 0)), none, []⟩, ⟨3, some 6, .mv (.const (.bool false)), none, []⟩])
  (.seq (.seq (.ops [⟨0, some 13, .ldn 2 (.tmp 2), none, []⟩, ⟨1, some 14, .call n_i_ValidScheme [.tmp 13], none, []⟩, ⟨2, some 15, .un .not (.tmp 14), none, []⟩, ⟨3, some 16, .mv (.tmp 15), none, []⟩, ⟨4, some 17, .mv (.tmp 1), (some (16, false)), []⟩, ⟨5, some 18, .call n_i_IsList [.tmp 17], (some (16, false)), []⟩, ⟨6, some 19, .un .not (.tmp 18), (some (16, false)), []⟩, ⟨7, some 20, .pick (.tmp 16) (.const (.bool true)) (.tmp 19), none, []⟩])
  (.cond (.tmp 20) (.seq (.keep [] (.ops [⟨0, some 4, .mv (.const (.slice none 0 0)), none, []⟩, ⟨1, some 5, .mv (.const (.slice none 0 0)), none, []⟩, ⟨2, some 6, .mv (.const (.bool false)), none, []⟩]))
  (.ret)) (.skip)))
  (.seq (.keep [1, 2] (.ops [⟨0, some 22, .mv (.tmp 1), none, []⟩, ⟨1, some 23, .call n_i_split_float32_ [.tmp 22], none, []⟩, ⟨2, some 21, .mv (.tmp 23), none, []⟩, ⟨3, some 24, .ext (.tmp 21) 0, none, []⟩, ⟨4, some 25, .ext (.tmp 21) 1, none, []⟩, ⟨5, some 7, .mv (.tmp 24), none, []⟩, ⟨6, some 8, .mv (.tmp 25), none, []⟩]))
  (.seq (.seq (.keep [2, 7, 8] (.ops [⟨0, some 26, .mv (.tmp 8), none, []⟩, ⟨1, some 27, .len (.tmp 26), none, []⟩, ⟨2, some 28, .bin .eql (.tmp 27) (.const (.int .i64 0)), none, []⟩]))
  (.cond (.tmp 28) (.seq (.ops [⟨0, some 29, .mv (.tmp 7), none, []⟩, ⟨1, some 30, .mv (.tmp 8), none, []⟩, ⟨2, some 4, .mv (.tmp 29), none, []⟩, ⟨3, some 5, .mv (.tmp 30), none, []⟩, ⟨4, some 6, .mv (.const (.bool true)), none, []⟩])
  (.ret)) (.skip)))
  (.seq (.seq (.ops [⟨0, some 31, .fa 0 (.tmp 2), none, []⟩, ⟨1, some 32, .ld (.tmp 31), none, []⟩, ⟨2, some 33, .len (.tmp 32), none, []⟩, ⟨3, some 34, .mv (.const (.int .i64 0)), none, []⟩])
  (.block 0 (.loop [2, 7, 8, 32, 33, 34] (.seq (.ops [⟨0, some 35, .bin .lss (.tmp 34) (.tmp 33), none, []⟩])
  (.seq (.cond (.tmp 35) (.skip) (.exit 0))
  (.seq (.block 1 (.seq (.ops [⟨0, some 36, .mv (.tmp 34), none, []⟩, ⟨1, some 37, .ia (.tmp 32) (.tmp 34), none, []⟩, ⟨2, some 38, .ld (.tmp 37), none, []⟩, ⟨3, some 9, .mv (.tmp 36), none, []⟩, ⟨4, some 10, .mv (.tmp 38), none, []⟩])
  (.ops [⟨0, some 39, .mv (.tmp 7), none, []⟩, ⟨1, some 40, .mv (.tmp 8), none, []⟩, ⟨2, some 41, .mv (.tmp 9), none, []⟩, ⟨3, some 42, .mv (.tmp 10), none, []⟩, ⟨4, some 43, .call n_i_weigh [.tmp 39, .tmp 40, .tmp 41, .tmp 42, .const (.bool false)], none, []⟩])))
  (.keep [2, 7, 8, 32, 33, 34] (.ops [⟨0, some 44, .bin .add (.tmp 34) (.const (.int .i64 1)), none, []⟩, ⟨1, some 34, .mv (.tmp 44), none, []⟩]))))))))
  (.seq (.seq (.ops [⟨0, some 45, .mv (.tmp 7), none, []⟩, ⟨1, some 46, .len (.tmp 45), none, []⟩, ⟨2, some 47, .mv (.const (.int .i64 0)), none, []⟩])
  (.block 2 (.loop [2, 7, 8, 46, 47] (.seq (.ops [⟨0, some 48, .bin .lss (.tmp 47) (.tmp 46), none, []⟩])
  (.seq (.cond (.tmp 48) (.skip) (.exit 2))
  (.seq (.block 3 (.seq (.ops [⟨0, some 49, .mv (.tmp 47), none, []⟩, ⟨1, some 11, .mv (.tmp 49), none, []⟩])
  (.ops [⟨0, some 50, .mv (.tmp 7), none, []⟩, ⟨1, some 51, .mv (.tmp 11), none, []⟩, ⟨2, some 52, .ia (.tmp 50) (.tmp 51), none, []⟩, ⟨3, some 53, .ld (.tmp 52), none, []⟩, ⟨4, some 54, .fa 1 (.tmp 2), none, []⟩, ⟨5, some 55, .ld (.tmp 54), none, []⟩, ⟨6, some 56, .bin .mul (.tmp 53) (.tmp 55), none, []⟩, ⟨7, some 57, .ia (.tmp 50) (.tmp 51), none, []⟩, ⟨8, none, .st (.tmp 57) (.tmp 56), none, []⟩])))
  (.keep [2, 7, 8, 46, 47] (.ops [⟨0, some 58, .bin .add (.tmp 47) (.const (.int .i64 1)), none, []⟩, ⟨1, some 47, .mv (.tmp 58), none, []⟩]))))))))
  (.seq (.seq (.ops [⟨0, some 59, .mv (.tmp 8), none, []⟩, ⟨1, some 60, .len (.tmp 59), none, []⟩, ⟨2, some 61, .mv (.const (.int .i64 0)), none, []⟩])
  (.block 4 (.loop [2, 7, 8, 60, 61] (.seq (.ops [⟨0, some 62, .bin .lss (.tmp 61) (.tmp 60), none, []⟩])
  (.seq (.cond (.tmp 62) (.skip) (.exit 4))
  (.seq (.block 5 (.seq (.ops [⟨0, some 63, .mv (.tmp 61), none, []⟩, ⟨1, some 12, .mv (.tmp 63), none, []⟩])
  (.ops [⟨0, some 64, .mv (.tmp 8), none, []⟩, ⟨1, some 65, .mv (.tmp 12), none, []⟩, ⟨2, some 66, .ia (.tmp 64) (.tmp 65), none, []⟩, ⟨3, some 67, .ld (.tmp 66), none, []⟩, ⟨4, some 68, .fa 1 (.tmp 2), none, []⟩, ⟨5, some 69, .ld (.tmp 68), none, []⟩, ⟨6, some 70, .bin .quo (.tmp 67) (.tmp 69), none, []⟩, ⟨7, some 71, .ia (.tmp 64) (.tmp 65), none, []⟩, ⟨8, none, .st (.tmp 71) (.tmp 70), none, []⟩])))
  (.keep [2, 7, 8, 60, 61] (.ops [⟨0, some 72, .bin .add (.tmp 61) (.const (.int .i64 1)), none, []⟩, ⟨1, some 61, .mv (.tmp 72), none, []⟩]))))))))
  (.seq (.seq (.ops [⟨0, some 73, .mv (.tmp 7), none, []⟩, ⟨1, some 74, .mv (.tmp 8), none, []⟩, ⟨2, some 75, .bsl 32 2 (.slice none 0 0) [(0, .tmp 73), (1, .tmp 74)], none, []⟩, ⟨3, some 76, .call n_i_areFinite [.tmp 75], none, []⟩, ⟨4, some 77, .un .not (.tmp 76), none, []⟩])
  (.cond (.tmp 77) (.seq (.keep [] (.ops [⟨0, some 4, .mv (.const (.slice none 0 0)), none, []⟩, ⟨1, some 5, .mv (.const (.slice none 0 0)), none, []⟩, ⟨2, some 6, .mv (.const (.bool false)), none, []⟩]))
  (.ret)) (.skip)))
  (.seq (.keep [7, 8] (.ops [⟨0, some 78, .mv (.tmp 7), none, []⟩, ⟨1, some 79, .mv (.tmp 8), none, []⟩, ⟨2, some 4, .mv (.tmp 78), none, []⟩, ⟨3, some 5, .mv (.tmp 79), none, []⟩, ⟨4, some 6, .mv (.const (.bool true)), none, []⟩]))
  (.ret)))))))))
theorem k_i_LiftOnce : FnOk Try.prog n_i_LiftOnce 2 c_i_LiftOnce [.tmp 4, .tmp 5, .tmp 6] := ⟨by kernel_rfl⟩
def c_s_l02Weigh : ACode :=
  .seq (.seq (.ops [⟨0, some 10, .mv (.tmp 2), none, []⟩, ⟨1, some 11, .bin .rem (.tmp 10) (.const (.int .i64 2)), none, []⟩, ⟨2, some 12, .bin .eql (.tmp 11) (.const (.int .i64 0)), none, []⟩])
  (.cond (.tmp 12) (.seq (.seq (.ops [⟨0, some 8, .mv (.const (.int .i64 0)), none, []⟩])
  (.block 0 (.loop [0, 1, 3, 8] (.seq (.seq (.ops [⟨0, some 13, .mv (.tmp 8), none, []⟩, ⟨1, some 14, .mv (.tmp 1), none, []⟩, ⟨2, some 15, .len (.tmp 14), none, []⟩, ⟨3, some 16, .bin .lss (.tmp 13) (.tmp 15), none, []⟩])
  (.cond (.tmp 16) (.skip) (.exit 0)))
  (.seq (.block 1 (.ops [⟨0, some 19, .mv (.tmp 1), none, []⟩, ⟨1, some 20, .mv (.tmp 8), none, []⟩, ⟨2, some 21, .mv (.tmp 1), none, []⟩, ⟨3, some 22, .mv (.tmp 8), none, []⟩, ⟨4, some 23, .ia (.tmp 21) (.tmp 22), none, []⟩, ⟨5, some 24, .ld (.tmp 23), none, []⟩, ⟨6, some 25, .mv (.tmp 3), none, []⟩, ⟨7, some 26, .mv (.tmp 0), none, []⟩, ⟨8, some 27, .mv (.tmp 8), none, []⟩, ⟨9, some 28, .ia (.tmp 26) (.tmp 27), none, []⟩, ⟨10, some 29, .ld (.tmp 28), none, []⟩, ⟨11, some 30, .mv (.tmp 0), none, []⟩, ⟨12, some 31, .mv (.tmp 8), none, []⟩, ⟨13, some 32, .bin .add (.tmp 31) (.const (.int .i64 1)), none, []⟩, ⟨14, some 33, .call n_s_l02Beside [.tmp 30, .tmp 32], none, [(some 23, .ia (.tmp 21) (.tmp 22), none), (some 24, .ld (.tmp 23), none), (some 28, .ia (.tmp 26) (.tmp 27), none), (some 29, .ld (.tmp 28), none)]⟩, ⟨15, some 34, .bin .add (.tmp 29) (.tmp 33), none, []⟩, ⟨16, some 35, .bin .mul (.tmp 25) (.tmp 34), none, []⟩, ⟨17, some 36, .bin .add (.tmp 24) (.tmp 35), none, []⟩, ⟨18, some 37, .ia (.tmp 19) (.tmp 20), none, []⟩, ⟨19, none, .st (.tmp 37) (.tmp 36), none, []⟩]))
  (.keep [0, 1, 3, 8] (.ops [⟨0, some 17, .mv (.tmp 8), none, []⟩, ⟨1, some 18, .bin .add (.tmp 17) (.const (.int .i64 1)), none, []⟩, ⟨2, some 8, .mv (.tmp 18), none, []⟩])))))))
  (.ret)) (.skip)))
  (.seq (.ops [⟨0, some 9, .mv (.const (.int .i64 0)), none, []⟩])
  (.block 2 (.loop [0, 1, 3, 9] (.seq (.seq (.ops [⟨0, some 38, .mv (.tmp 9), none, []⟩, ⟨1, some 39, .mv (.tmp 0), none, []⟩, ⟨2, some 40, .len (.tmp 39), none, []⟩, ⟨3, some 41, .bin .lss (.tmp 38) (.tmp 40), none, []⟩])
  (.cond (.tmp 41) (.skip) (.exit 2)))
  (.seq (.block 3 (.ops [⟨0, some 44, .mv (.tmp 0), none, []⟩, ⟨1, some 45, .mv (.tmp 9), none, []⟩, ⟨2, some 46, .mv (.tmp 0), none, []⟩, ⟨3, some 47, .mv (.tmp 9), none, []⟩, ⟨4, some 48, .ia (.tmp 46) (.tmp 47), none, []⟩, ⟨5, some 49, .ld (.tmp 48), none, []⟩, ⟨6, some 50, .mv (.tmp 3), none, []⟩, ⟨7, some 51, .mv (.tmp 1), none, []⟩, ⟨8, some 52, .mv (.tmp 9), none, []⟩, ⟨9, some 53, .bin .sub (.tmp 52) (.const (.int .i64 1)), none, []⟩, ⟨11, some 55, .mv (.tmp 1), none, []⟩, ⟨12, some 56, .mv (.tmp 9), none, []⟩, ⟨10, some 54, .call n_s_l02Beside [.tmp 51, .tmp 53], none, [(some 48, .ia (.tmp 46) (.tmp 47), none), (some 49, .ld (.tmp 48), none)]⟩, ⟨13, some 57, .call n_s_l02Beside [.tmp 55, .tmp 56], none, [(some 48, .ia (.tmp 46) (.tmp 47), none), (some 49, .ld (.tmp 48), none)]⟩, ⟨14, some 58, .bin .add (.tmp 54) (.tmp 57), none, []⟩, ⟨15, some 59, .bin .mul (.tmp 50) (.tmp 58), none, []⟩, ⟨16, some 60, .bin .add (.tmp 49) (.tmp 59), none, []⟩, ⟨17, some 61, .ia (.tmp 44) (.tmp 45), none, []⟩, ⟨18, none, .st (.tmp 61) (.tmp 60), none, []⟩]))
  (.keep [0, 1, 3, 9] (.ops [⟨0, some 42, .mv (.tmp 9), none, []⟩, ⟨1, some 43, .bin .add (.tmp 42) (.const (.int .i64 1)), none, []⟩, ⟨2, some 9, .mv (.tmp 43), none, []⟩])))))))
theorem k_s_l02Weigh : FnOk Try.prog n_s_l02Weigh 4 c_s_l02Weigh [] := ⟨by kernel_rfl⟩
def c_s_l02List : ACode :=
  .seq (.ops [⟨0, some 2, .mv (.const (.slice none 0 0)), none, []⟩, ⟨1, some 3, .mv (.const (.bool false)), none, []⟩])
  (.seq (.seq (.ops [⟨0, some 4, .mv (.tmp 0), none, []⟩, ⟨1, some 5, .call n_s_l02Finite [.tmp 4], none, []⟩, ⟨2, some 6, .un .not (.tmp 5), none, []⟩])
  (.cond (.tmp 6) (.seq (.keep [] (.ops [⟨0, some 2, .mv (.const (.slice none 0 0)), none, []⟩, ⟨1, some 3, .mv (.const (.bool false)), none, []⟩]))
  (.ret)) (.skip)))
  (.seq (.keep [0] (.ops [⟨0, some 7, .mv (.tmp 0), none, []⟩, ⟨1, some 2, .mv (.tmp 7), none, []⟩, ⟨2, some 3, .mv (.const (.bool true)), none, []⟩]))
  (.ret)))
theorem k_s_l02List : FnOk Try.prog n_s_l02List 1 c_s_l02List [.tmp 2, .tmp 3] := ⟨by kernel_rfl⟩
def c_i_weigh_1 : ACode :=
  .seq (.ops [⟨0, some 9, .ld (.tmp 3), none, []⟩, ⟨1, some 10, .mv (.tmp 1), none, []⟩, ⟨2, some 11, .mv (.tmp 2), none, []⟩, ⟨3, some 12, .bin .add (.tmp 10) (.tmp 11), none, []⟩, ⟨4, some 13, .bin .mul (.tmp 9) (.tmp 12), none, []⟩, ⟨5, some 8, .mv (.tmp 13), none, []⟩])
  (.seq (.keep [0, 4, 8] (.ops [⟨0, some 14, .ld (.tmp 4), none, []⟩]))
  (.cond (.tmp 14) (.ops [⟨0, some 15, .mv (.tmp 0), none, []⟩, ⟨1, some 16, .nc (.tmp 15), none, []⟩, ⟨2, some 17, .ld (.tmp 16), none, []⟩, ⟨3, some 18, .mv (.tmp 8), none, []⟩, ⟨4, some 19, .bin .sub (.tmp 17) (.tmp 18), none, []⟩, ⟨5, some 20, .nc (.tmp 15), none, []⟩, ⟨6, none, .st (.tmp 20) (.tmp 19), none, []⟩]) (.ops [⟨0, some 21, .mv (.tmp 0), none, []⟩, ⟨1, some 22, .nc (.tmp 21), none, []⟩, ⟨2, some 23, .ld (.tmp 22), none, []⟩, ⟨3, some 24, .mv (.tmp 8), none, []⟩, ⟨4, some 25, .bin .add (.tmp 23) (.tmp 24), none, []⟩, ⟨5, some 26, .nc (.tmp 21), none, []⟩, ⟨6, none, .st (.tmp 26) (.tmp 25), none, []⟩])))
theorem k_i_weigh_1 : FnOk Try.prog n_i_weigh_1 5 c_i_weigh_1 [] := ⟨by kernel_rfl⟩
def c_i_besideOdd_float32_ : ACode :=
  .seq (.ops [⟨0, some 4, .mv (.const (.float .f32 0)), none, []⟩, ⟨1, some 5, .mv (.const (.float .f32 0)), none, []⟩])
  (.seq (.ops [⟨0, some 6, .mv (.tmp 0), none, []⟩, ⟨1, some 7, .mv (.tmp 1), none, []⟩, ⟨2, some 8, .ia (.tmp 6) (.tmp 7), none, []⟩, ⟨3, some 9, .ld (.tmp 8), none, []⟩, ⟨4, some 10, .mv (.tmp 0), none, []⟩, ⟨5, some 11, .mv (.tmp 1), none, []⟩, ⟨6, some 12, .bin .add (.tmp 11) (.const (.int .i64 1)), none, []⟩, ⟨7, some 13, .mv (.tmp 0), none, []⟩, ⟨8, some 14, .len (.tmp 13), none, []⟩, ⟨9, some 15, .bin .sub (.tmp 14) (.const (.int .i64 1)), none, []⟩, ⟨10, some 16, .mnx false (.tmp 12) (.tmp 15), none, []⟩, ⟨11, some 17, .ia (.tmp 10) (.tmp 16), none, []⟩, ⟨12, some 18, .ld (.tmp 17), none, []⟩, ⟨13, some 4, .mv (.tmp 9), none, []⟩, ⟨14, some 5, .mv (.tmp 18), none, []⟩])
  (.ret))
theorem k_i_besideOdd_float32_ : FnOk Try.prog n_i_besideOdd_float32_ 2 c_i_besideOdd_float32_ [.tmp 4, .tmp 5] := ⟨by kernel_rfl⟩
def c_i_besideEven_float32_ : ACode :=
  .seq (.ops [⟨0, some 4, .mv (.const (.float .f32 0)), none, []⟩, ⟨1, some 5, .mv (.const (.float .f32 0)), none, []⟩])
  (.seq (.ops [⟨0, some 6, .mv (.tmp 0), none, []⟩, ⟨1, some 7, .mv (.tmp 1), none, []⟩, ⟨2, some 8, .bin .sub (.tmp 7) (.const (.int .i64 1)), none, []⟩, ⟨3, some 9, .mnx true (.tmp 8) (.const (.int .i64 0)), none, []⟩, ⟨4, some 10, .ia (.tmp 6) (.tmp 9), none, []⟩, ⟨5, some 11, .ld (.tmp 10), none, []⟩, ⟨6, some 12, .mv (.tmp 0), none, []⟩, ⟨7, some 13, .mv (.tmp 1), none, []⟩, ⟨8, some 14, .mv (.tmp 0), none, []⟩, ⟨9, some 15, .len (.tmp 14), none, []⟩, ⟨10, some 16, .bin .sub (.tmp 15) (.const (.int .i64 1)), none, []⟩, ⟨11, some 17, .mnx false (.tmp 13) (.tmp 16), none, []⟩, ⟨12, some 18, .ia (.tmp 12) (.tmp 17), none, []⟩, ⟨13, some 19, .ld (.tmp 18), none, []⟩, ⟨14, some 4, .mv (.tmp 11), none, []⟩, ⟨15, some 5, .mv (.tmp 19), none, []⟩])
  (.ret))
theorem k_i_besideEven_float32_ : FnOk Try.prog n_i_besideEven_float32_ 2 c_i_besideEven_float32_ [.tmp 4, .tmp 5] := ⟨by kernel_rfl⟩
def c_s_l02LiftOnce : ACode :=
  .seq (.ops [⟨0, some 4, .mv (.const (.slice none 0 0)), none, []⟩, ⟨1, some 5, .mv (.const (.slice none 0 0)), none, []⟩, ⟨2, some 6, .mv (.const (.bool false)), none, []⟩])
  (.seq (.ops [⟨0, some 13, .bsl 37 0 (.float .f32 0) [], none, []⟩, ⟨1, some 7, .mv (.tmp 13), none, []⟩])
  (.seq (.ops [⟨0, some 14, .bsl 37 0 (.float .f32 0) [], none, []⟩, ⟨1, some 8, .mv (.tmp 14), none, []⟩])
  (.seq (.seq (.keep [0, 1, 7, 8] (.ops [⟨0, some 9, .mv (.const (.int .i64 0)), none, []⟩]))
  (.block 0 (.loop [0, 1, 7, 8, 9] (.seq (.seq (.ops [⟨0, some 15, .mv (.tmp 9), none, []⟩, ⟨1, some 16, .mv (.tmp 1), none, []⟩, ⟨2, some 17, .len (.tmp 16), none, []⟩, ⟨3, some 18, .bin .lss (.tmp 15) (.tmp 17), none, []⟩])
  (.cond (.tmp 18) (.skip) (.exit 0)))
  (.seq (.block 1 (.seq (.ops [⟨0, some 21, .mv (.tmp 9), none, []⟩, ⟨1, some 22, .bin .rem (.tmp 21) (.const (.int .i64 2)), none, []⟩, ⟨2, some 23, .bin .eql (.tmp 22) (.const (.int .i64 0)), none, []⟩])
  (.cond (.tmp 23) (.keep [0, 1, 7, 8, 9] (.ops [⟨0, some 24, .mv (.tmp 7), none, []⟩, ⟨1, some 25, .mv (.tmp 1), none, []⟩, ⟨2, some 26, .mv (.tmp 9), none, []⟩, ⟨3, some 27, .ia (.tmp 25) (.tmp 26), none, []⟩, ⟨4, some 28, .ld (.tmp 27), none, []⟩, ⟨5, some 29, .bsl 37 1 (.float .f32 0) [(0, .tmp 28)], none, []⟩, ⟨6, some 30, .app 37 4 (.tmp 24) (.tmp 29), none, []⟩, ⟨7, some 7, .mv (.tmp 30), none, []⟩])) (.keep [0, 1, 7, 8, 9] (.ops [⟨0, some 31, .mv (.tmp 8), none, []⟩, ⟨1, some 32, .mv (.tmp 1), none, []⟩, ⟨2, some 33, .mv (.tmp 9), none, []⟩, ⟨3, some 34, .ia (.tmp 32) (.tmp 33), none, []⟩, ⟨4, some 35, .ld (.tmp 34), none, []⟩, ⟨5, some 36, .bsl 37 1 (.float .f32 0) [(0, .tmp 35)], none, []⟩, ⟨6, some 37, .app 37 4 (.tmp 31) (.tmp 36), none, []⟩, ⟨7, some 8, .mv (.tmp 37), none, []⟩])))))
  (.keep [0, 1, 7, 8, 9] (.ops [⟨0, some 19, .mv (.tmp 9), none, []⟩, ⟨1, some 20, .bin .add (.tmp 19) (.const (.int .i64 1)), none, []⟩, ⟨2, some 9, .mv (.tmp 20), none, []⟩])))))))
  (.seq (.seq (.keep [0, 7, 8] (.ops [⟨0, some 38, .mv (.tmp 8), none, []⟩, ⟨1, some 39, .len (.tmp 38), none, []⟩, ⟨2, some 40, .bin .eql (.tmp 39) (.const (.int .i64 0)), none, []⟩]))
  (.cond (.tmp 40) (.seq (.ops [⟨0, some 41, .mv (.tmp 7), none, []⟩, ⟨1, some 42, .mv (.tmp 8), none, []⟩, ⟨2, some 4, .mv (.tmp 41), none, []⟩, ⟨3, some 5, .mv (.tmp 42), none, []⟩, ⟨4, some 6, .mv (.const (.bool true)), none, []⟩])
  (.ret)) (.skip)))
  (.seq (.seq (.ops [⟨0, some 10, .mv (.const (.int .i64 0)), none, []⟩])
  (.block 2 (.loop [0, 7, 8, 10] (.seq (.seq (.ops [⟨0, some 43, .mv (.tmp 10), none, []⟩, ⟨1, some 44, .mv (.tmp 0), none, []⟩, ⟨2, some 45, .nc (.tmp 44), none, []⟩, ⟨3, some 46, .fa 0 (.tmp 45), none, []⟩, ⟨4, some 47, .ld (.tmp 46), none, []⟩, ⟨5, some 48, .len (.tmp 47), none, []⟩, ⟨6, some 49, .bin .lss (.tmp 43) (.tmp 48), none, []⟩])
  (.cond (.tmp 49) (.skip) (.exit 2)))
  (.seq (.block 3 (.keep [0, 7, 8, 10] (.ops [⟨0, some 52, .mv (.tmp 7), none, []⟩, ⟨1, some 53, .mv (.tmp 8), none, []⟩, ⟨2, some 54, .mv (.tmp 10), none, []⟩, ⟨3, some 55, .mv (.tmp 0), none, []⟩, ⟨4, some 56, .nc (.tmp 55), none, []⟩, ⟨5, some 57, .fa 0 (.tmp 56), none, []⟩, ⟨6, some 58, .ld (.tmp 57), none, []⟩, ⟨7, some 59, .mv (.tmp 10), none, []⟩, ⟨8, some 60, .ia (.tmp 58) (.tmp 59), none, []⟩, ⟨9, some 61, .ld (.tmp 60), none, []⟩, ⟨10, some 62, .call n_s_l02Weigh [.tmp 52, .tmp 53, .tmp 54, .tmp 61], none, []⟩])))
  (.keep [0, 7, 8, 10] (.ops [⟨0, some 50, .mv (.tmp 10), none, []⟩, ⟨1, some 51, .bin .add (.tmp 50) (.const (.int .i64 1)), none, []⟩, ⟨2, some 10, .mv (.tmp 51), none, []⟩])))))))
  (.seq (.seq (.keep [0, 7, 8] (.ops [⟨0, some 11, .mv (.const (.int .i64 0)), none, []⟩]))
  (.block 4 (.loop [0, 7, 8, 11] (.seq (.seq (.ops [⟨0, some 63, .mv (.tmp 11), none, []⟩, ⟨1, some 64, .mv (.tmp 7), none, []⟩, ⟨2, some 65, .len (.tmp 64), none, []⟩, ⟨3, some 66, .bin .lss (.tmp 63) (.tmp 65), none, []⟩])
  (.cond (.tmp 66) (.skip) (.exit 4)))
  (.seq (.block 5 (.ops [⟨0, some 69, .mv (.tmp 7), none, []⟩, ⟨1, some 70, .mv (.tmp 11), none, []⟩, ⟨2, some 71, .mv (.tmp 7), none, []⟩, ⟨3, some 72, .mv (.tmp 11), none, []⟩, ⟨4, some 73, .ia (.tmp 71) (.tmp 72), none, []⟩, ⟨5, some 74, .ld (.tmp 73), none, []⟩, ⟨6, some 75, .mv (.tmp 0), none, []⟩, ⟨7, some 76, .nc (.tmp 75), none, []⟩, ⟨8, some 77, .fa 1 (.tmp 76), none, []⟩, ⟨9, some 78, .ld (.tmp 77), none, []⟩, ⟨10, some 79, .bin .mul (.tmp 74) (.tmp 78), none, []⟩, ⟨11, some 80, .ia (.tmp 69) (.tmp 70), none, []⟩, ⟨12, none, .st (.tmp 80) (.tmp 79), none, []⟩]))
  (.keep [0, 7, 8, 11] (.ops [⟨0, some 67, .mv (.tmp 11), none, []⟩, ⟨1, some 68, .bin .add (.tmp 67) (.const (.int .i64 1)), none, []⟩, ⟨2, some 11, .mv (.tmp 68), none, []⟩])))))))
  (.seq (.seq (.keep [0, 7, 8] (.ops [⟨0, some 12, .mv (.const (.int .i64 0)), none, []⟩]))
  (.block 6 (.loop [0, 7, 8, 12] (.seq (.seq (.ops [⟨0, some 81, .mv (.tmp 12), none, []⟩, ⟨1, some 82, .mv (.tmp 8), none, []⟩, ⟨2, some 83, .len (.tmp 82), none, []⟩, ⟨3, some 84, .bin .lss (.tmp 81) (.tmp 83), none, []⟩])
  (.cond (.tmp 84) (.skip) (.exit 6)))
  (.seq (.block 7 (.ops [⟨0, some 87, .mv (.tmp 8), none, []⟩, ⟨1, some 88, .mv (.tmp 12), none, []⟩, ⟨2, some 89, .mv (.tmp 8), none, []⟩, ⟨3, some 90, .mv (.tmp 12), none, []⟩, ⟨4, some 91, .ia (.tmp 89) (.tmp 90), none, []⟩, ⟨5, some 92, .ld (.tmp 91), none, []⟩, ⟨6, some 93, .mv (.tmp 0), none, []⟩, ⟨7, some 94, .nc (.tmp 93), none, []⟩, ⟨8, some 95, .fa 1 (.tmp 94), none, []⟩, ⟨9, some 96, .ld (.tmp 95), none, []⟩, ⟨10, some 97, .bin .quo (.tmp 92) (.tmp 96), none, []⟩, ⟨11, some 98, .ia (.tmp 87) (.tmp 88), none, []⟩, ⟨12, none, .st (.tmp 98) (.tmp 97), none, []⟩]))
  (.keep [0, 7, 8, 12] (.ops [⟨0, some 85, .mv (.tmp 12), none, []⟩, ⟨1, some 86, .bin .add (.tmp 85) (.const (.int .i64 1)), none, []⟩, ⟨2, some 12, .mv (.tmp 86), none, []⟩])))))))
  (.seq (.keep [7, 8] (.ops [⟨0, some 99, .mv (.tmp 7), none, []⟩, ⟨1, some 100, .mv (.tmp 8), none, []⟩, ⟨2, some 101, .mv (.tmp 7), none, []⟩, ⟨3, some 102, .call n_s_l02Finite [.tmp 101], none, []⟩, ⟨4, some 103, .mv (.tmp 102), none, []⟩, ⟨5, some 104, .mv (.tmp 8), (some (103, true)), []⟩, ⟨6, some 105, .call n_s_l02Finite [.tmp 104], (some (103, true)), []⟩, ⟨7, some 106, .pick (.tmp 103) (.tmp 105) (.const (.bool false)), none, []⟩, ⟨8, some 4, .mv (.tmp 99), none, []⟩, ⟨9, some 5, .mv (.tmp 100), none, []⟩, ⟨10, some 6, .mv (.tmp 106), none, []⟩]))
  (.ret)))))))))
theorem k_s_l02LiftOnce : FnOk Try.prog n_s_l02LiftOnce 2 c_s_l02LiftOnce [.tmp 4, .tmp 5, .tmp 6] := ⟨by kernel_rfl⟩
def c_i_split_float32_ : ACode :=
  .seq (.ops [⟨0, some 2, .mv (.const (.slice none 0 0)), none, []⟩, ⟨1, some 3, .mv (.const (.slice none 0 0)), none, []⟩])
  (.seq (.ops [⟨0, some 8, .bsl 37 0 (.float .f32 0) [], none, []⟩, ⟨1, some 9, .bsl 37 0 (.float .f32 0) [], none, []⟩, ⟨2, some 4, .mv (.tmp 8), none, []⟩, ⟨3, some 5, .mv (.tmp 9), none, []⟩])
  (.seq (.seq (.ops [⟨0, some 10, .mv (.tmp 0), none, []⟩, ⟨1, some 11, .len (.tmp 10), none, []⟩, ⟨2, some 12, .mv (.const (.int .i64 0)), none, []⟩])
  (.block 0 (.loop [4, 5, 10, 11, 12] (.seq (.ops [⟨0, some 13, .bin .lss (.tmp 12) (.tmp 11), none, []⟩])
  (.seq (.cond (.tmp 13) (.skip) (.exit 0))
  (.seq (.block 1 (.seq (.ops [⟨0, some 14, .mv (.tmp 12), none, []⟩, ⟨1, some 15, .ia (.tmp 10) (.tmp 12), none, []⟩, ⟨2, some 16, .ld (.tmp 15), none, []⟩, ⟨3, some 6, .mv (.tmp 14), none, []⟩, ⟨4, some 7, .mv (.tmp 16), none, []⟩])
  (.seq (.ops [⟨0, some 17, .mv (.tmp 6), none, []⟩, ⟨1, some 18, .bin .rem (.tmp 17) (.const (.int .i64 2)), none, []⟩, ⟨2, some 19, .bin .eql (.tmp 18) (.const (.int .i64 0)), none, []⟩])
  (.cond (.tmp 19) (.keep [4, 5, 7, 10, 11, 12] (.ops [⟨0, some 20, .mv (.tmp 4), none, []⟩, ⟨1, some 21, .mv (.tmp 7), none, []⟩, ⟨2, some 22, .bsl 37 1 (.float .f32 0) [(0, .tmp 21)], none, []⟩, ⟨3, some 23, .app 37 4 (.tmp 20) (.tmp 22), none, []⟩, ⟨4, some 4, .mv (.tmp 23), none, []⟩])) (.keep [4, 5, 7, 10, 11, 12] (.ops [⟨0, some 24, .mv (.tmp 5), none, []⟩, ⟨1, some 25, .mv (.tmp 7), none, []⟩, ⟨2, some 26, .bsl 37 1 (.float .f32 0) [(0, .tmp 25)], none, []⟩, ⟨3, some 27, .app 37 4 (.tmp 24) (.tmp 26), none, []⟩, ⟨4, some 5, .mv (.tmp 27), none, []⟩]))))))
  (.keep [4, 5, 10, 11, 12] (.ops [⟨0, some 28, .bin .add (.tmp 12) (.const (.int .i64 1)), none, []⟩, ⟨1, some 12, .mv (.tmp 28), none, []⟩]))))))))
  (.seq (.ops [⟨0, some 29, .mv (.tmp 4), none, []⟩, ⟨1, some 30, .mv (.tmp 5), none, []⟩, ⟨2, some 2, .mv (.tmp 29), none, []⟩, ⟨3, some 3, .mv (.tmp 30), none, []⟩])
  (.ret))))
theorem k_i_split_float32_ : FnOk Try.prog n_i_split_float32_ 1 c_i_split_float32_ [.tmp 2, .tmp 3] := ⟨by kernel_rfl⟩
def c_s_l02Beside : ACode :=
  .seq (.ops [⟨0, some 4, .mv (.const (.float .f32 0)), none, []⟩])
  (.seq (.ops [⟨0, some 5, .mv (.tmp 0), none, []⟩, ⟨1, some 6, .mv (.tmp 0), none, []⟩, ⟨2, some 7, .len (.tmp 6), none, []⟩, ⟨3, some 8, .bin .sub (.tmp 7) (.const (.int .i64 1)), none, []⟩, ⟨4, some 9, .mv (.tmp 1), none, []⟩, ⟨5, some 10, .mnx false (.tmp 8) (.tmp 9), none, []⟩, ⟨6, some 11, .mnx true (.const (.int .i64 0)) (.tmp 10), none, []⟩, ⟨7, some 12, .ia (.tmp 5) (.tmp 11), none, []⟩, ⟨8, some 13, .ld (.tmp 12), none, []⟩, ⟨9, some 4, .mv (.tmp 13), none, []⟩])
  (.ret))
theorem k_s_l02Beside : FnOk Try.prog n_s_l02Beside 2 c_s_l02Beside [.tmp 4] := ⟨by kernel_rfl⟩
end Go.Proofs.Ytkojmlpaamdhoae

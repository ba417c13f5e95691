/- The code of functions, for the abstract machine; printed by a program (gen.py). -/
import Derived.Test.YtkojmlpaamdhoaeGxFn
import Derived.Test.YtkojmlpaamdhoaeProg
namespace Go.Proofs.Ytkojmlpaamdhoae
open Go.Gx
set_option maxRecDepth 100000
abbrev t_int64 : Nat := 2
abbrev t_int : Nat := 3
abbrev t_bool : Nat := 4
abbrev t_uint8 : Nat := 5
abbrev t_ssint64 : Nat := 22
abbrev t_sint64 : Nat := 24
abbrev t_sfloat32 : Nat := 32
abbrev t_ssfloat32 : Nat := 33
abbrev t_float32 : Nat := 37
abbrev t_float64 : Nat := 43
abbrev t_scomplex64 : Nat := 71
abbrev t_suint8 : Nat := 84
abbrev t_sbool : Nat := 90
abbrev t_sint : Nat := 95
abbrev t_complex64 : Nat := 126
abbrev t_Bands : Nat := 40
abbrev t_Pair : Nat := 51
abbrev t_Scheme : Nat := 64
abbrev n_w_FnExactRoughnessOf : Nat := 4
abbrev n_w_szBands : Nat := 21
abbrev n_s_RoughnessOf : Nat := 22
abbrev n_w_toBands : Nat := 23
abbrev n_i_RoughnessOf : Nat := 24
abbrev n_w_sameFloat : Nat := 25
abbrev n_w_eqBands : Nat := 26
abbrev n_w_eqFloat32S : Nat := 31
abbrev n_w_szFloat32SS : Nat := 38
abbrev n_w_toFloat32SS : Nat := 41
abbrev n_w_eqFloat32SS : Nat := 44
abbrev n_w_toFloat32S : Nat := 55
abbrev n_i_within : Nat := 75
abbrev n_w_szFloat32S : Nat := 80
abbrev n_s_PowersOfBands : Nat := 81
abbrev n_s_l01Log : Nat := 82
abbrev n_s_l02Number : Nat := 83
abbrev n_i_PowersOfBands : Nat := 84
abbrev n_i_LogNumber : Nat := 85
abbrev n_i_finite : Nat := 86
abbrev n_s_l03Bands : Nat := 87
abbrev n_i_ValidBands : Nat := 90
abbrev n_s_l03Energy : Nat := 138
abbrev n_s_l02Finite : Nat := 139
abbrev n_s_l01Narrow : Nat := 140
abbrev n_s_l01LogWide : Nat := 141
abbrev n_s_l01Finite : Nat := 142
abbrev n_i_squares : Nat := 143
abbrev n_i_finiteList : Nat := 144
abbrev n_m_Inf : Nat := 145
abbrev n_m_NaN : Nat := 146
abbrev n_i_IsFinite : Nat := 147
abbrev n_i_naturalLog : Nat := 148
abbrev n_i_areFinite : Nat := 150
abbrev n_m_IsInf : Nat := 186
abbrev n_m_Float64frombits : Nat := 187
abbrev n_m_Abs : Nat := 200
abbrev n_m_Float64bits : Nat := 210
def c_w_FnExactRoughnessOf : ACode :=
  .seq (.ops [⟨0, some 1, .box 35 (.tmp 0), none, []⟩, ⟨1, some 2, .mv (.const (.bool false)), none, []⟩])
  (.seq (.ops [⟨0, some 3, .mv (.const (.int .i64 1048576)), none, []⟩])
  (.seq (.ops [⟨0, some 9, .ldn 2 (.tmp 1), none, []⟩, ⟨1, some 10, .mv (.tmp 3), none, []⟩, ⟨2, some 11, .call n_w_szBands [.tmp 9, .tmp 10], none, []⟩, ⟨3, some 3, .mv (.tmp 11), none, []⟩])
  (.seq (.seq (.keep [1, 3] (.ops [⟨0, some 12, .mv (.tmp 3), none, []⟩, ⟨1, some 13, .bin .lss (.tmp 12) (.const (.int .i64 0)), none, []⟩]))
  (.cond (.tmp 13) (.seq (.ops [⟨0, some 2, .mv (.const (.bool true)), none, []⟩])
  (.ret)) (.skip)))
  (.seq (.ops [⟨0, some 15, .ldn 2 (.tmp 1), none, []⟩, ⟨1, some 16, .call n_w_toBands [.tmp 15], none, []⟩, ⟨2, some 17, .call n_s_RoughnessOf [.tmp 16], none, []⟩, ⟨3, some 14, .mv (.tmp 17), none, []⟩, ⟨4, some 18, .ext (.tmp 14) 0, none, []⟩, ⟨5, some 19, .ext (.tmp 14) 1, none, []⟩, ⟨6, some 4, .mv (.tmp 18), none, []⟩, ⟨7, some 5, .mv (.tmp 19), none, []⟩])
  (.seq (.keep [1, 4, 5] (.ops [⟨0, some 20, .ldn 2 (.tmp 1), none, []⟩, ⟨1, some 21, .call n_w_toBands [.tmp 20], none, []⟩, ⟨2, some 6, .new 40 [.slice none 0 0, .slice none 0 0], none, []⟩, ⟨3, none, .stn 2 (.tmp 6) (.tmp 21), none, []⟩]))
  (.seq (.ops [⟨0, some 23, .ldn 2 (.tmp 6), none, []⟩, ⟨1, some 24, .call n_i_RoughnessOf [.tmp 23], none, []⟩, ⟨2, some 22, .mv (.tmp 24), none, []⟩, ⟨3, some 25, .ext (.tmp 22) 0, none, []⟩, ⟨4, some 26, .ext (.tmp 22) 1, none, []⟩, ⟨5, some 7, .mv (.tmp 25), none, []⟩, ⟨6, some 8, .mv (.tmp 26), none, []⟩])
  (.seq (.seq (.keep [1, 4, 5, 6, 7, 8] (.ops [⟨0, some 27, .mv (.tmp 7), none, []⟩, ⟨1, some 28, .cv (.f .f64) (.tmp 27), none, []⟩, ⟨2, some 29, .mv (.tmp 4), none, []⟩, ⟨3, some 30, .cv (.f .f64) (.tmp 29), none, []⟩, ⟨4, some 31, .call n_w_sameFloat [.tmp 28, .tmp 30], none, []⟩, ⟨5, some 32, .un .not (.tmp 31), none, []⟩, ⟨6, some 33, .mv (.tmp 32), none, []⟩, ⟨7, some 34, .mv (.tmp 8), (some (33, false)), []⟩, ⟨8, some 35, .mv (.tmp 5), (some (33, false)), []⟩, ⟨9, some 36, .beq true (.tmp 34) (.tmp 35), (some (33, false)), []⟩, ⟨10, some 37, .pick (.tmp 33) (.const (.bool true)) (.tmp 36), none, []⟩]))
  (.cond (.tmp 37) (.seq (.keep [] (.ops [⟨0, some 2, .mv (.const (.bool false)), none, []⟩]))
  (.ret)) (.skip)))
  (.seq (.seq (.keep [1, 6] (.ops [⟨0, some 38, .ldn 2 (.tmp 6), none, []⟩, ⟨1, some 39, .ldn 2 (.tmp 1), none, []⟩, ⟨2, some 40, .call n_w_toBands [.tmp 39], none, [(some 38, .ldn 2 (.tmp 6), none)]⟩, ⟨3, some 41, .call n_w_eqBands [.tmp 38, .tmp 40], none, []⟩, ⟨4, some 42, .un .not (.tmp 41), none, []⟩]))
  (.cond (.tmp 42) (.seq (.keep [] (.ops [⟨0, some 2, .mv (.const (.bool false)), none, []⟩]))
  (.ret)) (.skip)))
  (.seq (.keep [] (.ops [⟨0, some 2, .mv (.const (.bool true)), none, []⟩]))
  (.ret))))))))))
theorem k_w_FnExactRoughnessOf : FnOk Try.prog n_w_FnExactRoughnessOf 1 c_w_FnExactRoughnessOf [.tmp 2] := ⟨by kernel_rfl⟩
def c_w_szBands : ACode :=
  .seq (.ops [⟨0, some 2, .box 35 (.tmp 0), none, []⟩, ⟨1, some 4, .mv (.const (.int .i64 0)), none, []⟩])
  (.seq (.ops [⟨0, some 5, .fa 0 (.tmp 2), none, []⟩, ⟨1, some 6, .ld (.tmp 5), none, []⟩, ⟨2, some 7, .mv (.tmp 1), none, []⟩, ⟨3, some 8, .call n_w_szFloat32S [.tmp 6, .tmp 7], none, []⟩, ⟨4, some 1, .mv (.tmp 8), none, []⟩])
  (.seq (.seq (.keep [1, 2] (.ops [⟨0, some 9, .mv (.tmp 1), none, []⟩, ⟨1, some 10, .bin .lss (.tmp 9) (.const (.int .i64 0)), none, []⟩]))
  (.cond (.tmp 10) (.seq (.ops [⟨0, some 4, .mv (.const (.int .i64 (-1))), none, []⟩])
  (.ret)) (.skip)))
  (.seq (.ops [⟨0, some 11, .fa 1 (.tmp 2), none, []⟩, ⟨1, some 12, .ld (.tmp 11), none, []⟩, ⟨2, some 13, .mv (.tmp 1), none, []⟩, ⟨3, some 14, .call n_w_szFloat32SS [.tmp 12, .tmp 13], none, []⟩, ⟨4, some 1, .mv (.tmp 14), none, []⟩])
  (.seq (.seq (.keep [1] (.ops [⟨0, some 15, .mv (.tmp 1), none, []⟩, ⟨1, some 16, .bin .lss (.tmp 15) (.const (.int .i64 0)), none, []⟩]))
  (.cond (.tmp 16) (.seq (.ops [⟨0, some 4, .mv (.const (.int .i64 (-1))), none, []⟩])
  (.ret)) (.skip)))
  (.seq (.ops [⟨0, some 17, .mv (.tmp 1), none, []⟩, ⟨1, some 4, .mv (.tmp 17), none, []⟩])
  (.ret))))))
theorem k_w_szBands : FnOk Try.prog n_w_szBands 2 c_w_szBands [.tmp 4] := ⟨by kernel_rfl⟩
def c_s_RoughnessOf : ACode :=
  .seq (.ops [⟨0, some 1, .box 40 (.tmp 0), none, []⟩, ⟨1, some 2, .mv (.const (.float .f32 0)), none, []⟩, ⟨2, some 3, .mv (.const (.bool false)), none, []⟩])
  (.seq (.ops [⟨0, some 16, .ldn 2 (.tmp 1), none, []⟩, ⟨1, some 17, .call n_s_PowersOfBands [.tmp 16], none, []⟩, ⟨2, some 15, .mv (.tmp 17), none, []⟩, ⟨3, some 18, .ext (.tmp 15) 0, none, []⟩, ⟨4, some 19, .ext (.tmp 15) 1, none, []⟩, ⟨5, some 4, .mv (.tmp 18), none, []⟩, ⟨6, some 5, .mv (.tmp 19), none, []⟩])
  (.seq (.keep [1, 4, 5] (.ops [⟨0, some 20, .fa 1 (.tmp 1), none, []⟩, ⟨1, some 21, .ld (.tmp 20), none, []⟩, ⟨2, some 22, .len (.tmp 21), none, []⟩, ⟨3, some 6, .mv (.tmp 22), none, []⟩]))
  (.seq (.seq (.ops [⟨0, some 23, .mv (.tmp 5), none, []⟩, ⟨1, some 24, .un .not (.tmp 23), none, []⟩, ⟨2, some 25, .mv (.tmp 24), none, []⟩, ⟨3, some 26, .mv (.tmp 6), (some (25, false)), []⟩, ⟨4, some 27, .bin .lss (.tmp 26) (.const (.int .i64 2)), (some (25, false)), []⟩, ⟨5, some 28, .pick (.tmp 25) (.const (.bool true)) (.tmp 27), none, []⟩])
  (.cond (.tmp 28) (.seq (.keep [] (.ops [⟨0, some 2, .mv (.const (.float .f32 0)), none, []⟩, ⟨1, some 3, .mv (.const (.bool false)), none, []⟩]))
  (.ret)) (.skip)))
  (.seq (.keep [1, 4, 6] (.ops [⟨0, some 7, .mv (.const (.float .f32 0)), none, []⟩]))
  (.seq (.ops [⟨0, some 8, .mv (.const (.float .f32 0)), none, []⟩])
  (.seq (.ops [⟨0, some 9, .mv (.const (.float .f32 0)), none, []⟩])
  (.seq (.ops [⟨0, some 10, .mv (.const (.float .f32 0)), none, []⟩])
  (.seq (.seq (.ops [⟨0, some 11, .mv (.const (.int .i64 0)), none, []⟩])
  (.block 0 (.loop [1, 4, 6, 7, 8, 9, 10, 11] (.seq (.seq (.ops [⟨0, some 29, .mv (.tmp 11), none, []⟩, ⟨1, some 30, .mv (.tmp 6), none, []⟩, ⟨2, some 31, .bin .lss (.tmp 29) (.tmp 30), none, []⟩])
  (.cond (.tmp 31) (.skip) (.exit 0)))
  (.seq (.block 1 (.seq (.seq (.ops [⟨0, some 34, .mv (.tmp 4), none, []⟩, ⟨1, some 35, .mv (.tmp 11), none, []⟩, ⟨2, some 36, .ia (.tmp 34) (.tmp 35), none, []⟩, ⟨3, some 37, .ld (.tmp 36), none, []⟩, ⟨4, some 38, .bin .gtr (.tmp 37) (.const (.float .f32 0)), none, []⟩, ⟨5, some 39, .un .not (.tmp 38), none, []⟩])
  (.cond (.tmp 39) (.seq (.keep [] (.ops [⟨0, some 2, .mv (.const (.float .f32 0)), none, []⟩, ⟨1, some 3, .mv (.const (.bool false)), none, []⟩]))
  (.ret)) (.skip)))
  (.seq (.keep [1, 4, 6, 7, 8, 9, 10, 11] (.ops [⟨0, some 40, .mv (.tmp 11), none, []⟩, ⟨1, some 41, .cv (.f .f32) (.tmp 40), none, []⟩, ⟨2, some 12, .mv (.tmp 41), none, []⟩]))
  (.seq (.ops [⟨0, some 42, .mv (.tmp 4), none, []⟩, ⟨1, some 43, .mv (.tmp 11), none, []⟩, ⟨2, some 44, .ia (.tmp 42) (.tmp 43), none, []⟩, ⟨3, some 45, .ld (.tmp 44), none, []⟩, ⟨4, some 46, .fa 1 (.tmp 1), none, []⟩, ⟨5, some 47, .ld (.tmp 46), none, []⟩, ⟨6, some 48, .mv (.tmp 11), none, []⟩, ⟨7, some 49, .ia (.tmp 47) (.tmp 48), none, []⟩, ⟨8, some 50, .ld (.tmp 49), none, []⟩, ⟨9, some 51, .len (.tmp 50), none, []⟩, ⟨10, some 52, .cv (.f .f32) (.tmp 51), none, []⟩, ⟨11, some 53, .bin .quo (.tmp 45) (.tmp 52), none, []⟩, ⟨12, some 54, .call n_s_l01Log [.tmp 53], none, []⟩, ⟨13, some 55, .bin .quo (.tmp 54) (.const (.float .f32 1060205080)), none, []⟩, ⟨14, some 13, .mv (.tmp 55), none, []⟩])
  (.seq (.keep [1, 4, 6, 7, 8, 9, 10, 11, 12, 13] (.ops [⟨0, some 56, .mv (.tmp 7), none, []⟩, ⟨1, some 57, .mv (.tmp 12), none, []⟩, ⟨2, some 58, .bin .add (.tmp 56) (.tmp 57), none, []⟩, ⟨3, some 7, .mv (.tmp 58), none, []⟩]))
  (.seq (.ops [⟨0, some 59, .mv (.tmp 8), none, []⟩, ⟨1, some 60, .mv (.tmp 13), none, []⟩, ⟨2, some 61, .bin .add (.tmp 59) (.tmp 60), none, []⟩, ⟨3, some 8, .mv (.tmp 61), none, []⟩])
  (.seq (.keep [1, 4, 6, 7, 8, 9, 10, 11, 12, 13] (.ops [⟨0, some 62, .mv (.tmp 9), none, []⟩, ⟨1, some 63, .mv (.tmp 12), none, []⟩, ⟨2, some 64, .mv (.tmp 12), none, []⟩, ⟨3, some 65, .bin .mul (.tmp 63) (.tmp 64), none, []⟩, ⟨4, some 66, .bin .add (.tmp 62) (.tmp 65), none, []⟩, ⟨5, some 9, .mv (.tmp 66), none, []⟩]))
  (.keep [1, 4, 6, 7, 8, 9, 10, 11, 12, 13] (.ops [⟨0, some 67, .mv (.tmp 10), none, []⟩, ⟨1, some 68, .mv (.tmp 12), none, []⟩, ⟨2, some 69, .mv (.tmp 13), none, []⟩, ⟨3, some 70, .bin .mul (.tmp 68) (.tmp 69), none, []⟩, ⟨4, some 71, .bin .add (.tmp 67) (.tmp 70), none, []⟩, ⟨5, some 10, .mv (.tmp 71), none, []⟩])))))))))
  (.keep [1, 4, 6, 7, 8, 9, 10, 11] (.ops [⟨0, some 32, .mv (.tmp 11), none, []⟩, ⟨1, some 33, .bin .add (.tmp 32) (.const (.int .i64 1)), none, []⟩, ⟨2, some 11, .mv (.tmp 33), none, []⟩])))))))
  (.seq (.keep [6, 7, 8, 9, 10] (.ops [⟨0, some 72, .mv (.tmp 6), none, []⟩, ⟨1, some 73, .cv (.f .f32) (.tmp 72), none, []⟩, ⟨2, some 14, .mv (.tmp 73), none, []⟩]))
  (.seq (.ops [⟨0, some 74, .mv (.tmp 14), none, []⟩, ⟨1, some 75, .mv (.tmp 10), none, []⟩, ⟨2, some 76, .bin .mul (.tmp 74) (.tmp 75), none, []⟩, ⟨3, some 77, .mv (.tmp 7), none, []⟩, ⟨4, some 78, .mv (.tmp 8), none, []⟩, ⟨5, some 79, .bin .mul (.tmp 77) (.tmp 78), none, []⟩, ⟨6, some 80, .bin .sub (.tmp 76) (.tmp 79), none, []⟩, ⟨7, some 81, .mv (.tmp 14), none, []⟩, ⟨8, some 82, .mv (.tmp 9), none, []⟩, ⟨9, some 83, .bin .mul (.tmp 81) (.tmp 82), none, []⟩, ⟨10, some 84, .mv (.tmp 7), none, []⟩, ⟨11, some 85, .mv (.tmp 7), none, []⟩, ⟨12, some 86, .bin .mul (.tmp 84) (.tmp 85), none, []⟩, ⟨13, some 87, .bin .sub (.tmp 83) (.tmp 86), none, []⟩, ⟨14, some 88, .bin .quo (.tmp 80) (.tmp 87), none, []⟩, ⟨15, some 89, .call n_s_l02Number [.tmp 88], none, []⟩, ⟨16, some 90, .ext (.tmp 89) 0, none, []⟩, ⟨17, some 91, .ext (.tmp 89) 1, none, []⟩, ⟨18, some 2, .mv (.tmp 90), none, []⟩, ⟨19, some 3, .mv (.tmp 91), none, []⟩])
  (.ret)))))))))))
theorem k_s_RoughnessOf : FnOk Try.prog n_s_RoughnessOf 1 c_s_RoughnessOf [.tmp 2, .tmp 3] := ⟨by kernel_rfl⟩
def c_w_toBands : ACode :=
  .seq (.ops [⟨0, some 1, .box 35 (.tmp 0), none, []⟩, ⟨1, some 2, .new 40 [.slice none 0 0, .slice none 0 0], none, []⟩])
  (.seq (.ops [⟨0, some 3, .new 40 [.slice none 0 0, .slice none 0 0], none, []⟩])
  (.seq (.ops [⟨0, some 4, .fa 0 (.tmp 1), none, []⟩, ⟨1, some 5, .ld (.tmp 4), none, []⟩, ⟨2, some 6, .call n_w_toFloat32S [.tmp 5], none, []⟩, ⟨3, some 7, .fa 0 (.tmp 3), none, []⟩, ⟨4, none, .st (.tmp 7) (.tmp 6), none, []⟩])
  (.seq (.keep [1, 2, 3] (.ops [⟨0, some 8, .fa 1 (.tmp 1), none, []⟩, ⟨1, some 9, .ld (.tmp 8), none, []⟩, ⟨2, some 10, .call n_w_toFloat32SS [.tmp 9], none, []⟩, ⟨3, some 11, .fa 1 (.tmp 3), none, []⟩, ⟨4, none, .st (.tmp 11) (.tmp 10), none, []⟩]))
  (.seq (.keep [2, 3] (.ops [⟨0, some 12, .ldn 2 (.tmp 3), none, []⟩, ⟨1, none, .stn 2 (.tmp 2) (.tmp 12), none, []⟩]))
  (.ret)))))
theorem k_w_toBands : FnOk Try.prog n_w_toBands 1 c_w_toBands [.celln 2 2] := ⟨by kernel_rfl⟩
def c_i_RoughnessOf : ACode :=
  .seq (.ops [⟨0, some 1, .box 40 (.tmp 0), none, []⟩, ⟨1, some 2, .mv (.const (.float .f32 0)), none, []⟩, ⟨2, some 3, .mv (.const (.bool false)), none, []⟩])
  (.seq (.ops [⟨0, some 17, .ldn 2 (.tmp 1), none, []⟩, ⟨1, some 18, .call n_i_PowersOfBands [.tmp 17], none, []⟩, ⟨2, some 16, .mv (.tmp 18), none, []⟩, ⟨3, some 19, .ext (.tmp 16) 0, none, []⟩, ⟨4, some 20, .ext (.tmp 16) 1, none, []⟩, ⟨5, some 4, .mv (.tmp 19), none, []⟩, ⟨6, some 5, .mv (.tmp 20), none, []⟩])
  (.seq (.keep [1, 4, 5] (.ops [⟨0, some 21, .fa 1 (.tmp 1), none, []⟩, ⟨1, some 22, .ld (.tmp 21), none, []⟩, ⟨2, some 23, .len (.tmp 22), none, []⟩, ⟨3, some 6, .mv (.tmp 23), none, []⟩]))
  (.seq (.seq (.ops [⟨0, some 24, .mv (.tmp 5), none, []⟩, ⟨1, some 25, .un .not (.tmp 24), none, []⟩, ⟨2, some 26, .mv (.tmp 25), none, []⟩, ⟨3, some 27, .mv (.tmp 6), (some (26, false)), []⟩, ⟨4, some 28, .bin .lss (.tmp 27) (.const (.int .i64 2)), (some (26, false)), []⟩, ⟨5, some 29, .pick (.tmp 26) (.const (.bool true)) (.tmp 28), none, []⟩])
  (.cond (.tmp 29) (.seq (.keep [] (.ops [⟨0, some 2, .mv (.const (.float .f32 0)), none, []⟩, ⟨1, some 3, .mv (.const (.bool false)), none, []⟩]))
  (.ret)) (.skip)))
  (.seq (.keep [1, 4, 6] (.ops [⟨0, some 7, .mv (.const (.float .f32 0)), none, []⟩, ⟨1, some 8, .mv (.const (.float .f32 0)), none, []⟩, ⟨2, some 9, .mv (.const (.float .f32 0)), none, []⟩, ⟨3, some 10, .mv (.const (.float .f32 0)), none, []⟩]))
  (.seq (.seq (.ops [⟨0, some 30, .fa 1 (.tmp 1), none, []⟩, ⟨1, some 31, .ld (.tmp 30), none, []⟩, ⟨2, some 32, .len (.tmp 31), none, []⟩, ⟨3, some 33, .mv (.const (.int .i64 0)), none, []⟩])
  (.block 0 (.loop [4, 6, 7, 8, 9, 10, 31, 32, 33] (.seq (.ops [⟨0, some 34, .bin .lss (.tmp 33) (.tmp 32), none, []⟩])
  (.seq (.cond (.tmp 34) (.skip) (.exit 0))
  (.seq (.block 1 (.seq (.ops [⟨0, some 35, .mv (.tmp 33), none, []⟩, ⟨1, some 36, .ia (.tmp 31) (.tmp 33), none, []⟩, ⟨2, some 37, .ld (.tmp 36), none, []⟩, ⟨3, some 11, .mv (.tmp 35), none, []⟩, ⟨4, some 12, .mv (.tmp 37), none, []⟩])
  (.seq (.seq (.ops [⟨0, some 38, .mv (.tmp 4), none, []⟩, ⟨1, some 39, .mv (.tmp 11), none, []⟩, ⟨2, some 40, .ia (.tmp 38) (.tmp 39), none, []⟩, ⟨3, some 41, .ld (.tmp 40), none, []⟩, ⟨4, some 42, .bin .gtr (.tmp 41) (.const (.float .f32 0)), none, []⟩, ⟨5, some 43, .un .not (.tmp 42), none, []⟩])
  (.cond (.tmp 43) (.seq (.keep [] (.ops [⟨0, some 2, .mv (.const (.float .f32 0)), none, []⟩, ⟨1, some 3, .mv (.const (.bool false)), none, []⟩]))
  (.ret)) (.skip)))
  (.seq (.keep [4, 6, 7, 8, 9, 10, 11, 12, 31, 32, 33] (.ops [⟨0, some 44, .mv (.tmp 11), none, []⟩, ⟨1, some 45, .cv (.f .f32) (.tmp 44), none, []⟩, ⟨2, some 46, .mv (.tmp 4), none, []⟩, ⟨3, some 47, .mv (.tmp 11), none, []⟩, ⟨4, some 48, .ia (.tmp 46) (.tmp 47), none, []⟩, ⟨5, some 49, .ld (.tmp 48), none, []⟩, ⟨6, some 50, .mv (.tmp 12), none, []⟩, ⟨7, some 51, .len (.tmp 50), none, []⟩, ⟨8, some 52, .cv (.f .f32) (.tmp 51), none, []⟩, ⟨9, some 53, .bin .quo (.tmp 49) (.tmp 52), none, []⟩, ⟨10, some 54, .call n_i_LogNumber [.tmp 53], none, []⟩, ⟨11, some 55, .bin .quo (.tmp 54) (.const (.float .f32 1060205080)), none, []⟩, ⟨12, some 13, .mv (.tmp 45), none, []⟩, ⟨13, some 14, .mv (.tmp 55), none, []⟩]))
  (.seq (.keep [4, 6, 7, 8, 9, 10, 13, 14, 31, 32, 33] (.ops [⟨0, some 56, .mv (.tmp 7), none, []⟩, ⟨1, some 57, .mv (.tmp 13), none, []⟩, ⟨2, some 58, .bin .add (.tmp 56) (.tmp 57), none, []⟩, ⟨3, some 7, .mv (.tmp 58), none, []⟩]))
  (.seq (.ops [⟨0, some 59, .mv (.tmp 8), none, []⟩, ⟨1, some 60, .mv (.tmp 14), none, []⟩, ⟨2, some 61, .bin .add (.tmp 59) (.tmp 60), none, []⟩, ⟨3, some 8, .mv (.tmp 61), none, []⟩])
  (.seq (.keep [4, 6, 7, 8, 9, 10, 13, 14, 31, 32, 33] (.ops [⟨0, some 62, .mv (.tmp 9), none, []⟩, ⟨1, some 63, .mv (.tmp 13), none, []⟩, ⟨2, some 64, .mv (.tmp 13), none, []⟩, ⟨3, some 65, .bin .mul (.tmp 63) (.tmp 64), none, []⟩, ⟨4, some 66, .bin .add (.tmp 62) (.tmp 65), none, []⟩, ⟨5, some 9, .mv (.tmp 66), none, []⟩]))
  (.keep [4, 6, 7, 8, 9, 10, 13, 14, 31, 32, 33] (.ops [⟨0, some 67, .mv (.tmp 10), none, []⟩, ⟨1, some 68, .mv (.tmp 13), none, []⟩, ⟨2, some 69, .mv (.tmp 14), none, []⟩, ⟨3, some 70, .bin .mul (.tmp 68) (.tmp 69), none, []⟩, ⟨4, some 71, .bin .add (.tmp 67) (.tmp 70), none, []⟩, ⟨5, some 10, .mv (.tmp 71), none, []⟩])))))))))
  (.keep [4, 6, 7, 8, 9, 10, 31, 32, 33] (.ops [⟨0, some 72, .bin .add (.tmp 33) (.const (.int .i64 1)), none, []⟩, ⟨1, some 33, .mv (.tmp 72), none, []⟩]))))))))
  (.seq (.keep [6, 7, 8, 9, 10] (.ops [⟨0, some 73, .mv (.tmp 6), none, []⟩, ⟨1, some 74, .cv (.f .f32) (.tmp 73), none, []⟩, ⟨2, some 15, .mv (.tmp 74), none, []⟩]))
  (.seq (.ops [⟨0, some 75, .mv (.tmp 15), none, []⟩, ⟨1, some 76, .mv (.tmp 10), none, []⟩, ⟨2, some 77, .bin .mul (.tmp 75) (.tmp 76), none, []⟩, ⟨3, some 78, .mv (.tmp 7), none, []⟩, ⟨4, some 79, .mv (.tmp 8), none, []⟩, ⟨5, some 80, .bin .mul (.tmp 78) (.tmp 79), none, []⟩, ⟨6, some 81, .bin .sub (.tmp 77) (.tmp 80), none, []⟩, ⟨7, some 82, .mv (.tmp 15), none, []⟩, ⟨8, some 83, .mv (.tmp 9), none, []⟩, ⟨9, some 84, .bin .mul (.tmp 82) (.tmp 83), none, []⟩, ⟨10, some 85, .mv (.tmp 7), none, []⟩, ⟨11, some 86, .mv (.tmp 7), none, []⟩, ⟨12, some 87, .bin .mul (.tmp 85) (.tmp 86), none, []⟩, ⟨13, some 88, .bin .sub (.tmp 84) (.tmp 87), none, []⟩, ⟨14, some 89, .bin .quo (.tmp 81) (.tmp 88), none, []⟩, ⟨15, some 90, .call n_i_finite [.tmp 89], none, []⟩, ⟨16, some 91, .ext (.tmp 90) 0, none, []⟩, ⟨17, some 92, .ext (.tmp 90) 1, none, []⟩, ⟨18, some 2, .mv (.tmp 91), none, []⟩, ⟨19, some 3, .mv (.tmp 92), none, []⟩])
  (.ret))))))))
theorem k_i_RoughnessOf : FnOk Try.prog n_i_RoughnessOf 1 c_i_RoughnessOf [.tmp 2, .tmp 3] := ⟨by kernel_rfl⟩
def c_w_sameFloat : ACode :=
  .seq (.ops [⟨0, some 4, .mv (.const (.bool false)), none, []⟩])
  (.seq (.seq (.ops [⟨0, some 5, .mv (.tmp 0), none, []⟩, ⟨1, some 6, .mv (.tmp 0), none, []⟩, ⟨2, some 7, .bin .neq (.tmp 5) (.tmp 6), none, []⟩, ⟨3, some 8, .mv (.tmp 7), none, []⟩, ⟨4, some 9, .mv (.tmp 1), (some (8, false)), []⟩, ⟨5, some 10, .mv (.tmp 1), (some (8, false)), []⟩, ⟨6, some 11, .bin .neq (.tmp 9) (.tmp 10), (some (8, false)), []⟩, ⟨7, some 12, .pick (.tmp 8) (.const (.bool true)) (.tmp 11), none, []⟩])
  (.cond (.tmp 12) (.seq (.keep [0, 1] (.ops [⟨0, some 13, .mv (.tmp 0), none, []⟩, ⟨1, some 14, .mv (.tmp 0), none, []⟩, ⟨2, some 15, .bin .neq (.tmp 13) (.tmp 14), none, []⟩, ⟨3, some 16, .mv (.tmp 15), none, []⟩, ⟨4, some 17, .mv (.tmp 1), (some (16, true)), []⟩, ⟨5, some 18, .mv (.tmp 1), (some (16, true)), []⟩, ⟨6, some 19, .bin .neq (.tmp 17) (.tmp 18), (some (16, true)), []⟩, ⟨7, some 20, .pick (.tmp 16) (.tmp 19) (.const (.bool false)), none, []⟩, ⟨8, some 4, .mv (.tmp 20), none, []⟩]))
  (.ret)) (.skip)))
  (.seq (.seq (.keep [0, 1] (.ops [⟨0, some 21, .mv (.tmp 0), none, []⟩, ⟨1, some 22, .bin .eql (.tmp 21) (.const (.float .f64 0)), none, []⟩, ⟨2, some 23, .mv (.tmp 22), none, []⟩, ⟨3, some 24, .mv (.tmp 1), (some (23, true)), []⟩, ⟨4, some 25, .bin .eql (.tmp 24) (.const (.float .f64 0)), (some (23, true)), []⟩, ⟨5, some 26, .pick (.tmp 23) (.tmp 25) (.const (.bool false)), none, []⟩]))
  (.cond (.tmp 26) (.seq (.keep [0, 1] (.ops [⟨0, some 27, .mv (.tmp 0), none, []⟩, ⟨1, some 28, .bin .quo (.const (.float .f64 4607182418800017408)) (.tmp 27), none, []⟩, ⟨2, some 29, .bin .gtr (.tmp 28) (.const (.float .f64 0)), none, []⟩, ⟨3, some 30, .mv (.tmp 1), none, []⟩, ⟨4, some 31, .bin .quo (.const (.float .f64 4607182418800017408)) (.tmp 30), none, []⟩, ⟨5, some 32, .bin .gtr (.tmp 31) (.const (.float .f64 0)), none, []⟩, ⟨6, some 33, .beq false (.tmp 29) (.tmp 32), none, []⟩, ⟨7, some 4, .mv (.tmp 33), none, []⟩]))
  (.ret)) (.skip)))
  (.seq (.keep [0, 1] (.ops [⟨0, some 34, .mv (.tmp 0), none, []⟩, ⟨1, some 35, .mv (.tmp 1), none, []⟩, ⟨2, some 36, .bin .eql (.tmp 34) (.tmp 35), none, []⟩, ⟨3, some 4, .mv (.tmp 36), none, []⟩]))
  (.ret))))
theorem k_w_sameFloat : FnOk Try.prog n_w_sameFloat 2 c_w_sameFloat [.tmp 4] := ⟨by kernel_rfl⟩
def c_w_eqBands : ACode :=
  .seq (.ops [⟨0, some 2, .box 40 (.tmp 0), none, []⟩, ⟨1, some 3, .box 40 (.tmp 1), none, []⟩, ⟨2, some 4, .mv (.const (.bool false)), none, []⟩])
  (.seq (.seq (.ops [⟨0, some 5, .fa 0 (.tmp 2), none, []⟩, ⟨1, some 6, .ld (.tmp 5), none, []⟩, ⟨2, some 7, .fa 0 (.tmp 3), none, []⟩, ⟨3, some 8, .ld (.tmp 7), none, []⟩, ⟨4, some 9, .call n_w_eqFloat32S [.tmp 6, .tmp 8], none, []⟩, ⟨5, some 10, .un .not (.tmp 9), none, []⟩])
  (.cond (.tmp 10) (.seq (.keep [] (.ops [⟨0, some 4, .mv (.const (.bool false)), none, []⟩]))
  (.ret)) (.skip)))
  (.seq (.seq (.keep [2, 3] (.ops [⟨0, some 11, .fa 1 (.tmp 2), none, []⟩, ⟨1, some 12, .ld (.tmp 11), none, []⟩, ⟨2, some 13, .fa 1 (.tmp 3), none, []⟩, ⟨3, some 14, .ld (.tmp 13), none, []⟩, ⟨4, some 15, .call n_w_eqFloat32SS [.tmp 12, .tmp 14], none, []⟩, ⟨5, some 16, .un .not (.tmp 15), none, []⟩]))
  (.cond (.tmp 16) (.seq (.keep [] (.ops [⟨0, some 4, .mv (.const (.bool false)), none, []⟩]))
  (.ret)) (.skip)))
  (.seq (.keep [] (.ops [⟨0, some 4, .mv (.const (.bool true)), none, []⟩]))
  (.ret))))
theorem k_w_eqBands : FnOk Try.prog n_w_eqBands 2 c_w_eqBands [.tmp 4] := ⟨by kernel_rfl⟩
def c_w_eqFloat32S : ACode :=
  .seq (.ops [⟨0, some 4, .mv (.const (.bool false)), none, []⟩])
  (.seq (.seq (.ops [⟨0, some 6, .mv (.tmp 0), none, []⟩, ⟨1, some 7, .len (.tmp 6), none, []⟩, ⟨2, some 8, .mv (.tmp 1), none, []⟩, ⟨3, some 9, .len (.tmp 8), none, []⟩, ⟨4, some 10, .bin .neq (.tmp 7) (.tmp 9), none, []⟩])
  (.cond (.tmp 10) (.seq (.keep [] (.ops [⟨0, some 4, .mv (.const (.bool false)), none, []⟩]))
  (.ret)) (.skip)))
  (.seq (.seq (.keep [0, 1] (.ops [⟨0, some 5, .mv (.const (.int .i64 0)), none, []⟩]))
  (.block 0 (.loop [0, 1, 5] (.seq (.seq (.ops [⟨0, some 11, .mv (.tmp 5), none, []⟩, ⟨1, some 12, .mv (.tmp 0), none, []⟩, ⟨2, some 13, .len (.tmp 12), none, []⟩, ⟨3, some 14, .bin .lss (.tmp 11) (.tmp 13), none, []⟩])
  (.cond (.tmp 14) (.skip) (.exit 0)))
  (.seq (.block 1 (.seq (.ops [⟨0, some 17, .mv (.tmp 0), none, []⟩, ⟨1, some 18, .mv (.tmp 5), none, []⟩, ⟨2, some 19, .ia (.tmp 17) (.tmp 18), none, []⟩, ⟨3, some 20, .ld (.tmp 19), none, []⟩, ⟨4, some 21, .cv (.f .f64) (.tmp 20), none, []⟩, ⟨5, some 22, .mv (.tmp 1), none, []⟩, ⟨6, some 23, .mv (.tmp 5), none, []⟩, ⟨7, some 24, .ia (.tmp 22) (.tmp 23), none, []⟩, ⟨8, some 25, .ld (.tmp 24), none, []⟩, ⟨9, some 26, .cv (.f .f64) (.tmp 25), none, []⟩, ⟨10, some 27, .call n_w_sameFloat [.tmp 21, .tmp 26], none, []⟩, ⟨11, some 28, .un .not (.tmp 27), none, []⟩])
  (.cond (.tmp 28) (.seq (.keep [] (.ops [⟨0, some 4, .mv (.const (.bool false)), none, []⟩]))
  (.ret)) (.skip))))
  (.keep [0, 1, 5] (.ops [⟨0, some 15, .mv (.tmp 5), none, []⟩, ⟨1, some 16, .bin .add (.tmp 15) (.const (.int .i64 1)), none, []⟩, ⟨2, some 5, .mv (.tmp 16), none, []⟩])))))))
  (.seq (.keep [] (.ops [⟨0, some 4, .mv (.const (.bool true)), none, []⟩]))
  (.ret))))
theorem k_w_eqFloat32S : FnOk Try.prog n_w_eqFloat32S 2 c_w_eqFloat32S [.tmp 4] := ⟨by kernel_rfl⟩
def c_w_szFloat32SS : ACode :=
  .seq (.ops [⟨0, some 4, .mv (.const (.int .i64 0)), none, []⟩])
  (.seq (.ops [⟨0, some 6, .mv (.tmp 1), none, []⟩, ⟨1, some 7, .mv (.tmp 0), none, []⟩, ⟨2, some 8, .len (.tmp 7), none, []⟩, ⟨3, some 9, .bin .sub (.tmp 6) (.tmp 8), none, []⟩, ⟨4, some 1, .mv (.tmp 9), none, []⟩])
  (.seq (.seq (.keep [0, 1] (.ops [⟨0, some 10, .mv (.tmp 1), none, []⟩, ⟨1, some 11, .bin .lss (.tmp 10) (.const (.int .i64 0)), none, []⟩]))
  (.cond (.tmp 11) (.seq (.ops [⟨0, some 4, .mv (.const (.int .i64 (-1))), none, []⟩])
  (.ret)) (.skip)))
  (.seq (.seq (.ops [⟨0, some 5, .mv (.const (.int .i64 0)), none, []⟩])
  (.block 0 (.loop [0, 1, 5] (.seq (.seq (.ops [⟨0, some 12, .mv (.tmp 5), none, []⟩, ⟨1, some 13, .mv (.tmp 0), none, []⟩, ⟨2, some 14, .len (.tmp 13), none, []⟩, ⟨3, some 15, .bin .lss (.tmp 12) (.tmp 14), none, []⟩])
  (.cond (.tmp 15) (.skip) (.exit 0)))
  (.seq (.block 1 (.seq (.ops [⟨0, some 18, .mv (.tmp 0), none, []⟩, ⟨1, some 19, .mv (.tmp 5), none, []⟩, ⟨2, some 20, .ia (.tmp 18) (.tmp 19), none, []⟩, ⟨3, some 21, .ld (.tmp 20), none, []⟩, ⟨4, some 22, .mv (.tmp 1), none, []⟩, ⟨5, some 23, .call n_w_szFloat32S [.tmp 21, .tmp 22], none, []⟩, ⟨6, some 1, .mv (.tmp 23), none, []⟩])
  (.seq (.keep [0, 1, 5] (.ops [⟨0, some 24, .mv (.tmp 1), none, []⟩, ⟨1, some 25, .bin .lss (.tmp 24) (.const (.int .i64 0)), none, []⟩]))
  (.cond (.tmp 25) (.seq (.keep [] (.ops [⟨0, some 4, .mv (.const (.int .i64 (-1))), none, []⟩]))
  (.ret)) (.skip)))))
  (.ops [⟨0, some 16, .mv (.tmp 5), none, []⟩, ⟨1, some 17, .bin .add (.tmp 16) (.const (.int .i64 1)), none, []⟩, ⟨2, some 5, .mv (.tmp 17), none, []⟩]))))))
  (.seq (.keep [1] (.ops [⟨0, some 26, .mv (.tmp 1), none, []⟩, ⟨1, some 4, .mv (.tmp 26), none, []⟩]))
  (.ret)))))
theorem k_w_szFloat32SS : FnOk Try.prog n_w_szFloat32SS 2 c_w_szFloat32SS [.tmp 4] := ⟨by kernel_rfl⟩
def c_w_toFloat32SS : ACode :=
  .seq (.ops [⟨0, some 2, .mv (.const (.slice none 0 0)), none, []⟩])
  (.seq (.ops [⟨0, some 5, .mv (.tmp 0), none, []⟩, ⟨1, some 6, .len (.tmp 5), none, []⟩, ⟨2, some 7, .mks 32 24 (.slice none 0 0) (.tmp 6) (.tmp 6), none, []⟩, ⟨3, some 3, .mv (.tmp 7), none, []⟩])
  (.seq (.seq (.ops [⟨0, some 4, .mv (.const (.int .i64 0)), none, []⟩])
  (.block 0 (.loop [0, 3, 4] (.seq (.seq (.ops [⟨0, some 8, .mv (.tmp 4), none, []⟩, ⟨1, some 9, .mv (.tmp 0), none, []⟩, ⟨2, some 10, .len (.tmp 9), none, []⟩, ⟨3, some 11, .bin .lss (.tmp 8) (.tmp 10), none, []⟩])
  (.cond (.tmp 11) (.skip) (.exit 0)))
  (.seq (.block 1 (.ops [⟨0, some 14, .mv (.tmp 3), none, []⟩, ⟨1, some 15, .mv (.tmp 4), none, []⟩, ⟨2, some 16, .mv (.tmp 0), none, []⟩, ⟨3, some 17, .mv (.tmp 4), none, []⟩, ⟨4, some 18, .ia (.tmp 16) (.tmp 17), none, []⟩, ⟨5, some 19, .ld (.tmp 18), none, []⟩, ⟨6, some 20, .call n_w_toFloat32S [.tmp 19], none, []⟩, ⟨7, some 21, .ia (.tmp 14) (.tmp 15), none, []⟩, ⟨8, none, .st (.tmp 21) (.tmp 20), none, []⟩]))
  (.keep [0, 3, 4] (.ops [⟨0, some 12, .mv (.tmp 4), none, []⟩, ⟨1, some 13, .bin .add (.tmp 12) (.const (.int .i64 1)), none, []⟩, ⟨2, some 4, .mv (.tmp 13), none, []⟩])))))))
  (.seq (.keep [3] (.ops [⟨0, some 22, .mv (.tmp 3), none, []⟩, ⟨1, some 2, .mv (.tmp 22), none, []⟩]))
  (.ret))))
theorem k_w_toFloat32SS : FnOk Try.prog n_w_toFloat32SS 1 c_w_toFloat32SS [.tmp 2] := ⟨by kernel_rfl⟩
def c_w_eqFloat32SS : ACode :=
  .seq (.ops [⟨0, some 4, .mv (.const (.bool false)), none, []⟩])
  (.seq (.seq (.ops [⟨0, some 6, .mv (.tmp 0), none, []⟩, ⟨1, some 7, .len (.tmp 6), none, []⟩, ⟨2, some 8, .mv (.tmp 1), none, []⟩, ⟨3, some 9, .len (.tmp 8), none, []⟩, ⟨4, some 10, .bin .neq (.tmp 7) (.tmp 9), none, []⟩])
  (.cond (.tmp 10) (.seq (.keep [] (.ops [⟨0, some 4, .mv (.const (.bool false)), none, []⟩]))
  (.ret)) (.skip)))
  (.seq (.seq (.keep [0, 1] (.ops [⟨0, some 5, .mv (.const (.int .i64 0)), none, []⟩]))
  (.block 0 (.loop [0, 1, 5] (.seq (.seq (.ops [⟨0, some 11, .mv (.tmp 5), none, []⟩, ⟨1, some 12, .mv (.tmp 0), none, []⟩, ⟨2, some 13, .len (.tmp 12), none, []⟩, ⟨3, some 14, .bin .lss (.tmp 11) (.tmp 13), none, []⟩])
  (.cond (.tmp 14) (.skip) (.exit 0)))
  (.seq (.block 1 (.seq (.ops [⟨0, some 17, .mv (.tmp 0), none, []⟩, ⟨1, some 18, .mv (.tmp 5), none, []⟩, ⟨2, some 19, .ia (.tmp 17) (.tmp 18), none, []⟩, ⟨3, some 20, .ld (.tmp 19), none, []⟩, ⟨4, some 21, .mv (.tmp 1), none, []⟩, ⟨5, some 22, .mv (.tmp 5), none, []⟩, ⟨6, some 23, .ia (.tmp 21) (.tmp 22), none, []⟩, ⟨7, some 24, .ld (.tmp 23), none, []⟩, ⟨8, some 25, .call n_w_eqFloat32S [.tmp 20, .tmp 24], none, []⟩, ⟨9, some 26, .un .not (.tmp 25), none, []⟩])
  (.cond (.tmp 26) (.seq (.keep [] (.ops [⟨0, some 4, .mv (.const (.bool false)), none, []⟩]))
  (.ret)) (.skip))))
  (.keep [0, 1, 5] (.ops [⟨0, some 15, .mv (.tmp 5), none, []⟩, ⟨1, some 16, .bin .add (.tmp 15) (.const (.int .i64 1)), none, []⟩, ⟨2, some 5, .mv (.tmp 16), none, []⟩])))))))
  (.seq (.keep [] (.ops [⟨0, some 4, .mv (.const (.bool true)), none, []⟩]))
  (.ret))))
theorem k_w_eqFloat32SS : FnOk Try.prog n_w_eqFloat32SS 2 c_w_eqFloat32SS [.tmp 4] := ⟨by kernel_rfl⟩
def c_w_toFloat32S : ACode :=
  .seq (.ops [⟨0, some 2, .mv (.const (.slice none 0 0)), none, []⟩])
  (.seq (.ops [⟨0, some 5, .mv (.tmp 0), none, []⟩, ⟨1, some 6, .len (.tmp 5), none, []⟩, ⟨2, some 7, .mks 37 4 (.float .f32 0) (.tmp 6) (.tmp 6), none, []⟩, ⟨3, some 3, .mv (.tmp 7), none, []⟩])
  (.seq (.seq (.ops [⟨0, some 4, .mv (.const (.int .i64 0)), none, []⟩])
  (.block 0 (.loop [0, 3, 4] (.seq (.seq (.ops [⟨0, some 8, .mv (.tmp 4), none, []⟩, ⟨1, some 9, .mv (.tmp 0), none, []⟩, ⟨2, some 10, .len (.tmp 9), none, []⟩, ⟨3, some 11, .bin .lss (.tmp 8) (.tmp 10), none, []⟩])
  (.cond (.tmp 11) (.skip) (.exit 0)))
  (.seq (.block 1 (.ops [⟨0, some 14, .mv (.tmp 3), none, []⟩, ⟨1, some 15, .mv (.tmp 4), none, []⟩, ⟨2, some 16, .mv (.tmp 0), none, []⟩, ⟨3, some 17, .mv (.tmp 4), none, []⟩, ⟨4, some 18, .ia (.tmp 16) (.tmp 17), none, []⟩, ⟨5, some 19, .ld (.tmp 18), none, []⟩, ⟨6, some 20, .ia (.tmp 14) (.tmp 15), none, []⟩, ⟨7, none, .st (.tmp 20) (.tmp 19), none, []⟩]))
  (.keep [0, 3, 4] (.ops [⟨0, some 12, .mv (.tmp 4), none, []⟩, ⟨1, some 13, .bin .add (.tmp 12) (.const (.int .i64 1)), none, []⟩, ⟨2, some 4, .mv (.tmp 13), none, []⟩])))))))
  (.seq (.keep [3] (.ops [⟨0, some 21, .mv (.tmp 3), none, []⟩, ⟨1, some 2, .mv (.tmp 21), none, []⟩]))
  (.ret))))
theorem k_w_toFloat32S : FnOk Try.prog n_w_toFloat32S 1 c_w_toFloat32S [.tmp 2] := ⟨by kernel_rfl⟩
def c_i_within : ACode :=
  .seq (.ops [⟨0, some 6, .mv (.const (.bool false)), none, []⟩])
  (.seq (.ops [⟨0, some 7, .mv (.tmp 0), none, []⟩, ⟨1, some 8, .mv (.tmp 1), none, []⟩, ⟨2, some 9, .bin .geq (.tmp 7) (.tmp 8), none, []⟩, ⟨3, some 10, .mv (.tmp 9), none, []⟩, ⟨4, some 11, .mv (.tmp 0), (some (10, true)), []⟩, ⟨5, some 12, .mv (.tmp 2), (some (10, true)), []⟩, ⟨6, some 13, .bin .leq (.tmp 11) (.tmp 12), (some (10, true)), []⟩, ⟨7, some 14, .pick (.tmp 10) (.tmp 13) (.const (.bool false)), none, []⟩, ⟨8, some 6, .mv (.tmp 14), none, []⟩])
  (.ret))
theorem k_i_within : FnOk Try.prog n_i_within 3 c_i_within [.tmp 6] := ⟨by kernel_rfl⟩
def c_w_szFloat32S : ACode :=
  .seq (.ops [⟨0, some 4, .mv (.const (.int .i64 0)), none, []⟩])
  (.seq (.ops [⟨0, some 5, .mv (.tmp 1), none, []⟩, ⟨1, some 6, .mv (.tmp 0), none, []⟩, ⟨2, some 7, .len (.tmp 6), none, []⟩, ⟨3, some 8, .bin .sub (.tmp 5) (.tmp 7), none, []⟩, ⟨4, some 1, .mv (.tmp 8), none, []⟩])
  (.seq (.seq (.keep [1] (.ops [⟨0, some 9, .mv (.tmp 1), none, []⟩, ⟨1, some 10, .bin .lss (.tmp 9) (.const (.int .i64 0)), none, []⟩]))
  (.cond (.tmp 10) (.seq (.ops [⟨0, some 4, .mv (.const (.int .i64 (-1))), none, []⟩])
  (.ret)) (.skip)))
  (.seq (.ops [⟨0, some 11, .mv (.tmp 1), none, []⟩, ⟨1, some 4, .mv (.tmp 11), none, []⟩])
  (.ret))))
theorem k_w_szFloat32S : FnOk Try.prog n_w_szFloat32S 2 c_w_szFloat32S [.tmp 4] := ⟨by kernel_rfl⟩
def c_s_PowersOfBands : ACode :=
  .seq (.ops [⟨0, some 1, .box 40 (.tmp 0), none, []⟩, ⟨1, some 2, .mv (.const (.slice none 0 0)), none, []⟩, ⟨2, some 3, .mv (.const (.bool false)), none, []⟩])
  (.seq (.seq (.ops [⟨0, some 6, .call n_s_l03Bands [.tmp 1], none, []⟩, ⟨1, some 7, .un .not (.tmp 6), none, []⟩])
  (.cond (.tmp 7) (.seq (.keep [] (.ops [⟨0, some 2, .mv (.const (.slice none 0 0)), none, []⟩, ⟨1, some 3, .mv (.const (.bool false)), none, []⟩]))
  (.ret)) (.skip)))
  (.seq (.keep [1] (.ops [⟨0, some 8, .bsl 37 0 (.float .f32 0) [], none, []⟩, ⟨1, some 4, .mv (.tmp 8), none, []⟩]))
  (.seq (.seq (.ops [⟨0, some 9, .fa 1 (.tmp 1), none, []⟩, ⟨1, some 10, .ld (.tmp 9), none, []⟩, ⟨2, some 11, .len (.tmp 10), none, []⟩, ⟨3, some 12, .mv (.const (.int .i64 0)), none, []⟩])
  (.block 0 (.loop [1, 4, 11, 12] (.seq (.ops [⟨0, some 13, .bin .lss (.tmp 12) (.tmp 11), none, []⟩])
  (.seq (.cond (.tmp 13) (.skip) (.exit 0))
  (.seq (.block 1 (.seq (.ops [⟨0, some 14, .mv (.tmp 12), none, []⟩, ⟨1, some 5, .mv (.tmp 14), none, []⟩])
  (.ops [⟨0, some 15, .mv (.tmp 4), none, []⟩, ⟨1, some 16, .fa 1 (.tmp 1), none, []⟩, ⟨2, some 17, .ld (.tmp 16), none, []⟩, ⟨3, some 18, .mv (.tmp 5), none, []⟩, ⟨4, some 19, .ia (.tmp 17) (.tmp 18), none, []⟩, ⟨5, some 20, .ld (.tmp 19), none, []⟩, ⟨6, some 21, .call n_s_l03Energy [.tmp 20], none, []⟩, ⟨7, some 22, .bsl 37 1 (.float .f32 0) [(0, .tmp 21)], none, []⟩, ⟨8, some 23, .app 37 4 (.tmp 15) (.tmp 22), none, []⟩, ⟨9, some 4, .mv (.tmp 23), none, []⟩])))
  (.keep [1, 4, 11, 12] (.ops [⟨0, some 24, .bin .add (.tmp 12) (.const (.int .i64 1)), none, []⟩, ⟨1, some 12, .mv (.tmp 24), none, []⟩]))))))))
  (.seq (.ops [⟨0, some 25, .mv (.tmp 4), none, []⟩, ⟨1, some 26, .fa 0 (.tmp 1), none, []⟩, ⟨2, some 27, .ld (.tmp 26), none, []⟩, ⟨3, some 28, .call n_s_l03Energy [.tmp 27], none, []⟩, ⟨4, some 29, .bsl 37 1 (.float .f32 0) [(0, .tmp 28)], none, []⟩, ⟨5, some 30, .app 37 4 (.tmp 25) (.tmp 29), none, []⟩, ⟨6, some 4, .mv (.tmp 30), none, []⟩])
  (.seq (.seq (.keep [4] (.ops [⟨0, some 31, .mv (.tmp 4), none, []⟩, ⟨1, some 32, .call n_s_l02Finite [.tmp 31], none, []⟩, ⟨2, some 33, .un .not (.tmp 32), none, []⟩]))
  (.cond (.tmp 33) (.seq (.ops [⟨0, some 2, .mv (.const (.slice none 0 0)), none, []⟩, ⟨1, some 3, .mv (.const (.bool false)), none, []⟩])
  (.ret)) (.skip)))
  (.seq (.ops [⟨0, some 34, .mv (.tmp 4), none, []⟩, ⟨1, some 2, .mv (.tmp 34), none, []⟩, ⟨2, some 3, .mv (.const (.bool true)), none, []⟩])
  (.ret)))))))
theorem k_s_PowersOfBands : FnOk Try.prog n_s_PowersOfBands 1 c_s_PowersOfBands [.tmp 2, .tmp 3] := ⟨by kernel_rfl⟩
def c_s_l01Log : ACode :=
  .seq (.ops [⟨0, some 2, .mv (.const (.float .f32 0)), none, []⟩])
  (.seq (.ops [⟨0, some 3, .mv (.tmp 0), none, []⟩, ⟨1, some 4, .cv (.f .f64) (.tmp 3), none, []⟩, ⟨2, some 5, .call n_s_l01LogWide [.tmp 4], none, []⟩, ⟨3, some 6, .call n_s_l01Narrow [.tmp 5], none, []⟩, ⟨4, some 2, .mv (.tmp 6), none, []⟩])
  (.ret))
theorem k_s_l01Log : FnOk Try.prog n_s_l01Log 1 c_s_l01Log [.tmp 2] := ⟨by kernel_rfl⟩
def c_s_l02Number : ACode :=
  .seq (.ops [⟨0, some 2, .mv (.const (.float .f32 0)), none, []⟩, ⟨1, some 3, .mv (.const (.bool false)), none, []⟩])
  (.seq (.seq (.ops [⟨0, some 4, .mv (.tmp 0), none, []⟩, ⟨1, some 5, .call n_s_l01Finite [.tmp 4], none, []⟩, ⟨2, some 6, .un .not (.tmp 5), none, []⟩])
  (.cond (.tmp 6) (.seq (.keep [] (.ops [⟨0, some 2, .mv (.const (.float .f32 0)), none, []⟩, ⟨1, some 3, .mv (.const (.bool false)), none, []⟩]))
  (.ret)) (.skip)))
  (.seq (.keep [0] (.ops [⟨0, some 7, .mv (.tmp 0), none, []⟩, ⟨1, some 2, .mv (.tmp 7), none, []⟩, ⟨2, some 3, .mv (.const (.bool true)), none, []⟩]))
  (.ret)))
theorem k_s_l02Number : FnOk Try.prog n_s_l02Number 1 c_s_l02Number [.tmp 2, .tmp 3] := ⟨by kernel_rfl⟩
def c_i_PowersOfBands : ACode :=
  .seq (.ops [⟨0, some 1, .box 40 (.tmp 0), none, []⟩, ⟨1, some 2, .mv (.const (.slice none 0 0)), none, []⟩, ⟨2, some 3, .mv (.const (.bool false)), none, []⟩])
  (.seq (.seq (.ops [⟨0, some 7, .ldn 2 (.tmp 1), none, []⟩, ⟨1, some 8, .call n_i_ValidBands [.tmp 7], none, []⟩, ⟨2, some 9, .un .not (.tmp 8), none, []⟩])
  (.cond (.tmp 9) (.seq (.keep [] (.ops [⟨0, some 2, .mv (.const (.slice none 0 0)), none, []⟩, ⟨1, some 3, .mv (.const (.bool false)), none, []⟩]))
  (.ret)) (.skip)))
  (.seq (.keep [1] (.ops [⟨0, some 10, .bsl 37 0 (.float .f32 0) [], none, []⟩, ⟨1, some 4, .mv (.tmp 10), none, []⟩]))
  (.seq (.seq (.ops [⟨0, some 11, .fa 1 (.tmp 1), none, []⟩, ⟨1, some 12, .ld (.tmp 11), none, []⟩, ⟨2, some 13, .len (.tmp 12), none, []⟩, ⟨3, some 14, .mv (.const (.int .i64 0)), none, []⟩])
  (.block 0 (.loop [1, 4, 12, 13, 14] (.seq (.ops [⟨0, some 15, .bin .lss (.tmp 14) (.tmp 13), none, []⟩])
  (.seq (.cond (.tmp 15) (.skip) (.exit 0))
  (.seq (.block 1 (.seq (.ops [⟨0, some 16, .ia (.tmp 12) (.tmp 14), none, []⟩, ⟨1, some 17, .ld (.tmp 16), none, []⟩, ⟨2, some 6, .mv (.tmp 17), none, []⟩])
  (.ops [⟨0, some 18, .mv (.tmp 4), none, []⟩, ⟨1, some 19, .mv (.tmp 6), none, []⟩, ⟨2, some 20, .call n_i_squares [.tmp 19], none, []⟩, ⟨3, some 21, .bsl 37 1 (.float .f32 0) [(0, .tmp 20)], none, []⟩, ⟨4, some 22, .app 37 4 (.tmp 18) (.tmp 21), none, []⟩, ⟨5, some 4, .mv (.tmp 22), none, []⟩])))
  (.keep [1, 4, 12, 13, 14] (.ops [⟨0, some 23, .bin .add (.tmp 14) (.const (.int .i64 1)), none, []⟩, ⟨1, some 14, .mv (.tmp 23), none, []⟩]))))))))
  (.seq (.ops [⟨0, some 24, .mv (.tmp 4), none, []⟩, ⟨1, some 25, .fa 0 (.tmp 1), none, []⟩, ⟨2, some 26, .ld (.tmp 25), none, []⟩, ⟨3, some 27, .call n_i_squares [.tmp 26], none, []⟩, ⟨4, some 28, .bsl 37 1 (.float .f32 0) [(0, .tmp 27)], none, []⟩, ⟨5, some 29, .app 37 4 (.tmp 24) (.tmp 28), none, []⟩, ⟨6, some 30, .call n_i_finiteList [.tmp 29], none, []⟩, ⟨7, some 31, .ext (.tmp 30) 0, none, []⟩, ⟨8, some 32, .ext (.tmp 30) 1, none, []⟩, ⟨9, some 2, .mv (.tmp 31), none, []⟩, ⟨10, some 3, .mv (.tmp 32), none, []⟩])
  (.ret)))))
theorem k_i_PowersOfBands : FnOk Try.prog n_i_PowersOfBands 1 c_i_PowersOfBands [.tmp 2, .tmp 3] := ⟨by kernel_rfl⟩
def c_i_LogNumber : ACode :=
  .seq (.ops [⟨0, some 2, .mv (.const (.float .f32 0)), none, []⟩])
  (.seq (.block 0 (.seq (.ops [⟨0, some 4, .mv (.tmp 0), none, []⟩, ⟨1, some 5, .bin .eql (.tmp 4) (.const (.float .f32 0)), none, []⟩, ⟨2, some 3, .mv (.tmp 5), none, []⟩])
  (.cond (.tmp 3) (.seq (.keep [] (.ops [⟨0, some 6, .call n_m_Inf [.const (.int .i64 (-1))], none, []⟩, ⟨1, some 7, .cv (.f .f32) (.tmp 6), none, []⟩, ⟨2, some 2, .mv (.tmp 7), none, []⟩]))
  (.ret)) (.seq (.ops [⟨0, some 9, .mv (.tmp 0), none, []⟩, ⟨1, some 10, .bin .lss (.tmp 9) (.const (.float .f32 0)), none, []⟩, ⟨2, some 11, .mv (.tmp 10), none, []⟩, ⟨3, some 12, .mv (.tmp 0), (some (11, false)), []⟩, ⟨4, some 13, .mv (.tmp 0), (some (11, false)), []⟩, ⟨5, some 14, .bin .neq (.tmp 12) (.tmp 13), (some (11, false)), []⟩, ⟨6, some 15, .pick (.tmp 11) (.const (.bool true)) (.tmp 14), none, []⟩, ⟨7, some 8, .mv (.tmp 15), none, []⟩])
  (.cond (.tmp 8) (.seq (.keep [] (.ops [⟨0, some 16, .call n_m_NaN [], none, []⟩, ⟨1, some 17, .cv (.f .f32) (.tmp 16), none, []⟩, ⟨2, some 2, .mv (.tmp 17), none, []⟩]))
  (.ret)) (.seq (.keep [0] (.ops [⟨0, some 19, .mv (.tmp 0), none, []⟩, ⟨1, some 20, .call n_i_IsFinite [.tmp 19], none, []⟩, ⟨2, some 21, .un .not (.tmp 20), none, []⟩, ⟨3, some 18, .mv (.tmp 21), none, []⟩]))
  (.cond (.tmp 18) (.seq (.ops [⟨0, some 22, .mv (.tmp 0), none, []⟩, ⟨1, some 2, .mv (.tmp 22), none, []⟩])
  (.ret)) (.skip))))))))
  (.seq (.ops [⟨0, some 23, .mv (.tmp 0), none, []⟩, ⟨1, some 24, .cv (.f .f64) (.tmp 23), none, []⟩, ⟨2, some 25, .call n_i_naturalLog [.tmp 24], none, []⟩, ⟨3, some 26, .cv (.f .f32) (.tmp 25), none, []⟩, ⟨4, some 2, .mv (.tmp 26), none, []⟩])
  (.ret)))
theorem k_i_LogNumber : FnOk Try.prog n_i_LogNumber 1 c_i_LogNumber [.tmp 2] := ⟨by kernel_rfl⟩
def c_i_finite : ACode :=
  .seq (.ops [⟨0, some 2, .mv (.const (.float .f32 0)), none, []⟩, ⟨1, some 3, .mv (.const (.bool false)), none, []⟩])
  (.seq (.seq (.ops [⟨0, some 4, .mv (.tmp 0), none, []⟩, ⟨1, some 5, .call n_i_IsFinite [.tmp 4], none, []⟩, ⟨2, some 6, .un .not (.tmp 5), none, []⟩])
  (.cond (.tmp 6) (.seq (.keep [] (.ops [⟨0, some 2, .mv (.const (.float .f32 0)), none, []⟩, ⟨1, some 3, .mv (.const (.bool false)), none, []⟩]))
  (.ret)) (.skip)))
  (.seq (.keep [0] (.ops [⟨0, some 7, .mv (.tmp 0), none, []⟩, ⟨1, some 2, .mv (.tmp 7), none, []⟩, ⟨2, some 3, .mv (.const (.bool true)), none, []⟩]))
  (.ret)))
theorem k_i_finite : FnOk Try.prog n_i_finite 1 c_i_finite [.tmp 2, .tmp 3] := ⟨by kernel_rfl⟩
def c_s_l03Bands : ACode :=
  .seq (.ops [⟨0, some 2, .mv (.const (.bool false)), none, []⟩])
  (.seq (.ops [⟨0, some 5, .mv (.tmp 0), none, []⟩, ⟨1, some 6, .nc (.tmp 5), none, []⟩, ⟨2, some 7, .fa 1 (.tmp 6), none, []⟩, ⟨3, some 8, .ld (.tmp 7), none, []⟩, ⟨4, some 9, .len (.tmp 8), none, []⟩, ⟨5, some 3, .mv (.tmp 9), none, []⟩])
  (.seq (.seq (.keep [0, 3] (.ops [⟨0, some 10, .mv (.tmp 3), none, []⟩, ⟨1, some 11, .bin .lss (.tmp 10) (.const (.int .i64 1)), none, []⟩, ⟨2, some 12, .mv (.tmp 11), none, []⟩, ⟨3, some 13, .mv (.tmp 3), (some (12, false)), []⟩, ⟨4, some 14, .bin .gtr (.tmp 13) (.const (.int .i64 6)), (some (12, false)), []⟩, ⟨5, some 15, .pick (.tmp 12) (.const (.bool true)) (.tmp 14), none, []⟩, ⟨6, some 16, .mv (.tmp 15), none, []⟩, ⟨7, some 17, .mv (.tmp 0), (some (16, false)), []⟩, ⟨8, some 18, .nc (.tmp 17), (some (16, false)), []⟩, ⟨9, some 19, .fa 1 (.tmp 18), (some (16, false)), []⟩, ⟨10, some 20, .ld (.tmp 19), (some (16, false)), []⟩, ⟨11, some 21, .ia (.tmp 20) (.const (.int .i64 0)), (some (16, false)), []⟩, ⟨12, some 22, .ld (.tmp 21), (some (16, false)), []⟩, ⟨13, some 23, .len (.tmp 22), (some (16, false)), []⟩, ⟨14, some 24, .bin .gtr (.tmp 23) (.const (.int .i64 64)), (some (16, false)), []⟩, ⟨15, some 25, .pick (.tmp 16) (.const (.bool true)) (.tmp 24), none, []⟩, ⟨16, some 26, .mv (.tmp 25), none, []⟩, ⟨17, some 27, .mv (.tmp 0), (some (26, false)), []⟩, ⟨18, some 28, .nc (.tmp 27), (some (26, false)), []⟩, ⟨19, some 29, .fa 0 (.tmp 28), (some (26, false)), []⟩, ⟨20, some 30, .ld (.tmp 29), (some (26, false)), []⟩, ⟨21, some 31, .call n_s_l02Finite [.tmp 30], (some (26, false)), []⟩, ⟨22, some 32, .un .not (.tmp 31), (some (26, false)), []⟩, ⟨23, some 33, .pick (.tmp 26) (.const (.bool true)) (.tmp 32), none, []⟩]))
  (.cond (.tmp 33) (.seq (.keep [] (.ops [⟨0, some 2, .mv (.const (.bool false)), none, []⟩]))
  (.ret)) (.skip)))
  (.seq (.seq (.keep [0, 3] (.ops [⟨0, some 34, .mv (.tmp 0), none, []⟩, ⟨1, some 35, .nc (.tmp 34), none, []⟩, ⟨2, some 36, .fa 1 (.tmp 35), none, []⟩, ⟨3, some 37, .ld (.tmp 36), none, []⟩, ⟨4, some 38, .len (.tmp 37), none, []⟩, ⟨5, some 39, .mv (.const (.int .i64 0)), none, []⟩]))
  (.block 0 (.loop [0, 3, 38, 39] (.seq (.ops [⟨0, some 40, .bin .lss (.tmp 39) (.tmp 38), none, []⟩])
  (.seq (.cond (.tmp 40) (.skip) (.exit 0))
  (.seq (.block 1 (.seq (.ops [⟨0, some 41, .mv (.tmp 39), none, []⟩, ⟨1, some 4, .mv (.tmp 41), none, []⟩])
  (.seq (.ops [⟨0, some 42, .mv (.tmp 0), none, []⟩, ⟨1, some 43, .nc (.tmp 42), none, []⟩, ⟨2, some 44, .fa 1 (.tmp 43), none, []⟩, ⟨3, some 45, .ld (.tmp 44), none, []⟩, ⟨4, some 46, .mv (.tmp 4), none, []⟩, ⟨5, some 47, .ia (.tmp 45) (.tmp 46), none, []⟩, ⟨6, some 48, .ld (.tmp 47), none, []⟩, ⟨7, some 49, .len (.tmp 48), none, []⟩, ⟨8, some 50, .bin .lss (.tmp 49) (.const (.int .i64 1)), none, []⟩, ⟨9, some 51, .mv (.tmp 50), none, []⟩, ⟨10, some 52, .mv (.tmp 0), (some (51, false)), []⟩, ⟨11, some 53, .nc (.tmp 52), (some (51, false)), []⟩, ⟨12, some 54, .fa 1 (.tmp 53), (some (51, false)), []⟩, ⟨13, some 55, .ld (.tmp 54), (some (51, false)), []⟩, ⟨14, some 56, .mv (.tmp 4), (some (51, false)), []⟩, ⟨15, some 57, .ia (.tmp 55) (.tmp 56), (some (51, false)), []⟩, ⟨16, some 58, .ld (.tmp 57), (some (51, false)), []⟩, ⟨17, some 59, .call n_s_l02Finite [.tmp 58], (some (51, false)), []⟩, ⟨18, some 60, .un .not (.tmp 59), (some (51, false)), []⟩, ⟨19, some 61, .pick (.tmp 51) (.const (.bool true)) (.tmp 60), none, []⟩, ⟨20, some 62, .mv (.tmp 61), none, []⟩, ⟨21, some 63, .mv (.tmp 4), (some (62, false)), []⟩, ⟨22, some 64, .bin .gtr (.tmp 63) (.const (.int .i64 0)), (some (62, false)), []⟩, ⟨23, some 65, .mv (.tmp 64), (some (62, false)), []⟩, ⟨24, some 66, .mv (.tmp 0), (some (65, true)), []⟩, ⟨25, some 67, .nc (.tmp 66), (some (65, true)), []⟩, ⟨26, some 68, .fa 1 (.tmp 67), (some (65, true)), []⟩, ⟨27, some 69, .ld (.tmp 68), (some (65, true)), []⟩, ⟨28, some 70, .mv (.tmp 4), (some (65, true)), []⟩, ⟨29, some 71, .bin .sub (.tmp 70) (.const (.int .i64 1)), (some (65, true)), []⟩, ⟨30, some 72, .ia (.tmp 69) (.tmp 71), (some (65, true)), []⟩, ⟨31, some 73, .ld (.tmp 72), (some (65, true)), []⟩, ⟨32, some 74, .len (.tmp 73), (some (65, true)), []⟩, ⟨33, some 75, .mv (.tmp 0), (some (65, true)), []⟩, ⟨34, some 76, .nc (.tmp 75), (some (65, true)), []⟩, ⟨35, some 77, .fa 1 (.tmp 76), (some (65, true)), []⟩, ⟨36, some 78, .ld (.tmp 77), (some (65, true)), []⟩, ⟨37, some 79, .mv (.tmp 4), (some (65, true)), []⟩, ⟨38, some 80, .ia (.tmp 78) (.tmp 79), (some (65, true)), []⟩, ⟨39, some 81, .ld (.tmp 80), (some (65, true)), []⟩, ⟨40, some 82, .len (.tmp 81), (some (65, true)), []⟩, ⟨41, some 83, .bin .mul (.const (.int .i64 2)) (.tmp 82), (some (65, true)), []⟩, ⟨42, some 84, .bin .neq (.tmp 74) (.tmp 83), (some (65, true)), []⟩, ⟨43, some 85, .pick (.tmp 65) (.tmp 84) (.const (.bool false)), (some (62, false)), []⟩, ⟨44, some 86, .pick (.tmp 62) (.const (.bool true)) (.tmp 85), none, []⟩])
  (.cond (.tmp 86) (.seq (.keep [] (.ops [⟨0, some 2, .mv (.const (.bool false)), none, []⟩]))
  (.ret)) (.skip)))))
  (.keep [0, 3, 38, 39] (.ops [⟨0, some 87, .bin .add (.tmp 39) (.const (.int .i64 1)), none, []⟩, ⟨1, some 39, .mv (.tmp 87), none, []⟩]))))))))
  (.seq (.ops [⟨0, some 88, .mv (.tmp 0), none, []⟩, ⟨1, some 89, .nc (.tmp 88), none, []⟩, ⟨2, some 90, .fa 0 (.tmp 89), none, []⟩, ⟨3, some 91, .ld (.tmp 90), none, []⟩, ⟨4, some 92, .len (.tmp 91), none, []⟩, ⟨5, some 93, .mv (.tmp 0), none, []⟩, ⟨6, some 94, .nc (.tmp 93), none, []⟩, ⟨7, some 95, .fa 1 (.tmp 94), none, []⟩, ⟨8, some 96, .ld (.tmp 95), none, []⟩, ⟨9, some 97, .mv (.tmp 3), none, []⟩, ⟨10, some 98, .bin .sub (.tmp 97) (.const (.int .i64 1)), none, []⟩, ⟨11, some 99, .ia (.tmp 96) (.tmp 98), none, []⟩, ⟨12, some 100, .ld (.tmp 99), none, []⟩, ⟨13, some 101, .len (.tmp 100), none, []⟩, ⟨14, some 102, .bin .eql (.tmp 92) (.tmp 101), none, []⟩, ⟨15, some 2, .mv (.tmp 102), none, []⟩])
  (.ret)))))
theorem k_s_l03Bands : FnOk Try.prog n_s_l03Bands 1 c_s_l03Bands [.tmp 2] := ⟨by kernel_rfl⟩
def c_i_ValidBands : ACode :=
  .seq (.ops [⟨0, some 1, .box 40 (.tmp 0), none, []⟩, ⟨1, some 2, .mv (.const (.bool false)), none, []⟩])
  (.seq (.ops [⟨0, some 6, .fa 1 (.tmp 1), none, []⟩, ⟨1, some 7, .ld (.tmp 6), none, []⟩, ⟨2, some 8, .len (.tmp 7), none, []⟩, ⟨3, some 3, .mv (.tmp 8), none, []⟩])
  (.seq (.seq (.keep [1, 3] (.ops [⟨0, some 9, .mv (.tmp 3), none, []⟩, ⟨1, some 10, .call n_i_within [.tmp 9, .const (.int .i64 1), .const (.int .i64 6)], none, []⟩, ⟨2, some 11, .un .not (.tmp 10), none, []⟩, ⟨3, some 12, .mv (.tmp 11), none, []⟩, ⟨4, some 13, .fa 1 (.tmp 1), (some (12, false)), []⟩, ⟨5, some 14, .ld (.tmp 13), (some (12, false)), []⟩, ⟨6, some 15, .ia (.tmp 14) (.const (.int .i64 0)), (some (12, false)), []⟩, ⟨7, some 16, .ld (.tmp 15), (some (12, false)), []⟩, ⟨8, some 17, .len (.tmp 16), (some (12, false)), []⟩, ⟨9, some 18, .bin .gtr (.tmp 17) (.const (.int .i64 64)), (some (12, false)), []⟩, ⟨10, some 19, .pick (.tmp 12) (.const (.bool true)) (.tmp 18), none, []⟩, ⟨11, some 20, .mv (.tmp 19), none, []⟩, ⟨12, some 21, .fa 1 (.tmp 1), (some (20, false)), []⟩, ⟨13, some 22, .ld (.tmp 21), (some (20, false)), []⟩, ⟨14, some 23, .call n_i_areFinite [.tmp 22], (some (20, false)), []⟩, ⟨15, some 24, .un .not (.tmp 23), (some (20, false)), []⟩, ⟨16, some 25, .pick (.tmp 20) (.const (.bool true)) (.tmp 24), none, []⟩, ⟨17, some 26, .mv (.tmp 25), none, []⟩, ⟨18, some 27, .fa 0 (.tmp 1), (some (26, false)), []⟩, ⟨19, some 28, .ld (.tmp 27), (some (26, false)), []⟩, ⟨20, some 29, .bsl 32 1 (.slice none 0 0) [(0, .tmp 28)], (some (26, false)), []⟩, ⟨21, some 30, .call n_i_areFinite [.tmp 29], (some (26, false)), []⟩, ⟨22, some 31, .un .not (.tmp 30), (some (26, false)), []⟩, ⟨23, some 32, .pick (.tmp 26) (.const (.bool true)) (.tmp 31), none, []⟩]))
  (.cond (.tmp 32) (.seq (.keep [] (.ops [⟨0, some 2, .mv (.const (.bool false)), none, []⟩]))
  (.ret)) (.skip)))
  (.seq (.seq (.keep [1, 3] (.ops [⟨0, some 33, .fa 1 (.tmp 1), none, []⟩, ⟨1, some 34, .ld (.tmp 33), none, []⟩, ⟨2, some 35, .len (.tmp 34), none, []⟩, ⟨3, some 36, .mv (.const (.int .i64 0)), none, []⟩]))
  (.block 0 (.loop [1, 3, 34, 35, 36] (.seq (.ops [⟨0, some 37, .bin .lss (.tmp 36) (.tmp 35), none, []⟩])
  (.seq (.cond (.tmp 37) (.skip) (.exit 0))
  (.seq (.block 1 (.seq (.ops [⟨0, some 38, .mv (.tmp 36), none, []⟩, ⟨1, some 39, .ia (.tmp 34) (.tmp 36), none, []⟩, ⟨2, some 40, .ld (.tmp 39), none, []⟩, ⟨3, some 4, .mv (.tmp 38), none, []⟩, ⟨4, some 5, .mv (.tmp 40), none, []⟩])
  (.seq (.ops [⟨0, some 41, .mv (.tmp 5), none, []⟩, ⟨1, some 42, .len (.tmp 41), none, []⟩, ⟨2, some 43, .bin .eql (.tmp 42) (.const (.int .i64 0)), none, []⟩, ⟨3, some 44, .mv (.tmp 43), none, []⟩, ⟨4, some 45, .mv (.tmp 4), (some (44, false)), []⟩, ⟨5, some 46, .bin .gtr (.tmp 45) (.const (.int .i64 0)), (some (44, false)), []⟩, ⟨6, some 47, .mv (.tmp 46), (some (44, false)), []⟩, ⟨7, some 48, .mv (.tmp 5), (some (47, true)), []⟩, ⟨8, some 49, .len (.tmp 48), (some (47, true)), []⟩, ⟨9, some 50, .bin .mul (.const (.int .i64 2)) (.tmp 49), (some (47, true)), []⟩, ⟨10, some 51, .fa 1 (.tmp 1), (some (47, true)), []⟩, ⟨11, some 52, .ld (.tmp 51), (some (47, true)), []⟩, ⟨12, some 53, .mv (.tmp 4), (some (47, true)), []⟩, ⟨13, some 54, .bin .sub (.tmp 53) (.const (.int .i64 1)), (some (47, true)), []⟩, ⟨14, some 55, .ia (.tmp 52) (.tmp 54), (some (47, true)), []⟩, ⟨15, some 56, .ld (.tmp 55), (some (47, true)), []⟩, ⟨16, some 57, .len (.tmp 56), (some (47, true)), []⟩, ⟨17, some 58, .bin .neq (.tmp 50) (.tmp 57), (some (47, true)), []⟩, ⟨18, some 59, .pick (.tmp 47) (.tmp 58) (.const (.bool false)), (some (44, false)), []⟩, ⟨19, some 60, .pick (.tmp 44) (.const (.bool true)) (.tmp 59), none, []⟩])
  (.cond (.tmp 60) (.seq (.keep [] (.ops [⟨0, some 2, .mv (.const (.bool false)), none, []⟩]))
  (.ret)) (.skip)))))
  (.keep [1, 3, 34, 35, 36] (.ops [⟨0, some 61, .bin .add (.tmp 36) (.const (.int .i64 1)), none, []⟩, ⟨1, some 36, .mv (.tmp 61), none, []⟩]))))))))
  (.seq (.ops [⟨0, some 62, .fa 0 (.tmp 1), none, []⟩, ⟨1, some 63, .ld (.tmp 62), none, []⟩, ⟨2, some 64, .len (.tmp 63), none, []⟩, ⟨3, some 65, .fa 1 (.tmp 1), none, []⟩, ⟨4, some 66, .ld (.tmp 65), none, []⟩, ⟨5, some 67, .mv (.tmp 3), none, []⟩, ⟨6, some 68, .bin .sub (.tmp 67) (.const (.int .i64 1)), none, []⟩, ⟨7, some 69, .ia (.tmp 66) (.tmp 68), none, []⟩, ⟨8, some 70, .ld (.tmp 69), none, []⟩, ⟨9, some 71, .len (.tmp 70), none, []⟩, ⟨10, some 72, .bin .eql (.tmp 64) (.tmp 71), none, []⟩, ⟨11, some 2, .mv (.tmp 72), none, []⟩])
  (.ret)))))
theorem k_i_ValidBands : FnOk Try.prog n_i_ValidBands 1 c_i_ValidBands [.tmp 2] := ⟨by kernel_rfl⟩
def c_s_l03Energy : ACode :=
  .seq (.ops [⟨0, some 2, .mv (.const (.float .f32 0)), none, []⟩])
  (.seq (.ops [⟨0, some 3, .mv (.const (.float .f32 0)), none, []⟩])
  (.seq (.seq (.ops [⟨0, some 5, .mv (.tmp 0), none, []⟩, ⟨1, some 6, .len (.tmp 5), none, []⟩, ⟨2, some 7, .mv (.const (.int .i64 0)), none, []⟩])
  (.block 0 (.loop [0, 3, 6, 7] (.seq (.ops [⟨0, some 8, .bin .lss (.tmp 7) (.tmp 6), none, []⟩])
  (.seq (.cond (.tmp 8) (.skip) (.exit 0))
  (.seq (.block 1 (.seq (.ops [⟨0, some 9, .mv (.tmp 7), none, []⟩, ⟨1, some 4, .mv (.tmp 9), none, []⟩])
  (.ops [⟨0, some 10, .mv (.tmp 3), none, []⟩, ⟨1, some 11, .mv (.tmp 0), none, []⟩, ⟨2, some 12, .mv (.tmp 4), none, []⟩, ⟨3, some 13, .ia (.tmp 11) (.tmp 12), none, []⟩, ⟨4, some 14, .ld (.tmp 13), none, []⟩, ⟨5, some 15, .mv (.tmp 0), none, []⟩, ⟨6, some 16, .mv (.tmp 4), none, []⟩, ⟨7, some 17, .ia (.tmp 15) (.tmp 16), none, []⟩, ⟨8, some 18, .ld (.tmp 17), none, []⟩, ⟨9, some 19, .bin .mul (.tmp 14) (.tmp 18), none, []⟩, ⟨10, some 20, .bin .add (.tmp 10) (.tmp 19), none, []⟩, ⟨11, some 3, .mv (.tmp 20), none, []⟩])))
  (.keep [0, 3, 6, 7] (.ops [⟨0, some 21, .bin .add (.tmp 7) (.const (.int .i64 1)), none, []⟩, ⟨1, some 7, .mv (.tmp 21), none, []⟩]))))))))
  (.seq (.ops [⟨0, some 22, .mv (.tmp 3), none, []⟩, ⟨1, some 2, .mv (.tmp 22), none, []⟩])
  (.ret))))
theorem k_s_l03Energy : FnOk Try.prog n_s_l03Energy 1 c_s_l03Energy [.tmp 2] := ⟨by kernel_rfl⟩
def c_s_l02Finite : ACode :=
  .seq (.ops [⟨0, some 2, .mv (.const (.bool false)), none, []⟩])
  (.seq (.seq (.ops [⟨0, some 3, .mv (.const (.int .i64 0)), none, []⟩])
  (.block 0 (.loop [0, 3] (.seq (.seq (.ops [⟨0, some 4, .mv (.tmp 3), none, []⟩, ⟨1, some 5, .mv (.tmp 0), none, []⟩, ⟨2, some 6, .len (.tmp 5), none, []⟩, ⟨3, some 7, .bin .lss (.tmp 4) (.tmp 6), none, []⟩])
  (.cond (.tmp 7) (.skip) (.exit 0)))
  (.seq (.block 1 (.seq (.ops [⟨0, some 10, .mv (.tmp 0), none, []⟩, ⟨1, some 11, .mv (.tmp 3), none, []⟩, ⟨2, some 12, .ia (.tmp 10) (.tmp 11), none, []⟩, ⟨3, some 13, .ld (.tmp 12), none, []⟩, ⟨4, some 14, .call n_s_l01Finite [.tmp 13], none, []⟩, ⟨5, some 15, .un .not (.tmp 14), none, []⟩])
  (.cond (.tmp 15) (.seq (.keep [] (.ops [⟨0, some 2, .mv (.const (.bool false)), none, []⟩]))
  (.ret)) (.skip))))
  (.keep [0, 3] (.ops [⟨0, some 8, .mv (.tmp 3), none, []⟩, ⟨1, some 9, .bin .add (.tmp 8) (.const (.int .i64 1)), none, []⟩, ⟨2, some 3, .mv (.tmp 9), none, []⟩])))))))
  (.seq (.keep [] (.ops [⟨0, some 2, .mv (.const (.bool true)), none, []⟩]))
  (.ret)))
theorem k_s_l02Finite : FnOk Try.prog n_s_l02Finite 1 c_s_l02Finite [.tmp 2] := ⟨by kernel_rfl⟩
def c_s_l01Narrow : ACode :=
  .seq (.ops [⟨0, some 2, .mv (.const (.float .f32 0)), none, []⟩])
  (.seq (.ops [⟨0, some 3, .mv (.tmp 0), none, []⟩, ⟨1, some 4, .cv (.f .f32) (.tmp 3), none, []⟩, ⟨2, some 2, .mv (.tmp 4), none, []⟩])
  (.ret))
theorem k_s_l01Narrow : FnOk Try.prog n_s_l01Narrow 1 c_s_l01Narrow [.tmp 2] := ⟨by kernel_rfl⟩
def c_s_l01LogWide : ACode :=
  .seq (.ops [⟨0, some 2, .mv (.const (.float .f64 0)), none, []⟩])
  (.seq (.block 0 (.seq (.ops [⟨0, some 9, .mv (.tmp 0), none, []⟩, ⟨1, some 10, .mv (.tmp 0), none, []⟩, ⟨2, some 11, .bin .neq (.tmp 9) (.tmp 10), none, []⟩, ⟨3, some 12, .mv (.tmp 11), none, []⟩, ⟨4, some 13, .mv (.tmp 0), (some (12, false)), []⟩, ⟨5, some 14, .bin .lss (.tmp 13) (.const (.float .f64 0)), (some (12, false)), []⟩, ⟨6, some 15, .pick (.tmp 12) (.const (.bool true)) (.tmp 14), none, []⟩, ⟨7, some 8, .mv (.tmp 15), none, []⟩])
  (.cond (.tmp 8) (.seq (.keep [] (.ops [⟨0, some 16, .call n_m_NaN [], none, []⟩, ⟨1, some 2, .mv (.tmp 16), none, []⟩]))
  (.ret)) (.seq (.keep [0] (.ops [⟨0, some 18, .mv (.tmp 0), none, []⟩, ⟨1, some 19, .bin .eql (.tmp 18) (.const (.float .f64 0)), none, []⟩, ⟨2, some 17, .mv (.tmp 19), none, []⟩]))
  (.cond (.tmp 17) (.seq (.ops [⟨0, some 20, .call n_m_Inf [.const (.int .i64 (-1))], none, []⟩, ⟨1, some 2, .mv (.tmp 20), none, []⟩])
  (.ret)) (.seq (.ops [⟨0, some 22, .mv (.tmp 0), none, []⟩, ⟨1, some 23, .call n_m_IsInf [.tmp 22, .const (.int .i64 1)], none, []⟩, ⟨2, some 21, .mv (.tmp 23), none, []⟩])
  (.cond (.tmp 21) (.seq (.keep [0] (.ops [⟨0, some 24, .mv (.tmp 0), none, []⟩, ⟨1, some 2, .mv (.tmp 24), none, []⟩]))
  (.ret)) (.skip))))))))
  (.seq (.keep [0] (.ops [⟨0, some 3, .mv (.const (.int .i64 0)), none, []⟩]))
  (.seq (.block 1 (.loop [0, 3] (.seq (.seq (.ops [⟨0, some 25, .mv (.tmp 0), none, []⟩, ⟨1, some 26, .bin .geq (.tmp 25) (.const (.float .f64 4609434218613702656)), none, []⟩])
  (.cond (.tmp 26) (.skip) (.exit 1)))
  (.block 2 (.seq (.ops [⟨0, some 27, .mv (.tmp 0), none, []⟩, ⟨1, some 28, .bin .quo (.tmp 27) (.const (.float .f64 4611686018427387904)), none, []⟩, ⟨2, some 0, .mv (.tmp 28), none, []⟩])
  (.ops [⟨0, some 29, .mv (.tmp 3), none, []⟩, ⟨1, some 30, .bin .add (.tmp 29) (.const (.int .i64 1)), none, []⟩, ⟨2, some 3, .mv (.tmp 30), none, []⟩]))))))
  (.seq (.block 3 (.loop [0, 3] (.seq (.seq (.ops [⟨0, some 31, .mv (.tmp 0), none, []⟩, ⟨1, some 32, .bin .lss (.tmp 31) (.const (.float .f64 4604930618986332160)), none, []⟩])
  (.cond (.tmp 32) (.skip) (.exit 3)))
  (.block 4 (.seq (.ops [⟨0, some 33, .mv (.tmp 0), none, []⟩, ⟨1, some 34, .bin .mul (.tmp 33) (.const (.float .f64 4611686018427387904)), none, []⟩, ⟨2, some 0, .mv (.tmp 34), none, []⟩])
  (.ops [⟨0, some 35, .mv (.tmp 3), none, []⟩, ⟨1, some 36, .bin .sub (.tmp 35) (.const (.int .i64 1)), none, []⟩, ⟨2, some 3, .mv (.tmp 36), none, []⟩]))))))
  (.seq (.ops [⟨0, some 37, .mv (.tmp 0), none, []⟩, ⟨1, some 38, .bin .sub (.tmp 37) (.const (.float .f64 4607182418800017408)), none, []⟩, ⟨2, some 39, .mv (.tmp 0), none, []⟩, ⟨3, some 40, .bin .add (.tmp 39) (.const (.float .f64 4607182418800017408)), none, []⟩, ⟨4, some 41, .bin .quo (.tmp 38) (.tmp 40), none, []⟩, ⟨5, some 4, .mv (.tmp 41), none, []⟩])
  (.seq (.keep [3, 4] (.ops [⟨0, some 42, .mv (.tmp 4), none, []⟩, ⟨1, some 43, .mv (.tmp 4), none, []⟩, ⟨2, some 44, .bin .mul (.tmp 42) (.tmp 43), none, []⟩, ⟨3, some 5, .mv (.tmp 44), none, []⟩]))
  (.seq (.ops [⟨0, some 6, .mv (.const (.float .f64 0)), none, []⟩])
  (.seq (.seq (.ops [⟨0, some 7, .mv (.const (.int .i64 25)), none, []⟩])
  (.block 5 (.loop [3, 4, 5, 6, 7] (.seq (.seq (.ops [⟨0, some 45, .mv (.tmp 7), none, []⟩, ⟨1, some 46, .bin .geq (.tmp 45) (.const (.int .i64 1)), none, []⟩])
  (.cond (.tmp 46) (.skip) (.exit 5)))
  (.seq (.block 6 (.ops [⟨0, some 49, .mv (.tmp 7), none, []⟩, ⟨1, some 50, .cv (.f .f64) (.tmp 49), none, []⟩, ⟨2, some 51, .bin .quo (.const (.float .f64 4607182418800017408)) (.tmp 50), none, []⟩, ⟨3, some 52, .mv (.tmp 5), none, []⟩, ⟨4, some 53, .mv (.tmp 6), none, []⟩, ⟨5, some 54, .bin .mul (.tmp 52) (.tmp 53), none, []⟩, ⟨6, some 55, .bin .add (.tmp 51) (.tmp 54), none, []⟩, ⟨7, some 6, .mv (.tmp 55), none, []⟩]))
  (.keep [3, 4, 5, 6, 7] (.ops [⟨0, some 47, .mv (.tmp 7), none, []⟩, ⟨1, some 48, .bin .sub (.tmp 47) (.const (.int .i64 2)), none, []⟩, ⟨2, some 7, .mv (.tmp 48), none, []⟩])))))))
  (.seq (.ops [⟨0, some 56, .mv (.tmp 4), none, []⟩, ⟨1, some 57, .mv (.tmp 6), none, []⟩, ⟨2, some 58, .bin .mul (.tmp 56) (.tmp 57), none, []⟩, ⟨3, some 59, .bin .mul (.const (.float .f64 4611686018427387904)) (.tmp 58), none, []⟩, ⟨4, some 60, .mv (.tmp 3), none, []⟩, ⟨5, some 61, .cv (.f .f64) (.tmp 60), none, []⟩, ⟨6, some 62, .bin .mul (.tmp 61) (.const (.float .f64 4604418534313441775)), none, []⟩, ⟨7, some 63, .bin .add (.tmp 59) (.tmp 62), none, []⟩, ⟨8, some 2, .mv (.tmp 63), none, []⟩])
  (.ret))))))))))
theorem k_s_l01LogWide : FnOk Try.prog n_s_l01LogWide 1 c_s_l01LogWide [.tmp 2] := ⟨by kernel_rfl⟩
def c_s_l01Finite : ACode :=
  .seq (.ops [⟨0, some 2, .mv (.const (.bool false)), none, []⟩])
  (.seq (.ops [⟨0, some 3, .mv (.tmp 0), none, []⟩, ⟨1, some 4, .mv (.tmp 0), none, []⟩, ⟨2, some 5, .bin .sub (.tmp 3) (.tmp 4), none, []⟩, ⟨3, some 6, .bin .eql (.tmp 5) (.const (.float .f32 0)), none, []⟩, ⟨4, some 2, .mv (.tmp 6), none, []⟩])
  (.ret))
theorem k_s_l01Finite : FnOk Try.prog n_s_l01Finite 1 c_s_l01Finite [.tmp 2] := ⟨by kernel_rfl⟩
def c_i_squares : ACode :=
  .seq (.ops [⟨0, some 2, .mv (.const (.float .f32 0)), none, []⟩])
  (.seq (.ops [⟨0, some 3, .mv (.const (.float .f32 0)), none, []⟩])
  (.seq (.seq (.ops [⟨0, some 6, .mv (.tmp 0), none, []⟩, ⟨1, some 7, .len (.tmp 6), none, []⟩, ⟨2, some 8, .mv (.const (.int .i64 0)), none, []⟩])
  (.block 0 (.loop [3, 6, 7, 8] (.seq (.ops [⟨0, some 9, .bin .lss (.tmp 8) (.tmp 7), none, []⟩])
  (.seq (.cond (.tmp 9) (.skip) (.exit 0))
  (.seq (.block 1 (.seq (.ops [⟨0, some 10, .ia (.tmp 6) (.tmp 8), none, []⟩, ⟨1, some 11, .ld (.tmp 10), none, []⟩, ⟨2, some 5, .mv (.tmp 11), none, []⟩])
  (.ops [⟨0, some 12, .mv (.tmp 3), none, []⟩, ⟨1, some 13, .mv (.tmp 5), none, []⟩, ⟨2, some 14, .mv (.tmp 5), none, []⟩, ⟨3, some 15, .bin .mul (.tmp 13) (.tmp 14), none, []⟩, ⟨4, some 16, .bin .add (.tmp 12) (.tmp 15), none, []⟩, ⟨5, some 3, .mv (.tmp 16), none, []⟩])))
  (.keep [3, 6, 7, 8] (.ops [⟨0, some 17, .bin .add (.tmp 8) (.const (.int .i64 1)), none, []⟩, ⟨1, some 8, .mv (.tmp 17), none, []⟩]))))))))
  (.seq (.ops [⟨0, some 18, .mv (.tmp 3), none, []⟩, ⟨1, some 2, .mv (.tmp 18), none, []⟩])
  (.ret))))
theorem k_i_squares : FnOk Try.prog n_i_squares 1 c_i_squares [.tmp 2] := ⟨by kernel_rfl⟩
def c_i_finiteList : ACode :=
  .seq (.ops [⟨0, some 2, .mv (.const (.slice none 0 0)), none, []⟩, ⟨1, some 3, .mv (.const (.bool false)), none, []⟩])
  (.seq (.seq (.ops [⟨0, some 4, .mv (.tmp 0), none, []⟩, ⟨1, some 5, .bsl 32 1 (.slice none 0 0) [(0, .tmp 4)], none, []⟩, ⟨2, some 6, .call n_i_areFinite [.tmp 5], none, []⟩, ⟨3, some 7, .un .not (.tmp 6), none, []⟩])
  (.cond (.tmp 7) (.seq (.keep [] (.ops [⟨0, some 2, .mv (.const (.slice none 0 0)), none, []⟩, ⟨1, some 3, .mv (.const (.bool false)), none, []⟩]))
  (.ret)) (.skip)))
  (.seq (.keep [0] (.ops [⟨0, some 8, .mv (.tmp 0), none, []⟩, ⟨1, some 2, .mv (.tmp 8), none, []⟩, ⟨2, some 3, .mv (.const (.bool true)), none, []⟩]))
  (.ret)))
theorem k_i_finiteList : FnOk Try.prog n_i_finiteList 1 c_i_finiteList [.tmp 2, .tmp 3] := ⟨by kernel_rfl⟩
def c_m_Inf : ACode :=
  .seq (.ops [⟨0, some 2, .mv (.const (.float .f64 0)), none, []⟩])
  (.seq (.ops [⟨0, some 3, .mv (.const (.int .u64 0)), none, []⟩])
  (.seq (.seq (.ops [⟨0, some 4, .mv (.tmp 0), none, []⟩, ⟨1, some 5, .bin .geq (.tmp 4) (.const (.int .i64 0)), none, []⟩])
  (.cond (.tmp 5) (.keep [] (.ops [⟨0, some 3, .mv (.const (.int .u64 9218868437227405312)), none, []⟩])) (.keep [] (.ops [⟨0, some 3, .mv (.const (.int .u64 18442240474082181120)), none, []⟩]))))
  (.seq (.ops [⟨0, some 6, .mv (.tmp 3), none, []⟩, ⟨1, some 7, .f64from (.tmp 6), none, []⟩, ⟨2, some 2, .mv (.tmp 7), none, []⟩])
  (.ret))))
theorem k_m_Inf : FnOk Try.prog n_m_Inf 1 c_m_Inf [.tmp 2] := ⟨by kernel_rfl⟩
def c_m_NaN : ACode :=
  .seq (.ops [⟨0, some 0, .mv (.const (.float .f64 0)), none, []⟩])
  (.seq (.ops [⟨0, some 1, .f64from (.const (.int .u64 9221120237041090561)), none, []⟩, ⟨1, some 0, .mv (.tmp 1), none, []⟩])
  (.ret))
theorem k_m_NaN : FnOk Try.prog n_m_NaN 0 c_m_NaN [.tmp 0] := ⟨by kernel_rfl⟩
def c_i_IsFinite : ACode :=
  .seq (.ops [⟨0, some 2, .mv (.const (.bool false)), none, []⟩])
  (.seq (.ops [⟨0, some 3, .mv (.tmp 0), none, []⟩, ⟨1, some 4, .mv (.tmp 0), none, []⟩, ⟨2, some 5, .bin .sub (.tmp 3) (.tmp 4), none, []⟩, ⟨3, some 6, .bin .eql (.tmp 5) (.const (.float .f32 0)), none, []⟩, ⟨4, some 2, .mv (.tmp 6), none, []⟩])
  (.ret))
theorem k_i_IsFinite : FnOk Try.prog n_i_IsFinite 1 c_i_IsFinite [.tmp 2] := ⟨by kernel_rfl⟩
def c_i_naturalLog : ACode :=
  .seq (.ops [⟨0, some 2, .mv (.const (.float .f64 0)), none, []⟩])
  (.seq (.ops [⟨0, some 3, .mv (.const (.float .f64 0)), none, []⟩])
  (.seq (.block 0 (.loop [0, 3] (.seq (.seq (.ops [⟨0, some 8, .mv (.tmp 0), none, []⟩, ⟨1, some 9, .bin .geq (.tmp 8) (.const (.float .f64 4609434218613702656)), none, []⟩])
  (.cond (.tmp 9) (.skip) (.exit 0)))
  (.block 1 (.seq (.ops [⟨0, some 10, .mv (.tmp 0), none, []⟩, ⟨1, some 11, .bin .quo (.tmp 10) (.const (.float .f64 4611686018427387904)), none, []⟩, ⟨2, some 0, .mv (.tmp 11), none, []⟩])
  (.ops [⟨0, some 12, .mv (.tmp 3), none, []⟩, ⟨1, some 13, .bin .add (.tmp 12) (.const (.float .f64 4607182418800017408)), none, []⟩, ⟨2, some 3, .mv (.tmp 13), none, []⟩]))))))
  (.seq (.block 2 (.loop [0, 3] (.seq (.seq (.ops [⟨0, some 14, .mv (.tmp 0), none, []⟩, ⟨1, some 15, .bin .lss (.tmp 14) (.const (.float .f64 4604930618986332160)), none, []⟩])
  (.cond (.tmp 15) (.skip) (.exit 2)))
  (.block 3 (.seq (.ops [⟨0, some 16, .mv (.tmp 0), none, []⟩, ⟨1, some 17, .bin .mul (.tmp 16) (.const (.float .f64 4611686018427387904)), none, []⟩, ⟨2, some 0, .mv (.tmp 17), none, []⟩])
  (.ops [⟨0, some 18, .mv (.tmp 3), none, []⟩, ⟨1, some 19, .bin .sub (.tmp 18) (.const (.float .f64 4607182418800017408)), none, []⟩, ⟨2, some 3, .mv (.tmp 19), none, []⟩]))))))
  (.seq (.ops [⟨0, some 20, .mv (.tmp 0), none, []⟩, ⟨1, some 21, .bin .sub (.tmp 20) (.const (.float .f64 4607182418800017408)), none, []⟩, ⟨2, some 22, .mv (.tmp 0), none, []⟩, ⟨3, some 23, .bin .add (.tmp 22) (.const (.float .f64 4607182418800017408)), none, []⟩, ⟨4, some 24, .bin .quo (.tmp 21) (.tmp 23), none, []⟩, ⟨5, some 4, .mv (.tmp 24), none, []⟩])
  (.seq (.keep [3, 4] (.ops [⟨0, some 25, .mv (.tmp 4), none, []⟩, ⟨1, some 26, .mv (.tmp 4), none, []⟩, ⟨2, some 27, .bin .mul (.tmp 25) (.tmp 26), none, []⟩, ⟨3, some 5, .mv (.tmp 27), none, []⟩]))
  (.seq (.ops [⟨0, some 6, .mv (.const (.float .f64 0)), none, []⟩])
  (.seq (.seq (.ops [⟨0, some 7, .mv (.const (.float .f64 4627730092099895296)), none, []⟩])
  (.block 4 (.loop [3, 4, 5, 6, 7] (.seq (.seq (.ops [⟨0, some 28, .mv (.tmp 7), none, []⟩, ⟨1, some 29, .bin .geq (.tmp 28) (.const (.float .f64 4607182418800017408)), none, []⟩])
  (.cond (.tmp 29) (.skip) (.exit 4)))
  (.seq (.block 5 (.ops [⟨0, some 32, .mv (.tmp 7), none, []⟩, ⟨1, some 33, .bin .quo (.const (.float .f64 4607182418800017408)) (.tmp 32), none, []⟩, ⟨2, some 34, .mv (.tmp 5), none, []⟩, ⟨3, some 35, .mv (.tmp 6), none, []⟩, ⟨4, some 36, .bin .mul (.tmp 34) (.tmp 35), none, []⟩, ⟨5, some 37, .bin .add (.tmp 33) (.tmp 36), none, []⟩, ⟨6, some 6, .mv (.tmp 37), none, []⟩]))
  (.keep [3, 4, 5, 6, 7] (.ops [⟨0, some 30, .mv (.tmp 7), none, []⟩, ⟨1, some 31, .bin .sub (.tmp 30) (.const (.float .f64 4611686018427387904)), none, []⟩, ⟨2, some 7, .mv (.tmp 31), none, []⟩])))))))
  (.seq (.ops [⟨0, some 38, .mv (.tmp 4), none, []⟩, ⟨1, some 39, .mv (.tmp 6), none, []⟩, ⟨2, some 40, .bin .mul (.tmp 38) (.tmp 39), none, []⟩, ⟨3, some 41, .bin .mul (.const (.float .f64 4611686018427387904)) (.tmp 40), none, []⟩, ⟨4, some 42, .mv (.tmp 3), none, []⟩, ⟨5, some 43, .bin .mul (.tmp 42) (.const (.float .f64 4604418534313441775)), none, []⟩, ⟨6, some 44, .bin .add (.tmp 41) (.tmp 43), none, []⟩, ⟨7, some 2, .mv (.tmp 44), none, []⟩])
  (.ret)))))))))
theorem k_i_naturalLog : FnOk Try.prog n_i_naturalLog 1 c_i_naturalLog [.tmp 2] := ⟨by kernel_rfl⟩
def c_i_areFinite : ACode :=
  .seq (.ops [⟨0, some 2, .mv (.const (.bool false)), none, []⟩])
  (.seq (.seq (.ops [⟨0, some 7, .mv (.tmp 0), none, []⟩, ⟨1, some 8, .len (.tmp 7), none, []⟩, ⟨2, some 9, .mv (.const (.int .i64 0)), none, []⟩])
  (.block 0 (.loop [7, 8, 9] (.seq (.ops [⟨0, some 10, .bin .lss (.tmp 9) (.tmp 8), none, []⟩])
  (.seq (.cond (.tmp 10) (.skip) (.exit 0))
  (.seq (.block 1 (.seq (.ops [⟨0, some 11, .ia (.tmp 7) (.tmp 9), none, []⟩, ⟨1, some 12, .ld (.tmp 11), none, []⟩, ⟨2, some 4, .mv (.tmp 12), none, []⟩])
  (.seq (.ops [⟨0, some 13, .mv (.tmp 4), none, []⟩, ⟨1, some 14, .len (.tmp 13), none, []⟩, ⟨2, some 15, .mv (.const (.int .i64 0)), none, []⟩])
  (.block 2 (.loop [7, 8, 9, 13, 14, 15] (.seq (.ops [⟨0, some 16, .bin .lss (.tmp 15) (.tmp 14), none, []⟩])
  (.seq (.cond (.tmp 16) (.skip) (.exit 2))
  (.seq (.block 3 (.seq (.ops [⟨0, some 17, .ia (.tmp 13) (.tmp 15), none, []⟩, ⟨1, some 18, .ld (.tmp 17), none, []⟩, ⟨2, some 6, .mv (.tmp 18), none, []⟩])
  (.seq (.ops [⟨0, some 19, .mv (.tmp 6), none, []⟩, ⟨1, some 20, .call n_i_IsFinite [.tmp 19], none, []⟩, ⟨2, some 21, .un .not (.tmp 20), none, []⟩])
  (.cond (.tmp 21) (.seq (.keep [] (.ops [⟨0, some 2, .mv (.const (.bool false)), none, []⟩]))
  (.ret)) (.skip)))))
  (.keep [7, 8, 9, 13, 14, 15] (.ops [⟨0, some 22, .bin .add (.tmp 15) (.const (.int .i64 1)), none, []⟩, ⟨1, some 15, .mv (.tmp 22), none, []⟩]))))))))))
  (.ops [⟨0, some 23, .bin .add (.tmp 9) (.const (.int .i64 1)), none, []⟩, ⟨1, some 9, .mv (.tmp 23), none, []⟩])))))))
  (.seq (.ops [⟨0, some 2, .mv (.const (.bool true)), none, []⟩])
  (.ret)))
theorem k_i_areFinite : FnOk Try.prog n_i_areFinite 1 c_i_areFinite [.tmp 2] := ⟨by kernel_rfl⟩
def c_m_IsInf : ACode :=
  .seq (.ops [⟨0, some 4, .mv (.const (.bool false)), none, []⟩])
  (.seq (.seq (.ops [⟨0, some 5, .mv (.tmp 1), none, []⟩, ⟨1, some 6, .bin .eql (.tmp 5) (.const (.int .i64 0)), none, []⟩])
  (.cond (.tmp 6) (.ops [⟨0, some 7, .mv (.tmp 0), none, []⟩, ⟨1, some 8, .call n_m_Abs [.tmp 7], none, []⟩, ⟨2, some 0, .mv (.tmp 8), none, []⟩]) (.seq (.ops [⟨0, some 9, .mv (.tmp 1), none, []⟩, ⟨1, some 10, .bin .lss (.tmp 9) (.const (.int .i64 0)), none, []⟩])
  (.cond (.tmp 10) (.keep [0] (.ops [⟨0, some 11, .mv (.tmp 0), none, []⟩, ⟨1, some 12, .un .neg (.tmp 11), none, []⟩, ⟨2, some 0, .mv (.tmp 12), none, []⟩])) (.skip)))))
  (.seq (.keep [0] (.ops [⟨0, some 13, .mv (.tmp 0), none, []⟩, ⟨1, some 14, .bin .gtr (.tmp 13) (.const (.float .f64 9218868437227405311)), none, []⟩, ⟨2, some 4, .mv (.tmp 14), none, []⟩]))
  (.ret)))
theorem k_m_IsInf : FnOk Try.prog n_m_IsInf 2 c_m_IsInf [.tmp 4] := ⟨by kernel_rfl⟩
def c_m_Abs : ACode :=
  .seq (.ops [⟨0, some 2, .mv (.const (.float .f64 0)), none, []⟩])
  (.seq (.ops [⟨0, some 3, .mv (.tmp 0), none, []⟩, ⟨1, some 4, .f64bits (.tmp 3), none, []⟩, ⟨2, some 5, .bin .andNot (.tmp 4) (.const (.int .u64 9223372036854775808)), none, []⟩, ⟨3, some 6, .f64from (.tmp 5), none, []⟩, ⟨4, some 2, .mv (.tmp 6), none, []⟩])
  (.ret))
theorem k_m_Abs : FnOk Try.prog n_m_Abs 1 c_m_Abs [.tmp 2] := ⟨by kernel_rfl⟩
end Go.Proofs.Ytkojmlpaamdhoae

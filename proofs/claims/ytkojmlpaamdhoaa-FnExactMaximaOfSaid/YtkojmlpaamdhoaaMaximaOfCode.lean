/- The code of functions, for the abstract machine; printed by a program (gen.py). -/
import Derived.Test.YtkojmlpaamdhoaaGxFn
import Derived.Test.YtkojmlpaamdhoaaProg
namespace Go.Proofs.Ytkojmlpaamdhoaa
open Go.Gx
set_option maxRecDepth 100000
abbrev t_int64 : Nat := 2
abbrev t_int : Nat := 3
abbrev t_bool : Nat := 4
abbrev t_uint8 : Nat := 5
abbrev t_sfloat32 : Nat := 22
abbrev t_suint8 : Nat := 47
abbrev t_ssfloat32 : Nat := 52
abbrev t_float64 : Nat := 62
abbrev t_float32 : Nat := 63
abbrev t_sbool : Nat := 66
abbrev t_sint64 : Nat := 77
abbrev t_Pair : Nat := 24
abbrev t_Picture : Nat := 36
abbrev t_Bands : Nat := 54
abbrev n_w_FnExactMaximaOf : Nat := 13
abbrev n_w_sameFloat : Nat := 58
abbrev n_s_MaximaOf : Nat := 59
abbrev n_w_toFloat32S : Nat := 60
abbrev n_i_MaximaOf : Nat := 61
abbrev n_w_eqInt64S : Nat := 62
abbrev n_w_eqFloat32S : Nat := 63
abbrev n_w_markFloat32S : Nat := 64
abbrev n_w_markInt64S : Nat := 65
abbrev n_w_heldInt64S : Nat := 66
abbrev n_i_within : Nat := 74
abbrev n_i_areFinite : Nat := 79
abbrev n_i_size : Nat := 84
abbrev n_i_isLong : Nat := 89
abbrev n_s_l01Finite : Nat := 97
abbrev n_i_IsFinite : Nat := 99
abbrev n_s_l03Long : Nat := 105
abbrev n_s_l03Maxima : Nat := 106
abbrev n_i_maximaOf : Nat := 107
abbrev n_s_l02Finite : Nat := 111
abbrev n_s_l03Size : Nat := 117
def c_w_FnExactMaximaOf : ACode :=
  .seq (.ops [⟨0, some 2, .mv (.const (.bool false)), none, []⟩])
  (.seq (.seq (.ops [⟨0, some 13, .mv (.tmp 0), none, []⟩, ⟨1, some 14, .len (.tmp 13), none, []⟩, ⟨2, some 15, .bin .gtr (.tmp 14) (.const (.int .i64 1048576)), none, []⟩])
  (.cond (.tmp 15) (.seq (.keep [] (.ops [⟨0, some 2, .mv (.const (.bool true)), none, []⟩]))
  (.ret)) (.skip)))
  (.seq (.ops [⟨0, some 17, .mv (.tmp 0), none, []⟩, ⟨1, some 18, .call n_w_toFloat32S [.tmp 17], none, []⟩, ⟨2, some 19, .call n_s_MaximaOf [.tmp 18], none, []⟩, ⟨3, some 16, .mv (.tmp 19), none, []⟩, ⟨4, some 20, .ext (.tmp 16) 0, none, []⟩, ⟨5, some 21, .ext (.tmp 16) 1, none, []⟩, ⟨6, some 3, .mv (.tmp 20), none, []⟩, ⟨7, some 4, .mv (.tmp 21), none, []⟩])
  (.seq (.keep [0, 3, 4] (.ops [⟨0, some 22, .mv (.tmp 0), none, []⟩, ⟨1, some 23, .call n_w_toFloat32S [.tmp 22], none, []⟩, ⟨2, some 5, .mv (.tmp 23), none, []⟩]))
  (.seq (.ops [⟨0, some 25, .mv (.tmp 5), none, []⟩, ⟨1, some 26, .call n_i_MaximaOf [.tmp 25], none, []⟩, ⟨2, some 24, .mv (.tmp 26), none, []⟩, ⟨3, some 27, .ext (.tmp 24) 0, none, []⟩, ⟨4, some 28, .ext (.tmp 24) 1, none, []⟩, ⟨5, some 6, .mv (.tmp 27), none, []⟩, ⟨6, some 7, .mv (.tmp 28), none, []⟩])
  (.seq (.seq (.keep [0, 3, 4, 5, 6, 7] (.ops [⟨0, some 29, .mv (.tmp 6), none, []⟩, ⟨1, some 30, .mv (.tmp 3), none, []⟩, ⟨2, some 31, .call n_w_eqInt64S [.tmp 29, .tmp 30], none, []⟩, ⟨3, some 32, .un .not (.tmp 31), none, []⟩, ⟨4, some 33, .mv (.tmp 32), none, []⟩, ⟨5, some 34, .mv (.tmp 7), (some (33, false)), []⟩, ⟨6, some 35, .mv (.tmp 4), (some (33, false)), []⟩, ⟨7, some 36, .beq true (.tmp 34) (.tmp 35), (some (33, false)), []⟩, ⟨8, some 37, .pick (.tmp 33) (.const (.bool true)) (.tmp 36), none, []⟩]))
  (.cond (.tmp 37) (.seq (.keep [] (.ops [⟨0, some 2, .mv (.const (.bool false)), none, []⟩]))
  (.ret)) (.skip)))
  (.seq (.seq (.keep [0, 3, 4, 5, 6, 7] (.ops [⟨0, some 38, .mv (.tmp 5), none, []⟩, ⟨1, some 39, .mv (.tmp 0), none, []⟩, ⟨2, some 40, .call n_w_toFloat32S [.tmp 39], none, []⟩, ⟨3, some 41, .call n_w_eqFloat32S [.tmp 38, .tmp 40], none, []⟩, ⟨4, some 42, .un .not (.tmp 41), none, []⟩]))
  (.cond (.tmp 42) (.seq (.keep [] (.ops [⟨0, some 2, .mv (.const (.bool false)), none, []⟩]))
  (.ret)) (.skip)))
  (.seq (.keep [0, 3, 4, 5, 6, 7] (.ops [⟨0, some 8, .mv (.const (.int .i64 1)), none, []⟩]))
  (.seq (.ops [⟨0, some 43, .mv (.tmp 5), none, []⟩, ⟨1, some 44, .mv (.tmp 8), none, []⟩, ⟨2, some 45, .call n_w_markFloat32S [.tmp 43, .tmp 44], none, []⟩, ⟨3, some 8, .mv (.tmp 45), none, []⟩])
  (.seq (.seq (.ops [⟨0, some 46, .mv (.tmp 8), none, []⟩, ⟨1, some 47, .bin .lss (.tmp 46) (.const (.int .i64 0)), none, []⟩, ⟨2, some 48, .mv (.tmp 47), none, []⟩, ⟨3, some 49, .mv (.tmp 6), (some (48, false)), []⟩, ⟨4, some 50, .mv (.tmp 3), (some (48, false)), []⟩, ⟨5, some 51, .call n_w_eqInt64S [.tmp 49, .tmp 50], (some (48, false)), []⟩, ⟨6, some 52, .un .not (.tmp 51), (some (48, false)), []⟩, ⟨7, some 53, .pick (.tmp 48) (.const (.bool true)) (.tmp 52), none, []⟩, ⟨8, some 54, .mv (.tmp 53), none, []⟩, ⟨9, some 55, .mv (.tmp 7), (some (54, false)), []⟩, ⟨10, some 56, .mv (.tmp 4), (some (54, false)), []⟩, ⟨11, some 57, .beq true (.tmp 55) (.tmp 56), (some (54, false)), []⟩, ⟨12, some 58, .pick (.tmp 54) (.const (.bool true)) (.tmp 57), none, []⟩])
  (.cond (.tmp 58) (.seq (.keep [] (.ops [⟨0, some 2, .mv (.const (.bool false)), none, []⟩]))
  (.ret)) (.skip)))
  (.seq (.keep [0, 3, 4, 6] (.ops [⟨0, some 9, .mv (.const (.int .i64 1)), none, []⟩]))
  (.seq (.ops [⟨0, some 59, .mv (.tmp 6), none, []⟩, ⟨1, some 60, .mv (.tmp 9), none, []⟩, ⟨2, some 61, .call n_w_markInt64S [.tmp 59, .tmp 60], none, []⟩, ⟨3, some 9, .mv (.tmp 61), none, []⟩])
  (.seq (.ops [⟨0, some 10, .mv (.const (.int .i64 1)), none, []⟩])
  (.seq (.ops [⟨0, some 62, .mv (.tmp 6), none, []⟩, ⟨1, some 63, .mv (.tmp 10), none, []⟩, ⟨2, some 64, .call n_w_heldInt64S [.tmp 62, .tmp 63], none, []⟩, ⟨3, some 10, .mv (.tmp 64), none, []⟩])
  (.seq (.seq (.keep [0, 3, 4, 6, 9, 10] (.ops [⟨0, some 65, .mv (.tmp 10), none, []⟩, ⟨1, some 66, .bin .lss (.tmp 65) (.const (.int .i64 0)), none, []⟩]))
  (.cond (.tmp 66) (.seq (.keep [] (.ops [⟨0, some 2, .mv (.const (.bool false)), none, []⟩]))
  (.ret)) (.skip)))
  (.seq (.seq (.ops [⟨0, some 67, .mv (.tmp 10), none, []⟩, ⟨1, some 68, .mv (.tmp 9), none, []⟩, ⟨2, some 69, .bin .neq (.tmp 67) (.tmp 68), none, []⟩])
  (.cond (.tmp 69) (.seq (.keep [] (.ops [⟨0, some 2, .mv (.const (.bool false)), none, []⟩]))
  (.ret)) (.skip)))
  (.seq (.keep [0, 3, 4, 6, 9] (.ops [⟨0, some 71, .mv (.tmp 0), none, []⟩, ⟨1, some 72, .call n_w_toFloat32S [.tmp 71], none, []⟩, ⟨2, some 73, .call n_i_MaximaOf [.tmp 72], none, []⟩, ⟨3, some 70, .mv (.tmp 73), none, []⟩, ⟨4, some 74, .ext (.tmp 70) 0, none, []⟩, ⟨5, some 75, .ext (.tmp 70) 1, none, []⟩, ⟨6, some 11, .mv (.tmp 74), none, []⟩, ⟨7, some 12, .mv (.tmp 75), none, []⟩]))
  (.seq (.seq (.keep [3, 4, 6, 9, 11, 12] (.ops [⟨0, some 76, .mv (.tmp 11), none, []⟩, ⟨1, some 77, .mv (.tmp 3), none, []⟩, ⟨2, some 78, .call n_w_eqInt64S [.tmp 76, .tmp 77], none, []⟩, ⟨3, some 79, .un .not (.tmp 78), none, []⟩, ⟨4, some 80, .mv (.tmp 79), none, []⟩, ⟨5, some 81, .mv (.tmp 12), (some (80, false)), []⟩, ⟨6, some 82, .mv (.tmp 4), (some (80, false)), []⟩, ⟨7, some 83, .beq true (.tmp 81) (.tmp 82), (some (80, false)), []⟩, ⟨8, some 84, .pick (.tmp 80) (.const (.bool true)) (.tmp 83), none, []⟩]))
  (.cond (.tmp 84) (.seq (.keep [] (.ops [⟨0, some 2, .mv (.const (.bool false)), none, []⟩]))
  (.ret)) (.skip)))
  (.seq (.keep [6, 9] (.ops [⟨0, some 10, .mv (.const (.int .i64 1)), none, []⟩]))
  (.seq (.ops [⟨0, some 85, .mv (.tmp 6), none, []⟩, ⟨1, some 86, .mv (.tmp 10), none, []⟩, ⟨2, some 87, .call n_w_heldInt64S [.tmp 85, .tmp 86], none, []⟩, ⟨3, some 10, .mv (.tmp 87), none, []⟩])
  (.seq (.seq (.ops [⟨0, some 88, .mv (.tmp 10), none, []⟩, ⟨1, some 89, .bin .lss (.tmp 88) (.const (.int .i64 0)), none, []⟩])
  (.cond (.tmp 89) (.seq (.keep [] (.ops [⟨0, some 2, .mv (.const (.bool false)), none, []⟩]))
  (.ret)) (.skip)))
  (.seq (.seq (.keep [9, 10] (.ops [⟨0, some 90, .mv (.tmp 10), none, []⟩, ⟨1, some 91, .mv (.tmp 9), none, []⟩, ⟨2, some 92, .bin .neq (.tmp 90) (.tmp 91), none, []⟩]))
  (.cond (.tmp 92) (.seq (.keep [] (.ops [⟨0, some 2, .mv (.const (.bool false)), none, []⟩]))
  (.ret)) (.skip)))
  (.seq (.keep [] (.ops [⟨0, some 2, .mv (.const (.bool true)), none, []⟩]))
  (.ret)))))))))))))))))))))))
theorem k_w_FnExactMaximaOf : FnOk Try.prog n_w_FnExactMaximaOf 1 c_w_FnExactMaximaOf [.tmp 2] := ⟨by kernel_rfl⟩
def c_w_sameFloat : ACode :=
  .seq (.ops [⟨0, some 4, .mv (.const (.bool false)), none, []⟩])
  (.seq (.seq (.ops [⟨0, some 5, .mv (.tmp 0), none, []⟩, ⟨1, some 6, .mv (.tmp 0), none, []⟩, ⟨2, some 7, .bin .neq (.tmp 5) (.tmp 6), none, []⟩, ⟨3, some 8, .mv (.tmp 7), none, []⟩, ⟨4, some 9, .mv (.tmp 1), (some (8, false)), []⟩, ⟨5, some 10, .mv (.tmp 1), (some (8, false)), []⟩, ⟨6, some 11, .bin .neq (.tmp 9) (.tmp 10), (some (8, false)), []⟩, ⟨7, some 12, .pick (.tmp 8) (.const (.bool true)) (.tmp 11), none, []⟩])
  (.cond (.tmp 12) (.seq (.keep [0, 1] (.ops [⟨0, some 13, .mv (.tmp 0), none, []⟩, ⟨1, some 14, .mv (.tmp 0), none, []⟩, ⟨2, some 15, .bin .neq (.tmp 13) (.tmp 14), none, []⟩, ⟨3, some 16, .mv (.tmp 15), none, []⟩, ⟨4, some 17, .mv (.tmp 1), (some (16, true)), []⟩, ⟨5, some 18, .mv (.tmp 1), (some (16, true)), []⟩, ⟨6, some 19, .bin .neq (.tmp 17) (.tmp 18), (some (16, true)), []⟩, ⟨7, some 20, .pick (.tmp 16) (.tmp 19) (.const (.bool false)), none, []⟩, ⟨8, some 4, .mv (.tmp 20), none, []⟩]))
  (.ret)) (.skip)))
  (.seq (.seq (.keep [0, 1] (.ops [⟨0, some 21, .mv (.tmp 0), none, []⟩, ⟨1, some 22, .bin .eql (.tmp 21) (.const (.float .f64 0)), none, []⟩, ⟨2, some 23, .mv (.tmp 22), none, []⟩, ⟨3, some 24, .mv (.tmp 1), (some (23, true)), []⟩, ⟨4, some 25, .bin .eql (.tmp 24) (.const (.float .f64 0)), (some (23, true)), []⟩, ⟨5, some 26, .pick (.tmp 23) (.tmp 25) (.const (.bool false)), none, []⟩]))
  (.cond (.tmp 26) (.seq (.keep [0, 1] (.ops [⟨0, some 27, .mv (.tmp 0), none, []⟩, ⟨1, some 28, .bin .quo (.const (.float .f64 4607182418800017408)) (.tmp 27), none, []⟩, ⟨2, some 29, .bin .gtr (.tmp 28) (.const (.float .f64 0)), none, []⟩, ⟨3, some 30, .mv (.tmp 1), none, []⟩, ⟨4, some 31, .bin .quo (.const (.float .f64 4607182418800017408)) (.tmp 30), none, []⟩, ⟨5, some 32, .bin .gtr (.tmp 31) (.const (.float .f64 0)), none, []⟩, ⟨6, some 33, .beq false (.tmp 29) (.tmp 32), none, []⟩, ⟨7, some 4, .mv (.tmp 33), none, []⟩]))
  (.ret)) (.skip)))
  (.seq (.keep [0, 1] (.ops [⟨0, some 34, .mv (.tmp 0), none, []⟩, ⟨1, some 35, .mv (.tmp 1), none, []⟩, ⟨2, some 36, .bin .eql (.tmp 34) (.tmp 35), none, []⟩, ⟨3, some 4, .mv (.tmp 36), none, []⟩]))
  (.ret))))
theorem k_w_sameFloat : FnOk Try.prog n_w_sameFloat 2 c_w_sameFloat [.tmp 4] := ⟨by kernel_rfl⟩
def c_s_MaximaOf : ACode :=
  .seq (.ops [⟨0, some 2, .mv (.const (.slice none 0 0)), none, []⟩, ⟨1, some 3, .mv (.const (.bool false)), none, []⟩])
  (.seq (.seq (.ops [⟨0, some 4, .mv (.tmp 0), none, []⟩, ⟨1, some 5, .call n_s_l03Long [.tmp 4], none, []⟩, ⟨2, some 6, .un .not (.tmp 5), none, []⟩])
  (.cond (.tmp 6) (.seq (.keep [] (.ops [⟨0, some 2, .mv (.const (.slice none 0 0)), none, []⟩, ⟨1, some 3, .mv (.const (.bool false)), none, []⟩]))
  (.ret)) (.skip)))
  (.seq (.keep [0] (.ops [⟨0, some 7, .mv (.tmp 0), none, []⟩, ⟨1, some 8, .call n_s_l03Maxima [.tmp 7], none, []⟩, ⟨2, some 2, .mv (.tmp 8), none, []⟩, ⟨3, some 3, .mv (.const (.bool true)), none, []⟩]))
  (.ret)))
theorem k_s_MaximaOf : FnOk Try.prog n_s_MaximaOf 1 c_s_MaximaOf [.tmp 2, .tmp 3] := ⟨by kernel_rfl⟩
def c_w_toFloat32S : ACode :=
  .seq (.ops [⟨0, some 2, .mv (.const (.slice none 0 0)), none, []⟩])
  (.seq (.ops [⟨0, some 5, .mv (.tmp 0), none, []⟩, ⟨1, some 6, .len (.tmp 5), none, []⟩, ⟨2, some 7, .mks 63 4 (.float .f32 0) (.tmp 6) (.tmp 6), none, []⟩, ⟨3, some 3, .mv (.tmp 7), none, []⟩])
  (.seq (.seq (.ops [⟨0, some 4, .mv (.const (.int .i64 0)), none, []⟩])
  (.block 0 (.loop [0, 3, 4] (.seq (.seq (.ops [⟨0, some 8, .mv (.tmp 4), none, []⟩, ⟨1, some 9, .mv (.tmp 0), none, []⟩, ⟨2, some 10, .len (.tmp 9), none, []⟩, ⟨3, some 11, .bin .lss (.tmp 8) (.tmp 10), none, []⟩])
  (.cond (.tmp 11) (.skip) (.exit 0)))
  (.seq (.block 1 (.ops [⟨0, some 14, .mv (.tmp 3), none, []⟩, ⟨1, some 15, .mv (.tmp 4), none, []⟩, ⟨2, some 16, .mv (.tmp 0), none, []⟩, ⟨3, some 17, .mv (.tmp 4), none, []⟩, ⟨4, some 18, .ia (.tmp 16) (.tmp 17), none, []⟩, ⟨5, some 19, .ld (.tmp 18), none, []⟩, ⟨6, some 20, .ia (.tmp 14) (.tmp 15), none, []⟩, ⟨7, none, .st (.tmp 20) (.tmp 19), none, []⟩]))
  (.keep [0, 3, 4] (.ops [⟨0, some 12, .mv (.tmp 4), none, []⟩, ⟨1, some 13, .bin .add (.tmp 12) (.const (.int .i64 1)), none, []⟩, ⟨2, some 4, .mv (.tmp 13), none, []⟩])))))))
  (.seq (.keep [3] (.ops [⟨0, some 21, .mv (.tmp 3), none, []⟩, ⟨1, some 2, .mv (.tmp 21), none, []⟩]))
  (.ret))))
theorem k_w_toFloat32S : FnOk Try.prog n_w_toFloat32S 1 c_w_toFloat32S [.tmp 2] := ⟨by kernel_rfl⟩
def c_i_MaximaOf : ACode :=
  .seq (.ops [⟨0, some 2, .mv (.const (.slice none 0 0)), none, []⟩, ⟨1, some 3, .mv (.const (.bool false)), none, []⟩])
  (.seq (.seq (.ops [⟨0, some 4, .mv (.tmp 0), none, []⟩, ⟨1, some 5, .call n_i_isLong [.tmp 4], none, []⟩, ⟨2, some 6, .un .not (.tmp 5), none, []⟩])
  (.cond (.tmp 6) (.seq (.keep [] (.ops [⟨0, some 2, .mv (.const (.slice none 0 0)), none, []⟩, ⟨1, some 3, .mv (.const (.bool false)), none, []⟩]))
  (.ret)) (.skip)))
  (.seq (.keep [0] (.ops [⟨0, some 7, .mv (.tmp 0), none, []⟩, ⟨1, some 8, .call n_i_maximaOf [.tmp 7], none, []⟩, ⟨2, some 2, .mv (.tmp 8), none, []⟩, ⟨3, some 3, .mv (.const (.bool true)), none, []⟩]))
  (.ret)))
theorem k_i_MaximaOf : FnOk Try.prog n_i_MaximaOf 1 c_i_MaximaOf [.tmp 2, .tmp 3] := ⟨by kernel_rfl⟩
def c_w_eqInt64S : ACode :=
  .seq (.ops [⟨0, some 4, .mv (.const (.bool false)), none, []⟩])
  (.seq (.seq (.ops [⟨0, some 6, .mv (.tmp 0), none, []⟩, ⟨1, some 7, .len (.tmp 6), none, []⟩, ⟨2, some 8, .mv (.tmp 1), none, []⟩, ⟨3, some 9, .len (.tmp 8), none, []⟩, ⟨4, some 10, .bin .neq (.tmp 7) (.tmp 9), none, []⟩])
  (.cond (.tmp 10) (.seq (.keep [] (.ops [⟨0, some 4, .mv (.const (.bool false)), none, []⟩]))
  (.ret)) (.skip)))
  (.seq (.seq (.keep [0, 1] (.ops [⟨0, some 5, .mv (.const (.int .i64 0)), none, []⟩]))
  (.block 0 (.loop [0, 1, 5] (.seq (.seq (.ops [⟨0, some 11, .mv (.tmp 5), none, []⟩, ⟨1, some 12, .mv (.tmp 0), none, []⟩, ⟨2, some 13, .len (.tmp 12), none, []⟩, ⟨3, some 14, .bin .lss (.tmp 11) (.tmp 13), none, []⟩])
  (.cond (.tmp 14) (.skip) (.exit 0)))
  (.seq (.block 1 (.seq (.ops [⟨0, some 17, .mv (.tmp 0), none, []⟩, ⟨1, some 18, .mv (.tmp 5), none, []⟩, ⟨2, some 19, .ia (.tmp 17) (.tmp 18), none, []⟩, ⟨3, some 20, .ld (.tmp 19), none, []⟩, ⟨4, some 21, .mv (.tmp 1), none, []⟩, ⟨5, some 22, .mv (.tmp 5), none, []⟩, ⟨6, some 23, .ia (.tmp 21) (.tmp 22), none, []⟩, ⟨7, some 24, .ld (.tmp 23), none, []⟩, ⟨8, some 25, .bin .neq (.tmp 20) (.tmp 24), none, []⟩])
  (.cond (.tmp 25) (.seq (.keep [] (.ops [⟨0, some 4, .mv (.const (.bool false)), none, []⟩]))
  (.ret)) (.skip))))
  (.keep [0, 1, 5] (.ops [⟨0, some 15, .mv (.tmp 5), none, []⟩, ⟨1, some 16, .bin .add (.tmp 15) (.const (.int .i64 1)), none, []⟩, ⟨2, some 5, .mv (.tmp 16), none, []⟩])))))))
  (.seq (.keep [] (.ops [⟨0, some 4, .mv (.const (.bool true)), none, []⟩]))
  (.ret))))
theorem k_w_eqInt64S : FnOk Try.prog n_w_eqInt64S 2 c_w_eqInt64S [.tmp 4] := ⟨by kernel_rfl⟩
def c_w_eqFloat32S : ACode :=
  .seq (.ops [⟨0, some 4, .mv (.const (.bool false)), none, []⟩])
  (.seq (.seq (.ops [⟨0, some 6, .mv (.tmp 0), none, []⟩, ⟨1, some 7, .len (.tmp 6), none, []⟩, ⟨2, some 8, .mv (.tmp 1), none, []⟩, ⟨3, some 9, .len (.tmp 8), none, []⟩, ⟨4, some 10, .bin .neq (.tmp 7) (.tmp 9), none, []⟩])
  (.cond (.tmp 10) (.seq (.keep [] (.ops [⟨0, some 4, .mv (.const (.bool false)), none, []⟩]))
  (.ret)) (.skip)))
  (.seq (.seq (.keep [0, 1] (.ops [⟨0, some 5, .mv (.const (.int .i64 0)), none, []⟩]))
  (.block 0 (.loop [0, 1, 5] (.seq (.seq (.ops [⟨0, some 11, .mv (.tmp 5), none, []⟩, ⟨1, some 12, .mv (.tmp 0), none, []⟩, ⟨2, some 13, .len (.tmp 12), none, []⟩, ⟨3, some 14, .bin .lss (.tmp 11) (.tmp 13), none, []⟩])
  (.cond (.tmp 14) (.skip) (.exit 0)))
  (.seq (.block 1 (.seq (.ops [⟨0, some 17, .mv (.tmp 0), none, []⟩, ⟨1, some 18, .mv (.tmp 5), none, []⟩, ⟨2, some 19, .ia (.tmp 17) (.tmp 18), none, []⟩, ⟨3, some 20, .ld (.tmp 19), none, []⟩, ⟨4, some 21, .cv (.f .f64) (.tmp 20), none, []⟩, ⟨5, some 22, .mv (.tmp 1), none, []⟩, ⟨6, some 23, .mv (.tmp 5), none, []⟩, ⟨7, some 24, .ia (.tmp 22) (.tmp 23), none, []⟩, ⟨8, some 25, .ld (.tmp 24), none, []⟩, ⟨9, some 26, .cv (.f .f64) (.tmp 25), none, []⟩, ⟨10, some 27, .call n_w_sameFloat [.tmp 21, .tmp 26], none, []⟩, ⟨11, some 28, .un .not (.tmp 27), none, []⟩])
  (.cond (.tmp 28) (.seq (.keep [] (.ops [⟨0, some 4, .mv (.const (.bool false)), none, []⟩]))
  (.ret)) (.skip))))
  (.keep [0, 1, 5] (.ops [⟨0, some 15, .mv (.tmp 5), none, []⟩, ⟨1, some 16, .bin .add (.tmp 15) (.const (.int .i64 1)), none, []⟩, ⟨2, some 5, .mv (.tmp 16), none, []⟩])))))))
  (.seq (.keep [] (.ops [⟨0, some 4, .mv (.const (.bool true)), none, []⟩]))
  (.ret))))
theorem k_w_eqFloat32S : FnOk Try.prog n_w_eqFloat32S 2 c_w_eqFloat32S [.tmp 4] := ⟨by kernel_rfl⟩
def c_w_markFloat32S : ACode :=
  .seq (.ops [⟨0, some 4, .mv (.const (.int .i64 0)), none, []⟩])
  (.seq (.seq (.ops [⟨0, some 5, .mv (.const (.int .i64 0)), none, []⟩])
  (.block 0 (.loop [0, 1, 5] (.seq (.seq (.ops [⟨0, some 6, .mv (.tmp 5), none, []⟩, ⟨1, some 7, .mv (.tmp 0), none, []⟩, ⟨2, some 8, .len (.tmp 7), none, []⟩, ⟨3, some 9, .bin .lss (.tmp 6) (.tmp 8), none, []⟩])
  (.cond (.tmp 9) (.skip) (.exit 0)))
  (.seq (.block 1 (.seq (.ops [⟨0, some 12, .mv (.tmp 0), none, []⟩, ⟨1, some 13, .mv (.tmp 5), none, []⟩, ⟨2, some 14, .mv (.tmp 1), none, []⟩, ⟨3, some 15, .cv (.f .f32) (.tmp 14), none, []⟩, ⟨4, some 16, .ia (.tmp 12) (.tmp 13), none, []⟩, ⟨5, none, .st (.tmp 16) (.tmp 15), none, []⟩])
  (.keep [0, 1, 5] (.ops [⟨0, some 17, .mv (.tmp 1), none, []⟩, ⟨1, some 18, .bin .add (.tmp 17) (.const (.int .i64 1)), none, []⟩, ⟨2, some 1, .mv (.tmp 18), none, []⟩]))))
  (.ops [⟨0, some 10, .mv (.tmp 5), none, []⟩, ⟨1, some 11, .bin .add (.tmp 10) (.const (.int .i64 1)), none, []⟩, ⟨2, some 5, .mv (.tmp 11), none, []⟩]))))))
  (.seq (.keep [1] (.ops [⟨0, some 19, .mv (.tmp 1), none, []⟩, ⟨1, some 4, .mv (.tmp 19), none, []⟩]))
  (.ret)))
theorem k_w_markFloat32S : FnOk Try.prog n_w_markFloat32S 2 c_w_markFloat32S [.tmp 4] := ⟨by kernel_rfl⟩
def c_w_markInt64S : ACode :=
  .seq (.ops [⟨0, some 4, .mv (.const (.int .i64 0)), none, []⟩])
  (.seq (.seq (.ops [⟨0, some 5, .mv (.const (.int .i64 0)), none, []⟩])
  (.block 0 (.loop [0, 1, 5] (.seq (.seq (.ops [⟨0, some 6, .mv (.tmp 5), none, []⟩, ⟨1, some 7, .mv (.tmp 0), none, []⟩, ⟨2, some 8, .len (.tmp 7), none, []⟩, ⟨3, some 9, .bin .lss (.tmp 6) (.tmp 8), none, []⟩])
  (.cond (.tmp 9) (.skip) (.exit 0)))
  (.seq (.block 1 (.seq (.ops [⟨0, some 12, .mv (.tmp 0), none, []⟩, ⟨1, some 13, .mv (.tmp 5), none, []⟩, ⟨2, some 14, .mv (.tmp 1), none, []⟩, ⟨3, some 15, .ia (.tmp 12) (.tmp 13), none, []⟩, ⟨4, none, .st (.tmp 15) (.tmp 14), none, []⟩])
  (.keep [0, 1, 5] (.ops [⟨0, some 16, .mv (.tmp 1), none, []⟩, ⟨1, some 17, .bin .add (.tmp 16) (.const (.int .i64 1)), none, []⟩, ⟨2, some 1, .mv (.tmp 17), none, []⟩]))))
  (.ops [⟨0, some 10, .mv (.tmp 5), none, []⟩, ⟨1, some 11, .bin .add (.tmp 10) (.const (.int .i64 1)), none, []⟩, ⟨2, some 5, .mv (.tmp 11), none, []⟩]))))))
  (.seq (.keep [1] (.ops [⟨0, some 18, .mv (.tmp 1), none, []⟩, ⟨1, some 4, .mv (.tmp 18), none, []⟩]))
  (.ret)))
theorem k_w_markInt64S : FnOk Try.prog n_w_markInt64S 2 c_w_markInt64S [.tmp 4] := ⟨by kernel_rfl⟩
def c_w_heldInt64S : ACode :=
  .seq (.ops [⟨0, some 4, .mv (.const (.int .i64 0)), none, []⟩])
  (.seq (.seq (.ops [⟨0, some 5, .mv (.const (.int .i64 0)), none, []⟩])
  (.block 0 (.loop [0, 1, 5] (.seq (.seq (.ops [⟨0, some 6, .mv (.tmp 5), none, []⟩, ⟨1, some 7, .mv (.tmp 0), none, []⟩, ⟨2, some 8, .len (.tmp 7), none, []⟩, ⟨3, some 9, .bin .lss (.tmp 6) (.tmp 8), none, []⟩])
  (.cond (.tmp 9) (.skip) (.exit 0)))
  (.seq (.block 1 (.seq (.seq (.ops [⟨0, some 12, .mv (.tmp 0), none, []⟩, ⟨1, some 13, .mv (.tmp 5), none, []⟩, ⟨2, some 14, .ia (.tmp 12) (.tmp 13), none, []⟩, ⟨3, some 15, .ld (.tmp 14), none, []⟩, ⟨4, some 16, .mv (.tmp 1), none, []⟩, ⟨5, some 17, .bin .neq (.tmp 15) (.tmp 16), none, []⟩])
  (.cond (.tmp 17) (.seq (.keep [] (.ops [⟨0, some 4, .mv (.const (.int .i64 (-1))), none, []⟩]))
  (.ret)) (.skip)))
  (.keep [0, 1, 5] (.ops [⟨0, some 18, .mv (.tmp 1), none, []⟩, ⟨1, some 19, .bin .add (.tmp 18) (.const (.int .i64 1)), none, []⟩, ⟨2, some 1, .mv (.tmp 19), none, []⟩]))))
  (.ops [⟨0, some 10, .mv (.tmp 5), none, []⟩, ⟨1, some 11, .bin .add (.tmp 10) (.const (.int .i64 1)), none, []⟩, ⟨2, some 5, .mv (.tmp 11), none, []⟩]))))))
  (.seq (.keep [1] (.ops [⟨0, some 20, .mv (.tmp 1), none, []⟩, ⟨1, some 4, .mv (.tmp 20), none, []⟩]))
  (.ret)))
theorem k_w_heldInt64S : FnOk Try.prog n_w_heldInt64S 2 c_w_heldInt64S [.tmp 4] := ⟨by kernel_rfl⟩
def c_i_within : ACode :=
  .seq (.ops [⟨0, some 6, .mv (.const (.bool false)), none, []⟩])
  (.seq (.ops [⟨0, some 7, .mv (.tmp 0), none, []⟩, ⟨1, some 8, .mv (.tmp 1), none, []⟩, ⟨2, some 9, .bin .geq (.tmp 7) (.tmp 8), none, []⟩, ⟨3, some 10, .mv (.tmp 9), none, []⟩, ⟨4, some 11, .mv (.tmp 0), (some (10, true)), []⟩, ⟨5, some 12, .mv (.tmp 2), (some (10, true)), []⟩, ⟨6, some 13, .bin .leq (.tmp 11) (.tmp 12), (some (10, true)), []⟩, ⟨7, some 14, .pick (.tmp 10) (.tmp 13) (.const (.bool false)), none, []⟩, ⟨8, some 6, .mv (.tmp 14), none, []⟩])
  (.ret))
theorem k_i_within : FnOk Try.prog n_i_within 3 c_i_within [.tmp 6] := ⟨by kernel_rfl⟩
def c_i_areFinite : ACode :=
  .seq (.ops [⟨0, some 2, .mv (.const (.bool false)), none, []⟩])
  (.seq (.seq (.ops [⟨0, some 7, .mv (.tmp 0), none, []⟩, ⟨1, some 8, .len (.tmp 7), none, []⟩, ⟨2, some 9, .mv (.const (.int .i64 0)), none, []⟩])
  (.block 0 (.loop [7, 8, 9] (.seq (.ops [⟨0, some 10, .bin .lss (.tmp 9) (.tmp 8), none, []⟩])
  (.seq (.cond (.tmp 10) (.skip) (.exit 0))
  (.seq (.block 1 (.seq (.ops [⟨0, some 11, .ia (.tmp 7) (.tmp 9), none, []⟩, ⟨1, some 12, .ld (.tmp 11), none, []⟩, ⟨2, some 4, .mv (.tmp 12), none, []⟩])
  (.seq (.ops [⟨0, some 13, .mv (.tmp 4), none, []⟩, ⟨1, some 14, .len (.tmp 13), none, []⟩, ⟨2, some 15, .mv (.const (.int .i64 0)), none, []⟩])
  (.block 2 (.loop [7, 8, 9, 13, 14, 15] (.seq (.ops [⟨0, some 16, .bin .lss (.tmp 15) (.tmp 14), none, []⟩])
  (.seq (.cond (.tmp 16) (.skip) (.exit 2))
  (.seq (.block 3 (.seq (.ops [⟨0, some 17, .ia (.tmp 13) (.tmp 15), none, []⟩, ⟨1, some 18, .ld (.tmp 17), none, []⟩, ⟨2, some 6, .mv (.tmp 18), none, []⟩])
  (.seq (.ops [⟨0, some 19, .mv (.tmp 6), none, []⟩, ⟨1, some 20, .call n_i_IsFinite [.tmp 19], none, []⟩, ⟨2, some 21, .un .not (.tmp 20), none, []⟩])
  (.cond (.tmp 21) (.seq (.keep [] (.ops [⟨0, some 2, .mv (.const (.bool false)), none, []⟩]))
  (.ret)) (.skip)))))
  (.keep [7, 8, 9, 13, 14, 15] (.ops [⟨0, some 22, .bin .add (.tmp 15) (.const (.int .i64 1)), none, []⟩, ⟨1, some 15, .mv (.tmp 22), none, []⟩]))))))))))
  (.ops [⟨0, some 23, .bin .add (.tmp 9) (.const (.int .i64 1)), none, []⟩, ⟨1, some 9, .mv (.tmp 23), none, []⟩])))))))
  (.seq (.ops [⟨0, some 2, .mv (.const (.bool true)), none, []⟩])
  (.ret)))
theorem k_i_areFinite : FnOk Try.prog n_i_areFinite 1 c_i_areFinite [.tmp 2] := ⟨by kernel_rfl⟩
def c_i_size : ACode :=
  .seq (.ops [⟨0, some 2, .mv (.const (.float .f32 0)), none, []⟩])
  (.seq (.seq (.ops [⟨0, some 3, .mv (.tmp 0), none, []⟩, ⟨1, some 4, .bin .lss (.tmp 3) (.const (.float .f32 0)), none, []⟩])
  (.cond (.tmp 4) (.seq (.ops [⟨0, some 5, .mv (.tmp 0), none, []⟩, ⟨1, some 6, .un .neg (.tmp 5), none, []⟩, ⟨2, some 2, .mv (.tmp 6), none, []⟩])
  (.ret)) (.skip)))
  (.seq (.seq (.ops [⟨0, some 7, .mv (.tmp 0), none, []⟩, ⟨1, some 8, .bin .eql (.tmp 7) (.const (.float .f32 0)), none, []⟩])
  (.cond (.tmp 8) (.seq (.keep [] (.ops [⟨0, some 2, .mv (.const (.float .f32 0)), none, []⟩]))
  (.ret)) (.skip)))
  (.seq (.keep [0] (.ops [⟨0, some 9, .mv (.tmp 0), none, []⟩, ⟨1, some 2, .mv (.tmp 9), none, []⟩]))
  (.ret))))
theorem k_i_size : FnOk Try.prog n_i_size 1 c_i_size [.tmp 2] := ⟨by kernel_rfl⟩
def c_i_isLong : ACode :=
  .seq (.ops [⟨0, some 2, .mv (.const (.bool false)), none, []⟩])
  (.seq (.ops [⟨0, some 3, .mv (.tmp 0), none, []⟩, ⟨1, some 4, .len (.tmp 3), none, []⟩, ⟨2, some 5, .call n_i_within [.tmp 4, .const (.int .i64 1), .const (.int .i64 128)], none, []⟩, ⟨3, some 6, .mv (.tmp 5), none, []⟩, ⟨4, some 7, .mv (.tmp 0), (some (6, true)), []⟩, ⟨5, some 8, .bsl 22 1 (.slice none 0 0) [(0, .tmp 7)], (some (6, true)), []⟩, ⟨6, some 9, .call n_i_areFinite [.tmp 8], (some (6, true)), []⟩, ⟨7, some 10, .pick (.tmp 6) (.tmp 9) (.const (.bool false)), none, []⟩, ⟨8, some 2, .mv (.tmp 10), none, []⟩])
  (.ret))
theorem k_i_isLong : FnOk Try.prog n_i_isLong 1 c_i_isLong [.tmp 2] := ⟨by kernel_rfl⟩
def c_s_l01Finite : ACode :=
  .seq (.ops [⟨0, some 2, .mv (.const (.bool false)), none, []⟩])
  (.seq (.ops [⟨0, some 3, .mv (.tmp 0), none, []⟩, ⟨1, some 4, .mv (.tmp 0), none, []⟩, ⟨2, some 5, .bin .sub (.tmp 3) (.tmp 4), none, []⟩, ⟨3, some 6, .bin .eql (.tmp 5) (.const (.float .f32 0)), none, []⟩, ⟨4, some 2, .mv (.tmp 6), none, []⟩])
  (.ret))
theorem k_s_l01Finite : FnOk Try.prog n_s_l01Finite 1 c_s_l01Finite [.tmp 2] := ⟨by kernel_rfl⟩
def c_i_IsFinite : ACode :=
  .seq (.ops [⟨0, some 2, .mv (.const (.bool false)), none, []⟩])
  (.seq (.ops [⟨0, some 3, .mv (.tmp 0), none, []⟩, ⟨1, some 4, .mv (.tmp 0), none, []⟩, ⟨2, some 5, .bin .sub (.tmp 3) (.tmp 4), none, []⟩, ⟨3, some 6, .bin .eql (.tmp 5) (.const (.float .f32 0)), none, []⟩, ⟨4, some 2, .mv (.tmp 6), none, []⟩])
  (.ret))
theorem k_i_IsFinite : FnOk Try.prog n_i_IsFinite 1 c_i_IsFinite [.tmp 2] := ⟨by kernel_rfl⟩
def c_s_l03Long : ACode :=
  .seq (.ops [⟨0, some 2, .mv (.const (.bool false)), none, []⟩])
  (.seq (.ops [⟨0, some 3, .mv (.tmp 0), none, []⟩, ⟨1, some 4, .len (.tmp 3), none, []⟩, ⟨2, some 5, .bin .geq (.tmp 4) (.const (.int .i64 1)), none, []⟩, ⟨3, some 6, .mv (.tmp 5), none, []⟩, ⟨4, some 7, .mv (.tmp 0), (some (6, true)), []⟩, ⟨5, some 8, .len (.tmp 7), (some (6, true)), []⟩, ⟨6, some 9, .bin .leq (.tmp 8) (.const (.int .i64 128)), (some (6, true)), []⟩, ⟨7, some 10, .pick (.tmp 6) (.tmp 9) (.const (.bool false)), none, []⟩, ⟨8, some 11, .mv (.tmp 10), none, []⟩, ⟨9, some 12, .mv (.tmp 0), (some (11, true)), []⟩, ⟨10, some 13, .call n_s_l02Finite [.tmp 12], (some (11, true)), []⟩, ⟨11, some 14, .pick (.tmp 11) (.tmp 13) (.const (.bool false)), none, []⟩, ⟨12, some 2, .mv (.tmp 14), none, []⟩])
  (.ret))
theorem k_s_l03Long : FnOk Try.prog n_s_l03Long 1 c_s_l03Long [.tmp 2] := ⟨by kernel_rfl⟩
def c_s_l03Maxima : ACode :=
  .seq (.ops [⟨0, some 2, .mv (.const (.slice none 0 0)), none, []⟩])
  (.seq (.ops [⟨0, some 6, .bsl 2 0 (.int .i64 0) [], none, []⟩, ⟨1, some 3, .mv (.tmp 6), none, []⟩])
  (.seq (.seq (.ops [⟨0, some 7, .mv (.tmp 0), none, []⟩, ⟨1, some 8, .len (.tmp 7), none, []⟩, ⟨2, some 9, .mv (.const (.int .i64 0)), none, []⟩])
  (.block 0 (.loop [0, 3, 8, 9] (.seq (.ops [⟨0, some 10, .bin .lss (.tmp 9) (.tmp 8), none, []⟩])
  (.seq (.cond (.tmp 10) (.skip) (.exit 0))
  (.seq (.block 1 (.seq (.ops [⟨0, some 11, .mv (.tmp 9), none, []⟩, ⟨1, some 4, .mv (.tmp 11), none, []⟩])
  (.seq (.ops [⟨0, some 12, .mv (.tmp 0), none, []⟩, ⟨1, some 13, .mv (.tmp 4), none, []⟩, ⟨2, some 14, .ia (.tmp 12) (.tmp 13), none, []⟩, ⟨3, some 15, .ld (.tmp 14), none, []⟩, ⟨4, some 16, .call n_s_l03Size [.tmp 15], none, []⟩, ⟨5, some 5, .mv (.tmp 16), none, []⟩])
  (.seq (.keep [0, 3, 4, 5, 8, 9] (.ops [⟨0, some 17, .mv (.tmp 5), none, []⟩, ⟨1, some 18, .bin .gtr (.tmp 17) (.const (.float .f32 0)), none, []⟩, ⟨2, some 19, .mv (.tmp 18), none, []⟩, ⟨3, some 20, .mv (.tmp 4), (some (19, true)), []⟩, ⟨4, some 21, .bin .eql (.tmp 20) (.const (.int .i64 0)), (some (19, true)), []⟩, ⟨5, some 22, .mv (.tmp 21), (some (19, true)), []⟩, ⟨6, some 23, .mv (.tmp 5), (some (22, false)), []⟩, ⟨7, some 24, .mv (.tmp 0), (some (22, false)), []⟩, ⟨8, some 25, .mv (.tmp 4), (some (22, false)), []⟩, ⟨9, some 26, .bin .sub (.tmp 25) (.const (.int .i64 1)), (some (22, false)), []⟩, ⟨10, some 27, .ia (.tmp 24) (.tmp 26), (some (22, false)), []⟩, ⟨11, some 28, .ld (.tmp 27), (some (22, false)), []⟩, ⟨12, some 29, .call n_s_l03Size [.tmp 28], (some (22, false)), []⟩, ⟨13, some 30, .bin .gtr (.tmp 23) (.tmp 29), (some (22, false)), []⟩, ⟨14, some 31, .pick (.tmp 22) (.const (.bool true)) (.tmp 30), (some (19, true)), []⟩, ⟨15, some 32, .pick (.tmp 19) (.tmp 31) (.const (.bool false)), none, []⟩, ⟨16, some 33, .mv (.tmp 32), none, []⟩, ⟨17, some 34, .mv (.tmp 4), (some (33, true)), []⟩, ⟨18, some 35, .bin .add (.tmp 34) (.const (.int .i64 1)), (some (33, true)), []⟩, ⟨19, some 36, .mv (.tmp 0), (some (33, true)), []⟩, ⟨20, some 37, .len (.tmp 36), (some (33, true)), []⟩, ⟨21, some 38, .bin .eql (.tmp 35) (.tmp 37), (some (33, true)), []⟩, ⟨22, some 39, .mv (.tmp 38), (some (33, true)), []⟩, ⟨23, some 40, .mv (.tmp 5), (some (39, false)), []⟩, ⟨24, some 41, .mv (.tmp 0), (some (39, false)), []⟩, ⟨25, some 42, .mv (.tmp 4), (some (39, false)), []⟩, ⟨26, some 43, .bin .add (.tmp 42) (.const (.int .i64 1)), (some (39, false)), []⟩, ⟨27, some 44, .ia (.tmp 41) (.tmp 43), (some (39, false)), []⟩, ⟨28, some 45, .ld (.tmp 44), (some (39, false)), []⟩, ⟨29, some 46, .call n_s_l03Size [.tmp 45], (some (39, false)), []⟩, ⟨30, some 47, .bin .geq (.tmp 40) (.tmp 46), (some (39, false)), []⟩, ⟨31, some 48, .pick (.tmp 39) (.const (.bool true)) (.tmp 47), (some (33, true)), []⟩, ⟨32, some 49, .pick (.tmp 33) (.tmp 48) (.const (.bool false)), none, []⟩]))
  (.cond (.tmp 49) (.keep [0, 3, 4, 8, 9] (.ops [⟨0, some 50, .mv (.tmp 3), none, []⟩, ⟨1, some 51, .mv (.tmp 4), none, []⟩, ⟨2, some 52, .bsl 2 1 (.int .i64 0) [(0, .tmp 51)], none, []⟩, ⟨3, some 53, .app 2 8 (.tmp 50) (.tmp 52), none, []⟩, ⟨4, some 3, .mv (.tmp 53), none, []⟩])) (.skip))))))
  (.keep [0, 3, 8, 9] (.ops [⟨0, some 54, .bin .add (.tmp 9) (.const (.int .i64 1)), none, []⟩, ⟨1, some 9, .mv (.tmp 54), none, []⟩]))))))))
  (.seq (.ops [⟨0, some 55, .mv (.tmp 3), none, []⟩, ⟨1, some 2, .mv (.tmp 55), none, []⟩])
  (.ret))))
theorem k_s_l03Maxima : FnOk Try.prog n_s_l03Maxima 1 c_s_l03Maxima [.tmp 2] := ⟨by kernel_rfl⟩
def c_i_maximaOf : ACode :=
  .seq (.ops [⟨0, some 2, .mv (.const (.slice none 0 0)), none, []⟩])
  (.seq (.ops [⟨0, some 7, .bsl 2 0 (.int .i64 0) [], none, []⟩, ⟨1, some 3, .mv (.tmp 7), none, []⟩])
  (.seq (.seq (.ops [⟨0, some 8, .mv (.tmp 0), none, []⟩, ⟨1, some 9, .len (.tmp 8), none, []⟩, ⟨2, some 10, .mv (.const (.int .i64 0)), none, []⟩])
  (.block 0 (.loop [0, 3, 8, 9, 10] (.seq (.ops [⟨0, some 11, .bin .lss (.tmp 10) (.tmp 9), none, []⟩])
  (.seq (.cond (.tmp 11) (.skip) (.exit 0))
  (.seq (.block 1 (.seq (.ops [⟨0, some 12, .mv (.tmp 10), none, []⟩, ⟨1, some 13, .ia (.tmp 8) (.tmp 10), none, []⟩, ⟨2, some 14, .ld (.tmp 13), none, []⟩, ⟨3, some 4, .mv (.tmp 12), none, []⟩, ⟨4, some 5, .mv (.tmp 14), none, []⟩])
  (.seq (.ops [⟨0, some 15, .mv (.tmp 5), none, []⟩, ⟨1, some 16, .call n_i_size [.tmp 15], none, []⟩, ⟨2, some 6, .mv (.tmp 16), none, []⟩])
  (.seq (.keep [0, 3, 4, 6, 8, 9, 10] (.ops [⟨0, some 17, .mv (.tmp 6), none, []⟩, ⟨1, some 18, .bin .gtr (.tmp 17) (.const (.float .f32 0)), none, []⟩, ⟨2, some 19, .mv (.tmp 18), none, []⟩, ⟨3, some 20, .mv (.tmp 4), (some (19, true)), []⟩, ⟨4, some 21, .bin .eql (.tmp 20) (.const (.int .i64 0)), (some (19, true)), []⟩, ⟨5, some 22, .mv (.tmp 21), (some (19, true)), []⟩, ⟨6, some 23, .mv (.tmp 6), (some (22, false)), []⟩, ⟨7, some 24, .mv (.tmp 0), (some (22, false)), []⟩, ⟨8, some 25, .mv (.tmp 4), (some (22, false)), []⟩, ⟨9, some 26, .bin .sub (.tmp 25) (.const (.int .i64 1)), (some (22, false)), []⟩, ⟨10, some 27, .ia (.tmp 24) (.tmp 26), (some (22, false)), []⟩, ⟨11, some 28, .ld (.tmp 27), (some (22, false)), []⟩, ⟨12, some 29, .call n_i_size [.tmp 28], (some (22, false)), []⟩, ⟨13, some 30, .bin .gtr (.tmp 23) (.tmp 29), (some (22, false)), []⟩, ⟨14, some 31, .pick (.tmp 22) (.const (.bool true)) (.tmp 30), (some (19, true)), []⟩, ⟨15, some 32, .pick (.tmp 19) (.tmp 31) (.const (.bool false)), none, []⟩, ⟨16, some 33, .mv (.tmp 32), none, []⟩, ⟨17, some 34, .mv (.tmp 4), (some (33, true)), []⟩, ⟨18, some 35, .bin .add (.tmp 34) (.const (.int .i64 1)), (some (33, true)), []⟩, ⟨19, some 36, .mv (.tmp 0), (some (33, true)), []⟩, ⟨20, some 37, .len (.tmp 36), (some (33, true)), []⟩, ⟨21, some 38, .bin .eql (.tmp 35) (.tmp 37), (some (33, true)), []⟩, ⟨22, some 39, .mv (.tmp 38), (some (33, true)), []⟩, ⟨23, some 40, .mv (.tmp 6), (some (39, false)), []⟩, ⟨24, some 41, .mv (.tmp 0), (some (39, false)), []⟩, ⟨25, some 42, .mv (.tmp 4), (some (39, false)), []⟩, ⟨26, some 43, .bin .add (.tmp 42) (.const (.int .i64 1)), (some (39, false)), []⟩, ⟨27, some 44, .ia (.tmp 41) (.tmp 43), (some (39, false)), []⟩, ⟨28, some 45, .ld (.tmp 44), (some (39, false)), []⟩, ⟨29, some 46, .call n_i_size [.tmp 45], (some (39, false)), []⟩, ⟨30, some 47, .bin .geq (.tmp 40) (.tmp 46), (some (39, false)), []⟩, ⟨31, some 48, .pick (.tmp 39) (.const (.bool true)) (.tmp 47), (some (33, true)), []⟩, ⟨32, some 49, .pick (.tmp 33) (.tmp 48) (.const (.bool false)), none, []⟩]))
  (.cond (.tmp 49) (.keep [0, 3, 4, 8, 9, 10] (.ops [⟨0, some 50, .mv (.tmp 3), none, []⟩, ⟨1, some 51, .mv (.tmp 4), none, []⟩, ⟨2, some 52, .bsl 2 1 (.int .i64 0) [(0, .tmp 51)], none, []⟩, ⟨3, some 53, .app 2 8 (.tmp 50) (.tmp 52), none, []⟩, ⟨4, some 3, .mv (.tmp 53), none, []⟩])) (.skip))))))
  (.keep [0, 3, 8, 9, 10] (.ops [⟨0, some 54, .bin .add (.tmp 10) (.const (.int .i64 1)), none, []⟩, ⟨1, some 10, .mv (.tmp 54), none, []⟩]))))))))
  (.seq (.keep [3] (.ops [⟨0, some 55, .mv (.tmp 3), none, []⟩, ⟨1, some 2, .mv (.tmp 55), none, []⟩]))
  (.ret))))
theorem k_i_maximaOf : FnOk Try.prog n_i_maximaOf 1 c_i_maximaOf [.tmp 2] := ⟨by kernel_rfl⟩
def c_s_l02Finite : ACode :=
  .seq (.ops [⟨0, some 2, .mv (.const (.bool false)), none, []⟩])
  (.seq (.seq (.ops [⟨0, some 3, .mv (.const (.int .i64 0)), none, []⟩])
  (.block 0 (.loop [0, 3] (.seq (.seq (.ops [⟨0, some 4, .mv (.tmp 3), none, []⟩, ⟨1, some 5, .mv (.tmp 0), none, []⟩, ⟨2, some 6, .len (.tmp 5), none, []⟩, ⟨3, some 7, .bin .lss (.tmp 4) (.tmp 6), none, []⟩])
  (.cond (.tmp 7) (.skip) (.exit 0)))
  (.seq (.block 1 (.seq (.ops [⟨0, some 10, .mv (.tmp 0), none, []⟩, ⟨1, some 11, .mv (.tmp 3), none, []⟩, ⟨2, some 12, .ia (.tmp 10) (.tmp 11), none, []⟩, ⟨3, some 13, .ld (.tmp 12), none, []⟩, ⟨4, some 14, .call n_s_l01Finite [.tmp 13], none, []⟩, ⟨5, some 15, .un .not (.tmp 14), none, []⟩])
  (.cond (.tmp 15) (.seq (.keep [] (.ops [⟨0, some 2, .mv (.const (.bool false)), none, []⟩]))
  (.ret)) (.skip))))
  (.keep [0, 3] (.ops [⟨0, some 8, .mv (.tmp 3), none, []⟩, ⟨1, some 9, .bin .add (.tmp 8) (.const (.int .i64 1)), none, []⟩, ⟨2, some 3, .mv (.tmp 9), none, []⟩])))))))
  (.seq (.keep [] (.ops [⟨0, some 2, .mv (.const (.bool true)), none, []⟩]))
  (.ret)))
theorem k_s_l02Finite : FnOk Try.prog n_s_l02Finite 1 c_s_l02Finite [.tmp 2] := ⟨by kernel_rfl⟩
def c_s_l03Size : ACode :=
  .seq (.ops [⟨0, some 2, .mv (.const (.float .f32 0)), none, []⟩])
  (.seq (.seq (.ops [⟨0, some 3, .mv (.tmp 0), none, []⟩, ⟨1, some 4, .bin .leq (.tmp 3) (.const (.float .f32 0)), none, []⟩])
  (.cond (.tmp 4) (.seq (.ops [⟨0, some 5, .mv (.tmp 0), none, []⟩, ⟨1, some 6, .bin .sub (.const (.float .f32 0)) (.tmp 5), none, []⟩, ⟨2, some 2, .mv (.tmp 6), none, []⟩])
  (.ret)) (.skip)))
  (.seq (.ops [⟨0, some 7, .mv (.tmp 0), none, []⟩, ⟨1, some 2, .mv (.tmp 7), none, []⟩])
  (.ret)))
theorem k_s_l03Size : FnOk Try.prog n_s_l03Size 1 c_s_l03Size [.tmp 2] := ⟨by kernel_rfl⟩
end Go.Proofs.Ytkojmlpaamdhoaa

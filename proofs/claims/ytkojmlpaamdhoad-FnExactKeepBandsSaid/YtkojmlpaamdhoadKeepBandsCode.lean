/- The code of functions, for the abstract machine; printed by a program (gen.py). -/
import Derived.Test.YtkojmlpaamdhoadGxFn
import Derived.Test.YtkojmlpaamdhoadProg
namespace Go.Proofs.Ytkojmlpaamdhoad
open Go.Gx
set_option maxRecDepth 100000
abbrev t_int64 : Nat := 2
abbrev t_int : Nat := 3
abbrev t_bool : Nat := 4
abbrev t_uint8 : Nat := 5
abbrev t_sfloat32 : Nat := 22
abbrev t_ssfloat32 : Nat := 33
abbrev t_float32 : Nat := 34
abbrev t_suint8 : Nat := 41
abbrev t_float64 : Nat := 53
abbrev t_sint64 : Nat := 72
abbrev t_ssint64 : Nat := 79
abbrev t_sbool : Nat := 96
abbrev t_sint : Nat := 114
abbrev t_Picture : Nat := 26
abbrev t_Pair : Nat := 44
abbrev t_Scheme : Nat := 64
abbrev t_Bands : Nat := 98
abbrev n_w_FnExactKeepBands : Nat := 10
abbrev n_w_szFloat32SS : Nat := 22
abbrev n_w_toFloat32SS : Nat := 24
abbrev n_w_eqFloat32SS : Nat := 26
abbrev n_w_markFloat32SS : Nat := 27
abbrev n_w_heldFloat32SS : Nat := 28
abbrev n_w_toFloat32S : Nat := 49
abbrev n_w_eqFloat32S : Nat := 51
abbrev n_w_markFloat32S : Nat := 54
abbrev n_w_heldFloat32S : Nat := 55
abbrev n_w_szBands : Nat := 76
abbrev n_s_KeepBands : Nat := 77
abbrev n_w_toBands : Nat := 78
abbrev n_w_toBoolS : Nat := 79
abbrev n_i_KeepBands : Nat := 80
abbrev n_w_eqBands : Nat := 81
abbrev n_w_eqBoolS : Nat := 82
abbrev n_w_markBands : Nat := 83
abbrev n_w_markBoolS : Nat := 84
abbrev n_w_heldBands : Nat := 85
abbrev n_w_szFloat32S : Nat := 109
abbrev n_i_copyOf : Nat := 121
abbrev n_i_areFinite : Nat := 128
abbrev n_i_within : Nat := 129
abbrev n_w_sameFloat : Nat := 137
abbrev n_s_l03Bands : Nat := 158
abbrev n_s_l03Keep : Nat := 159
abbrev n_i_ValidBands : Nat := 160
abbrev n_i_kept : Nat := 161
abbrev n_s_l02Finite : Nat := 175
abbrev n_s_l01Finite : Nat := 184
abbrev n_i_IsFinite : Nat := 185
def c_w_FnExactKeepBands : ACode :=
  .seq (.ops [⟨0, some 3, .box 95 (.tmp 0), none, []⟩, ⟨1, some 6, .mv (.const (.bool false)), none, []⟩])
  (.seq (.seq (.ops [⟨0, some 19, .mv (.tmp 2), none, []⟩, ⟨1, some 20, .len (.tmp 19), none, []⟩, ⟨2, some 21, .bin .gtr (.tmp 20) (.const (.int .i64 1048576)), none, []⟩])
  (.cond (.tmp 21) (.seq (.keep [] (.ops [⟨0, some 6, .mv (.const (.bool true)), none, []⟩]))
  (.ret)) (.skip)))
  (.seq (.keep [1, 2, 3] (.ops [⟨0, some 7, .mv (.const (.int .i64 1048576)), none, []⟩]))
  (.seq (.ops [⟨0, some 22, .ldn 2 (.tmp 3), none, []⟩, ⟨1, some 23, .mv (.tmp 7), none, []⟩, ⟨2, some 24, .call n_w_szBands [.tmp 22, .tmp 23], none, []⟩, ⟨3, some 7, .mv (.tmp 24), none, []⟩])
  (.seq (.seq (.ops [⟨0, some 25, .mv (.tmp 7), none, []⟩, ⟨1, some 26, .bin .lss (.tmp 25) (.const (.int .i64 0)), none, []⟩])
  (.cond (.tmp 26) (.seq (.keep [] (.ops [⟨0, some 6, .mv (.const (.bool true)), none, []⟩]))
  (.ret)) (.skip)))
  (.seq (.keep [1, 2, 3] (.ops [⟨0, some 28, .ldn 2 (.tmp 3), none, []⟩, ⟨1, some 29, .call n_w_toBands [.tmp 28], none, []⟩, ⟨2, some 30, .mv (.tmp 1), none, []⟩, ⟨3, some 31, .mv (.tmp 2), none, []⟩, ⟨4, some 32, .call n_w_toBoolS [.tmp 31], none, []⟩, ⟨5, some 33, .call n_s_KeepBands [.tmp 29, .tmp 30, .tmp 32], none, []⟩, ⟨6, some 27, .mv (.tmp 33), none, []⟩, ⟨7, some 34, .ext (.tmp 27) 0, none, []⟩, ⟨8, some 35, .ext (.tmp 27) 1, none, []⟩, ⟨9, some 8, .new 98 [.slice none 0 0, .slice none 0 0], none, []⟩, ⟨10, none, .stn 2 (.tmp 8) (.tmp 34), none, []⟩, ⟨11, some 9, .mv (.tmp 35), none, []⟩]))
  (.seq (.keep [1, 2, 3, 8, 9] (.ops [⟨0, some 36, .ldn 2 (.tmp 3), none, []⟩, ⟨1, some 37, .call n_w_toBands [.tmp 36], none, []⟩, ⟨2, some 10, .new 98 [.slice none 0 0, .slice none 0 0], none, []⟩, ⟨3, none, .stn 2 (.tmp 10) (.tmp 37), none, []⟩]))
  (.seq (.ops [⟨0, some 38, .mv (.tmp 2), none, []⟩, ⟨1, some 39, .call n_w_toBoolS [.tmp 38], none, []⟩, ⟨2, some 11, .mv (.tmp 39), none, []⟩])
  (.seq (.ops [⟨0, some 41, .ldn 2 (.tmp 10), none, []⟩, ⟨1, some 42, .mv (.tmp 1), none, []⟩, ⟨2, some 43, .mv (.tmp 11), none, []⟩, ⟨3, some 44, .call n_i_KeepBands [.tmp 41, .tmp 42, .tmp 43], none, []⟩, ⟨4, some 40, .mv (.tmp 44), none, []⟩, ⟨5, some 45, .ext (.tmp 40) 0, none, []⟩, ⟨6, some 46, .ext (.tmp 40) 1, none, []⟩, ⟨7, some 12, .new 98 [.slice none 0 0, .slice none 0 0], none, []⟩, ⟨8, none, .stn 2 (.tmp 12) (.tmp 45), none, []⟩, ⟨9, some 13, .mv (.tmp 46), none, []⟩])
  (.seq (.seq (.keep [1, 2, 3, 8, 9, 10, 11, 12, 13] (.ops [⟨0, some 47, .ldn 2 (.tmp 12), none, []⟩, ⟨1, some 48, .ldn 2 (.tmp 8), none, []⟩, ⟨2, some 49, .call n_w_eqBands [.tmp 47, .tmp 48], none, []⟩, ⟨3, some 50, .un .not (.tmp 49), none, []⟩, ⟨4, some 51, .mv (.tmp 50), none, []⟩, ⟨5, some 52, .mv (.tmp 13), (some (51, false)), []⟩, ⟨6, some 53, .mv (.tmp 9), (some (51, false)), []⟩, ⟨7, some 54, .beq true (.tmp 52) (.tmp 53), (some (51, false)), []⟩, ⟨8, some 55, .pick (.tmp 51) (.const (.bool true)) (.tmp 54), none, []⟩]))
  (.cond (.tmp 55) (.seq (.keep [] (.ops [⟨0, some 6, .mv (.const (.bool false)), none, []⟩]))
  (.ret)) (.skip)))
  (.seq (.seq (.keep [1, 2, 3, 8, 9, 10, 11, 12, 13] (.ops [⟨0, some 56, .ldn 2 (.tmp 10), none, []⟩, ⟨1, some 57, .ldn 2 (.tmp 3), none, []⟩, ⟨2, some 58, .call n_w_toBands [.tmp 57], none, [(some 56, .ldn 2 (.tmp 10), none)]⟩, ⟨3, some 59, .call n_w_eqBands [.tmp 56, .tmp 58], none, []⟩, ⟨4, some 60, .un .not (.tmp 59), none, []⟩]))
  (.cond (.tmp 60) (.seq (.keep [] (.ops [⟨0, some 6, .mv (.const (.bool false)), none, []⟩]))
  (.ret)) (.skip)))
  (.seq (.seq (.keep [1, 2, 3, 8, 9, 10, 11, 12, 13] (.ops [⟨0, some 61, .mv (.tmp 11), none, []⟩, ⟨1, some 62, .mv (.tmp 2), none, []⟩, ⟨2, some 63, .call n_w_toBoolS [.tmp 62], none, []⟩, ⟨3, some 64, .call n_w_eqBoolS [.tmp 61, .tmp 63], none, []⟩, ⟨4, some 65, .un .not (.tmp 64), none, []⟩]))
  (.cond (.tmp 65) (.seq (.keep [] (.ops [⟨0, some 6, .mv (.const (.bool false)), none, []⟩]))
  (.ret)) (.skip)))
  (.seq (.keep [1, 2, 3, 8, 9, 10, 11, 12, 13] (.ops [⟨0, some 14, .mv (.const (.int .i64 1)), none, []⟩]))
  (.seq (.ops [⟨0, some 66, .ldn 2 (.tmp 10), none, []⟩, ⟨1, some 67, .mv (.tmp 14), none, []⟩, ⟨2, some 68, .call n_w_markBands [.tmp 66, .tmp 67], none, []⟩, ⟨3, some 14, .mv (.tmp 68), none, []⟩])
  (.seq (.ops [⟨0, some 69, .mv (.tmp 11), none, []⟩, ⟨1, some 70, .mv (.tmp 14), none, []⟩, ⟨2, some 71, .call n_w_markBoolS [.tmp 69, .tmp 70], none, []⟩, ⟨3, some 14, .mv (.tmp 71), none, []⟩])
  (.seq (.seq (.keep [1, 2, 3, 8, 9, 12, 13, 14] (.ops [⟨0, some 72, .mv (.tmp 14), none, []⟩, ⟨1, some 73, .bin .lss (.tmp 72) (.const (.int .i64 0)), none, []⟩, ⟨2, some 74, .mv (.tmp 73), none, []⟩, ⟨3, some 75, .ldn 2 (.tmp 12), (some (74, false)), []⟩, ⟨4, some 76, .ldn 2 (.tmp 8), (some (74, false)), []⟩, ⟨5, some 77, .call n_w_eqBands [.tmp 75, .tmp 76], (some (74, false)), []⟩, ⟨6, some 78, .un .not (.tmp 77), (some (74, false)), []⟩, ⟨7, some 79, .pick (.tmp 74) (.const (.bool true)) (.tmp 78), none, []⟩, ⟨8, some 80, .mv (.tmp 79), none, []⟩, ⟨9, some 81, .mv (.tmp 13), (some (80, false)), []⟩, ⟨10, some 82, .mv (.tmp 9), (some (80, false)), []⟩, ⟨11, some 83, .beq true (.tmp 81) (.tmp 82), (some (80, false)), []⟩, ⟨12, some 84, .pick (.tmp 80) (.const (.bool true)) (.tmp 83), none, []⟩]))
  (.cond (.tmp 84) (.seq (.keep [] (.ops [⟨0, some 6, .mv (.const (.bool false)), none, []⟩]))
  (.ret)) (.skip)))
  (.seq (.keep [1, 2, 3, 8, 9, 12] (.ops [⟨0, some 15, .mv (.const (.int .i64 1)), none, []⟩]))
  (.seq (.ops [⟨0, some 85, .ldn 2 (.tmp 12), none, []⟩, ⟨1, some 86, .mv (.tmp 15), none, []⟩, ⟨2, some 87, .call n_w_markBands [.tmp 85, .tmp 86], none, []⟩, ⟨3, some 15, .mv (.tmp 87), none, []⟩])
  (.seq (.ops [⟨0, some 16, .mv (.const (.int .i64 1)), none, []⟩])
  (.seq (.ops [⟨0, some 88, .ldn 2 (.tmp 12), none, []⟩, ⟨1, some 89, .mv (.tmp 16), none, []⟩, ⟨2, some 90, .call n_w_heldBands [.tmp 88, .tmp 89], none, []⟩, ⟨3, some 16, .mv (.tmp 90), none, []⟩])
  (.seq (.seq (.keep [1, 2, 3, 8, 9, 12, 15, 16] (.ops [⟨0, some 91, .mv (.tmp 16), none, []⟩, ⟨1, some 92, .bin .lss (.tmp 91) (.const (.int .i64 0)), none, []⟩]))
  (.cond (.tmp 92) (.seq (.keep [] (.ops [⟨0, some 6, .mv (.const (.bool false)), none, []⟩]))
  (.ret)) (.skip)))
  (.seq (.seq (.ops [⟨0, some 93, .mv (.tmp 16), none, []⟩, ⟨1, some 94, .mv (.tmp 15), none, []⟩, ⟨2, some 95, .bin .neq (.tmp 93) (.tmp 94), none, []⟩])
  (.cond (.tmp 95) (.seq (.keep [] (.ops [⟨0, some 6, .mv (.const (.bool false)), none, []⟩]))
  (.ret)) (.skip)))
  (.seq (.keep [1, 2, 3, 8, 9, 12, 15] (.ops [⟨0, some 97, .ldn 2 (.tmp 3), none, []⟩, ⟨1, some 98, .call n_w_toBands [.tmp 97], none, []⟩, ⟨2, some 99, .mv (.tmp 1), none, []⟩, ⟨3, some 100, .mv (.tmp 2), none, []⟩, ⟨4, some 101, .call n_w_toBoolS [.tmp 100], none, []⟩, ⟨5, some 102, .call n_i_KeepBands [.tmp 98, .tmp 99, .tmp 101], none, []⟩, ⟨6, some 96, .mv (.tmp 102), none, []⟩, ⟨7, some 103, .ext (.tmp 96) 0, none, []⟩, ⟨8, some 104, .ext (.tmp 96) 1, none, []⟩, ⟨9, some 17, .new 98 [.slice none 0 0, .slice none 0 0], none, []⟩, ⟨10, none, .stn 2 (.tmp 17) (.tmp 103), none, []⟩, ⟨11, some 18, .mv (.tmp 104), none, []⟩]))
  (.seq (.seq (.keep [8, 9, 12, 15, 17, 18] (.ops [⟨0, some 105, .ldn 2 (.tmp 17), none, []⟩, ⟨1, some 106, .ldn 2 (.tmp 8), none, []⟩, ⟨2, some 107, .call n_w_eqBands [.tmp 105, .tmp 106], none, []⟩, ⟨3, some 108, .un .not (.tmp 107), none, []⟩, ⟨4, some 109, .mv (.tmp 108), none, []⟩, ⟨5, some 110, .mv (.tmp 18), (some (109, false)), []⟩, ⟨6, some 111, .mv (.tmp 9), (some (109, false)), []⟩, ⟨7, some 112, .beq true (.tmp 110) (.tmp 111), (some (109, false)), []⟩, ⟨8, some 113, .pick (.tmp 109) (.const (.bool true)) (.tmp 112), none, []⟩]))
  (.cond (.tmp 113) (.seq (.keep [] (.ops [⟨0, some 6, .mv (.const (.bool false)), none, []⟩]))
  (.ret)) (.skip)))
  (.seq (.keep [12, 15] (.ops [⟨0, some 16, .mv (.const (.int .i64 1)), none, []⟩]))
  (.seq (.ops [⟨0, some 114, .ldn 2 (.tmp 12), none, []⟩, ⟨1, some 115, .mv (.tmp 16), none, []⟩, ⟨2, some 116, .call n_w_heldBands [.tmp 114, .tmp 115], none, []⟩, ⟨3, some 16, .mv (.tmp 116), none, []⟩])
  (.seq (.seq (.ops [⟨0, some 117, .mv (.tmp 16), none, []⟩, ⟨1, some 118, .bin .lss (.tmp 117) (.const (.int .i64 0)), none, []⟩])
  (.cond (.tmp 118) (.seq (.keep [] (.ops [⟨0, some 6, .mv (.const (.bool false)), none, []⟩]))
  (.ret)) (.skip)))
  (.seq (.seq (.keep [15, 16] (.ops [⟨0, some 119, .mv (.tmp 16), none, []⟩, ⟨1, some 120, .mv (.tmp 15), none, []⟩, ⟨2, some 121, .bin .neq (.tmp 119) (.tmp 120), none, []⟩]))
  (.cond (.tmp 121) (.seq (.keep [] (.ops [⟨0, some 6, .mv (.const (.bool false)), none, []⟩]))
  (.ret)) (.skip)))
  (.seq (.keep [] (.ops [⟨0, some 6, .mv (.const (.bool true)), none, []⟩]))
  (.ret)))))))))))))))))))))))))))))
theorem k_w_FnExactKeepBands : FnOk Try.prog n_w_FnExactKeepBands 3 c_w_FnExactKeepBands [.tmp 6] := ⟨by kernel_rfl⟩
def c_w_szFloat32SS : ACode :=
  .seq (.ops [⟨0, some 4, .mv (.const (.int .i64 0)), none, []⟩])
  (.seq (.ops [⟨0, some 6, .mv (.tmp 1), none, []⟩, ⟨1, some 7, .mv (.tmp 0), none, []⟩, ⟨2, some 8, .len (.tmp 7), none, []⟩, ⟨3, some 9, .bin .sub (.tmp 6) (.tmp 8), none, []⟩, ⟨4, some 1, .mv (.tmp 9), none, []⟩])
  (.seq (.seq (.keep [0, 1] (.ops [⟨0, some 10, .mv (.tmp 1), none, []⟩, ⟨1, some 11, .bin .lss (.tmp 10) (.const (.int .i64 0)), none, []⟩]))
  (.cond (.tmp 11) (.seq (.ops [⟨0, some 4, .mv (.const (.int .i64 (-1))), none, []⟩])
  (.ret)) (.skip)))
  (.seq (.seq (.ops [⟨0, some 5, .mv (.const (.int .i64 0)), none, []⟩])
  (.block 0 (.loop [0, 1, 5] (.seq (.seq (.ops [⟨0, some 12, .mv (.tmp 5), none, []⟩, ⟨1, some 13, .mv (.tmp 0), none, []⟩, ⟨2, some 14, .len (.tmp 13), none, []⟩, ⟨3, some 15, .bin .lss (.tmp 12) (.tmp 14), none, []⟩])
  (.cond (.tmp 15) (.skip) (.exit 0)))
  (.seq (.block 1 (.seq (.ops [⟨0, some 18, .mv (.tmp 0), none, []⟩, ⟨1, some 19, .mv (.tmp 5), none, []⟩, ⟨2, some 20, .ia (.tmp 18) (.tmp 19), none, []⟩, ⟨3, some 21, .ld (.tmp 20), none, []⟩, ⟨4, some 22, .mv (.tmp 1), none, []⟩, ⟨5, some 23, .call n_w_szFloat32S [.tmp 21, .tmp 22], none, []⟩, ⟨6, some 1, .mv (.tmp 23), none, []⟩])
  (.seq (.keep [0, 1, 5] (.ops [⟨0, some 24, .mv (.tmp 1), none, []⟩, ⟨1, some 25, .bin .lss (.tmp 24) (.const (.int .i64 0)), none, []⟩]))
  (.cond (.tmp 25) (.seq (.keep [] (.ops [⟨0, some 4, .mv (.const (.int .i64 (-1))), none, []⟩]))
  (.ret)) (.skip)))))
  (.ops [⟨0, some 16, .mv (.tmp 5), none, []⟩, ⟨1, some 17, .bin .add (.tmp 16) (.const (.int .i64 1)), none, []⟩, ⟨2, some 5, .mv (.tmp 17), none, []⟩]))))))
  (.seq (.keep [1] (.ops [⟨0, some 26, .mv (.tmp 1), none, []⟩, ⟨1, some 4, .mv (.tmp 26), none, []⟩]))
  (.ret)))))
theorem k_w_szFloat32SS : FnOk Try.prog n_w_szFloat32SS 2 c_w_szFloat32SS [.tmp 4] := ⟨by kernel_rfl⟩
def c_w_toFloat32SS : ACode :=
  .seq (.ops [⟨0, some 2, .mv (.const (.slice none 0 0)), none, []⟩])
  (.seq (.ops [⟨0, some 5, .mv (.tmp 0), none, []⟩, ⟨1, some 6, .len (.tmp 5), none, []⟩, ⟨2, some 7, .mks 22 24 (.slice none 0 0) (.tmp 6) (.tmp 6), none, []⟩, ⟨3, some 3, .mv (.tmp 7), none, []⟩])
  (.seq (.seq (.ops [⟨0, some 4, .mv (.const (.int .i64 0)), none, []⟩])
  (.block 0 (.loop [0, 3, 4] (.seq (.seq (.ops [⟨0, some 8, .mv (.tmp 4), none, []⟩, ⟨1, some 9, .mv (.tmp 0), none, []⟩, ⟨2, some 10, .len (.tmp 9), none, []⟩, ⟨3, some 11, .bin .lss (.tmp 8) (.tmp 10), none, []⟩])
  (.cond (.tmp 11) (.skip) (.exit 0)))
  (.seq (.block 1 (.ops [⟨0, some 14, .mv (.tmp 3), none, []⟩, ⟨1, some 15, .mv (.tmp 4), none, []⟩, ⟨2, some 16, .mv (.tmp 0), none, []⟩, ⟨3, some 17, .mv (.tmp 4), none, []⟩, ⟨4, some 18, .ia (.tmp 16) (.tmp 17), none, []⟩, ⟨5, some 19, .ld (.tmp 18), none, []⟩, ⟨6, some 20, .call n_w_toFloat32S [.tmp 19], none, []⟩, ⟨7, some 21, .ia (.tmp 14) (.tmp 15), none, []⟩, ⟨8, none, .st (.tmp 21) (.tmp 20), none, []⟩]))
  (.keep [0, 3, 4] (.ops [⟨0, some 12, .mv (.tmp 4), none, []⟩, ⟨1, some 13, .bin .add (.tmp 12) (.const (.int .i64 1)), none, []⟩, ⟨2, some 4, .mv (.tmp 13), none, []⟩])))))))
  (.seq (.keep [3] (.ops [⟨0, some 22, .mv (.tmp 3), none, []⟩, ⟨1, some 2, .mv (.tmp 22), none, []⟩]))
  (.ret))))
theorem k_w_toFloat32SS : FnOk Try.prog n_w_toFloat32SS 1 c_w_toFloat32SS [.tmp 2] := ⟨by kernel_rfl⟩
def c_w_eqFloat32SS : ACode :=
  .seq (.ops [⟨0, some 4, .mv (.const (.bool false)), none, []⟩])
  (.seq (.seq (.ops [⟨0, some 6, .mv (.tmp 0), none, []⟩, ⟨1, some 7, .len (.tmp 6), none, []⟩, ⟨2, some 8, .mv (.tmp 1), none, []⟩, ⟨3, some 9, .len (.tmp 8), none, []⟩, ⟨4, some 10, .bin .neq (.tmp 7) (.tmp 9), none, []⟩])
  (.cond (.tmp 10) (.seq (.keep [] (.ops [⟨0, some 4, .mv (.const (.bool false)), none, []⟩]))
  (.ret)) (.skip)))
  (.seq (.seq (.keep [0, 1] (.ops [⟨0, some 5, .mv (.const (.int .i64 0)), none, []⟩]))
  (.block 0 (.loop [0, 1, 5] (.seq (.seq (.ops [⟨0, some 11, .mv (.tmp 5), none, []⟩, ⟨1, some 12, .mv (.tmp 0), none, []⟩, ⟨2, some 13, .len (.tmp 12), none, []⟩, ⟨3, some 14, .bin .lss (.tmp 11) (.tmp 13), none, []⟩])
  (.cond (.tmp 14) (.skip) (.exit 0)))
  (.seq (.block 1 (.seq (.ops [⟨0, some 17, .mv (.tmp 0), none, []⟩, ⟨1, some 18, .mv (.tmp 5), none, []⟩, ⟨2, some 19, .ia (.tmp 17) (.tmp 18), none, []⟩, ⟨3, some 20, .ld (.tmp 19), none, []⟩, ⟨4, some 21, .mv (.tmp 1), none, []⟩, ⟨5, some 22, .mv (.tmp 5), none, []⟩, ⟨6, some 23, .ia (.tmp 21) (.tmp 22), none, []⟩, ⟨7, some 24, .ld (.tmp 23), none, []⟩, ⟨8, some 25, .call n_w_eqFloat32S [.tmp 20, .tmp 24], none, []⟩, ⟨9, some 26, .un .not (.tmp 25), none, []⟩])
  (.cond (.tmp 26) (.seq (.keep [] (.ops [⟨0, some 4, .mv (.const (.bool false)), none, []⟩]))
  (.ret)) (.skip))))
  (.keep [0, 1, 5] (.ops [⟨0, some 15, .mv (.tmp 5), none, []⟩, ⟨1, some 16, .bin .add (.tmp 15) (.const (.int .i64 1)), none, []⟩, ⟨2, some 5, .mv (.tmp 16), none, []⟩])))))))
  (.seq (.keep [] (.ops [⟨0, some 4, .mv (.const (.bool true)), none, []⟩]))
  (.ret))))
theorem k_w_eqFloat32SS : FnOk Try.prog n_w_eqFloat32SS 2 c_w_eqFloat32SS [.tmp 4] := ⟨by kernel_rfl⟩
def c_w_markFloat32SS : ACode :=
  .seq (.ops [⟨0, some 4, .mv (.const (.int .i64 0)), none, []⟩])
  (.seq (.seq (.ops [⟨0, some 5, .mv (.const (.int .i64 0)), none, []⟩])
  (.block 0 (.loop [0, 1, 5] (.seq (.seq (.ops [⟨0, some 6, .mv (.tmp 5), none, []⟩, ⟨1, some 7, .mv (.tmp 0), none, []⟩, ⟨2, some 8, .len (.tmp 7), none, []⟩, ⟨3, some 9, .bin .lss (.tmp 6) (.tmp 8), none, []⟩])
  (.cond (.tmp 9) (.skip) (.exit 0)))
  (.seq (.block 1 (.ops [⟨0, some 12, .mv (.tmp 0), none, []⟩, ⟨1, some 13, .mv (.tmp 5), none, []⟩, ⟨2, some 14, .ia (.tmp 12) (.tmp 13), none, []⟩, ⟨3, some 15, .ld (.tmp 14), none, []⟩, ⟨4, some 16, .mv (.tmp 1), none, []⟩, ⟨5, some 17, .call n_w_markFloat32S [.tmp 15, .tmp 16], none, []⟩, ⟨6, some 1, .mv (.tmp 17), none, []⟩]))
  (.keep [0, 1, 5] (.ops [⟨0, some 10, .mv (.tmp 5), none, []⟩, ⟨1, some 11, .bin .add (.tmp 10) (.const (.int .i64 1)), none, []⟩, ⟨2, some 5, .mv (.tmp 11), none, []⟩])))))))
  (.seq (.keep [1] (.ops [⟨0, some 18, .mv (.tmp 1), none, []⟩, ⟨1, some 4, .mv (.tmp 18), none, []⟩]))
  (.ret)))
theorem k_w_markFloat32SS : FnOk Try.prog n_w_markFloat32SS 2 c_w_markFloat32SS [.tmp 4] := ⟨by kernel_rfl⟩
def c_w_heldFloat32SS : ACode :=
  .seq (.ops [⟨0, some 4, .mv (.const (.int .i64 0)), none, []⟩])
  (.seq (.seq (.ops [⟨0, some 5, .mv (.const (.int .i64 0)), none, []⟩])
  (.block 0 (.loop [0, 1, 5] (.seq (.seq (.ops [⟨0, some 6, .mv (.tmp 5), none, []⟩, ⟨1, some 7, .mv (.tmp 0), none, []⟩, ⟨2, some 8, .len (.tmp 7), none, []⟩, ⟨3, some 9, .bin .lss (.tmp 6) (.tmp 8), none, []⟩])
  (.cond (.tmp 9) (.skip) (.exit 0)))
  (.seq (.block 1 (.seq (.ops [⟨0, some 12, .mv (.tmp 0), none, []⟩, ⟨1, some 13, .mv (.tmp 5), none, []⟩, ⟨2, some 14, .ia (.tmp 12) (.tmp 13), none, []⟩, ⟨3, some 15, .ld (.tmp 14), none, []⟩, ⟨4, some 16, .mv (.tmp 1), none, []⟩, ⟨5, some 17, .call n_w_heldFloat32S [.tmp 15, .tmp 16], none, []⟩, ⟨6, some 1, .mv (.tmp 17), none, []⟩])
  (.seq (.keep [0, 1, 5] (.ops [⟨0, some 18, .mv (.tmp 1), none, []⟩, ⟨1, some 19, .bin .lss (.tmp 18) (.const (.int .i64 0)), none, []⟩]))
  (.cond (.tmp 19) (.seq (.keep [] (.ops [⟨0, some 4, .mv (.const (.int .i64 (-1))), none, []⟩]))
  (.ret)) (.skip)))))
  (.ops [⟨0, some 10, .mv (.tmp 5), none, []⟩, ⟨1, some 11, .bin .add (.tmp 10) (.const (.int .i64 1)), none, []⟩, ⟨2, some 5, .mv (.tmp 11), none, []⟩]))))))
  (.seq (.keep [1] (.ops [⟨0, some 20, .mv (.tmp 1), none, []⟩, ⟨1, some 4, .mv (.tmp 20), none, []⟩]))
  (.ret)))
theorem k_w_heldFloat32SS : FnOk Try.prog n_w_heldFloat32SS 2 c_w_heldFloat32SS [.tmp 4] := ⟨by kernel_rfl⟩
def c_w_toFloat32S : ACode :=
  .seq (.ops [⟨0, some 2, .mv (.const (.slice none 0 0)), none, []⟩])
  (.seq (.ops [⟨0, some 5, .mv (.tmp 0), none, []⟩, ⟨1, some 6, .len (.tmp 5), none, []⟩, ⟨2, some 7, .mks 34 4 (.float .f32 0) (.tmp 6) (.tmp 6), none, []⟩, ⟨3, some 3, .mv (.tmp 7), none, []⟩])
  (.seq (.seq (.ops [⟨0, some 4, .mv (.const (.int .i64 0)), none, []⟩])
  (.block 0 (.loop [0, 3, 4] (.seq (.seq (.ops [⟨0, some 8, .mv (.tmp 4), none, []⟩, ⟨1, some 9, .mv (.tmp 0), none, []⟩, ⟨2, some 10, .len (.tmp 9), none, []⟩, ⟨3, some 11, .bin .lss (.tmp 8) (.tmp 10), none, []⟩])
  (.cond (.tmp 11) (.skip) (.exit 0)))
  (.seq (.block 1 (.ops [⟨0, some 14, .mv (.tmp 3), none, []⟩, ⟨1, some 15, .mv (.tmp 4), none, []⟩, ⟨2, some 16, .mv (.tmp 0), none, []⟩, ⟨3, some 17, .mv (.tmp 4), none, []⟩, ⟨4, some 18, .ia (.tmp 16) (.tmp 17), none, []⟩, ⟨5, some 19, .ld (.tmp 18), none, []⟩, ⟨6, some 20, .ia (.tmp 14) (.tmp 15), none, []⟩, ⟨7, none, .st (.tmp 20) (.tmp 19), none, []⟩]))
  (.keep [0, 3, 4] (.ops [⟨0, some 12, .mv (.tmp 4), none, []⟩, ⟨1, some 13, .bin .add (.tmp 12) (.const (.int .i64 1)), none, []⟩, ⟨2, some 4, .mv (.tmp 13), none, []⟩])))))))
  (.seq (.keep [3] (.ops [⟨0, some 21, .mv (.tmp 3), none, []⟩, ⟨1, some 2, .mv (.tmp 21), none, []⟩]))
  (.ret))))
theorem k_w_toFloat32S : FnOk Try.prog n_w_toFloat32S 1 c_w_toFloat32S [.tmp 2] := ⟨by kernel_rfl⟩
def c_w_eqFloat32S : ACode :=
  .seq (.ops [⟨0, some 4, .mv (.const (.bool false)), none, []⟩])
  (.seq (.seq (.ops [⟨0, some 6, .mv (.tmp 0), none, []⟩, ⟨1, some 7, .len (.tmp 6), none, []⟩, ⟨2, some 8, .mv (.tmp 1), none, []⟩, ⟨3, some 9, .len (.tmp 8), none, []⟩, ⟨4, some 10, .bin .neq (.tmp 7) (.tmp 9), none, []⟩])
  (.cond (.tmp 10) (.seq (.keep [] (.ops [⟨0, some 4, .mv (.const (.bool false)), none, []⟩]))
  (.ret)) (.skip)))
  (.seq (.seq (.keep [0, 1] (.ops [⟨0, some 5, .mv (.const (.int .i64 0)), none, []⟩]))
  (.block 0 (.loop [0, 1, 5] (.seq (.seq (.ops [⟨0, some 11, .mv (.tmp 5), none, []⟩, ⟨1, some 12, .mv (.tmp 0), none, []⟩, ⟨2, some 13, .len (.tmp 12), none, []⟩, ⟨3, some 14, .bin .lss (.tmp 11) (.tmp 13), none, []⟩])
  (.cond (.tmp 14) (.skip) (.exit 0)))
  (.seq (.block 1 (.seq (.ops [⟨0, some 17, .mv (.tmp 0), none, []⟩, ⟨1, some 18, .mv (.tmp 5), none, []⟩, ⟨2, some 19, .ia (.tmp 17) (.tmp 18), none, []⟩, ⟨3, some 20, .ld (.tmp 19), none, []⟩, ⟨4, some 21, .cv (.f .f64) (.tmp 20), none, []⟩, ⟨5, some 22, .mv (.tmp 1), none, []⟩, ⟨6, some 23, .mv (.tmp 5), none, []⟩, ⟨7, some 24, .ia (.tmp 22) (.tmp 23), none, []⟩, ⟨8, some 25, .ld (.tmp 24), none, []⟩, ⟨9, some 26, .cv (.f .f64) (.tmp 25), none, []⟩, ⟨10, some 27, .call n_w_sameFloat [.tmp 21, .tmp 26], none, []⟩, ⟨11, some 28, .un .not (.tmp 27), none, []⟩])
  (.cond (.tmp 28) (.seq (.keep [] (.ops [⟨0, some 4, .mv (.const (.bool false)), none, []⟩]))
  (.ret)) (.skip))))
  (.keep [0, 1, 5] (.ops [⟨0, some 15, .mv (.tmp 5), none, []⟩, ⟨1, some 16, .bin .add (.tmp 15) (.const (.int .i64 1)), none, []⟩, ⟨2, some 5, .mv (.tmp 16), none, []⟩])))))))
  (.seq (.keep [] (.ops [⟨0, some 4, .mv (.const (.bool true)), none, []⟩]))
  (.ret))))
theorem k_w_eqFloat32S : FnOk Try.prog n_w_eqFloat32S 2 c_w_eqFloat32S [.tmp 4] := ⟨by kernel_rfl⟩
def c_w_markFloat32S : ACode :=
  .seq (.ops [⟨0, some 4, .mv (.const (.int .i64 0)), none, []⟩])
  (.seq (.seq (.ops [⟨0, some 5, .mv (.const (.int .i64 0)), none, []⟩])
  (.block 0 (.loop [0, 1, 5] (.seq (.seq (.ops [⟨0, some 6, .mv (.tmp 5), none, []⟩, ⟨1, some 7, .mv (.tmp 0), none, []⟩, ⟨2, some 8, .len (.tmp 7), none, []⟩, ⟨3, some 9, .bin .lss (.tmp 6) (.tmp 8), none, []⟩])
  (.cond (.tmp 9) (.skip) (.exit 0)))
  (.seq (.block 1 (.seq (.ops [⟨0, some 12, .mv (.tmp 0), none, []⟩, ⟨1, some 13, .mv (.tmp 5), none, []⟩, ⟨2, some 14, .mv (.tmp 1), none, []⟩, ⟨3, some 15, .cv (.f .f32) (.tmp 14), none, []⟩, ⟨4, some 16, .ia (.tmp 12) (.tmp 13), none, []⟩, ⟨5, none, .st (.tmp 16) (.tmp 15), none, []⟩])
  (.keep [0, 1, 5] (.ops [⟨0, some 17, .mv (.tmp 1), none, []⟩, ⟨1, some 18, .bin .add (.tmp 17) (.const (.int .i64 1)), none, []⟩, ⟨2, some 1, .mv (.tmp 18), none, []⟩]))))
  (.ops [⟨0, some 10, .mv (.tmp 5), none, []⟩, ⟨1, some 11, .bin .add (.tmp 10) (.const (.int .i64 1)), none, []⟩, ⟨2, some 5, .mv (.tmp 11), none, []⟩]))))))
  (.seq (.keep [1] (.ops [⟨0, some 19, .mv (.tmp 1), none, []⟩, ⟨1, some 4, .mv (.tmp 19), none, []⟩]))
  (.ret)))
theorem k_w_markFloat32S : FnOk Try.prog n_w_markFloat32S 2 c_w_markFloat32S [.tmp 4] := ⟨by kernel_rfl⟩
def c_w_heldFloat32S : ACode :=
  .seq (.ops [⟨0, some 4, .mv (.const (.int .i64 0)), none, []⟩])
  (.seq (.seq (.ops [⟨0, some 5, .mv (.const (.int .i64 0)), none, []⟩])
  (.block 0 (.loop [0, 1, 5] (.seq (.seq (.ops [⟨0, some 6, .mv (.tmp 5), none, []⟩, ⟨1, some 7, .mv (.tmp 0), none, []⟩, ⟨2, some 8, .len (.tmp 7), none, []⟩, ⟨3, some 9, .bin .lss (.tmp 6) (.tmp 8), none, []⟩])
  (.cond (.tmp 9) (.skip) (.exit 0)))
  (.seq (.block 1 (.seq (.seq (.ops [⟨0, some 12, .mv (.tmp 0), none, []⟩, ⟨1, some 13, .mv (.tmp 5), none, []⟩, ⟨2, some 14, .ia (.tmp 12) (.tmp 13), none, []⟩, ⟨3, some 15, .ld (.tmp 14), none, []⟩, ⟨4, some 16, .mv (.tmp 1), none, []⟩, ⟨5, some 17, .cv (.f .f32) (.tmp 16), none, []⟩, ⟨6, some 18, .bin .neq (.tmp 15) (.tmp 17), none, []⟩])
  (.cond (.tmp 18) (.seq (.keep [] (.ops [⟨0, some 4, .mv (.const (.int .i64 (-1))), none, []⟩]))
  (.ret)) (.skip)))
  (.keep [0, 1, 5] (.ops [⟨0, some 19, .mv (.tmp 1), none, []⟩, ⟨1, some 20, .bin .add (.tmp 19) (.const (.int .i64 1)), none, []⟩, ⟨2, some 1, .mv (.tmp 20), none, []⟩]))))
  (.ops [⟨0, some 10, .mv (.tmp 5), none, []⟩, ⟨1, some 11, .bin .add (.tmp 10) (.const (.int .i64 1)), none, []⟩, ⟨2, some 5, .mv (.tmp 11), none, []⟩]))))))
  (.seq (.keep [1] (.ops [⟨0, some 21, .mv (.tmp 1), none, []⟩, ⟨1, some 4, .mv (.tmp 21), none, []⟩]))
  (.ret)))
theorem k_w_heldFloat32S : FnOk Try.prog n_w_heldFloat32S 2 c_w_heldFloat32S [.tmp 4] := ⟨by kernel_rfl⟩
def c_w_szBands : ACode :=
  .seq (.ops [⟨0, some 2, .box 95 (.tmp 0), none, []⟩, ⟨1, some 4, .mv (.const (.int .i64 0)), none, []⟩])
  (.seq (.ops [⟨0, some 5, .fa 0 (.tmp 2), none, []⟩, ⟨1, some 6, .ld (.tmp 5), none, []⟩, ⟨2, some 7, .mv (.tmp 1), none, []⟩, ⟨3, some 8, .call n_w_szFloat32S [.tmp 6, .tmp 7], none, []⟩, ⟨4, some 1, .mv (.tmp 8), none, []⟩])
  (.seq (.seq (.keep [1, 2] (.ops [⟨0, some 9, .mv (.tmp 1), none, []⟩, ⟨1, some 10, .bin .lss (.tmp 9) (.const (.int .i64 0)), none, []⟩]))
  (.cond (.tmp 10) (.seq (.ops [⟨0, some 4, .mv (.const (.int .i64 (-1))), none, []⟩])
  (.ret)) (.skip)))
  (.seq (.ops [⟨0, some 11, .fa 1 (.tmp 2), none, []⟩, ⟨1, some 12, .ld (.tmp 11), none, []⟩, ⟨2, some 13, .mv (.tmp 1), none, []⟩, ⟨3, some 14, .call n_w_szFloat32SS [.tmp 12, .tmp 13], none, []⟩, ⟨4, some 1, .mv (.tmp 14), none, []⟩])
  (.seq (.seq (.keep [1] (.ops [⟨0, some 15, .mv (.tmp 1), none, []⟩, ⟨1, some 16, .bin .lss (.tmp 15) (.const (.int .i64 0)), none, []⟩]))
  (.cond (.tmp 16) (.seq (.ops [⟨0, some 4, .mv (.const (.int .i64 (-1))), none, []⟩])
  (.ret)) (.skip)))
  (.seq (.ops [⟨0, some 17, .mv (.tmp 1), none, []⟩, ⟨1, some 4, .mv (.tmp 17), none, []⟩])
  (.ret))))))
theorem k_w_szBands : FnOk Try.prog n_w_szBands 2 c_w_szBands [.tmp 4] := ⟨by kernel_rfl⟩
def c_s_KeepBands : ACode :=
  .seq (.ops [⟨0, some 3, .box 98 (.tmp 0), none, []⟩, ⟨1, some 6, .new 98 [.slice none 0 0, .slice none 0 0], none, []⟩, ⟨2, some 7, .mv (.const (.bool false)), none, []⟩])
  (.seq (.seq (.ops [⟨0, some 8, .call n_s_l03Bands [.tmp 3], none, []⟩, ⟨1, some 9, .un .not (.tmp 8), none, []⟩, ⟨2, some 10, .mv (.tmp 9), none, []⟩, ⟨3, some 11, .mv (.tmp 2), (some (10, false)), []⟩, ⟨4, some 12, .len (.tmp 11), (some (10, false)), []⟩, ⟨5, some 13, .fa 1 (.tmp 3), (some (10, false)), []⟩, ⟨6, some 14, .ld (.tmp 13), (some (10, false)), []⟩, ⟨7, some 15, .len (.tmp 14), (some (10, false)), []⟩, ⟨8, some 16, .bin .neq (.tmp 12) (.tmp 15), (some (10, false)), []⟩, ⟨9, some 17, .pick (.tmp 10) (.const (.bool true)) (.tmp 16), none, []⟩])
  (.cond (.tmp 17) (.seq (.keep [6] (.ops [⟨0, some 18, .bld [.slice none 0 0, .slice none 0 0] [], none, []⟩, ⟨1, none, .stn 2 (.tmp 6) (.tmp 18), none, []⟩, ⟨2, some 7, .mv (.const (.bool false)), none, []⟩]))
  (.ret)) (.skip)))
  (.seq (.keep [1, 2, 3, 6] (.ops [⟨0, some 19, .mv (.tmp 1), none, []⟩, ⟨1, some 20, .mv (.tmp 2), none, []⟩, ⟨2, some 21, .call n_s_l03Keep [.tmp 3, .tmp 19, .tmp 20], none, []⟩, ⟨3, none, .stn 2 (.tmp 6) (.tmp 21), none, []⟩, ⟨4, some 7, .mv (.const (.bool true)), none, []⟩]))
  (.ret)))
theorem k_s_KeepBands : FnOk Try.prog n_s_KeepBands 3 c_s_KeepBands [.celln 6 2, .tmp 7] := ⟨by kernel_rfl⟩
def c_w_toBands : ACode :=
  .seq (.ops [⟨0, some 1, .box 95 (.tmp 0), none, []⟩, ⟨1, some 2, .new 98 [.slice none 0 0, .slice none 0 0], none, []⟩])
  (.seq (.ops [⟨0, some 3, .new 98 [.slice none 0 0, .slice none 0 0], none, []⟩])
  (.seq (.ops [⟨0, some 4, .fa 0 (.tmp 1), none, []⟩, ⟨1, some 5, .ld (.tmp 4), none, []⟩, ⟨2, some 6, .call n_w_toFloat32S [.tmp 5], none, []⟩, ⟨3, some 7, .fa 0 (.tmp 3), none, []⟩, ⟨4, none, .st (.tmp 7) (.tmp 6), none, []⟩])
  (.seq (.keep [1, 2, 3] (.ops [⟨0, some 8, .fa 1 (.tmp 1), none, []⟩, ⟨1, some 9, .ld (.tmp 8), none, []⟩, ⟨2, some 10, .call n_w_toFloat32SS [.tmp 9], none, []⟩, ⟨3, some 11, .fa 1 (.tmp 3), none, []⟩, ⟨4, none, .st (.tmp 11) (.tmp 10), none, []⟩]))
  (.seq (.keep [2, 3] (.ops [⟨0, some 12, .ldn 2 (.tmp 3), none, []⟩, ⟨1, none, .stn 2 (.tmp 2) (.tmp 12), none, []⟩]))
  (.ret)))))
theorem k_w_toBands : FnOk Try.prog n_w_toBands 1 c_w_toBands [.celln 2 2] := ⟨by kernel_rfl⟩
def c_w_toBoolS : ACode :=
  .seq (.ops [⟨0, some 2, .mv (.const (.slice none 0 0)), none, []⟩])
  (.seq (.ops [⟨0, some 5, .mv (.tmp 0), none, []⟩, ⟨1, some 6, .len (.tmp 5), none, []⟩, ⟨2, some 7, .mks 4 1 (.bool false) (.tmp 6) (.tmp 6), none, []⟩, ⟨3, some 3, .mv (.tmp 7), none, []⟩])
  (.seq (.seq (.ops [⟨0, some 4, .mv (.const (.int .i64 0)), none, []⟩])
  (.block 0 (.loop [0, 3, 4] (.seq (.seq (.ops [⟨0, some 8, .mv (.tmp 4), none, []⟩, ⟨1, some 9, .mv (.tmp 0), none, []⟩, ⟨2, some 10, .len (.tmp 9), none, []⟩, ⟨3, some 11, .bin .lss (.tmp 8) (.tmp 10), none, []⟩])
  (.cond (.tmp 11) (.skip) (.exit 0)))
  (.seq (.block 1 (.ops [⟨0, some 14, .mv (.tmp 3), none, []⟩, ⟨1, some 15, .mv (.tmp 4), none, []⟩, ⟨2, some 16, .mv (.tmp 0), none, []⟩, ⟨3, some 17, .mv (.tmp 4), none, []⟩, ⟨4, some 18, .ia (.tmp 16) (.tmp 17), none, []⟩, ⟨5, some 19, .ld (.tmp 18), none, []⟩, ⟨6, some 20, .ia (.tmp 14) (.tmp 15), none, []⟩, ⟨7, none, .st (.tmp 20) (.tmp 19), none, []⟩]))
  (.keep [0, 3, 4] (.ops [⟨0, some 12, .mv (.tmp 4), none, []⟩, ⟨1, some 13, .bin .add (.tmp 12) (.const (.int .i64 1)), none, []⟩, ⟨2, some 4, .mv (.tmp 13), none, []⟩])))))))
  (.seq (.keep [3] (.ops [⟨0, some 21, .mv (.tmp 3), none, []⟩, ⟨1, some 2, .mv (.tmp 21), none, []⟩]))
  (.ret))))
theorem k_w_toBoolS : FnOk Try.prog n_w_toBoolS 1 c_w_toBoolS [.tmp 2] := ⟨by kernel_rfl⟩
def c_i_KeepBands : ACode :=
  .seq (.ops [⟨0, some 3, .box 98 (.tmp 0), none, []⟩, ⟨1, some 6, .new 98 [.slice none 0 0, .slice none 0 0], none, []⟩, ⟨2, some 7, .mv (.const (.bool false)), none, []⟩])
  (.seq (.seq (.ops [⟨0, some 11, .ldn 2 (.tmp 3), none, []⟩, ⟨1, some 12, .call n_i_ValidBands [.tmp 11], none, []⟩, ⟨2, some 13, .un .not (.tmp 12), none, []⟩, ⟨3, some 14, .mv (.tmp 13), none, []⟩, ⟨4, some 15, .mv (.tmp 2), (some (14, false)), []⟩, ⟨5, some 16, .len (.tmp 15), (some (14, false)), []⟩, ⟨6, some 17, .fa 1 (.tmp 3), (some (14, false)), []⟩, ⟨7, some 18, .ld (.tmp 17), (some (14, false)), []⟩, ⟨8, some 19, .len (.tmp 18), (some (14, false)), []⟩, ⟨9, some 20, .bin .neq (.tmp 16) (.tmp 19), (some (14, false)), []⟩, ⟨10, some 21, .pick (.tmp 14) (.const (.bool true)) (.tmp 20), none, []⟩])
  (.cond (.tmp 21) (.seq (.keep [6] (.ops [⟨0, some 22, .bld [.slice none 0 0, .slice none 0 0] [], none, []⟩, ⟨1, none, .stn 2 (.tmp 6) (.tmp 22), none, []⟩, ⟨2, some 7, .mv (.const (.bool false)), none, []⟩]))
  (.ret)) (.skip)))
  (.seq (.keep [1, 2, 3, 6] (.ops [⟨0, some 23, .fa 0 (.tmp 3), none, []⟩, ⟨1, some 24, .ld (.tmp 23), none, []⟩, ⟨2, some 25, .mv (.tmp 1), none, []⟩, ⟨3, some 26, .call n_i_kept [.tmp 24, .tmp 25], none, []⟩, ⟨4, some 27, .bld [.slice none 0 0, .slice none 0 0] [(0, 1, .tmp 26)], none, []⟩, ⟨5, some 8, .new 98 [.slice none 0 0, .slice none 0 0], none, []⟩, ⟨6, none, .stn 2 (.tmp 8) (.tmp 27), none, []⟩]))
  (.seq (.seq (.keep [2, 3, 6, 8] (.ops [⟨0, some 28, .fa 1 (.tmp 3), none, []⟩, ⟨1, some 29, .ld (.tmp 28), none, []⟩, ⟨2, some 30, .len (.tmp 29), none, []⟩, ⟨3, some 31, .mv (.const (.int .i64 0)), none, []⟩]))
  (.block 0 (.loop [2, 6, 8, 29, 30, 31] (.seq (.ops [⟨0, some 32, .bin .lss (.tmp 31) (.tmp 30), none, []⟩])
  (.seq (.cond (.tmp 32) (.skip) (.exit 0))
  (.seq (.block 1 (.seq (.ops [⟨0, some 33, .mv (.tmp 31), none, []⟩, ⟨1, some 34, .ia (.tmp 29) (.tmp 31), none, []⟩, ⟨2, some 35, .ld (.tmp 34), none, []⟩, ⟨3, some 9, .mv (.tmp 33), none, []⟩, ⟨4, some 10, .mv (.tmp 35), none, []⟩])
  (.ops [⟨0, some 36, .fa 1 (.tmp 8), none, []⟩, ⟨1, some 37, .ld (.tmp 36), none, []⟩, ⟨2, some 38, .mv (.tmp 10), none, []⟩, ⟨3, some 39, .mv (.tmp 2), none, []⟩, ⟨4, some 40, .mv (.tmp 9), none, []⟩, ⟨5, some 41, .ia (.tmp 39) (.tmp 40), none, []⟩, ⟨6, some 42, .ld (.tmp 41), none, []⟩, ⟨7, some 43, .call n_i_kept [.tmp 38, .tmp 42], none, [(some 37, .ld (.tmp 36), none)]⟩, ⟨8, some 44, .bsl 22 1 (.slice none 0 0) [(0, .tmp 43)], none, [(some 37, .ld (.tmp 36), none)]⟩, ⟨9, some 45, .app 22 24 (.tmp 37) (.tmp 44), none, []⟩, ⟨10, some 46, .fa 1 (.tmp 8), none, []⟩, ⟨11, none, .st (.tmp 46) (.tmp 45), none, []⟩])))
  (.keep [2, 6, 8, 29, 30, 31] (.ops [⟨0, some 47, .bin .add (.tmp 31) (.const (.int .i64 1)), none, []⟩, ⟨1, some 31, .mv (.tmp 47), none, []⟩]))))))))
  (.seq (.keep [6, 8] (.ops [⟨0, some 48, .ldn 2 (.tmp 8), none, []⟩, ⟨1, none, .stn 2 (.tmp 6) (.tmp 48), none, []⟩, ⟨2, some 7, .mv (.const (.bool true)), none, []⟩]))
  (.ret)))))
theorem k_i_KeepBands : FnOk Try.prog n_i_KeepBands 3 c_i_KeepBands [.celln 6 2, .tmp 7] := ⟨by kernel_rfl⟩
def c_w_eqBands : ACode :=
  .seq (.ops [⟨0, some 2, .box 98 (.tmp 0), none, []⟩, ⟨1, some 3, .box 98 (.tmp 1), none, []⟩, ⟨2, some 4, .mv (.const (.bool false)), none, []⟩])
  (.seq (.seq (.ops [⟨0, some 5, .fa 0 (.tmp 2), none, []⟩, ⟨1, some 6, .ld (.tmp 5), none, []⟩, ⟨2, some 7, .fa 0 (.tmp 3), none, []⟩, ⟨3, some 8, .ld (.tmp 7), none, []⟩, ⟨4, some 9, .call n_w_eqFloat32S [.tmp 6, .tmp 8], none, []⟩, ⟨5, some 10, .un .not (.tmp 9), none, []⟩])
  (.cond (.tmp 10) (.seq (.keep [] (.ops [⟨0, some 4, .mv (.const (.bool false)), none, []⟩]))
  (.ret)) (.skip)))
  (.seq (.seq (.keep [2, 3] (.ops [⟨0, some 11, .fa 1 (.tmp 2), none, []⟩, ⟨1, some 12, .ld (.tmp 11), none, []⟩, ⟨2, some 13, .fa 1 (.tmp 3), none, []⟩, ⟨3, some 14, .ld (.tmp 13), none, []⟩, ⟨4, some 15, .call n_w_eqFloat32SS [.tmp 12, .tmp 14], none, []⟩, ⟨5, some 16, .un .not (.tmp 15), none, []⟩]))
  (.cond (.tmp 16) (.seq (.keep [] (.ops [⟨0, some 4, .mv (.const (.bool false)), none, []⟩]))
  (.ret)) (.skip)))
  (.seq (.keep [] (.ops [⟨0, some 4, .mv (.const (.bool true)), none, []⟩]))
  (.ret))))
theorem k_w_eqBands : FnOk Try.prog n_w_eqBands 2 c_w_eqBands [.tmp 4] := ⟨by kernel_rfl⟩
def c_w_eqBoolS : ACode :=
  .seq (.ops [⟨0, some 4, .mv (.const (.bool false)), none, []⟩])
  (.seq (.seq (.ops [⟨0, some 6, .mv (.tmp 0), none, []⟩, ⟨1, some 7, .len (.tmp 6), none, []⟩, ⟨2, some 8, .mv (.tmp 1), none, []⟩, ⟨3, some 9, .len (.tmp 8), none, []⟩, ⟨4, some 10, .bin .neq (.tmp 7) (.tmp 9), none, []⟩])
  (.cond (.tmp 10) (.seq (.keep [] (.ops [⟨0, some 4, .mv (.const (.bool false)), none, []⟩]))
  (.ret)) (.skip)))
  (.seq (.seq (.keep [0, 1] (.ops [⟨0, some 5, .mv (.const (.int .i64 0)), none, []⟩]))
  (.block 0 (.loop [0, 1, 5] (.seq (.seq (.ops [⟨0, some 11, .mv (.tmp 5), none, []⟩, ⟨1, some 12, .mv (.tmp 0), none, []⟩, ⟨2, some 13, .len (.tmp 12), none, []⟩, ⟨3, some 14, .bin .lss (.tmp 11) (.tmp 13), none, []⟩])
  (.cond (.tmp 14) (.skip) (.exit 0)))
  (.seq (.block 1 (.seq (.ops [⟨0, some 17, .mv (.tmp 0), none, []⟩, ⟨1, some 18, .mv (.tmp 5), none, []⟩, ⟨2, some 19, .ia (.tmp 17) (.tmp 18), none, []⟩, ⟨3, some 20, .ld (.tmp 19), none, []⟩, ⟨4, some 21, .mv (.tmp 1), none, []⟩, ⟨5, some 22, .mv (.tmp 5), none, []⟩, ⟨6, some 23, .ia (.tmp 21) (.tmp 22), none, []⟩, ⟨7, some 24, .ld (.tmp 23), none, []⟩, ⟨8, some 25, .beq true (.tmp 20) (.tmp 24), none, []⟩])
  (.cond (.tmp 25) (.seq (.keep [] (.ops [⟨0, some 4, .mv (.const (.bool false)), none, []⟩]))
  (.ret)) (.skip))))
  (.keep [0, 1, 5] (.ops [⟨0, some 15, .mv (.tmp 5), none, []⟩, ⟨1, some 16, .bin .add (.tmp 15) (.const (.int .i64 1)), none, []⟩, ⟨2, some 5, .mv (.tmp 16), none, []⟩])))))))
  (.seq (.keep [] (.ops [⟨0, some 4, .mv (.const (.bool true)), none, []⟩]))
  (.ret))))
theorem k_w_eqBoolS : FnOk Try.prog n_w_eqBoolS 2 c_w_eqBoolS [.tmp 4] := ⟨by kernel_rfl⟩
def c_w_markBands : ACode :=
  .seq (.ops [⟨0, some 2, .box 98 (.tmp 0), none, []⟩, ⟨1, some 4, .mv (.const (.int .i64 0)), none, []⟩])
  (.seq (.ops [⟨0, some 5, .fa 0 (.tmp 2), none, []⟩, ⟨1, some 6, .ld (.tmp 5), none, []⟩, ⟨2, some 7, .mv (.tmp 1), none, []⟩, ⟨3, some 8, .call n_w_markFloat32S [.tmp 6, .tmp 7], none, []⟩, ⟨4, some 1, .mv (.tmp 8), none, []⟩])
  (.seq (.keep [1, 2] (.ops [⟨0, some 9, .fa 1 (.tmp 2), none, []⟩, ⟨1, some 10, .ld (.tmp 9), none, []⟩, ⟨2, some 11, .mv (.tmp 1), none, []⟩, ⟨3, some 12, .call n_w_markFloat32SS [.tmp 10, .tmp 11], none, []⟩, ⟨4, some 1, .mv (.tmp 12), none, []⟩]))
  (.seq (.keep [1] (.ops [⟨0, some 13, .mv (.tmp 1), none, []⟩, ⟨1, some 4, .mv (.tmp 13), none, []⟩]))
  (.ret))))
theorem k_w_markBands : FnOk Try.prog n_w_markBands 2 c_w_markBands [.tmp 4] := ⟨by kernel_rfl⟩
def c_w_markBoolS : ACode :=
  .seq (.ops [⟨0, some 4, .mv (.const (.int .i64 0)), none, []⟩])
  (.seq (.seq (.ops [⟨0, some 5, .mv (.const (.int .i64 0)), none, []⟩])
  (.block 0 (.loop [0, 1, 5] (.seq (.seq (.ops [⟨0, some 6, .mv (.tmp 5), none, []⟩, ⟨1, some 7, .mv (.tmp 0), none, []⟩, ⟨2, some 8, .len (.tmp 7), none, []⟩, ⟨3, some 9, .bin .lss (.tmp 6) (.tmp 8), none, []⟩])
  (.cond (.tmp 9) (.skip) (.exit 0)))
  (.seq (.block 1 (.seq (.ops [⟨0, some 12, .mv (.tmp 0), none, []⟩, ⟨1, some 13, .mv (.tmp 5), none, []⟩, ⟨2, some 14, .mv (.tmp 1), none, []⟩, ⟨3, some 15, .bin .rem (.tmp 14) (.const (.int .i64 3)), none, []⟩, ⟨4, some 16, .bin .eql (.tmp 15) (.const (.int .i64 0)), none, []⟩, ⟨5, some 17, .ia (.tmp 12) (.tmp 13), none, []⟩, ⟨6, none, .st (.tmp 17) (.tmp 16), none, []⟩])
  (.keep [0, 1, 5] (.ops [⟨0, some 18, .mv (.tmp 1), none, []⟩, ⟨1, some 19, .bin .add (.tmp 18) (.const (.int .i64 1)), none, []⟩, ⟨2, some 1, .mv (.tmp 19), none, []⟩]))))
  (.ops [⟨0, some 10, .mv (.tmp 5), none, []⟩, ⟨1, some 11, .bin .add (.tmp 10) (.const (.int .i64 1)), none, []⟩, ⟨2, some 5, .mv (.tmp 11), none, []⟩]))))))
  (.seq (.keep [1] (.ops [⟨0, some 20, .mv (.tmp 1), none, []⟩, ⟨1, some 4, .mv (.tmp 20), none, []⟩]))
  (.ret)))
theorem k_w_markBoolS : FnOk Try.prog n_w_markBoolS 2 c_w_markBoolS [.tmp 4] := ⟨by kernel_rfl⟩
def c_w_heldBands : ACode :=
  .seq (.ops [⟨0, some 2, .box 98 (.tmp 0), none, []⟩, ⟨1, some 4, .mv (.const (.int .i64 0)), none, []⟩])
  (.seq (.ops [⟨0, some 5, .fa 0 (.tmp 2), none, []⟩, ⟨1, some 6, .ld (.tmp 5), none, []⟩, ⟨2, some 7, .mv (.tmp 1), none, []⟩, ⟨3, some 8, .call n_w_heldFloat32S [.tmp 6, .tmp 7], none, []⟩, ⟨4, some 1, .mv (.tmp 8), none, []⟩])
  (.seq (.seq (.keep [1, 2] (.ops [⟨0, some 9, .mv (.tmp 1), none, []⟩, ⟨1, some 10, .bin .lss (.tmp 9) (.const (.int .i64 0)), none, []⟩]))
  (.cond (.tmp 10) (.seq (.ops [⟨0, some 4, .mv (.const (.int .i64 (-1))), none, []⟩])
  (.ret)) (.skip)))
  (.seq (.ops [⟨0, some 11, .fa 1 (.tmp 2), none, []⟩, ⟨1, some 12, .ld (.tmp 11), none, []⟩, ⟨2, some 13, .mv (.tmp 1), none, []⟩, ⟨3, some 14, .call n_w_heldFloat32SS [.tmp 12, .tmp 13], none, []⟩, ⟨4, some 1, .mv (.tmp 14), none, []⟩])
  (.seq (.seq (.keep [1] (.ops [⟨0, some 15, .mv (.tmp 1), none, []⟩, ⟨1, some 16, .bin .lss (.tmp 15) (.const (.int .i64 0)), none, []⟩]))
  (.cond (.tmp 16) (.seq (.ops [⟨0, some 4, .mv (.const (.int .i64 (-1))), none, []⟩])
  (.ret)) (.skip)))
  (.seq (.ops [⟨0, some 17, .mv (.tmp 1), none, []⟩, ⟨1, some 4, .mv (.tmp 17), none, []⟩])
  (.ret))))))
theorem k_w_heldBands : FnOk Try.prog n_w_heldBands 2 c_w_heldBands [.tmp 4] := ⟨by kernel_rfl⟩
def c_w_szFloat32S : ACode :=
  .seq (.ops [⟨0, some 4, .mv (.const (.int .i64 0)), none, []⟩])
  (.seq (.ops [⟨0, some 5, .mv (.tmp 1), none, []⟩, ⟨1, some 6, .mv (.tmp 0), none, []⟩, ⟨2, some 7, .len (.tmp 6), none, []⟩, ⟨3, some 8, .bin .sub (.tmp 5) (.tmp 7), none, []⟩, ⟨4, some 1, .mv (.tmp 8), none, []⟩])
  (.seq (.seq (.keep [1] (.ops [⟨0, some 9, .mv (.tmp 1), none, []⟩, ⟨1, some 10, .bin .lss (.tmp 9) (.const (.int .i64 0)), none, []⟩]))
  (.cond (.tmp 10) (.seq (.ops [⟨0, some 4, .mv (.const (.int .i64 (-1))), none, []⟩])
  (.ret)) (.skip)))
  (.seq (.ops [⟨0, some 11, .mv (.tmp 1), none, []⟩, ⟨1, some 4, .mv (.tmp 11), none, []⟩])
  (.ret))))
theorem k_w_szFloat32S : FnOk Try.prog n_w_szFloat32S 2 c_w_szFloat32S [.tmp 4] := ⟨by kernel_rfl⟩
def c_i_copyOf : ACode :=
  .seq (.ops [⟨0, some 2, .mv (.const (.slice none 0 0)), none, []⟩])
  (.seq (.ops [⟨0, some 3, .bsl 34 0 (.float .f32 0) [], none, []⟩, ⟨1, some 4, .mv (.tmp 0), none, []⟩, ⟨2, some 5, .app 34 4 (.tmp 3) (.tmp 4), none, []⟩, ⟨3, some 2, .mv (.tmp 5), none, []⟩])
  (.ret))
theorem k_i_copyOf : FnOk Try.prog n_i_copyOf 1 c_i_copyOf [.tmp 2] := ⟨by kernel_rfl⟩
def c_i_areFinite : ACode :=
  .seq (.ops [⟨0, some 2, .mv (.const (.bool false)), none, []⟩])
  (.seq (.seq (.ops [⟨0, some 7, .mv (.tmp 0), none, []⟩, ⟨1, some 8, .len (.tmp 7), none, []⟩, ⟨2, some 9, .mv (.const (.int .i64 0)), none, []⟩])
  (.block 0 (.loop [7, 8, 9] (.seq (.ops [⟨0, some 10, .bin .lss (.tmp 9) (.tmp 8), none, []⟩])
  (.seq (.cond (.tmp 10) (.skip) (.exit 0))
  (.seq (.block 1 (.seq (.ops [⟨0, some 11, .ia (.tmp 7) (.tmp 9), none, []⟩, ⟨1, some 12, .ld (.tmp 11), none, []⟩, ⟨2, some 4, .mv (.tmp 12), none, []⟩])
  (.seq (.ops [⟨0, some 13, .mv (.tmp 4), none, []⟩, ⟨1, some 14, .len (.tmp 13), none, []⟩, ⟨2, some 15, .mv (.const (.int .i64 0)), none, []⟩])
  (.block 2 (.loop [7, 8, 9, 13, 14, 15] (.seq (.ops [⟨0, some 16, .bin .lss (.tmp 15) (.tmp 14), none, []⟩])
  (.seq (.cond (.tmp 16) (.skip) (.exit 2))
  (.seq (.block 3 (.seq (.ops [⟨0, some 17, .ia (.tmp 13) (.tmp 15), none, []⟩, ⟨1, some 18, .ld (.tmp 17), none, []⟩, ⟨2, some 6, .mv (.tmp 18), none, []⟩])
  (.seq (.ops [⟨0, some 19, .mv (.tmp 6), none, []⟩, ⟨1, some 20, .call n_i_IsFinite [.tmp 19], none, []⟩, ⟨2, some 21, .un .not (.tmp 20), none, []⟩])
  (.cond (.tmp 21) (.seq (.keep [] (.ops [⟨0, some 2, .mv (.const (.bool false)), none, []⟩]))
  (.ret)) (.skip)))))
  (.keep [7, 8, 9, 13, 14, 15] (.ops [⟨0, some 22, .bin .add (.tmp 15) (.const (.int .i64 1)), none, []⟩, ⟨1, some 15, .mv (.tmp 22), none, []⟩]))))))))))
  (.ops [⟨0, some 23, .bin .add (.tmp 9) (.const (.int .i64 1)), none, []⟩, ⟨1, some 9, .mv (.tmp 23), none, []⟩])))))))
  (.seq (.ops [⟨0, some 2, .mv (.const (.bool true)), none, []⟩])
  (.ret)))
theorem k_i_areFinite : FnOk Try.prog n_i_areFinite 1 c_i_areFinite [.tmp 2] := ⟨by kernel_rfl⟩
def c_i_within : ACode :=
  .seq (.ops [⟨0, some 6, .mv (.const (.bool false)), none, []⟩])
  (.seq (.ops [⟨0, some 7, .mv (.tmp 0), none, []⟩, ⟨1, some 8, .mv (.tmp 1), none, []⟩, ⟨2, some 9, .bin .geq (.tmp 7) (.tmp 8), none, []⟩, ⟨3, some 10, .mv (.tmp 9), none, []⟩, ⟨4, some 11, .mv (.tmp 0), (some (10, true)), []⟩, ⟨5, some 12, .mv (.tmp 2), (some (10, true)), []⟩, ⟨6, some 13, .bin .leq (.tmp 11) (.tmp 12), (some (10, true)), []⟩, ⟨7, some 14, .pick (.tmp 10) (.tmp 13) (.const (.bool false)), none, []⟩, ⟨8, some 6, .mv (.tmp 14), none, []⟩])
  (.ret))
theorem k_i_within : FnOk Try.prog n_i_within 3 c_i_within [.tmp 6] := ⟨by kernel_rfl⟩
def c_w_sameFloat : ACode :=
  .seq (.ops [⟨0, some 4, .mv (.const (.bool false)), none, []⟩])
  (.seq (.seq (.ops [⟨0, some 5, .mv (.tmp 0), none, []⟩, ⟨1, some 6, .mv (.tmp 0), none, []⟩, ⟨2, some 7, .bin .neq (.tmp 5) (.tmp 6), none, []⟩, ⟨3, some 8, .mv (.tmp 7), none, []⟩, ⟨4, some 9, .mv (.tmp 1), (some (8, false)), []⟩, ⟨5, some 10, .mv (.tmp 1), (some (8, false)), []⟩, ⟨6, some 11, .bin .neq (.tmp 9) (.tmp 10), (some (8, false)), []⟩, ⟨7, some 12, .pick (.tmp 8) (.const (.bool true)) (.tmp 11), none, []⟩])
  (.cond (.tmp 12) (.seq (.keep [0, 1] (.ops [⟨0, some 13, .mv (.tmp 0), none, []⟩, ⟨1, some 14, .mv (.tmp 0), none, []⟩, ⟨2, some 15, .bin .neq (.tmp 13) (.tmp 14), none, []⟩, ⟨3, some 16, .mv (.tmp 15), none, []⟩, ⟨4, some 17, .mv (.tmp 1), (some (16, true)), []⟩, ⟨5, some 18, .mv (.tmp 1), (some (16, true)), []⟩, ⟨6, some 19, .bin .neq (.tmp 17) (.tmp 18), (some (16, true)), []⟩, ⟨7, some 20, .pick (.tmp 16) (.tmp 19) (.const (.bool false)), none, []⟩, ⟨8, some 4, .mv (.tmp 20), none, []⟩]))
  (.ret)) (.skip)))
  (.seq (.seq (.keep [0, 1] (.ops [⟨0, some 21, .mv (.tmp 0), none, []⟩, ⟨1, some 22, .bin .eql (.tmp 21) (.const (.float .f64 0)), none, []⟩, ⟨2, some 23, .mv (.tmp 22), none, []⟩, ⟨3, some 24, .mv (.tmp 1), (some (23, true)), []⟩, ⟨4, some 25, .bin .eql (.tmp 24) (.const (.float .f64 0)), (some (23, true)), []⟩, ⟨5, some 26, .pick (.tmp 23) (.tmp 25) (.const (.bool false)), none, []⟩]))
  (.cond (.tmp 26) (.seq (.keep [0, 1] (.ops [⟨0, some 27, .mv (.tmp 0), none, []⟩, ⟨1, some 28, .bin .quo (.const (.float .f64 4607182418800017408)) (.tmp 27), none, []⟩, ⟨2, some 29, .bin .gtr (.tmp 28) (.const (.float .f64 0)), none, []⟩, ⟨3, some 30, .mv (.tmp 1), none, []⟩, ⟨4, some 31, .bin .quo (.const (.float .f64 4607182418800017408)) (.tmp 30), none, []⟩, ⟨5, some 32, .bin .gtr (.tmp 31) (.const (.float .f64 0)), none, []⟩, ⟨6, some 33, .beq false (.tmp 29) (.tmp 32), none, []⟩, ⟨7, some 4, .mv (.tmp 33), none, []⟩]))
  (.ret)) (.skip)))
  (.seq (.keep [0, 1] (.ops [⟨0, some 34, .mv (.tmp 0), none, []⟩, ⟨1, some 35, .mv (.tmp 1), none, []⟩, ⟨2, some 36, .bin .eql (.tmp 34) (.tmp 35), none, []⟩, ⟨3, some 4, .mv (.tmp 36), none, []⟩]))
  (.ret))))
theorem k_w_sameFloat : FnOk Try.prog n_w_sameFloat 2 c_w_sameFloat [.tmp 4] := ⟨by kernel_rfl⟩
def c_s_l03Bands : ACode :=
  .seq (.ops [⟨0, some 2, .mv (.const (.bool false)), none, []⟩])
  (.seq (.ops [⟨0, some 5, .mv (.tmp 0), none, []⟩, ⟨1, some 6, .nc (.tmp 5), none, []⟩, ⟨2, some 7, .fa 1 (.tmp 6), none, []⟩, ⟨3, some 8, .ld (.tmp 7), none, []⟩, ⟨4, some 9, .len (.tmp 8), none, []⟩, ⟨5, some 3, .mv (.tmp 9), none, []⟩])
  (.seq (.seq (.keep [0, 3] (.ops [⟨0, some 10, .mv (.tmp 3), none, []⟩, ⟨1, some 11, .bin .lss (.tmp 10) (.const (.int .i64 1)), none, []⟩, ⟨2, some 12, .mv (.tmp 11), none, []⟩, ⟨3, some 13, .mv (.tmp 3), (some (12, false)), []⟩, ⟨4, some 14, .bin .gtr (.tmp 13) (.const (.int .i64 6)), (some (12, false)), []⟩, ⟨5, some 15, .pick (.tmp 12) (.const (.bool true)) (.tmp 14), none, []⟩, ⟨6, some 16, .mv (.tmp 15), none, []⟩, ⟨7, some 17, .mv (.tmp 0), (some (16, false)), []⟩, ⟨8, some 18, .nc (.tmp 17), (some (16, false)), []⟩, ⟨9, some 19, .fa 1 (.tmp 18), (some (16, false)), []⟩, ⟨10, some 20, .ld (.tmp 19), (some (16, false)), []⟩, ⟨11, some 21, .ia (.tmp 20) (.const (.int .i64 0)), (some (16, false)), []⟩, ⟨12, some 22, .ld (.tmp 21), (some (16, false)), []⟩, ⟨13, some 23, .len (.tmp 22), (some (16, false)), []⟩, ⟨14, some 24, .bin .gtr (.tmp 23) (.const (.int .i64 64)), (some (16, false)), []⟩, ⟨15, some 25, .pick (.tmp 16) (.const (.bool true)) (.tmp 24), none, []⟩, ⟨16, some 26, .mv (.tmp 25), none, []⟩, ⟨17, some 27, .mv (.tmp 0), (some (26, false)), []⟩, ⟨18, some 28, .nc (.tmp 27), (some (26, false)), []⟩, ⟨19, some 29, .fa 0 (.tmp 28), (some (26, false)), []⟩, ⟨20, some 30, .ld (.tmp 29), (some (26, false)), []⟩, ⟨21, some 31, .call n_s_l02Finite [.tmp 30], (some (26, false)), []⟩, ⟨22, some 32, .un .not (.tmp 31), (some (26, false)), []⟩, ⟨23, some 33, .pick (.tmp 26) (.const (.bool true)) (.tmp 32), none, []⟩]))
  (.cond (.tmp 33) (.seq (.keep [] (.ops [⟨0, some 2, .mv (.const (.bool false)), none, []⟩]))
  (.ret)) (.skip)))
  (.seq (.seq (.keep [0, 3] (.ops [⟨0, some 34, .mv (.tmp 0), none, []⟩, ⟨1, some 35, .nc (.tmp 34), none, []⟩, ⟨2, some 36, .fa 1 (.tmp 35), none, []⟩, ⟨3, some 37, .ld (.tmp 36), none, []⟩, ⟨4, some 38, .len (.tmp 37), none, []⟩, ⟨5, some 39, .mv (.const (.int .i64 0)), none, []⟩]))
  (.block 0 (.loop [0, 3, 38, 39] (.seq (.ops [⟨0, some 40, .bin .lss (.tmp 39) (.tmp 38), none, []⟩])
  (.seq (.cond (.tmp 40) (.skip) (.exit 0))
  (.seq (.block 1 (.seq (.ops [⟨0, some 41, .mv (.tmp 39), none, []⟩, ⟨1, some 4, .mv (.tmp 41), none, []⟩])
  (.seq (.ops [⟨0, some 42, .mv (.tmp 0), none, []⟩, ⟨1, some 43, .nc (.tmp 42), none, []⟩, ⟨2, some 44, .fa 1 (.tmp 43), none, []⟩, ⟨3, some 45, .ld (.tmp 44), none, []⟩, ⟨4, some 46, .mv (.tmp 4), none, []⟩, ⟨5, some 47, .ia (.tmp 45) (.tmp 46), none, []⟩, ⟨6, some 48, .ld (.tmp 47), none, []⟩, ⟨7, some 49, .len (.tmp 48), none, []⟩, ⟨8, some 50, .bin .lss (.tmp 49) (.const (.int .i64 1)), none, []⟩, ⟨9, some 51, .mv (.tmp 50), none, []⟩, ⟨10, some 52, .mv (.tmp 0), (some (51, false)), []⟩, ⟨11, some 53, .nc (.tmp 52), (some (51, false)), []⟩, ⟨12, some 54, .fa 1 (.tmp 53), (some (51, false)), []⟩, ⟨13, some 55, .ld (.tmp 54), (some (51, false)), []⟩, ⟨14, some 56, .mv (.tmp 4), (some (51, false)), []⟩, ⟨15, some 57, .ia (.tmp 55) (.tmp 56), (some (51, false)), []⟩, ⟨16, some 58, .ld (.tmp 57), (some (51, false)), []⟩, ⟨17, some 59, .call n_s_l02Finite [.tmp 58], (some (51, false)), []⟩, ⟨18, some 60, .un .not (.tmp 59), (some (51, false)), []⟩, ⟨19, some 61, .pick (.tmp 51) (.const (.bool true)) (.tmp 60), none, []⟩, ⟨20, some 62, .mv (.tmp 61), none, []⟩, ⟨21, some 63, .mv (.tmp 4), (some (62, false)), []⟩, ⟨22, some 64, .bin .gtr (.tmp 63) (.const (.int .i64 0)), (some (62, false)), []⟩, ⟨23, some 65, .mv (.tmp 64), (some (62, false)), []⟩, ⟨24, some 66, .mv (.tmp 0), (some (65, true)), []⟩, ⟨25, some 67, .nc (.tmp 66), (some (65, true)), []⟩, ⟨26, some 68, .fa 1 (.tmp 67), (some (65, true)), []⟩, ⟨27, some 69, .ld (.tmp 68), (some (65, true)), []⟩, ⟨28, some 70, .mv (.tmp 4), (some (65, true)), []⟩, ⟨29, some 71, .bin .sub (.tmp 70) (.const (.int .i64 1)), (some (65, true)), []⟩, ⟨30, some 72, .ia (.tmp 69) (.tmp 71), (some (65, true)), []⟩, ⟨31, some 73, .ld (.tmp 72), (some (65, true)), []⟩, ⟨32, some 74, .len (.tmp 73), (some (65, true)), []⟩, ⟨33, some 75, .mv (.tmp 0), (some (65, true)), []⟩, ⟨34, some 76, .nc (.tmp 75), (some (65, true)), []⟩, ⟨35, some 77, .fa 1 (.tmp 76), (some (65, true)), []⟩, ⟨36, some 78, .ld (.tmp 77), (some (65, true)), []⟩, ⟨37, some 79, .mv (.tmp 4), (some (65, true)), []⟩, ⟨38, some 80, .ia (.tmp 78) (.tmp 79), (some (65, true)), []⟩, ⟨39, some 81, .ld (.tmp 80), (some (65, true)), []⟩, ⟨40, some 82, .len (.tmp 81), (some (65, true)), []⟩, ⟨41, some 83, .bin .mul (.const (.int .i64 2)) (.tmp 82), (some (65, true)), []⟩, ⟨42, some 84, .bin .neq (.tmp 74) (.tmp 83), (some (65, true)), []⟩, ⟨43, some 85, .pick (.tmp 65) (.tmp 84) (.const (.bool false)), (some (62, false)), []⟩, ⟨44, some 86, .pick (.tmp 62) (.const (.bool true)) (.tmp 85), none, []⟩])
  (.cond (.tmp 86) (.seq (.keep [] (.ops [⟨0, some 2, .mv (.const (.bool false)), none, []⟩]))
  (.ret)) (.skip)))))
  (.keep [0, 3, 38, 39] (.ops [⟨0, some 87, .bin .add (.tmp 39) (.const (.int .i64 1)), none, []⟩, ⟨1, some 39, .mv (.tmp 87), none, []⟩]))))))))
  (.seq (.ops [⟨0, some 88, .mv (.tmp 0), none, []⟩, ⟨1, some 89, .nc (.tmp 88), none, []⟩, ⟨2, some 90, .fa 0 (.tmp 89), none, []⟩, ⟨3, some 91, .ld (.tmp 90), none, []⟩, ⟨4, some 92, .len (.tmp 91), none, []⟩, ⟨5, some 93, .mv (.tmp 0), none, []⟩, ⟨6, some 94, .nc (.tmp 93), none, []⟩, ⟨7, some 95, .fa 1 (.tmp 94), none, []⟩, ⟨8, some 96, .ld (.tmp 95), none, []⟩, ⟨9, some 97, .mv (.tmp 3), none, []⟩, ⟨10, some 98, .bin .sub (.tmp 97) (.const (.int .i64 1)), none, []⟩, ⟨11, some 99, .ia (.tmp 96) (.tmp 98), none, []⟩, ⟨12, some 100, .ld (.tmp 99), none, []⟩, ⟨13, some 101, .len (.tmp 100), none, []⟩, ⟨14, some 102, .bin .eql (.tmp 92) (.tmp 101), none, []⟩, ⟨15, some 2, .mv (.tmp 102), none, []⟩])
  (.ret)))))
theorem k_s_l03Bands : FnOk Try.prog n_s_l03Bands 1 c_s_l03Bands [.tmp 2] := ⟨by kernel_rfl⟩
def c_s_l03Keep : ACode :=
  .seq (.ops [⟨0, some 6, .new 98 [.slice none 0 0, .slice none 0 0], none, []⟩])
  (.seq (.ops [⟨0, some 10, .mv (.tmp 0), none, []⟩, ⟨1, some 11, .nc (.tmp 10), none, []⟩, ⟨2, some 12, .fa 0 (.tmp 11), none, []⟩, ⟨3, some 13, .ld (.tmp 12), none, []⟩, ⟨4, some 14, .len (.tmp 13), none, []⟩, ⟨5, some 15, .mks 34 4 (.float .f32 0) (.tmp 14) (.tmp 14), none, []⟩, ⟨6, some 16, .bld [.slice none 0 0, .slice none 0 0] [(0, 1, .tmp 15)], none, []⟩, ⟨7, some 7, .new 98 [.slice none 0 0, .slice none 0 0], none, []⟩, ⟨8, none, .stn 2 (.tmp 7) (.tmp 16), none, []⟩])
  (.seq (.seq (.keep [0, 1, 2, 6, 7] (.ops [⟨0, some 17, .mv (.tmp 1), none, []⟩]))
  (.cond (.tmp 17) (.ops [⟨0, some 18, .fa 0 (.tmp 7), none, []⟩, ⟨1, some 19, .ld (.tmp 18), none, []⟩, ⟨2, some 20, .mv (.tmp 0), none, []⟩, ⟨3, some 21, .nc (.tmp 20), none, []⟩, ⟨4, some 22, .fa 0 (.tmp 21), none, []⟩, ⟨5, some 23, .ld (.tmp 22), none, []⟩, ⟨6, some 24, .cpy (.tmp 19) (.tmp 23), none, []⟩]) (.skip)))
  (.seq (.seq (.keep [0, 2, 6, 7] (.ops [⟨0, some 25, .mv (.tmp 0), none, []⟩, ⟨1, some 26, .nc (.tmp 25), none, []⟩, ⟨2, some 27, .fa 1 (.tmp 26), none, []⟩, ⟨3, some 28, .ld (.tmp 27), none, []⟩, ⟨4, some 29, .len (.tmp 28), none, []⟩, ⟨5, some 30, .mv (.const (.int .i64 0)), none, []⟩]))
  (.block 0 (.loop [0, 2, 6, 7, 29, 30] (.seq (.ops [⟨0, some 31, .bin .lss (.tmp 30) (.tmp 29), none, []⟩])
  (.seq (.cond (.tmp 31) (.skip) (.exit 0))
  (.seq (.block 1 (.seq (.ops [⟨0, some 32, .mv (.tmp 30), none, []⟩, ⟨1, some 8, .mv (.tmp 32), none, []⟩])
  (.seq (.ops [⟨0, some 33, .mv (.tmp 0), none, []⟩, ⟨1, some 34, .nc (.tmp 33), none, []⟩, ⟨2, some 35, .fa 1 (.tmp 34), none, []⟩, ⟨3, some 36, .ld (.tmp 35), none, []⟩, ⟨4, some 37, .mv (.tmp 8), none, []⟩, ⟨5, some 38, .ia (.tmp 36) (.tmp 37), none, []⟩, ⟨6, some 39, .ld (.tmp 38), none, []⟩, ⟨7, some 40, .len (.tmp 39), none, []⟩, ⟨8, some 41, .mks 34 4 (.float .f32 0) (.tmp 40) (.tmp 40), none, []⟩, ⟨9, some 9, .mv (.tmp 41), none, []⟩])
  (.seq (.seq (.keep [0, 2, 6, 7, 8, 9, 29, 30] (.ops [⟨0, some 42, .mv (.tmp 2), none, []⟩, ⟨1, some 43, .mv (.tmp 8), none, []⟩, ⟨2, some 44, .ia (.tmp 42) (.tmp 43), none, []⟩, ⟨3, some 45, .ld (.tmp 44), none, []⟩]))
  (.cond (.tmp 45) (.ops [⟨0, some 46, .mv (.tmp 9), none, []⟩, ⟨1, some 47, .mv (.tmp 0), none, []⟩, ⟨2, some 48, .nc (.tmp 47), none, []⟩, ⟨3, some 49, .fa 1 (.tmp 48), none, []⟩, ⟨4, some 50, .ld (.tmp 49), none, []⟩, ⟨5, some 51, .mv (.tmp 8), none, []⟩, ⟨6, some 52, .ia (.tmp 50) (.tmp 51), none, []⟩, ⟨7, some 53, .ld (.tmp 52), none, []⟩, ⟨8, some 54, .cpy (.tmp 46) (.tmp 53), none, []⟩]) (.skip)))
  (.keep [0, 2, 6, 7, 9, 29, 30] (.ops [⟨0, some 55, .fa 1 (.tmp 7), none, []⟩, ⟨1, some 56, .ld (.tmp 55), none, []⟩, ⟨2, some 57, .mv (.tmp 9), none, []⟩, ⟨3, some 58, .bsl 22 1 (.slice none 0 0) [(0, .tmp 57)], none, []⟩, ⟨4, some 59, .app 22 24 (.tmp 56) (.tmp 58), none, []⟩, ⟨5, some 60, .fa 1 (.tmp 7), none, []⟩, ⟨6, none, .st (.tmp 60) (.tmp 59), none, []⟩]))))))
  (.keep [0, 2, 6, 7, 29, 30] (.ops [⟨0, some 61, .bin .add (.tmp 30) (.const (.int .i64 1)), none, []⟩, ⟨1, some 30, .mv (.tmp 61), none, []⟩]))))))))
  (.seq (.keep [6, 7] (.ops [⟨0, some 62, .ldn 2 (.tmp 7), none, []⟩, ⟨1, none, .stn 2 (.tmp 6) (.tmp 62), none, []⟩]))
  (.ret)))))
theorem k_s_l03Keep : FnOk Try.prog n_s_l03Keep 3 c_s_l03Keep [.celln 6 2] := ⟨by kernel_rfl⟩
def c_i_ValidBands : ACode :=
  .seq (.ops [⟨0, some 1, .box 98 (.tmp 0), none, []⟩, ⟨1, some 2, .mv (.const (.bool false)), none, []⟩])
  (.seq (.ops [⟨0, some 6, .fa 1 (.tmp 1), none, []⟩, ⟨1, some 7, .ld (.tmp 6), none, []⟩, ⟨2, some 8, .len (.tmp 7), none, []⟩, ⟨3, some 3, .mv (.tmp 8), none, []⟩])
  (.seq (.seq (.keep [1, 3] (.ops [⟨0, some 9, .mv (.tmp 3), none, []⟩, ⟨1, some 10, .call n_i_within [.tmp 9, .const (.int .i64 1), .const (.int .i64 6)], none, []⟩, ⟨2, some 11, .un .not (.tmp 10), none, []⟩, ⟨3, some 12, .mv (.tmp 11), none, []⟩, ⟨4, some 13, .fa 1 (.tmp 1), (some (12, false)), []⟩, ⟨5, some 14, .ld (.tmp 13), (some (12, false)), []⟩, ⟨6, some 15, .ia (.tmp 14) (.const (.int .i64 0)), (some (12, false)), []⟩, ⟨7, some 16, .ld (.tmp 15), (some (12, false)), []⟩, ⟨8, some 17, .len (.tmp 16), (some (12, false)), []⟩, ⟨9, some 18, .bin .gtr (.tmp 17) (.const (.int .i64 64)), (some (12, false)), []⟩, ⟨10, some 19, .pick (.tmp 12) (.const (.bool true)) (.tmp 18), none, []⟩, ⟨11, some 20, .mv (.tmp 19), none, []⟩, ⟨12, some 21, .fa 1 (.tmp 1), (some (20, false)), []⟩, ⟨13, some 22, .ld (.tmp 21), (some (20, false)), []⟩, ⟨14, some 23, .call n_i_areFinite [.tmp 22], (some (20, false)), []⟩, ⟨15, some 24, .un .not (.tmp 23), (some (20, false)), []⟩, ⟨16, some 25, .pick (.tmp 20) (.const (.bool true)) (.tmp 24), none, []⟩, ⟨17, some 26, .mv (.tmp 25), none, []⟩, ⟨18, some 27, .fa 0 (.tmp 1), (some (26, false)), []⟩, ⟨19, some 28, .ld (.tmp 27), (some (26, false)), []⟩, ⟨20, some 29, .bsl 22 1 (.slice none 0 0) [(0, .tmp 28)], (some (26, false)), []⟩, ⟨21, some 30, .call n_i_areFinite [.tmp 29], (some (26, false)), []⟩, ⟨22, some 31, .un .not (.tmp 30), (some (26, false)), []⟩, ⟨23, some 32, .pick (.tmp 26) (.const (.bool true)) (.tmp 31), none, []⟩]))
  (.cond (.tmp 32) (.seq (.keep [] (.ops [⟨0, some 2, .mv (.const (.bool false)), none, []⟩]))
  (.ret)) (.skip)))
  (.seq (.seq (.keep [1, 3] (.ops [⟨0, some 33, .fa 1 (.tmp 1), none, []⟩, ⟨1, some 34, .ld (.tmp 33), none, []⟩, ⟨2, some 35, .len (.tmp 34), none, []⟩, ⟨3, some 36, .mv (.const (.int .i64 0)), none, []⟩]))
  (.block 0 (.loop [1, 3, 34, 35, 36] (.seq (.ops [⟨0, some 37, .bin .lss (.tmp 36) (.tmp 35), none, []⟩])
  (.seq (.cond (.tmp 37) (.skip) (.exit 0))
  (.seq (.block 1 (.seq (.ops [⟨0, some 38, .mv (.tmp 36), none, []⟩, ⟨1, some 39, .ia (.tmp 34) (.tmp 36), none, []⟩, ⟨2, some 40, .ld (.tmp 39), none, []⟩, ⟨3, some 4, .mv (.tmp 38), none, []⟩, ⟨4, some 5, .mv (.tmp 40), none, []⟩])
  (.seq (.ops [⟨0, some 41, .mv (.tmp 5), none, []⟩, ⟨1, some 42, .len (.tmp 41), none, []⟩, ⟨2, some 43, .bin .eql (.tmp 42) (.const (.int .i64 0)), none, []⟩, ⟨3, some 44, .mv (.tmp 43), none, []⟩, ⟨4, some 45, .mv (.tmp 4), (some (44, false)), []⟩, ⟨5, some 46, .bin .gtr (.tmp 45) (.const (.int .i64 0)), (some (44, false)), []⟩, ⟨6, some 47, .mv (.tmp 46), (some (44, false)), []⟩, ⟨7, some 48, .mv (.tmp 5), (some (47, true)), []⟩, ⟨8, some 49, .len (.tmp 48), (some (47, true)), []⟩, ⟨9, some 50, .bin .mul (.const (.int .i64 2)) (.tmp 49), (some (47, true)), []⟩, ⟨10, some 51, .fa 1 (.tmp 1), (some (47, true)), []⟩, ⟨11, some 52, .ld (.tmp 51), (some (47, true)), []⟩, ⟨12, some 53, .mv (.tmp 4), (some (47, true)), []⟩, ⟨13, some 54, .bin .sub (.tmp 53) (.const (.int .i64 1)), (some (47, true)), []⟩, ⟨14, some 55, .ia (.tmp 52) (.tmp 54), (some (47, true)), []⟩, ⟨15, some 56, .ld (.tmp 55), (some (47, true)), []⟩, ⟨16, some 57, .len (.tmp 56), (some (47, true)), []⟩, ⟨17, some 58, .bin .neq (.tmp 50) (.tmp 57), (some (47, true)), []⟩, ⟨18, some 59, .pick (.tmp 47) (.tmp 58) (.const (.bool false)), (some (44, false)), []⟩, ⟨19, some 60, .pick (.tmp 44) (.const (.bool true)) (.tmp 59), none, []⟩])
  (.cond (.tmp 60) (.seq (.keep [] (.ops [⟨0, some 2, .mv (.const (.bool false)), none, []⟩]))
  (.ret)) (.skip)))))
  (.keep [1, 3, 34, 35, 36] (.ops [⟨0, some 61, .bin .add (.tmp 36) (.const (.int .i64 1)), none, []⟩, ⟨1, some 36, .mv (.tmp 61), none, []⟩]))))))))
  (.seq (.ops [⟨0, some 62, .fa 0 (.tmp 1), none, []⟩, ⟨1, some 63, .ld (.tmp 62), none, []⟩, ⟨2, some 64, .len (.tmp 63), none, []⟩, ⟨3, some 65, .fa 1 (.tmp 1), none, []⟩, ⟨4, some 66, .ld (.tmp 65), none, []⟩, ⟨5, some 67, .mv (.tmp 3), none, []⟩, ⟨6, some 68, .bin .sub (.tmp 67) (.const (.int .i64 1)), none, []⟩, ⟨7, some 69, .ia (.tmp 66) (.tmp 68), none, []⟩, ⟨8, some 70, .ld (.tmp 69), none, []⟩, ⟨9, some 71, .len (.tmp 70), none, []⟩, ⟨10, some 72, .bin .eql (.tmp 64) (.tmp 71), none, []⟩, ⟨11, some 2, .mv (.tmp 72), none, []⟩])
  (.ret)))))
theorem k_i_ValidBands : FnOk Try.prog n_i_ValidBands 1 c_i_ValidBands [.tmp 2] := ⟨by kernel_rfl⟩
def c_i_kept : ACode :=
  .seq (.ops [⟨0, some 4, .mv (.const (.slice none 0 0)), none, []⟩])
  (.seq (.seq (.ops [⟨0, some 5, .mv (.tmp 1), none, []⟩])
  (.cond (.tmp 5) (.seq (.ops [⟨0, some 6, .mv (.tmp 0), none, []⟩, ⟨1, some 7, .call n_i_copyOf [.tmp 6], none, []⟩, ⟨2, some 4, .mv (.tmp 7), none, []⟩])
  (.ret)) (.skip)))
  (.seq (.ops [⟨0, some 8, .mv (.tmp 0), none, []⟩, ⟨1, some 9, .len (.tmp 8), none, []⟩, ⟨2, some 10, .mks 34 4 (.float .f32 0) (.tmp 9) (.tmp 9), none, []⟩, ⟨3, some 4, .mv (.tmp 10), none, []⟩])
  (.ret)))
theorem k_i_kept : FnOk Try.prog n_i_kept 2 c_i_kept [.tmp 4] := ⟨by kernel_rfl⟩
def c_s_l02Finite : ACode :=
  .seq (.ops [⟨0, some 2, .mv (.const (.bool false)), none, []⟩])
  (.seq (.seq (.ops [⟨0, some 3, .mv (.const (.int .i64 0)), none, []⟩])
  (.block 0 (.loop [0, 3] (.seq (.seq (.ops [⟨0, some 4, .mv (.tmp 3), none, []⟩, ⟨1, some 5, .mv (.tmp 0), none, []⟩, ⟨2, some 6, .len (.tmp 5), none, []⟩, ⟨3, some 7, .bin .lss (.tmp 4) (.tmp 6), none, []⟩])
  (.cond (.tmp 7) (.skip) (.exit 0)))
  (.seq (.block 1 (.seq (.ops [⟨0, some 10, .mv (.tmp 0), none, []⟩, ⟨1, some 11, .mv (.tmp 3), none, []⟩, ⟨2, some 12, .ia (.tmp 10) (.tmp 11), none, []⟩, ⟨3, some 13, .ld (.tmp 12), none, []⟩, ⟨4, some 14, .call n_s_l01Finite [.tmp 13], none, []⟩, ⟨5, some 15, .un .not (.tmp 14), none, []⟩])
  (.cond (.tmp 15) (.seq (.keep [] (.ops [⟨0, some 2, .mv (.const (.bool false)), none, []⟩]))
  (.ret)) (.skip))))
  (.keep [0, 3] (.ops [⟨0, some 8, .mv (.tmp 3), none, []⟩, ⟨1, some 9, .bin .add (.tmp 8) (.const (.int .i64 1)), none, []⟩, ⟨2, some 3, .mv (.tmp 9), none, []⟩])))))))
  (.seq (.keep [] (.ops [⟨0, some 2, .mv (.const (.bool true)), none, []⟩]))
  (.ret)))
theorem k_s_l02Finite : FnOk Try.prog n_s_l02Finite 1 c_s_l02Finite [.tmp 2] := ⟨by kernel_rfl⟩
def c_s_l01Finite : ACode :=
  .seq (.ops [⟨0, some 2, .mv (.const (.bool false)), none, []⟩])
  (.seq (.ops [⟨0, some 3, .mv (.tmp 0), none, []⟩, ⟨1, some 4, .mv (.tmp 0), none, []⟩, ⟨2, some 5, .bin .sub (.tmp 3) (.tmp 4), none, []⟩, ⟨3, some 6, .bin .eql (.tmp 5) (.const (.float .f32 0)), none, []⟩, ⟨4, some 2, .mv (.tmp 6), none, []⟩])
  (.ret))
theorem k_s_l01Finite : FnOk Try.prog n_s_l01Finite 1 c_s_l01Finite [.tmp 2] := ⟨by kernel_rfl⟩
def c_i_IsFinite : ACode :=
  .seq (.ops [⟨0, some 2, .mv (.const (.bool false)), none, []⟩])
  (.seq (.ops [⟨0, some 3, .mv (.tmp 0), none, []⟩, ⟨1, some 4, .mv (.tmp 0), none, []⟩, ⟨2, some 5, .bin .sub (.tmp 3) (.tmp 4), none, []⟩, ⟨3, some 6, .bin .eql (.tmp 5) (.const (.float .f32 0)), none, []⟩, ⟨4, some 2, .mv (.tmp 6), none, []⟩])
  (.ret))
theorem k_i_IsFinite : FnOk Try.prog n_i_IsFinite 1 c_i_IsFinite [.tmp 2] := ⟨by kernel_rfl⟩
end Go.Proofs.Ytkojmlpaamdhoad

/- The code of functions, for the abstract machine; printed by a program (gen.py). -/
import Derived.Test.YtkojmlpaamdhoadGxFn
import Derived.Test.YtkojmlpaamdhoadProg
namespace Go.Proofs.Ytkojmlpaamdhoad
open Go.Gx
set_option maxRecDepth 100000
abbrev t_int64 : Nat := 2
abbrev t_int : Nat := 3
abbrev t_bool : Nat := 4
abbrev t_uint8 : Nat := 5
abbrev t_sfloat32 : Nat := 22
abbrev t_ssfloat32 : Nat := 33
abbrev t_float32 : Nat := 34
abbrev t_suint8 : Nat := 41
abbrev t_float64 : Nat := 53
abbrev t_sint64 : Nat := 72
abbrev t_ssint64 : Nat := 79
abbrev t_sbool : Nat := 96
abbrev t_sint : Nat := 114
abbrev t_Picture : Nat := 26
abbrev t_Pair : Nat := 44
abbrev t_Scheme : Nat := 64
abbrev t_Bands : Nat := 98
abbrev n_w_FnExactLinkMaxima : Nat := 9
abbrev n_w_szFloat32SS : Nat := 22
abbrev n_w_toFloat32SS : Nat := 24
abbrev n_w_eqFloat32SS : Nat := 26
abbrev n_w_markFloat32SS : Nat := 27
abbrev n_w_toFloat32S : Nat := 49
abbrev n_w_eqFloat32S : Nat := 51
abbrev n_w_markFloat32S : Nat := 54
abbrev n_w_eqInt64S : Nat := 69
abbrev n_w_markInt64S : Nat := 70
abbrev n_s_LinkMaxima : Nat := 73
abbrev n_i_LinkMaxima : Nat := 74
abbrev n_w_heldInt64S : Nat := 75
abbrev n_w_szFloat32S : Nat := 109
abbrev n_s_l00In : Nat := 112
abbrev n_i_size : Nat := 122
abbrev n_i_areFinite : Nat := 128
abbrev n_i_within : Nat := 129
abbrev n_w_sameFloat : Nat := 137
abbrev n_s_l03Rows : Nat := 152
abbrev n_s_l03Maxima : Nat := 153
abbrev n_s_l03Apart : Nat := 154
abbrev n_i_areRows : Nat := 155
abbrev n_i_maximaOf : Nat := 156
abbrev n_i_nearest : Nat := 157
abbrev n_s_l03Long : Nat := 171
abbrev n_s_l02Finite : Nat := 175
abbrev n_s_l01Finite : Nat := 184
abbrev n_i_IsFinite : Nat := 185
abbrev n_s_l03Size : Nat := 200
def c_w_FnExactLinkMaxima : ACode :=
  .seq (.ops [⟨0, some 4, .mv (.const (.bool false)), none, []⟩])
  (.seq (.ops [⟨0, some 5, .mv (.const (.int .i64 1048576)), none, []⟩])
  (.seq (.ops [⟨0, some 16, .mv (.tmp 0), none, []⟩, ⟨1, some 17, .mv (.tmp 5), none, []⟩, ⟨2, some 18, .call n_w_szFloat32SS [.tmp 16, .tmp 17], none, []⟩, ⟨3, some 5, .mv (.tmp 18), none, []⟩])
  (.seq (.seq (.ops [⟨0, some 19, .mv (.tmp 5), none, []⟩, ⟨1, some 20, .bin .lss (.tmp 19) (.const (.int .i64 0)), none, []⟩])
  (.cond (.tmp 20) (.seq (.keep [] (.ops [⟨0, some 4, .mv (.const (.bool true)), none, []⟩]))
  (.ret)) (.skip)))
  (.seq (.keep [0, 1] (.ops [⟨0, some 22, .mv (.tmp 0), none, []⟩, ⟨1, some 23, .call n_w_toFloat32SS [.tmp 22], none, []⟩, ⟨2, some 24, .mv (.tmp 1), none, []⟩, ⟨3, some 25, .call n_s_LinkMaxima [.tmp 23, .tmp 24], none, []⟩, ⟨4, some 21, .mv (.tmp 25), none, []⟩, ⟨5, some 26, .ext (.tmp 21) 0, none, []⟩, ⟨6, some 27, .ext (.tmp 21) 1, none, []⟩, ⟨7, some 6, .mv (.tmp 26), none, []⟩, ⟨8, some 7, .mv (.tmp 27), none, []⟩]))
  (.seq (.keep [0, 1, 6, 7] (.ops [⟨0, some 28, .mv (.tmp 0), none, []⟩, ⟨1, some 29, .call n_w_toFloat32SS [.tmp 28], none, []⟩, ⟨2, some 8, .mv (.tmp 29), none, []⟩]))
  (.seq (.ops [⟨0, some 31, .mv (.tmp 8), none, []⟩, ⟨1, some 32, .mv (.tmp 1), none, []⟩, ⟨2, some 33, .call n_i_LinkMaxima [.tmp 31, .tmp 32], none, []⟩, ⟨3, some 30, .mv (.tmp 33), none, []⟩, ⟨4, some 34, .ext (.tmp 30) 0, none, []⟩, ⟨5, some 35, .ext (.tmp 30) 1, none, []⟩, ⟨6, some 9, .mv (.tmp 34), none, []⟩, ⟨7, some 10, .mv (.tmp 35), none, []⟩])
  (.seq (.seq (.keep [0, 1, 6, 7, 8, 9, 10] (.ops [⟨0, some 36, .mv (.tmp 9), none, []⟩, ⟨1, some 37, .mv (.tmp 6), none, []⟩, ⟨2, some 38, .call n_w_eqInt64S [.tmp 36, .tmp 37], none, []⟩, ⟨3, some 39, .un .not (.tmp 38), none, []⟩, ⟨4, some 40, .mv (.tmp 39), none, []⟩, ⟨5, some 41, .mv (.tmp 10), (some (40, false)), []⟩, ⟨6, some 42, .mv (.tmp 7), (some (40, false)), []⟩, ⟨7, some 43, .beq true (.tmp 41) (.tmp 42), (some (40, false)), []⟩, ⟨8, some 44, .pick (.tmp 40) (.const (.bool true)) (.tmp 43), none, []⟩]))
  (.cond (.tmp 44) (.seq (.keep [] (.ops [⟨0, some 4, .mv (.const (.bool false)), none, []⟩]))
  (.ret)) (.skip)))
  (.seq (.seq (.keep [0, 1, 6, 7, 8, 9, 10] (.ops [⟨0, some 45, .mv (.tmp 8), none, []⟩, ⟨1, some 46, .mv (.tmp 0), none, []⟩, ⟨2, some 47, .call n_w_toFloat32SS [.tmp 46], none, []⟩, ⟨3, some 48, .call n_w_eqFloat32SS [.tmp 45, .tmp 47], none, []⟩, ⟨4, some 49, .un .not (.tmp 48), none, []⟩]))
  (.cond (.tmp 49) (.seq (.keep [] (.ops [⟨0, some 4, .mv (.const (.bool false)), none, []⟩]))
  (.ret)) (.skip)))
  (.seq (.keep [0, 1, 6, 7, 8, 9, 10] (.ops [⟨0, some 11, .mv (.const (.int .i64 1)), none, []⟩]))
  (.seq (.ops [⟨0, some 50, .mv (.tmp 8), none, []⟩, ⟨1, some 51, .mv (.tmp 11), none, []⟩, ⟨2, some 52, .call n_w_markFloat32SS [.tmp 50, .tmp 51], none, []⟩, ⟨3, some 11, .mv (.tmp 52), none, []⟩])
  (.seq (.seq (.ops [⟨0, some 53, .mv (.tmp 11), none, []⟩, ⟨1, some 54, .bin .lss (.tmp 53) (.const (.int .i64 0)), none, []⟩, ⟨2, some 55, .mv (.tmp 54), none, []⟩, ⟨3, some 56, .mv (.tmp 9), (some (55, false)), []⟩, ⟨4, some 57, .mv (.tmp 6), (some (55, false)), []⟩, ⟨5, some 58, .call n_w_eqInt64S [.tmp 56, .tmp 57], (some (55, false)), []⟩, ⟨6, some 59, .un .not (.tmp 58), (some (55, false)), []⟩, ⟨7, some 60, .pick (.tmp 55) (.const (.bool true)) (.tmp 59), none, []⟩, ⟨8, some 61, .mv (.tmp 60), none, []⟩, ⟨9, some 62, .mv (.tmp 10), (some (61, false)), []⟩, ⟨10, some 63, .mv (.tmp 7), (some (61, false)), []⟩, ⟨11, some 64, .beq true (.tmp 62) (.tmp 63), (some (61, false)), []⟩, ⟨12, some 65, .pick (.tmp 61) (.const (.bool true)) (.tmp 64), none, []⟩])
  (.cond (.tmp 65) (.seq (.keep [] (.ops [⟨0, some 4, .mv (.const (.bool false)), none, []⟩]))
  (.ret)) (.skip)))
  (.seq (.keep [0, 1, 6, 7, 9] (.ops [⟨0, some 12, .mv (.const (.int .i64 1)), none, []⟩]))
  (.seq (.ops [⟨0, some 66, .mv (.tmp 9), none, []⟩, ⟨1, some 67, .mv (.tmp 12), none, []⟩, ⟨2, some 68, .call n_w_markInt64S [.tmp 66, .tmp 67], none, []⟩, ⟨3, some 12, .mv (.tmp 68), none, []⟩])
  (.seq (.ops [⟨0, some 13, .mv (.const (.int .i64 1)), none, []⟩])
  (.seq (.ops [⟨0, some 69, .mv (.tmp 9), none, []⟩, ⟨1, some 70, .mv (.tmp 13), none, []⟩, ⟨2, some 71, .call n_w_heldInt64S [.tmp 69, .tmp 70], none, []⟩, ⟨3, some 13, .mv (.tmp 71), none, []⟩])
  (.seq (.seq (.keep [0, 1, 6, 7, 9, 12, 13] (.ops [⟨0, some 72, .mv (.tmp 13), none, []⟩, ⟨1, some 73, .bin .lss (.tmp 72) (.const (.int .i64 0)), none, []⟩]))
  (.cond (.tmp 73) (.seq (.keep [] (.ops [⟨0, some 4, .mv (.const (.bool false)), none, []⟩]))
  (.ret)) (.skip)))
  (.seq (.seq (.ops [⟨0, some 74, .mv (.tmp 13), none, []⟩, ⟨1, some 75, .mv (.tmp 12), none, []⟩, ⟨2, some 76, .bin .neq (.tmp 74) (.tmp 75), none, []⟩])
  (.cond (.tmp 76) (.seq (.keep [] (.ops [⟨0, some 4, .mv (.const (.bool false)), none, []⟩]))
  (.ret)) (.skip)))
  (.seq (.keep [0, 1, 6, 7, 9, 12] (.ops [⟨0, some 78, .mv (.tmp 0), none, []⟩, ⟨1, some 79, .call n_w_toFloat32SS [.tmp 78], none, []⟩, ⟨2, some 80, .mv (.tmp 1), none, []⟩, ⟨3, some 81, .call n_i_LinkMaxima [.tmp 79, .tmp 80], none, []⟩, ⟨4, some 77, .mv (.tmp 81), none, []⟩, ⟨5, some 82, .ext (.tmp 77) 0, none, []⟩, ⟨6, some 83, .ext (.tmp 77) 1, none, []⟩, ⟨7, some 14, .mv (.tmp 82), none, []⟩, ⟨8, some 15, .mv (.tmp 83), none, []⟩]))
  (.seq (.seq (.keep [6, 7, 9, 12, 14, 15] (.ops [⟨0, some 84, .mv (.tmp 14), none, []⟩, ⟨1, some 85, .mv (.tmp 6), none, []⟩, ⟨2, some 86, .call n_w_eqInt64S [.tmp 84, .tmp 85], none, []⟩, ⟨3, some 87, .un .not (.tmp 86), none, []⟩, ⟨4, some 88, .mv (.tmp 87), none, []⟩, ⟨5, some 89, .mv (.tmp 15), (some (88, false)), []⟩, ⟨6, some 90, .mv (.tmp 7), (some (88, false)), []⟩, ⟨7, some 91, .beq true (.tmp 89) (.tmp 90), (some (88, false)), []⟩, ⟨8, some 92, .pick (.tmp 88) (.const (.bool true)) (.tmp 91), none, []⟩]))
  (.cond (.tmp 92) (.seq (.keep [] (.ops [⟨0, some 4, .mv (.const (.bool false)), none, []⟩]))
  (.ret)) (.skip)))
  (.seq (.keep [9, 12] (.ops [⟨0, some 13, .mv (.const (.int .i64 1)), none, []⟩]))
  (.seq (.ops [⟨0, some 93, .mv (.tmp 9), none, []⟩, ⟨1, some 94, .mv (.tmp 13), none, []⟩, ⟨2, some 95, .call n_w_heldInt64S [.tmp 93, .tmp 94], none, []⟩, ⟨3, some 13, .mv (.tmp 95), none, []⟩])
  (.seq (.seq (.ops [⟨0, some 96, .mv (.tmp 13), none, []⟩, ⟨1, some 97, .bin .lss (.tmp 96) (.const (.int .i64 0)), none, []⟩])
  (.cond (.tmp 97) (.seq (.keep [] (.ops [⟨0, some 4, .mv (.const (.bool false)), none, []⟩]))
  (.ret)) (.skip)))
  (.seq (.seq (.keep [12, 13] (.ops [⟨0, some 98, .mv (.tmp 13), none, []⟩, ⟨1, some 99, .mv (.tmp 12), none, []⟩, ⟨2, some 100, .bin .neq (.tmp 98) (.tmp 99), none, []⟩]))
  (.cond (.tmp 100) (.seq (.keep [] (.ops [⟨0, some 4, .mv (.const (.bool false)), none, []⟩]))
  (.ret)) (.skip)))
  (.seq (.keep [] (.ops [⟨0, some 4, .mv (.const (.bool true)), none, []⟩]))
  (.ret)))))))))))))))))))))))))
theorem k_w_FnExactLinkMaxima : FnOk Try.prog n_w_FnExactLinkMaxima 2 c_w_FnExactLinkMaxima [.tmp 4] := ⟨by kernel_rfl⟩
def c_w_szFloat32SS : ACode :=
  .seq (.ops [⟨0, some 4, .mv (.const (.int .i64 0)), none, []⟩])
  (.seq (.ops [⟨0, some 6, .mv (.tmp 1), none, []⟩, ⟨1, some 7, .mv (.tmp 0), none, []⟩, ⟨2, some 8, .len (.tmp 7), none, []⟩, ⟨3, some 9, .bin .sub (.tmp 6) (.tmp 8), none, []⟩, ⟨4, some 1, .mv (.tmp 9), none, []⟩])
  (.seq (.seq (.keep [0, 1] (.ops [⟨0, some 10, .mv (.tmp 1), none, []⟩, ⟨1, some 11, .bin .lss (.tmp 10) (.const (.int .i64 0)), none, []⟩]))
  (.cond (.tmp 11) (.seq (.ops [⟨0, some 4, .mv (.const (.int .i64 (-1))), none, []⟩])
  (.ret)) (.skip)))
  (.seq (.seq (.ops [⟨0, some 5, .mv (.const (.int .i64 0)), none, []⟩])
  (.block 0 (.loop [0, 1, 5] (.seq (.seq (.ops [⟨0, some 12, .mv (.tmp 5), none, []⟩, ⟨1, some 13, .mv (.tmp 0), none, []⟩, ⟨2, some 14, .len (.tmp 13), none, []⟩, ⟨3, some 15, .bin .lss (.tmp 12) (.tmp 14), none, []⟩])
  (.cond (.tmp 15) (.skip) (.exit 0)))
  (.seq (.block 1 (.seq (.ops [⟨0, some 18, .mv (.tmp 0), none, []⟩, ⟨1, some 19, .mv (.tmp 5), none, []⟩, ⟨2, some 20, .ia (.tmp 18) (.tmp 19), none, []⟩, ⟨3, some 21, .ld (.tmp 20), none, []⟩, ⟨4, some 22, .mv (.tmp 1), none, []⟩, ⟨5, some 23, .call n_w_szFloat32S [.tmp 21, .tmp 22], none, []⟩, ⟨6, some 1, .mv (.tmp 23), none, []⟩])
  (.seq (.keep [0, 1, 5] (.ops [⟨0, some 24, .mv (.tmp 1), none, []⟩, ⟨1, some 25, .bin .lss (.tmp 24) (.const (.int .i64 0)), none, []⟩]))
  (.cond (.tmp 25) (.seq (.keep [] (.ops [⟨0, some 4, .mv (.const (.int .i64 (-1))), none, []⟩]))
  (.ret)) (.skip)))))
  (.ops [⟨0, some 16, .mv (.tmp 5), none, []⟩, ⟨1, some 17, .bin .add (.tmp 16) (.const (.int .i64 1)), none, []⟩, ⟨2, some 5, .mv (.tmp 17), none, []⟩]))))))
  (.seq (.keep [1] (.ops [⟨0, some 26, .mv (.tmp 1), none, []⟩, ⟨1, some 4, .mv (.tmp 26), none, []⟩]))
  (.ret)))))
theorem k_w_szFloat32SS : FnOk Try.prog n_w_szFloat32SS 2 c_w_szFloat32SS [.tmp 4] := ⟨by kernel_rfl⟩
def c_w_toFloat32SS : ACode :=
  .seq (.ops [⟨0, some 2, .mv (.const (.slice none 0 0)), none, []⟩])
  (.seq (.ops [⟨0, some 5, .mv (.tmp 0), none, []⟩, ⟨1, some 6, .len (.tmp 5), none, []⟩, ⟨2, some 7, .mks 22 24 (.slice none 0 0) (.tmp 6) (.tmp 6), none, []⟩, ⟨3, some 3, .mv (.tmp 7), none, []⟩])
  (.seq (.seq (.ops [⟨0, some 4, .mv (.const (.int .i64 0)), none, []⟩])
  (.block 0 (.loop [0, 3, 4] (.seq (.seq (.ops [⟨0, some 8, .mv (.tmp 4), none, []⟩, ⟨1, some 9, .mv (.tmp 0), none, []⟩, ⟨2, some 10, .len (.tmp 9), none, []⟩, ⟨3, some 11, .bin .lss (.tmp 8) (.tmp 10), none, []⟩])
  (.cond (.tmp 11) (.skip) (.exit 0)))
  (.seq (.block 1 (.ops [⟨0, some 14, .mv (.tmp 3), none, []⟩, ⟨1, some 15, .mv (.tmp 4), none, []⟩, ⟨2, some 16, .mv (.tmp 0), none, []⟩, ⟨3, some 17, .mv (.tmp 4), none, []⟩, ⟨4, some 18, .ia (.tmp 16) (.tmp 17), none, []⟩, ⟨5, some 19, .ld (.tmp 18), none, []⟩, ⟨6, some 20, .call n_w_toFloat32S [.tmp 19], none, []⟩, ⟨7, some 21, .ia (.tmp 14) (.tmp 15), none, []⟩, ⟨8, none, .st (.tmp 21) (.tmp 20), none, []⟩]))
  (.keep [0, 3, 4] (.ops [⟨0, some 12, .mv (.tmp 4), none, []⟩, ⟨1, some 13, .bin .add (.tmp 12) (.const (.int .i64 1)), none, []⟩, ⟨2, some 4, .mv (.tmp 13), none, []⟩])))))))
  (.seq (.keep [3] (.ops [⟨0, some 22, .mv (.tmp 3), none, []⟩, ⟨1, some 2, .mv (.tmp 22), none, []⟩]))
  (.ret))))
theorem k_w_toFloat32SS : FnOk Try.prog n_w_toFloat32SS 1 c_w_toFloat32SS [.tmp 2] := ⟨by kernel_rfl⟩
def c_w_eqFloat32SS : ACode :=
  .seq (.ops [⟨0, some 4, .mv (.const (.bool false)), none, []⟩])
  (.seq (.seq (.ops [⟨0, some 6, .mv (.tmp 0), none, []⟩, ⟨1, some 7, .len (.tmp 6), none, []⟩, ⟨2, some 8, .mv (.tmp 1), none, []⟩, ⟨3, some 9, .len (.tmp 8), none, []⟩, ⟨4, some 10, .bin .neq (.tmp 7) (.tmp 9), none, []⟩])
  (.cond (.tmp 10) (.seq (.keep [] (.ops [⟨0, some 4, .mv (.const (.bool false)), none, []⟩]))
  (.ret)) (.skip)))
  (.seq (.seq (.keep [0, 1] (.ops [⟨0, some 5, .mv (.const (.int .i64 0)), none, []⟩]))
  (.block 0 (.loop [0, 1, 5] (.seq (.seq (.ops [⟨0, some 11, .mv (.tmp 5), none, []⟩, ⟨1, some 12, .mv (.tmp 0), none, []⟩, ⟨2, some 13, .len (.tmp 12), none, []⟩, ⟨3, some 14, .bin .lss (.tmp 11) (.tmp 13), none, []⟩])
  (.cond (.tmp 14) (.skip) (.exit 0)))
  (.seq (.block 1 (.seq (.ops [⟨0, some 17, .mv (.tmp 0), none, []⟩, ⟨1, some 18, .mv (.tmp 5), none, []⟩, ⟨2, some 19, .ia (.tmp 17) (.tmp 18), none, []⟩, ⟨3, some 20, .ld (.tmp 19), none, []⟩, ⟨4, some 21, .mv (.tmp 1), none, []⟩, ⟨5, some 22, .mv (.tmp 5), none, []⟩, ⟨6, some 23, .ia (.tmp 21) (.tmp 22), none, []⟩, ⟨7, some 24, .ld (.tmp 23), none, []⟩, ⟨8, some 25, .call n_w_eqFloat32S [.tmp 20, .tmp 24], none, []⟩, ⟨9, some 26, .un .not (.tmp 25), none, []⟩])
  (.cond (.tmp 26) (.seq (.keep [] (.ops [⟨0, some 4, .mv (.const (.bool false)), none, []⟩]))
  (.ret)) (.skip))))
  (.keep [0, 1, 5] (.ops [⟨0, some 15, .mv (.tmp 5), none, []⟩, ⟨1, some 16, .bin .add (.tmp 15) (.const (.int .i64 1)), none, []⟩, ⟨2, some 5, .mv (.tmp 16), none, []⟩])))))))
  (.seq (.keep [] (.ops [⟨0, some 4, .mv (.const (.bool true)), none, []⟩]))
  (.ret))))
theorem k_w_eqFloat32SS : FnOk Try.prog n_w_eqFloat32SS 2 c_w_eqFloat32SS [.tmp 4] := ⟨by kernel_rfl⟩
def c_w_markFloat32SS : ACode :=
  .seq (.ops [⟨0, some 4, .mv (.const (.int .i64 0)), none, []⟩])
  (.seq (.seq (.ops [⟨0, some 5, .mv (.const (.int .i64 0)), none, []⟩])
  (.block 0 (.loop [0, 1, 5] (.seq (.seq (.ops [⟨0, some 6, .mv (.tmp 5), none, []⟩, ⟨1, some 7, .mv (.tmp 0), none, []⟩, ⟨2, some 8, .len (.tmp 7), none, []⟩, ⟨3, some 9, .bin .lss (.tmp 6) (.tmp 8), none, []⟩])
  (.cond (.tmp 9) (.skip) (.exit 0)))
  (.seq (.block 1 (.ops [⟨0, some 12, .mv (.tmp 0), none, []⟩, ⟨1, some 13, .mv (.tmp 5), none, []⟩, ⟨2, some 14, .ia (.tmp 12) (.tmp 13), none, []⟩, ⟨3, some 15, .ld (.tmp 14), none, []⟩, ⟨4, some 16, .mv (.tmp 1), none, []⟩, ⟨5, some 17, .call n_w_markFloat32S [.tmp 15, .tmp 16], none, []⟩, ⟨6, some 1, .mv (.tmp 17), none, []⟩]))
  (.keep [0, 1, 5] (.ops [⟨0, some 10, .mv (.tmp 5), none, []⟩, ⟨1, some 11, .bin .add (.tmp 10) (.const (.int .i64 1)), none, []⟩, ⟨2, some 5, .mv (.tmp 11), none, []⟩])))))))
  (.seq (.keep [1] (.ops [⟨0, some 18, .mv (.tmp 1), none, []⟩, ⟨1, some 4, .mv (.tmp 18), none, []⟩]))
  (.ret)))
theorem k_w_markFloat32SS : FnOk Try.prog n_w_markFloat32SS 2 c_w_markFloat32SS [.tmp 4] := ⟨by kernel_rfl⟩
def c_w_toFloat32S : ACode :=
  .seq (.ops [⟨0, some 2, .mv (.const (.slice none 0 0)), none, []⟩])
  (.seq (.ops [⟨0, some 5, .mv (.tmp 0), none, []⟩, ⟨1, some 6, .len (.tmp 5), none, []⟩, ⟨2, some 7, .mks 34 4 (.float .f32 0) (.tmp 6) (.tmp 6), none, []⟩, ⟨3, some 3, .mv (.tmp 7), none, []⟩])
  (.seq (.seq (.ops [⟨0, some 4, .mv (.const (.int .i64 0)), none, []⟩])
  (.block 0 (.loop [0, 3, 4] (.seq (.seq (.ops [⟨0, some 8, .mv (.tmp 4), none, []⟩, ⟨1, some 9, .mv (.tmp 0), none, []⟩, ⟨2, some 10, .len (.tmp 9), none, []⟩, ⟨3, some 11, .bin .lss (.tmp 8) (.tmp 10), none, []⟩])
  (.cond (.tmp 11) (.skip) (.exit 0)))
  (.seq (.block 1 (.ops [⟨0, some 14, .mv (.tmp 3), none, []⟩, ⟨1, some 15, .mv (.tmp 4), none, []⟩, ⟨2, some 16, .mv (.tmp 0), none, []⟩, ⟨3, some 17, .mv (.tmp 4), none, []⟩, ⟨4, some 18, .ia (.tmp 16) (.tmp 17), none, []⟩, ⟨5, some 19, .ld (.tmp 18), none, []⟩, ⟨6, some 20, .ia (.tmp 14) (.tmp 15), none, []⟩, ⟨7, none, .st (.tmp 20) (.tmp 19), none, []⟩]))
  (.keep [0, 3, 4] (.ops [⟨0, some 12, .mv (.tmp 4), none, []⟩, ⟨1, some 13, .bin .add (.tmp 12) (.const (.int .i64 1)), none, []⟩, ⟨2, some 4, .mv (.tmp 13), none, []⟩])))))))
  (.seq (.keep [3] (.ops [⟨0, some 21, .mv (.tmp 3), none, []⟩, ⟨1, some 2, .mv (.tmp 21), none, []⟩]))
  (.ret))))
theorem k_w_toFloat32S : FnOk Try.prog n_w_toFloat32S 1 c_w_toFloat32S [.tmp 2] := ⟨by kernel_rfl⟩
def c_w_eqFloat32S : ACode :=
  .seq (.ops [⟨0, some 4, .mv (.const (.bool false)), none, []⟩])
  (.seq (.seq (.ops [⟨0, some 6, .mv (.tmp 0), none, []⟩, ⟨1, some 7, .len (.tmp 6), none, []⟩, ⟨2, some 8, .mv (.tmp 1), none, []⟩, ⟨3, some 9, .len (.tmp 8), none, []⟩, ⟨4, some 10, .bin .neq (.tmp 7) (.tmp 9), none, []⟩])
  (.cond (.tmp 10) (.seq (.keep [] (.ops [⟨0, some 4, .mv (.const (.bool false)), none, []⟩]))
  (.ret)) (.skip)))
  (.seq (.seq (.keep [0, 1] (.ops [⟨0, some 5, .mv (.const (.int .i64 0)), none, []⟩]))
  (.block 0 (.loop [0, 1, 5] (.seq (.seq (.ops [⟨0, some 11, .mv (.tmp 5), none, []⟩, ⟨1, some 12, .mv (.tmp 0), none, []⟩, ⟨2, some 13, .len (.tmp 12), none, []⟩, ⟨3, some 14, .bin .lss (.tmp 11) (.tmp 13), none, []⟩])
  (.cond (.tmp 14) (.skip) (.exit 0)))
  (.seq (.block 1 (.seq (.ops [⟨0, some 17, .mv (.tmp 0), none, []⟩, ⟨1, some 18, .mv (.tmp 5), none, []⟩, ⟨2, some 19, .ia (.tmp 17) (.tmp 18), none, []⟩, ⟨3, some 20, .ld (.tmp 19), none, []⟩, ⟨4, some 21, .cv (.f .f64) (.tmp 20), none, []⟩, ⟨5, some 22, .mv (.tmp 1), none, []⟩, ⟨6, some 23, .mv (.tmp 5), none, []⟩, ⟨7, some 24, .ia (.tmp 22) (.tmp 23), none, []⟩, ⟨8, some 25, .ld (.tmp 24), none, []⟩, ⟨9, some 26, .cv (.f .f64) (.tmp 25), none, []⟩, ⟨10, some 27, .call n_w_sameFloat [.tmp 21, .tmp 26], none, []⟩, ⟨11, some 28, .un .not (.tmp 27), none, []⟩])
  (.cond (.tmp 28) (.seq (.keep [] (.ops [⟨0, some 4, .mv (.const (.bool false)), none, []⟩]))
  (.ret)) (.skip))))
  (.keep [0, 1, 5] (.ops [⟨0, some 15, .mv (.tmp 5), none, []⟩, ⟨1, some 16, .bin .add (.tmp 15) (.const (.int .i64 1)), none, []⟩, ⟨2, some 5, .mv (.tmp 16), none, []⟩])))))))
  (.seq (.keep [] (.ops [⟨0, some 4, .mv (.const (.bool true)), none, []⟩]))
  (.ret))))
theorem k_w_eqFloat32S : FnOk Try.prog n_w_eqFloat32S 2 c_w_eqFloat32S [.tmp 4] := ⟨by kernel_rfl⟩
def c_w_markFloat32S : ACode :=
  .seq (.ops [⟨0, some 4, .mv (.const (.int .i64 0)), none, []⟩])
  (.seq (.seq (.ops [⟨0, some 5, .mv (.const (.int .i64 0)), none, []⟩])
  (.block 0 (.loop [0, 1, 5] (.seq (.seq (.ops [⟨0, some 6, .mv (.tmp 5), none, []⟩, ⟨1, some 7, .mv (.tmp 0), none, []⟩, ⟨2, some 8, .len (.tmp 7), none, []⟩, ⟨3, some 9, .bin .lss (.tmp 6) (.tmp 8), none, []⟩])
  (.cond (.tmp 9) (.skip) (.exit 0)))
  (.seq (.block 1 (.seq (.ops [⟨0, some 12, .mv (.tmp 0), none, []⟩, ⟨1, some 13, .mv (.tmp 5), none, []⟩, ⟨2, some 14, .mv (.tmp 1), none, []⟩, ⟨3, some 15, .cv (.f .f32) (.tmp 14), none, []⟩, ⟨4, some 16, .ia (.tmp 12) (.tmp 13), none, []⟩, ⟨5, none, .st (.tmp 16) (.tmp 15), none, []⟩])
  (.keep [0, 1, 5] (.ops [⟨0, some 17, .mv (.tmp 1), none, []⟩, ⟨1, some 18, .bin .add (.tmp 17) (.const (.int .i64 1)), none, []⟩, ⟨2, some 1, .mv (.tmp 18), none, []⟩]))))
  (.ops [⟨0, some 10, .mv (.tmp 5), none, []⟩, ⟨1, some 11, .bin .add (.tmp 10) (.const (.int .i64 1)), none, []⟩, ⟨2, some 5, .mv (.tmp 11), none, []⟩]))))))
  (.seq (.keep [1] (.ops [⟨0, some 19, .mv (.tmp 1), none, []⟩, ⟨1, some 4, .mv (.tmp 19), none, []⟩]))
  (.ret)))
theorem k_w_markFloat32S : FnOk Try.prog n_w_markFloat32S 2 c_w_markFloat32S [.tmp 4] := ⟨by kernel_rfl⟩
def c_w_eqInt64S : ACode :=
  .seq (.ops [⟨0, some 4, .mv (.const (.bool false)), none, []⟩])
  (.seq (.seq (.ops [⟨0, some 6, .mv (.tmp 0), none, []⟩, ⟨1, some 7, .len (.tmp 6), none, []⟩, ⟨2, some 8, .mv (.tmp 1), none, []⟩, ⟨3, some 9, .len (.tmp 8), none, []⟩, ⟨4, some 10, .bin .neq (.tmp 7) (.tmp 9), none, []⟩])
  (.cond (.tmp 10) (.seq (.keep [] (.ops [⟨0, some 4, .mv (.const (.bool false)), none, []⟩]))
  (.ret)) (.skip)))
  (.seq (.seq (.keep [0, 1] (.ops [⟨0, some 5, .mv (.const (.int .i64 0)), none, []⟩]))
  (.block 0 (.loop [0, 1, 5] (.seq (.seq (.ops [⟨0, some 11, .mv (.tmp 5), none, []⟩, ⟨1, some 12, .mv (.tmp 0), none, []⟩, ⟨2, some 13, .len (.tmp 12), none, []⟩, ⟨3, some 14, .bin .lss (.tmp 11) (.tmp 13), none, []⟩])
  (.cond (.tmp 14) (.skip) (.exit 0)))
  (.seq (.block 1 (.seq (.ops [⟨0, some 17, .mv (.tmp 0), none, []⟩, ⟨1, some 18, .mv (.tmp 5), none, []⟩, ⟨2, some 19, .ia (.tmp 17) (.tmp 18), none, []⟩, ⟨3, some 20, .ld (.tmp 19), none, []⟩, ⟨4, some 21, .mv (.tmp 1), none, []⟩, ⟨5, some 22, .mv (.tmp 5), none, []⟩, ⟨6, some 23, .ia (.tmp 21) (.tmp 22), none, []⟩, ⟨7, some 24, .ld (.tmp 23), none, []⟩, ⟨8, some 25, .bin .neq (.tmp 20) (.tmp 24), none, []⟩])
  (.cond (.tmp 25) (.seq (.keep [] (.ops [⟨0, some 4, .mv (.const (.bool false)), none, []⟩]))
  (.ret)) (.skip))))
  (.keep [0, 1, 5] (.ops [⟨0, some 15, .mv (.tmp 5), none, []⟩, ⟨1, some 16, .bin .add (.tmp 15) (.const (.int .i64 1)), none, []⟩, ⟨2, some 5, .mv (.tmp 16), none, []⟩])))))))
  (.seq (.keep [] (.ops [⟨0, some 4, .mv (.const (.bool true)), none, []⟩]))
  (.ret))))
theorem k_w_eqInt64S : FnOk Try.prog n_w_eqInt64S 2 c_w_eqInt64S [.tmp 4] := ⟨by kernel_rfl⟩
def c_w_markInt64S : ACode :=
  .seq (.ops [⟨0, some 4, .mv (.const (.int .i64 0)), none, []⟩])
  (.seq (.seq (.ops [⟨0, some 5, .mv (.const (.int .i64 0)), none, []⟩])
  (.block 0 (.loop [0, 1, 5] (.seq (.seq (.ops [⟨0, some 6, .mv (.tmp 5), none, []⟩, ⟨1, some 7, .mv (.tmp 0), none, []⟩, ⟨2, some 8, .len (.tmp 7), none, []⟩, ⟨3, some 9, .bin .lss (.tmp 6) (.tmp 8), none, []⟩])
  (.cond (.tmp 9) (.skip) (.exit 0)))
  (.seq (.block 1 (.seq (.ops [⟨0, some 12, .mv (.tmp 0), none, []⟩, ⟨1, some 13, .mv (.tmp 5), none, []⟩, ⟨2, some 14, .mv (.tmp 1), none, []⟩, ⟨3, some 15, .ia (.tmp 12) (.tmp 13), none, []⟩, ⟨4, none, .st (.tmp 15) (.tmp 14), none, []⟩])
  (.keep [0, 1, 5] (.ops [⟨0, some 16, .mv (.tmp 1), none, []⟩, ⟨1, some 17, .bin .add (.tmp 16) (.const (.int .i64 1)), none, []⟩, ⟨2, some 1, .mv (.tmp 17), none, []⟩]))))
  (.ops [⟨0, some 10, .mv (.tmp 5), none, []⟩, ⟨1, some 11, .bin .add (.tmp 10) (.const (.int .i64 1)), none, []⟩, ⟨2, some 5, .mv (.tmp 11), none, []⟩]))))))
  (.seq (.keep [1] (.ops [⟨0, some 18, .mv (.tmp 1), none, []⟩, ⟨1, some 4, .mv (.tmp 18), none, []⟩]))
  (.ret)))
theorem k_w_markInt64S : FnOk Try.prog n_w_markInt64S 2 c_w_markInt64S [.tmp 4] := ⟨by kernel_rfl⟩
def c_s_LinkMaxima : ACode :=
  .seq (.ops [⟨0, some 4, .mv (.const (.slice none 0 0)), none, []⟩, ⟨1, some 5, .mv (.const (.bool false)), none, []⟩])
  (.seq (.seq (.ops [⟨0, some 15, .mv (.tmp 0), none, []⟩, ⟨1, some 16, .call n_s_l03Rows [.tmp 15, .const (.int .i64 12)], none, []⟩, ⟨2, some 17, .un .not (.tmp 16), none, []⟩, ⟨3, some 18, .mv (.tmp 17), none, []⟩, ⟨4, some 19, .mv (.tmp 1), (some (18, false)), []⟩, ⟨5, some 20, .call n_s_l00In [.tmp 19, .const (.int .i64 0), .const (.int .i64 128)], (some (18, false)), []⟩, ⟨6, some 21, .un .not (.tmp 20), (some (18, false)), []⟩, ⟨7, some 22, .pick (.tmp 18) (.const (.bool true)) (.tmp 21), none, []⟩])
  (.cond (.tmp 22) (.seq (.keep [] (.ops [⟨0, some 4, .mv (.const (.slice none 0 0)), none, []⟩, ⟨1, some 5, .mv (.const (.bool false)), none, []⟩]))
  (.ret)) (.skip)))
  (.seq (.keep [0, 1] (.ops [⟨0, some 23, .mv (.tmp 0), none, []⟩, ⟨1, some 24, .ia (.tmp 23) (.const (.int .i64 0)), none, []⟩, ⟨2, some 25, .ld (.tmp 24), none, []⟩, ⟨3, some 26, .call n_s_l03Maxima [.tmp 25], none, []⟩, ⟨4, some 6, .mv (.tmp 26), none, []⟩]))
  (.seq (.ops [⟨0, some 27, .bsl 2 0 (.int .i64 0) [], none, []⟩, ⟨1, some 28, .mv (.tmp 6), none, []⟩, ⟨2, some 29, .app 2 8 (.tmp 27) (.tmp 28), none, []⟩, ⟨3, some 7, .mv (.tmp 29), none, []⟩])
  (.seq (.seq (.keep [0, 1, 6, 7] (.ops [⟨0, some 8, .mv (.const (.int .i64 1)), none, []⟩]))
  (.block 0 (.loop [0, 1, 6, 7, 8] (.seq (.seq (.ops [⟨0, some 30, .mv (.tmp 8), none, []⟩, ⟨1, some 31, .mv (.tmp 0), none, []⟩, ⟨2, some 32, .len (.tmp 31), none, []⟩, ⟨3, some 33, .bin .lss (.tmp 30) (.tmp 32), none, []⟩])
  (.cond (.tmp 33) (.skip) (.exit 0)))
  (.seq (.block 1 (.seq (.ops [⟨0, some 36, .mv (.tmp 0), none, []⟩, ⟨1, some 37, .mv (.tmp 8), none, []⟩, ⟨2, some 38, .ia (.tmp 36) (.tmp 37), none, []⟩, ⟨3, some 39, .ld (.tmp 38), none, []⟩, ⟨4, some 40, .call n_s_l03Maxima [.tmp 39], none, []⟩, ⟨5, some 9, .mv (.tmp 40), none, []⟩])
  (.seq (.keep [0, 1, 6, 7, 8, 9] (.ops [⟨0, some 41, .bsl 2 0 (.int .i64 0) [], none, []⟩, ⟨1, some 10, .mv (.tmp 41), none, []⟩]))
  (.seq (.ops [⟨0, some 42, .bsl 2 0 (.int .i64 0) [], none, []⟩, ⟨1, some 11, .mv (.tmp 42), none, []⟩])
  (.seq (.seq (.ops [⟨0, some 43, .mv (.tmp 7), none, []⟩, ⟨1, some 44, .len (.tmp 43), none, []⟩, ⟨2, some 45, .mv (.const (.int .i64 0)), none, []⟩])
  (.block 2 (.loop [0, 1, 6, 7, 8, 9, 10, 11, 44, 45] (.seq (.ops [⟨0, some 46, .bin .lss (.tmp 45) (.tmp 44), none, []⟩])
  (.seq (.cond (.tmp 46) (.skip) (.exit 2))
  (.seq (.block 3 (.seq (.ops [⟨0, some 47, .mv (.tmp 45), none, []⟩, ⟨1, some 12, .mv (.tmp 47), none, []⟩])
  (.seq (.ops [⟨0, some 13, .mv (.const (.int .i64 (-1))), none, []⟩])
  (.seq (.seq (.ops [⟨0, some 48, .mv (.tmp 9), none, []⟩, ⟨1, some 49, .len (.tmp 48), none, []⟩, ⟨2, some 50, .mv (.const (.int .i64 0)), none, []⟩])
  (.block 4 (.loop [0, 1, 6, 7, 8, 9, 10, 11, 12, 13, 44, 45, 49, 50] (.seq (.ops [⟨0, some 51, .bin .lss (.tmp 50) (.tmp 49), none, []⟩])
  (.seq (.cond (.tmp 51) (.skip) (.exit 4))
  (.seq (.block 5 (.seq (.ops [⟨0, some 52, .mv (.tmp 50), none, []⟩, ⟨1, some 14, .mv (.tmp 52), none, []⟩])
  (.seq (.ops [⟨0, some 53, .mv (.tmp 13), none, []⟩, ⟨1, some 54, .bin .lss (.tmp 53) (.const (.int .i64 0)), none, []⟩, ⟨2, some 55, .mv (.tmp 54), none, []⟩, ⟨3, some 56, .mv (.tmp 9), (some (55, false)), []⟩, ⟨4, some 57, .mv (.tmp 14), (some (55, false)), []⟩, ⟨5, some 58, .ia (.tmp 56) (.tmp 57), (some (55, false)), []⟩, ⟨6, some 59, .ld (.tmp 58), (some (55, false)), []⟩, ⟨7, some 60, .mv (.tmp 7), (some (55, false)), []⟩, ⟨8, some 61, .mv (.tmp 12), (some (55, false)), []⟩, ⟨9, some 62, .ia (.tmp 60) (.tmp 61), (some (55, false)), []⟩, ⟨10, some 63, .ld (.tmp 62), (some (55, false)), []⟩, ⟨12, some 65, .mv (.tmp 9), (some (55, false)), []⟩, ⟨13, some 66, .mv (.tmp 13), (some (55, false)), []⟩, ⟨14, some 67, .ia (.tmp 65) (.tmp 66), (some (55, false)), []⟩, ⟨15, some 68, .ld (.tmp 67), (some (55, false)), []⟩, ⟨16, some 69, .mv (.tmp 7), (some (55, false)), []⟩, ⟨17, some 70, .mv (.tmp 12), (some (55, false)), []⟩, ⟨18, some 71, .ia (.tmp 69) (.tmp 70), (some (55, false)), []⟩, ⟨19, some 72, .ld (.tmp 71), (some (55, false)), []⟩, ⟨11, some 64, .call n_s_l03Apart [.tmp 59, .tmp 63], (some (55, false)), [(some 67, .ia (.tmp 65) (.tmp 66), (some (55, false))), (some 68, .ld (.tmp 67), (some (55, false))), (some 71, .ia (.tmp 69) (.tmp 70), (some (55, false))), (some 72, .ld (.tmp 71), (some (55, false)))]⟩, ⟨20, some 73, .call n_s_l03Apart [.tmp 68, .tmp 72], (some (55, false)), []⟩, ⟨21, some 74, .bin .lss (.tmp 64) (.tmp 73), (some (55, false)), []⟩, ⟨22, some 75, .pick (.tmp 55) (.const (.bool true)) (.tmp 74), none, []⟩])
  (.cond (.tmp 75) (.keep [0, 1, 6, 7, 8, 9, 10, 11, 12, 14, 44, 45, 49, 50] (.ops [⟨0, some 76, .mv (.tmp 14), none, []⟩, ⟨1, some 13, .mv (.tmp 76), none, []⟩])) (.skip)))))
  (.keep [0, 1, 6, 7, 8, 9, 10, 11, 12, 13, 44, 45, 49, 50] (.ops [⟨0, some 77, .bin .add (.tmp 50) (.const (.int .i64 1)), none, []⟩, ⟨1, some 50, .mv (.tmp 77), none, []⟩]))))))))
  (.seq (.ops [⟨0, some 78, .mv (.tmp 13), none, []⟩, ⟨1, some 79, .bin .geq (.tmp 78) (.const (.int .i64 0)), none, []⟩, ⟨2, some 80, .mv (.tmp 79), none, []⟩, ⟨3, some 81, .mv (.tmp 9), (some (80, true)), []⟩, ⟨4, some 82, .mv (.tmp 13), (some (80, true)), []⟩, ⟨5, some 83, .ia (.tmp 81) (.tmp 82), (some (80, true)), []⟩, ⟨6, some 84, .ld (.tmp 83), (some (80, true)), []⟩, ⟨7, some 85, .mv (.tmp 7), (some (80, true)), []⟩, ⟨8, some 86, .mv (.tmp 12), (some (80, true)), []⟩, ⟨9, some 87, .ia (.tmp 85) (.tmp 86), (some (80, true)), []⟩, ⟨10, some 88, .ld (.tmp 87), (some (80, true)), []⟩, ⟨12, some 90, .mv (.tmp 1), (some (80, true)), []⟩, ⟨11, some 89, .call n_s_l03Apart [.tmp 84, .tmp 88], (some (80, true)), []⟩, ⟨13, some 91, .bin .leq (.tmp 89) (.tmp 90), (some (80, true)), []⟩, ⟨14, some 92, .pick (.tmp 80) (.tmp 91) (.const (.bool false)), none, []⟩])
  (.cond (.tmp 92) (.seq (.keep [0, 1, 6, 7, 8, 9, 10, 11, 12, 13, 44, 45] (.ops [⟨0, some 93, .mv (.tmp 10), none, []⟩, ⟨1, some 94, .mv (.tmp 6), none, []⟩, ⟨2, some 95, .mv (.tmp 12), none, []⟩, ⟨3, some 96, .ia (.tmp 94) (.tmp 95), none, []⟩, ⟨4, some 97, .ld (.tmp 96), none, []⟩, ⟨5, some 98, .bsl 2 1 (.int .i64 0) [(0, .tmp 97)], none, []⟩, ⟨6, some 99, .app 2 8 (.tmp 93) (.tmp 98), none, []⟩, ⟨7, some 10, .mv (.tmp 99), none, []⟩]))
  (.keep [0, 1, 6, 7, 8, 9, 10, 11, 13, 44, 45] (.ops [⟨0, some 100, .mv (.tmp 11), none, []⟩, ⟨1, some 101, .mv (.tmp 9), none, []⟩, ⟨2, some 102, .mv (.tmp 13), none, []⟩, ⟨3, some 103, .ia (.tmp 101) (.tmp 102), none, []⟩, ⟨4, some 104, .ld (.tmp 103), none, []⟩, ⟨5, some 105, .bsl 2 1 (.int .i64 0) [(0, .tmp 104)], none, []⟩, ⟨6, some 106, .app 2 8 (.tmp 100) (.tmp 105), none, []⟩, ⟨7, some 11, .mv (.tmp 106), none, []⟩]))) (.skip)))))))
  (.keep [0, 1, 6, 7, 8, 9, 10, 11, 44, 45] (.ops [⟨0, some 107, .bin .add (.tmp 45) (.const (.int .i64 1)), none, []⟩, ⟨1, some 45, .mv (.tmp 107), none, []⟩]))))))))
  (.seq (.keep [0, 1, 8, 10, 11] (.ops [⟨0, some 108, .mv (.tmp 10), none, []⟩, ⟨1, some 6, .mv (.tmp 108), none, []⟩]))
  (.ops [⟨0, some 109, .mv (.tmp 11), none, []⟩, ⟨1, some 7, .mv (.tmp 109), none, []⟩])))))))
  (.ops [⟨0, some 34, .mv (.tmp 8), none, []⟩, ⟨1, some 35, .bin .add (.tmp 34) (.const (.int .i64 1)), none, []⟩, ⟨2, some 8, .mv (.tmp 35), none, []⟩]))))))
  (.seq (.keep [6] (.ops [⟨0, some 110, .mv (.tmp 6), none, []⟩, ⟨1, some 4, .mv (.tmp 110), none, []⟩, ⟨2, some 5, .mv (.const (.bool true)), none, []⟩]))
  (.ret))))))
theorem k_s_LinkMaxima : FnOk Try.prog n_s_LinkMaxima 2 c_s_LinkMaxima [.tmp 4, .tmp 5] := ⟨by kernel_rfl⟩
def c_i_LinkMaxima : ACode :=
  .seq (.ops [⟨0, some 4, .mv (.const (.slice none 0 0)), none, []⟩, ⟨1, some 5, .mv (.const (.bool false)), none, []⟩])
  (.seq (.seq (.ops [⟨0, some 12, .mv (.tmp 0), none, []⟩, ⟨1, some 13, .call n_i_areRows [.tmp 12, .const (.int .i64 12)], none, []⟩, ⟨2, some 14, .un .not (.tmp 13), none, []⟩, ⟨3, some 15, .mv (.tmp 14), none, []⟩, ⟨4, some 16, .mv (.tmp 1), (some (15, false)), []⟩, ⟨5, some 17, .call n_i_within [.tmp 16, .const (.int .i64 0), .const (.int .i64 128)], (some (15, false)), []⟩, ⟨6, some 18, .un .not (.tmp 17), (some (15, false)), []⟩, ⟨7, some 19, .pick (.tmp 15) (.const (.bool true)) (.tmp 18), none, []⟩])
  (.cond (.tmp 19) (.seq (.keep [] (.ops [⟨0, some 4, .mv (.const (.slice none 0 0)), none, []⟩, ⟨1, some 5, .mv (.const (.bool false)), none, []⟩]))
  (.ret)) (.skip)))
  (.seq (.keep [0, 1] (.ops [⟨0, some 20, .bsl 2 0 (.int .i64 0) [], none, []⟩, ⟨1, some 6, .mv (.tmp 20), none, []⟩]))
  (.seq (.seq (.ops [⟨0, some 21, .mv (.tmp 0), none, []⟩, ⟨1, some 22, .ia (.tmp 21) (.const (.int .i64 0)), none, []⟩, ⟨2, some 23, .ld (.tmp 22), none, []⟩, ⟨3, some 24, .call n_i_maximaOf [.tmp 23], none, []⟩, ⟨4, some 25, .len (.tmp 24), none, []⟩, ⟨5, some 26, .mv (.const (.int .i64 0)), none, []⟩])
  (.block 0 (.loop [0, 1, 6, 24, 25, 26] (.seq (.ops [⟨0, some 27, .bin .lss (.tmp 26) (.tmp 25), none, []⟩])
  (.seq (.cond (.tmp 27) (.skip) (.exit 0))
  (.seq (.block 1 (.seq (.ops [⟨0, some 28, .ia (.tmp 24) (.tmp 26), none, []⟩, ⟨1, some 29, .ld (.tmp 28), none, []⟩, ⟨2, some 8, .mv (.tmp 29), none, []⟩])
  (.seq (.ops [⟨0, some 30, .mv (.tmp 8), none, []⟩, ⟨1, some 9, .mv (.tmp 30), none, []⟩, ⟨2, some 10, .mv (.const (.bool true)), none, []⟩])
  (.seq (.seq (.ops [⟨0, some 11, .mv (.const (.int .i64 1)), none, []⟩])
  (.block 2 (.loop [0, 1, 6, 8, 9, 10, 11, 24, 25, 26] (.seq (.seq (.ops [⟨0, some 31, .mv (.tmp 11), none, []⟩, ⟨1, some 32, .mv (.tmp 0), none, []⟩, ⟨2, some 33, .len (.tmp 32), none, []⟩, ⟨3, some 34, .bin .lss (.tmp 31) (.tmp 33), none, []⟩, ⟨4, some 35, .mv (.tmp 34), none, []⟩, ⟨5, some 36, .mv (.tmp 10), (some (35, true)), []⟩, ⟨6, some 37, .pick (.tmp 35) (.tmp 36) (.const (.bool false)), none, []⟩])
  (.cond (.tmp 37) (.skip) (.exit 2)))
  (.seq (.block 3 (.keep [0, 1, 6, 8, 9, 11, 24, 25, 26] (.ops [⟨0, some 41, .mv (.tmp 0), none, []⟩, ⟨1, some 42, .mv (.tmp 11), none, []⟩, ⟨2, some 43, .ia (.tmp 41) (.tmp 42), none, []⟩, ⟨3, some 44, .ld (.tmp 43), none, []⟩, ⟨4, some 45, .call n_i_maximaOf [.tmp 44], none, []⟩, ⟨5, some 46, .mv (.tmp 9), none, []⟩, ⟨6, some 47, .mv (.tmp 1), none, []⟩, ⟨7, some 48, .call n_i_nearest [.tmp 45, .tmp 46, .tmp 47], none, []⟩, ⟨8, some 40, .mv (.tmp 48), none, []⟩, ⟨9, some 49, .ext (.tmp 40) 0, none, []⟩, ⟨10, some 50, .ext (.tmp 40) 1, none, []⟩, ⟨11, some 9, .mv (.tmp 49), none, []⟩, ⟨12, some 10, .mv (.tmp 50), none, []⟩])))
  (.keep [0, 1, 6, 8, 9, 10, 11, 24, 25, 26] (.ops [⟨0, some 38, .mv (.tmp 11), none, []⟩, ⟨1, some 39, .bin .add (.tmp 38) (.const (.int .i64 1)), none, []⟩, ⟨2, some 11, .mv (.tmp 39), none, []⟩])))))))
  (.seq (.keep [0, 1, 6, 8, 10, 24, 25, 26] (.ops [⟨0, some 51, .mv (.tmp 10), none, []⟩]))
  (.cond (.tmp 51) (.ops [⟨0, some 52, .mv (.tmp 6), none, []⟩, ⟨1, some 53, .mv (.tmp 8), none, []⟩, ⟨2, some 54, .bsl 2 1 (.int .i64 0) [(0, .tmp 53)], none, []⟩, ⟨3, some 55, .app 2 8 (.tmp 52) (.tmp 54), none, []⟩, ⟨4, some 6, .mv (.tmp 55), none, []⟩]) (.skip)))))))
  (.keep [0, 1, 6, 24, 25, 26] (.ops [⟨0, some 56, .bin .add (.tmp 26) (.const (.int .i64 1)), none, []⟩, ⟨1, some 26, .mv (.tmp 56), none, []⟩]))))))))
  (.seq (.keep [6] (.ops [⟨0, some 57, .mv (.tmp 6), none, []⟩, ⟨1, some 4, .mv (.tmp 57), none, []⟩, ⟨2, some 5, .mv (.const (.bool true)), none, []⟩]))
  (.ret)))))
theorem k_i_LinkMaxima : FnOk Try.prog n_i_LinkMaxima 2 c_i_LinkMaxima [.tmp 4, .tmp 5] := ⟨by kernel_rfl⟩
def c_w_heldInt64S : ACode :=
  .seq (.ops [⟨0, some 4, .mv (.const (.int .i64 0)), none, []⟩])
  (.seq (.seq (.ops [⟨0, some 5, .mv (.const (.int .i64 0)), none, []⟩])
  (.block 0 (.loop [0, 1, 5] (.seq (.seq (.ops [⟨0, some 6, .mv (.tmp 5), none, []⟩, ⟨1, some 7, .mv (.tmp 0), none, []⟩, ⟨2, some 8, .len (.tmp 7), none, []⟩, ⟨3, some 9, .bin .lss (.tmp 6) (.tmp 8), none, []⟩])
  (.cond (.tmp 9) (.skip) (.exit 0)))
  (.seq (.block 1 (.seq (.seq (.ops [⟨0, some 12, .mv (.tmp 0), none, []⟩, ⟨1, some 13, .mv (.tmp 5), none, []⟩, ⟨2, some 14, .ia (.tmp 12) (.tmp 13), none, []⟩, ⟨3, some 15, .ld (.tmp 14), none, []⟩, ⟨4, some 16, .mv (.tmp 1), none, []⟩, ⟨5, some 17, .bin .neq (.tmp 15) (.tmp 16), none, []⟩])
  (.cond (.tmp 17) (.seq (.keep [] (.ops [⟨0, some 4, .mv (.const (.int .i64 (-1))), none, []⟩]))
  (.ret)) (.skip)))
  (.keep [0, 1, 5] (.ops [⟨0, some 18, .mv (.tmp 1), none, []⟩, ⟨1, some 19, .bin .add (.tmp 18) (.const (.int .i64 1)), none, []⟩, ⟨2, some 1, .mv (.tmp 19), none, []⟩]))))
  (.ops [⟨0, some 10, .mv (.tmp 5), none, []⟩, ⟨1, some 11, .bin .add (.tmp 10) (.const (.int .i64 1)), none, []⟩, ⟨2, some 5, .mv (.tmp 11), none, []⟩]))))))
  (.seq (.keep [1] (.ops [⟨0, some 20, .mv (.tmp 1), none, []⟩, ⟨1, some 4, .mv (.tmp 20), none, []⟩]))
  (.ret)))
theorem k_w_heldInt64S : FnOk Try.prog n_w_heldInt64S 2 c_w_heldInt64S [.tmp 4] := ⟨by kernel_rfl⟩
def c_w_szFloat32S : ACode :=
  .seq (.ops [⟨0, some 4, .mv (.const (.int .i64 0)), none, []⟩])
  (.seq (.ops [⟨0, some 5, .mv (.tmp 1), none, []⟩, ⟨1, some 6, .mv (.tmp 0), none, []⟩, ⟨2, some 7, .len (.tmp 6), none, []⟩, ⟨3, some 8, .bin .sub (.tmp 5) (.tmp 7), none, []⟩, ⟨4, some 1, .mv (.tmp 8), none, []⟩])
  (.seq (.seq (.keep [1] (.ops [⟨0, some 9, .mv (.tmp 1), none, []⟩, ⟨1, some 10, .bin .lss (.tmp 9) (.const (.int .i64 0)), none, []⟩]))
  (.cond (.tmp 10) (.seq (.ops [⟨0, some 4, .mv (.const (.int .i64 (-1))), none, []⟩])
  (.ret)) (.skip)))
  (.seq (.ops [⟨0, some 11, .mv (.tmp 1), none, []⟩, ⟨1, some 4, .mv (.tmp 11), none, []⟩])
  (.ret))))
theorem k_w_szFloat32S : FnOk Try.prog n_w_szFloat32S 2 c_w_szFloat32S [.tmp 4] := ⟨by kernel_rfl⟩
def c_s_l00In : ACode :=
  .seq (.ops [⟨0, some 6, .mv (.const (.bool false)), none, []⟩])
  (.seq (.ops [⟨0, some 7, .mv (.tmp 0), none, []⟩, ⟨1, some 8, .mv (.tmp 1), none, []⟩, ⟨2, some 9, .bin .geq (.tmp 7) (.tmp 8), none, []⟩, ⟨3, some 10, .mv (.tmp 9), none, []⟩, ⟨4, some 11, .mv (.tmp 0), (some (10, true)), []⟩, ⟨5, some 12, .mv (.tmp 2), (some (10, true)), []⟩, ⟨6, some 13, .bin .leq (.tmp 11) (.tmp 12), (some (10, true)), []⟩, ⟨7, some 14, .pick (.tmp 10) (.tmp 13) (.const (.bool false)), none, []⟩, ⟨8, some 6, .mv (.tmp 14), none, []⟩])
  (.ret))
theorem k_s_l00In : FnOk Try.prog n_s_l00In 3 c_s_l00In [.tmp 6] := ⟨by kernel_rfl⟩
def c_i_size : ACode :=
  .seq (.ops [⟨0, some 2, .mv (.const (.float .f32 0)), none, []⟩])
  (.seq (.seq (.ops [⟨0, some 3, .mv (.tmp 0), none, []⟩, ⟨1, some 4, .bin .lss (.tmp 3) (.const (.float .f32 0)), none, []⟩])
  (.cond (.tmp 4) (.seq (.ops [⟨0, some 5, .mv (.tmp 0), none, []⟩, ⟨1, some 6, .un .neg (.tmp 5), none, []⟩, ⟨2, some 2, .mv (.tmp 6), none, []⟩])
  (.ret)) (.skip)))
  (.seq (.seq (.ops [⟨0, some 7, .mv (.tmp 0), none, []⟩, ⟨1, some 8, .bin .eql (.tmp 7) (.const (.float .f32 0)), none, []⟩])
  (.cond (.tmp 8) (.seq (.keep [] (.ops [⟨0, some 2, .mv (.const (.float .f32 0)), none, []⟩]))
  (.ret)) (.skip)))
  (.seq (.keep [0] (.ops [⟨0, some 9, .mv (.tmp 0), none, []⟩, ⟨1, some 2, .mv (.tmp 9), none, []⟩]))
  (.ret))))
theorem k_i_size : FnOk Try.prog n_i_size 1 c_i_size [.tmp 2] := ⟨by kernel_rfl⟩
def c_i_areFinite : ACode :=
  .seq (.ops [⟨0, some 2, .mv (.const (.bool false)), none, []⟩])
  (.seq (.seq (.ops [⟨0, some 7, .mv (.tmp 0), none, []⟩, ⟨1, some 8, .len (.tmp 7), none, []⟩, ⟨2, some 9, .mv (.const (.int .i64 0)), none, []⟩])
  (.block 0 (.loop [7, 8, 9] (.seq (.ops [⟨0, some 10, .bin .lss (.tmp 9) (.tmp 8), none, []⟩])
  (.seq (.cond (.tmp 10) (.skip) (.exit 0))
  (.seq (.block 1 (.seq (.ops [⟨0, some 11, .ia (.tmp 7) (.tmp 9), none, []⟩, ⟨1, some 12, .ld (.tmp 11), none, []⟩, ⟨2, some 4, .mv (.tmp 12), none, []⟩])
  (.seq (.ops [⟨0, some 13, .mv (.tmp 4), none, []⟩, ⟨1, some 14, .len (.tmp 13), none, []⟩, ⟨2, some 15, .mv (.const (.int .i64 0)), none, []⟩])
  (.block 2 (.loop [7, 8, 9, 13, 14, 15] (.seq (.ops [⟨0, some 16, .bin .lss (.tmp 15) (.tmp 14), none, []⟩])
  (.seq (.cond (.tmp 16) (.skip) (.exit 2))
  (.seq (.block 3 (.seq (.ops [⟨0, some 17, .ia (.tmp 13) (.tmp 15), none, []⟩, ⟨1, some 18, .ld (.tmp 17), none, []⟩, ⟨2, some 6, .mv (.tmp 18), none, []⟩])
  (.seq (.ops [⟨0, some 19, .mv (.tmp 6), none, []⟩, ⟨1, some 20, .call n_i_IsFinite [.tmp 19], none, []⟩, ⟨2, some 21, .un .not (.tmp 20), none, []⟩])
  (.cond (.tmp 21) (.seq (.keep [] (.ops [⟨0, some 2, .mv (.const (.bool false)), none, []⟩]))
  (.ret)) (.skip)))))
  (.keep [7, 8, 9, 13, 14, 15] (.ops [⟨0, some 22, .bin .add (.tmp 15) (.const (.int .i64 1)), none, []⟩, ⟨1, some 15, .mv (.tmp 22), none, []⟩]))))))))))
  (.ops [⟨0, some 23, .bin .add (.tmp 9) (.const (.int .i64 1)), none, []⟩, ⟨1, some 9, .mv (.tmp 23), none, []⟩])))))))
  (.seq (.ops [⟨0, some 2, .mv (.const (.bool true)), none, []⟩])
  (.ret)))
theorem k_i_areFinite : FnOk Try.prog n_i_areFinite 1 c_i_areFinite [.tmp 2] := ⟨by kernel_rfl⟩
def c_i_within : ACode :=
  .seq (.ops [⟨0, some 6, .mv (.const (.bool false)), none, []⟩])
  (.seq (.ops [⟨0, some 7, .mv (.tmp 0), none, []⟩, ⟨1, some 8, .mv (.tmp 1), none, []⟩, ⟨2, some 9, .bin .geq (.tmp 7) (.tmp 8), none, []⟩, ⟨3, some 10, .mv (.tmp 9), none, []⟩, ⟨4, some 11, .mv (.tmp 0), (some (10, true)), []⟩, ⟨5, some 12, .mv (.tmp 2), (some (10, true)), []⟩, ⟨6, some 13, .bin .leq (.tmp 11) (.tmp 12), (some (10, true)), []⟩, ⟨7, some 14, .pick (.tmp 10) (.tmp 13) (.const (.bool false)), none, []⟩, ⟨8, some 6, .mv (.tmp 14), none, []⟩])
  (.ret))
theorem k_i_within : FnOk Try.prog n_i_within 3 c_i_within [.tmp 6] := ⟨by kernel_rfl⟩
def c_w_sameFloat : ACode :=
  .seq (.ops [⟨0, some 4, .mv (.const (.bool false)), none, []⟩])
  (.seq (.seq (.ops [⟨0, some 5, .mv (.tmp 0), none, []⟩, ⟨1, some 6, .mv (.tmp 0), none, []⟩, ⟨2, some 7, .bin .neq (.tmp 5) (.tmp 6), none, []⟩, ⟨3, some 8, .mv (.tmp 7), none, []⟩, ⟨4, some 9, .mv (.tmp 1), (some (8, false)), []⟩, ⟨5, some 10, .mv (.tmp 1), (some (8, false)), []⟩, ⟨6, some 11, .bin .neq (.tmp 9) (.tmp 10), (some (8, false)), []⟩, ⟨7, some 12, .pick (.tmp 8) (.const (.bool true)) (.tmp 11), none, []⟩])
  (.cond (.tmp 12) (.seq (.keep [0, 1] (.ops [⟨0, some 13, .mv (.tmp 0), none, []⟩, ⟨1, some 14, .mv (.tmp 0), none, []⟩, ⟨2, some 15, .bin .neq (.tmp 13) (.tmp 14), none, []⟩, ⟨3, some 16, .mv (.tmp 15), none, []⟩, ⟨4, some 17, .mv (.tmp 1), (some (16, true)), []⟩, ⟨5, some 18, .mv (.tmp 1), (some (16, true)), []⟩, ⟨6, some 19, .bin .neq (.tmp 17) (.tmp 18), (some (16, true)), []⟩, ⟨7, some 20, .pick (.tmp 16) (.tmp 19) (.const (.bool false)), none, []⟩, ⟨8, some 4, .mv (.tmp 20), none, []⟩]))
  (.ret)) (.skip)))
  (.seq (.seq (.keep [0, 1] (.ops [⟨0, some 21, .mv (.tmp 0), none, []⟩, ⟨1, some 22, .bin .eql (.tmp 21) (.const (.float .f64 0)), none, []⟩, ⟨2, some 23, .mv (.tmp 22), none, []⟩, ⟨3, some 24, .mv (.tmp 1), (some (23, true)), []⟩, ⟨4, some 25, .bin .eql (.tmp 24) (.const (.float .f64 0)), (some (23, true)), []⟩, ⟨5, some 26, .pick (.tmp 23) (.tmp 25) (.const (.bool false)), none, []⟩]))
  (.cond (.tmp 26) (.seq (.keep [0, 1] (.ops [⟨0, some 27, .mv (.tmp 0), none, []⟩, ⟨1, some 28, .bin .quo (.const (.float .f64 4607182418800017408)) (.tmp 27), none, []⟩, ⟨2, some 29, .bin .gtr (.tmp 28) (.const (.float .f64 0)), none, []⟩, ⟨3, some 30, .mv (.tmp 1), none, []⟩, ⟨4, some 31, .bin .quo (.const (.float .f64 4607182418800017408)) (.tmp 30), none, []⟩, ⟨5, some 32, .bin .gtr (.tmp 31) (.const (.float .f64 0)), none, []⟩, ⟨6, some 33, .beq false (.tmp 29) (.tmp 32), none, []⟩, ⟨7, some 4, .mv (.tmp 33), none, []⟩]))
  (.ret)) (.skip)))
  (.seq (.keep [0, 1] (.ops [⟨0, some 34, .mv (.tmp 0), none, []⟩, ⟨1, some 35, .mv (.tmp 1), none, []⟩, ⟨2, some 36, .bin .eql (.tmp 34) (.tmp 35), none, []⟩, ⟨3, some 4, .mv (.tmp 36), none, []⟩]))
  (.ret))))
theorem k_w_sameFloat : FnOk Try.prog n_w_sameFloat 2 c_w_sameFloat [.tmp 4] := ⟨by kernel_rfl⟩
def c_s_l03Rows : ACode :=
  .seq (.ops [⟨0, some 4, .mv (.const (.bool false)), none, []⟩])
  (.seq (.seq (.ops [⟨0, some 6, .mv (.tmp 0), none, []⟩, ⟨1, some 7, .len (.tmp 6), none, []⟩, ⟨2, some 8, .bin .lss (.tmp 7) (.const (.int .i64 1)), none, []⟩, ⟨3, some 9, .mv (.tmp 8), none, []⟩, ⟨4, some 10, .mv (.tmp 0), (some (9, false)), []⟩, ⟨5, some 11, .len (.tmp 10), (some (9, false)), []⟩, ⟨6, some 12, .mv (.tmp 1), (some (9, false)), []⟩, ⟨7, some 13, .bin .gtr (.tmp 11) (.tmp 12), (some (9, false)), []⟩, ⟨8, some 14, .pick (.tmp 9) (.const (.bool true)) (.tmp 13), none, []⟩])
  (.cond (.tmp 14) (.seq (.keep [] (.ops [⟨0, some 4, .mv (.const (.bool false)), none, []⟩]))
  (.ret)) (.skip)))
  (.seq (.seq (.keep [0] (.ops [⟨0, some 15, .mv (.tmp 0), none, []⟩, ⟨1, some 16, .len (.tmp 15), none, []⟩, ⟨2, some 17, .mv (.const (.int .i64 0)), none, []⟩]))
  (.block 0 (.loop [0, 16, 17] (.seq (.ops [⟨0, some 18, .bin .lss (.tmp 17) (.tmp 16), none, []⟩])
  (.seq (.cond (.tmp 18) (.skip) (.exit 0))
  (.seq (.block 1 (.seq (.ops [⟨0, some 19, .mv (.tmp 17), none, []⟩, ⟨1, some 5, .mv (.tmp 19), none, []⟩])
  (.seq (.ops [⟨0, some 20, .mv (.tmp 0), none, []⟩, ⟨1, some 21, .mv (.tmp 5), none, []⟩, ⟨2, some 22, .ia (.tmp 20) (.tmp 21), none, []⟩, ⟨3, some 23, .ld (.tmp 22), none, []⟩, ⟨4, some 24, .call n_s_l03Long [.tmp 23], none, []⟩, ⟨5, some 25, .un .not (.tmp 24), none, []⟩, ⟨6, some 26, .mv (.tmp 25), none, []⟩, ⟨7, some 27, .mv (.tmp 0), (some (26, false)), []⟩, ⟨8, some 28, .mv (.tmp 5), (some (26, false)), []⟩, ⟨9, some 29, .ia (.tmp 27) (.tmp 28), (some (26, false)), []⟩, ⟨10, some 30, .ld (.tmp 29), (some (26, false)), []⟩, ⟨11, some 31, .len (.tmp 30), (some (26, false)), []⟩, ⟨12, some 32, .mv (.tmp 0), (some (26, false)), []⟩, ⟨13, some 33, .ia (.tmp 32) (.const (.int .i64 0)), (some (26, false)), []⟩, ⟨14, some 34, .ld (.tmp 33), (some (26, false)), []⟩, ⟨15, some 35, .len (.tmp 34), (some (26, false)), []⟩, ⟨16, some 36, .bin .neq (.tmp 31) (.tmp 35), (some (26, false)), []⟩, ⟨17, some 37, .pick (.tmp 26) (.const (.bool true)) (.tmp 36), none, []⟩])
  (.cond (.tmp 37) (.seq (.keep [] (.ops [⟨0, some 4, .mv (.const (.bool false)), none, []⟩]))
  (.ret)) (.skip)))))
  (.keep [0, 16, 17] (.ops [⟨0, some 38, .bin .add (.tmp 17) (.const (.int .i64 1)), none, []⟩, ⟨1, some 17, .mv (.tmp 38), none, []⟩]))))))))
  (.seq (.ops [⟨0, some 4, .mv (.const (.bool true)), none, []⟩])
  (.ret))))
theorem k_s_l03Rows : FnOk Try.prog n_s_l03Rows 2 c_s_l03Rows [.tmp 4] := ⟨by kernel_rfl⟩
def c_s_l03Maxima : ACode :=
  .seq (.ops [⟨0, some 2, .mv (.const (.slice none 0 0)), none, []⟩])
  (.seq (.ops [⟨0, some 6, .bsl 2 0 (.int .i64 0) [], none, []⟩, ⟨1, some 3, .mv (.tmp 6), none, []⟩])
  (.seq (.seq (.ops [⟨0, some 7, .mv (.tmp 0), none, []⟩, ⟨1, some 8, .len (.tmp 7), none, []⟩, ⟨2, some 9, .mv (.const (.int .i64 0)), none, []⟩])
  (.block 0 (.loop [0, 3, 8, 9] (.seq (.ops [⟨0, some 10, .bin .lss (.tmp 9) (.tmp 8), none, []⟩])
  (.seq (.cond (.tmp 10) (.skip) (.exit 0))
  (.seq (.block 1 (.seq (.ops [⟨0, some 11, .mv (.tmp 9), none, []⟩, ⟨1, some 4, .mv (.tmp 11), none, []⟩])
  (.seq (.ops [⟨0, some 12, .mv (.tmp 0), none, []⟩, ⟨1, some 13, .mv (.tmp 4), none, []⟩, ⟨2, some 14, .ia (.tmp 12) (.tmp 13), none, []⟩, ⟨3, some 15, .ld (.tmp 14), none, []⟩, ⟨4, some 16, .call n_s_l03Size [.tmp 15], none, []⟩, ⟨5, some 5, .mv (.tmp 16), none, []⟩])
  (.seq (.keep [0, 3, 4, 5, 8, 9] (.ops [⟨0, some 17, .mv (.tmp 5), none, []⟩, ⟨1, some 18, .bin .gtr (.tmp 17) (.const (.float .f32 0)), none, []⟩, ⟨2, some 19, .mv (.tmp 18), none, []⟩, ⟨3, some 20, .mv (.tmp 4), (some (19, true)), []⟩, ⟨4, some 21, .bin .eql (.tmp 20) (.const (.int .i64 0)), (some (19, true)), []⟩, ⟨5, some 22, .mv (.tmp 21), (some (19, true)), []⟩, ⟨6, some 23, .mv (.tmp 5), (some (22, false)), []⟩, ⟨7, some 24, .mv (.tmp 0), (some (22, false)), []⟩, ⟨8, some 25, .mv (.tmp 4), (some (22, false)), []⟩, ⟨9, some 26, .bin .sub (.tmp 25) (.const (.int .i64 1)), (some (22, false)), []⟩, ⟨10, some 27, .ia (.tmp 24) (.tmp 26), (some (22, false)), []⟩, ⟨11, some 28, .ld (.tmp 27), (some (22, false)), []⟩, ⟨12, some 29, .call n_s_l03Size [.tmp 28], (some (22, false)), []⟩, ⟨13, some 30, .bin .gtr (.tmp 23) (.tmp 29), (some (22, false)), []⟩, ⟨14, some 31, .pick (.tmp 22) (.const (.bool true)) (.tmp 30), (some (19, true)), []⟩, ⟨15, some 32, .pick (.tmp 19) (.tmp 31) (.const (.bool false)), none, []⟩, ⟨16, some 33, .mv (.tmp 32), none, []⟩, ⟨17, some 34, .mv (.tmp 4), (some (33, true)), []⟩, ⟨18, some 35, .bin .add (.tmp 34) (.const (.int .i64 1)), (some (33, true)), []⟩, ⟨19, some 36, .mv (.tmp 0), (some (33, true)), []⟩, ⟨20, some 37, .len (.tmp 36), (some (33, true)), []⟩, ⟨21, some 38, .bin .eql (.tmp 35) (.tmp 37), (some (33, true)), []⟩, ⟨22, some 39, .mv (.tmp 38), (some (33, true)), []⟩, ⟨23, some 40, .mv (.tmp 5), (some (39, false)), []⟩, ⟨24, some 41, .mv (.tmp 0), (some (39, false)), []⟩, ⟨25, some 42, .mv (.tmp 4), (some (39, false)), []⟩, ⟨26, some 43, .bin .add (.tmp 42) (.const (.int .i64 1)), (some (39, false)), []⟩, ⟨27, some 44, .ia (.tmp 41) (.tmp 43), (some (39, false)), []⟩, ⟨28, some 45, .ld (.tmp 44), (some (39, false)), []⟩, ⟨29, some 46, .call n_s_l03Size [.tmp 45], (some (39, false)), []⟩, ⟨30, some 47, .bin .geq (.tmp 40) (.tmp 46), (some (39, false)), []⟩, ⟨31, some 48, .pick (.tmp 39) (.const (.bool true)) (.tmp 47), (some (33, true)), []⟩, ⟨32, some 49, .pick (.tmp 33) (.tmp 48) (.const (.bool false)), none, []⟩]))
  (.cond (.tmp 49) (.keep [0, 3, 4, 8, 9] (.ops [⟨0, some 50, .mv (.tmp 3), none, []⟩, ⟨1, some 51, .mv (.tmp 4), none, []⟩, ⟨2, some 52, .bsl 2 1 (.int .i64 0) [(0, .tmp 51)], none, []⟩, ⟨3, some 53, .app 2 8 (.tmp 50) (.tmp 52), none, []⟩, ⟨4, some 3, .mv (.tmp 53), none, []⟩])) (.skip))))))
  (.keep [0, 3, 8, 9] (.ops [⟨0, some 54, .bin .add (.tmp 9) (.const (.int .i64 1)), none, []⟩, ⟨1, some 9, .mv (.tmp 54), none, []⟩]))))))))
  (.seq (.ops [⟨0, some 55, .mv (.tmp 3), none, []⟩, ⟨1, some 2, .mv (.tmp 55), none, []⟩])
  (.ret))))
theorem k_s_l03Maxima : FnOk Try.prog n_s_l03Maxima 1 c_s_l03Maxima [.tmp 2] := ⟨by kernel_rfl⟩
def c_s_l03Apart : ACode :=
  .seq (.ops [⟨0, some 4, .mv (.const (.int .i64 0)), none, []⟩])
  (.seq (.seq (.ops [⟨0, some 5, .mv (.tmp 0), none, []⟩, ⟨1, some 6, .mv (.tmp 1), none, []⟩, ⟨2, some 7, .bin .lss (.tmp 5) (.tmp 6), none, []⟩])
  (.cond (.tmp 7) (.seq (.ops [⟨0, some 8, .mv (.tmp 1), none, []⟩, ⟨1, some 9, .mv (.tmp 0), none, []⟩, ⟨2, some 10, .bin .sub (.tmp 8) (.tmp 9), none, []⟩, ⟨3, some 4, .mv (.tmp 10), none, []⟩])
  (.ret)) (.skip)))
  (.seq (.ops [⟨0, some 11, .mv (.tmp 0), none, []⟩, ⟨1, some 12, .mv (.tmp 1), none, []⟩, ⟨2, some 13, .bin .sub (.tmp 11) (.tmp 12), none, []⟩, ⟨3, some 4, .mv (.tmp 13), none, []⟩])
  (.ret)))
theorem k_s_l03Apart : FnOk Try.prog n_s_l03Apart 2 c_s_l03Apart [.tmp 4] := ⟨by kernel_rfl⟩
def c_i_areRows : ACode :=
  .seq (.ops [⟨0, some 4, .mv (.const (.bool false)), none, []⟩])
  (.seq (.seq (.ops [⟨0, some 7, .mv (.tmp 0), none, []⟩, ⟨1, some 8, .len (.tmp 7), none, []⟩, ⟨2, some 9, .mv (.tmp 1), none, []⟩, ⟨3, some 10, .call n_i_within [.tmp 8, .const (.int .i64 1), .tmp 9], none, []⟩, ⟨4, some 11, .un .not (.tmp 10), none, []⟩, ⟨5, some 12, .mv (.tmp 11), none, []⟩, ⟨6, some 13, .mv (.tmp 0), (some (12, false)), []⟩, ⟨7, some 14, .call n_i_areFinite [.tmp 13], (some (12, false)), []⟩, ⟨8, some 15, .un .not (.tmp 14), (some (12, false)), []⟩, ⟨9, some 16, .pick (.tmp 12) (.const (.bool true)) (.tmp 15), none, []⟩])
  (.cond (.tmp 16) (.seq (.keep [] (.ops [⟨0, some 4, .mv (.const (.bool false)), none, []⟩]))
  (.ret)) (.skip)))
  (.seq (.seq (.keep [0] (.ops [⟨0, some 17, .mv (.tmp 0), none, []⟩, ⟨1, some 18, .len (.tmp 17), none, []⟩, ⟨2, some 19, .mv (.const (.int .i64 0)), none, []⟩]))
  (.block 0 (.loop [0, 17, 18, 19] (.seq (.ops [⟨0, some 20, .bin .lss (.tmp 19) (.tmp 18), none, []⟩])
  (.seq (.cond (.tmp 20) (.skip) (.exit 0))
  (.seq (.block 1 (.seq (.ops [⟨0, some 21, .ia (.tmp 17) (.tmp 19), none, []⟩, ⟨1, some 22, .ld (.tmp 21), none, []⟩, ⟨2, some 6, .mv (.tmp 22), none, []⟩])
  (.seq (.ops [⟨0, some 23, .mv (.tmp 6), none, []⟩, ⟨1, some 24, .len (.tmp 23), none, []⟩, ⟨2, some 25, .mv (.tmp 0), none, []⟩, ⟨3, some 26, .ia (.tmp 25) (.const (.int .i64 0)), none, []⟩, ⟨4, some 27, .ld (.tmp 26), none, []⟩, ⟨5, some 28, .len (.tmp 27), none, []⟩, ⟨6, some 29, .bin .neq (.tmp 24) (.tmp 28), none, []⟩, ⟨7, some 30, .mv (.tmp 29), none, []⟩, ⟨8, some 31, .mv (.tmp 6), (some (30, false)), []⟩, ⟨9, some 32, .len (.tmp 31), (some (30, false)), []⟩, ⟨10, some 33, .call n_i_within [.tmp 32, .const (.int .i64 1), .const (.int .i64 128)], (some (30, false)), []⟩, ⟨11, some 34, .un .not (.tmp 33), (some (30, false)), []⟩, ⟨12, some 35, .pick (.tmp 30) (.const (.bool true)) (.tmp 34), none, []⟩])
  (.cond (.tmp 35) (.seq (.keep [] (.ops [⟨0, some 4, .mv (.const (.bool false)), none, []⟩]))
  (.ret)) (.skip)))))
  (.keep [0, 17, 18, 19] (.ops [⟨0, some 36, .bin .add (.tmp 19) (.const (.int .i64 1)), none, []⟩, ⟨1, some 19, .mv (.tmp 36), none, []⟩]))))))))
  (.seq (.keep [] (.ops [⟨0, some 4, .mv (.const (.bool true)), none, []⟩]))
  (.ret))))
theorem k_i_areRows : FnOk Try.prog n_i_areRows 2 c_i_areRows [.tmp 4] := ⟨by kernel_rfl⟩
def c_i_maximaOf : ACode :=
  .seq (.ops [⟨0, some 2, .mv (.const (.slice none 0 0)), none, []⟩])
  (.seq (.ops [⟨0, some 7, .bsl 2 0 (.int .i64 0) [], none, []⟩, ⟨1, some 3, .mv (.tmp 7), none, []⟩])
  (.seq (.seq (.ops [⟨0, some 8, .mv (.tmp 0), none, []⟩, ⟨1, some 9, .len (.tmp 8), none, []⟩, ⟨2, some 10, .mv (.const (.int .i64 0)), none, []⟩])
  (.block 0 (.loop [0, 3, 8, 9, 10] (.seq (.ops [⟨0, some 11, .bin .lss (.tmp 10) (.tmp 9), none, []⟩])
  (.seq (.cond (.tmp 11) (.skip) (.exit 0))
  (.seq (.block 1 (.seq (.ops [⟨0, some 12, .mv (.tmp 10), none, []⟩, ⟨1, some 13, .ia (.tmp 8) (.tmp 10), none, []⟩, ⟨2, some 14, .ld (.tmp 13), none, []⟩, ⟨3, some 4, .mv (.tmp 12), none, []⟩, ⟨4, some 5, .mv (.tmp 14), none, []⟩])
  (.seq (.ops [⟨0, some 15, .mv (.tmp 5), none, []⟩, ⟨1, some 16, .call n_i_size [.tmp 15], none, []⟩, ⟨2, some 6, .mv (.tmp 16), none, []⟩])
  (.seq (.keep [0, 3, 4, 6, 8, 9, 10] (.ops [⟨0, some 17, .mv (.tmp 6), none, []⟩, ⟨1, some 18, .bin .gtr (.tmp 17) (.const (.float .f32 0)), none, []⟩, ⟨2, some 19, .mv (.tmp 18), none, []⟩, ⟨3, some 20, .mv (.tmp 4), (some (19, true)), []⟩, ⟨4, some 21, .bin .eql (.tmp 20) (.const (.int .i64 0)), (some (19, true)), []⟩, ⟨5, some 22, .mv (.tmp 21), (some (19, true)), []⟩, ⟨6, some 23, .mv (.tmp 6), (some (22, false)), []⟩, ⟨7, some 24, .mv (.tmp 0), (some (22, false)), []⟩, ⟨8, some 25, .mv (.tmp 4), (some (22, false)), []⟩, ⟨9, some 26, .bin .sub (.tmp 25) (.const (.int .i64 1)), (some (22, false)), []⟩, ⟨10, some 27, .ia (.tmp 24) (.tmp 26), (some (22, false)), []⟩, ⟨11, some 28, .ld (.tmp 27), (some (22, false)), []⟩, ⟨12, some 29, .call n_i_size [.tmp 28], (some (22, false)), []⟩, ⟨13, some 30, .bin .gtr (.tmp 23) (.tmp 29), (some (22, false)), []⟩, ⟨14, some 31, .pick (.tmp 22) (.const (.bool true)) (.tmp 30), (some (19, true)), []⟩, ⟨15, some 32, .pick (.tmp 19) (.tmp 31) (.const (.bool false)), none, []⟩, ⟨16, some 33, .mv (.tmp 32), none, []⟩, ⟨17, some 34, .mv (.tmp 4), (some (33, true)), []⟩, ⟨18, some 35, .bin .add (.tmp 34) (.const (.int .i64 1)), (some (33, true)), []⟩, ⟨19, some 36, .mv (.tmp 0), (some (33, true)), []⟩, ⟨20, some 37, .len (.tmp 36), (some (33, true)), []⟩, ⟨21, some 38, .bin .eql (.tmp 35) (.tmp 37), (some (33, true)), []⟩, ⟨22, some 39, .mv (.tmp 38), (some (33, true)), []⟩, ⟨23, some 40, .mv (.tmp 6), (some (39, false)), []⟩, ⟨24, some 41, .mv (.tmp 0), (some (39, false)), []⟩, ⟨25, some 42, .mv (.tmp 4), (some (39, false)), []⟩, ⟨26, some 43, .bin .add (.tmp 42) (.const (.int .i64 1)), (some (39, false)), []⟩, ⟨27, some 44, .ia (.tmp 41) (.tmp 43), (some (39, false)), []⟩, ⟨28, some 45, .ld (.tmp 44), (some (39, false)), []⟩, ⟨29, some 46, .call n_i_size [.tmp 45], (some (39, false)), []⟩, ⟨30, some 47, .bin .geq (.tmp 40) (.tmp 46), (some (39, false)), []⟩, ⟨31, some 48, .pick (.tmp 39) (.const (.bool true)) (.tmp 47), (some (33, true)), []⟩, ⟨32, some 49, .pick (.tmp 33) (.tmp 48) (.const (.bool false)), none, []⟩]))
  (.cond (.tmp 49) (.keep [0, 3, 4, 8, 9, 10] (.ops [⟨0, some 50, .mv (.tmp 3), none, []⟩, ⟨1, some 51, .mv (.tmp 4), none, []⟩, ⟨2, some 52, .bsl 2 1 (.int .i64 0) [(0, .tmp 51)], none, []⟩, ⟨3, some 53, .app 2 8 (.tmp 50) (.tmp 52), none, []⟩, ⟨4, some 3, .mv (.tmp 53), none, []⟩])) (.skip))))))
  (.keep [0, 3, 8, 9, 10] (.ops [⟨0, some 54, .bin .add (.tmp 10) (.const (.int .i64 1)), none, []⟩, ⟨1, some 10, .mv (.tmp 54), none, []⟩]))))))))
  (.seq (.keep [3] (.ops [⟨0, some 55, .mv (.tmp 3), none, []⟩, ⟨1, some 2, .mv (.tmp 55), none, []⟩]))
  (.ret))))
theorem k_i_maximaOf : FnOk Try.prog n_i_maximaOf 1 c_i_maximaOf [.tmp 2] := ⟨by kernel_rfl⟩
def c_i_nearest : ACode :=
  .seq (.ops [⟨0, some 6, .mv (.const (.int .i64 0)), none, []⟩, ⟨1, some 7, .mv (.const (.bool false)), none, []⟩])
  (.seq (.ops [⟨0, some 8, .mv (.const (.int .i64 0)), none, []⟩, ⟨1, some 9, .mv (.const (.bool false)), none, []⟩])
  (.seq (.seq (.ops [⟨0, some 13, .mv (.tmp 0), none, []⟩, ⟨1, some 14, .len (.tmp 13), none, []⟩, ⟨2, some 15, .mv (.const (.int .i64 0)), none, []⟩])
  (.block 0 (.loop [1, 2, 8, 9, 13, 14, 15] (.seq (.ops [⟨0, some 16, .bin .lss (.tmp 15) (.tmp 14), none, []⟩])
  (.seq (.cond (.tmp 16) (.skip) (.exit 0))
  (.seq (.block 1 (.seq (.ops [⟨0, some 17, .ia (.tmp 13) (.tmp 15), none, []⟩, ⟨1, some 18, .ld (.tmp 17), none, []⟩, ⟨2, some 11, .mv (.tmp 18), none, []⟩])
  (.seq (.ops [⟨0, some 19, .mv (.tmp 11), none, []⟩, ⟨1, some 20, .mv (.tmp 1), none, []⟩, ⟨2, some 21, .bin .sub (.tmp 19) (.tmp 20), none, []⟩, ⟨3, some 22, .mv (.tmp 1), none, []⟩, ⟨4, some 23, .mv (.tmp 11), none, []⟩, ⟨5, some 24, .bin .sub (.tmp 22) (.tmp 23), none, []⟩, ⟨6, some 25, .mnx true (.tmp 21) (.tmp 24), none, []⟩, ⟨7, some 12, .mv (.tmp 25), none, []⟩])
  (.seq (.keep [1, 2, 8, 9, 11, 12, 13, 14, 15] (.ops [⟨0, some 26, .mv (.tmp 12), none, []⟩, ⟨1, some 27, .mv (.tmp 2), none, []⟩, ⟨2, some 28, .bin .leq (.tmp 26) (.tmp 27), none, []⟩, ⟨3, some 29, .mv (.tmp 28), none, []⟩, ⟨4, some 30, .mv (.tmp 9), (some (29, true)), []⟩, ⟨5, some 31, .un .not (.tmp 30), (some (29, true)), []⟩, ⟨6, some 32, .mv (.tmp 31), (some (29, true)), []⟩, ⟨7, some 33, .mv (.tmp 12), (some (32, false)), []⟩, ⟨8, some 34, .mv (.tmp 8), (some (32, false)), []⟩, ⟨9, some 35, .mv (.tmp 1), (some (32, false)), []⟩, ⟨10, some 36, .bin .sub (.tmp 34) (.tmp 35), (some (32, false)), []⟩, ⟨11, some 37, .mv (.tmp 1), (some (32, false)), []⟩, ⟨12, some 38, .mv (.tmp 8), (some (32, false)), []⟩, ⟨13, some 39, .bin .sub (.tmp 37) (.tmp 38), (some (32, false)), []⟩, ⟨14, some 40, .mnx true (.tmp 36) (.tmp 39), (some (32, false)), []⟩, ⟨15, some 41, .bin .lss (.tmp 33) (.tmp 40), (some (32, false)), []⟩, ⟨16, some 42, .pick (.tmp 32) (.const (.bool true)) (.tmp 41), (some (29, true)), []⟩, ⟨17, some 43, .pick (.tmp 29) (.tmp 42) (.const (.bool false)), none, []⟩]))
  (.cond (.tmp 43) (.keep [1, 2, 11, 13, 14, 15] (.ops [⟨0, some 44, .mv (.tmp 11), none, []⟩, ⟨1, some 8, .mv (.tmp 44), none, []⟩, ⟨2, some 9, .mv (.const (.bool true)), none, []⟩])) (.skip))))))
  (.keep [1, 2, 8, 9, 13, 14, 15] (.ops [⟨0, some 45, .bin .add (.tmp 15) (.const (.int .i64 1)), none, []⟩, ⟨1, some 15, .mv (.tmp 45), none, []⟩]))))))))
  (.seq (.keep [8, 9] (.ops [⟨0, some 46, .mv (.tmp 8), none, []⟩, ⟨1, some 47, .mv (.tmp 9), none, []⟩, ⟨2, some 6, .mv (.tmp 46), none, []⟩, ⟨3, some 7, .mv (.tmp 47), none, []⟩]))
  (.ret))))
theorem k_i_nearest : FnOk Try.prog n_i_nearest 3 c_i_nearest [.tmp 6, .tmp 7] := ⟨by kernel_rfl⟩
def c_s_l03Long : ACode :=
  .seq (.ops [⟨0, some 2, .mv (.const (.bool false)), none, []⟩])
  (.seq (.ops [⟨0, some 3, .mv (.tmp 0), none, []⟩, ⟨1, some 4, .len (.tmp 3), none, []⟩, ⟨2, some 5, .bin .geq (.tmp 4) (.const (.int .i64 1)), none, []⟩, ⟨3, some 6, .mv (.tmp 5), none, []⟩, ⟨4, some 7, .mv (.tmp 0), (some (6, true)), []⟩, ⟨5, some 8, .len (.tmp 7), (some (6, true)), []⟩, ⟨6, some 9, .bin .leq (.tmp 8) (.const (.int .i64 128)), (some (6, true)), []⟩, ⟨7, some 10, .pick (.tmp 6) (.tmp 9) (.const (.bool false)), none, []⟩, ⟨8, some 11, .mv (.tmp 10), none, []⟩, ⟨9, some 12, .mv (.tmp 0), (some (11, true)), []⟩, ⟨10, some 13, .call n_s_l02Finite [.tmp 12], (some (11, true)), []⟩, ⟨11, some 14, .pick (.tmp 11) (.tmp 13) (.const (.bool false)), none, []⟩, ⟨12, some 2, .mv (.tmp 14), none, []⟩])
  (.ret))
theorem k_s_l03Long : FnOk Try.prog n_s_l03Long 1 c_s_l03Long [.tmp 2] := ⟨by kernel_rfl⟩
def c_s_l02Finite : ACode :=
  .seq (.ops [⟨0, some 2, .mv (.const (.bool false)), none, []⟩])
  (.seq (.seq (.ops [⟨0, some 3, .mv (.const (.int .i64 0)), none, []⟩])
  (.block 0 (.loop [0, 3] (.seq (.seq (.ops [⟨0, some 4, .mv (.tmp 3), none, []⟩, ⟨1, some 5, .mv (.tmp 0), none, []⟩, ⟨2, some 6, .len (.tmp 5), none, []⟩, ⟨3, some 7, .bin .lss (.tmp 4) (.tmp 6), none, []⟩])
  (.cond (.tmp 7) (.skip) (.exit 0)))
  (.seq (.block 1 (.seq (.ops [⟨0, some 10, .mv (.tmp 0), none, []⟩, ⟨1, some 11, .mv (.tmp 3), none, []⟩, ⟨2, some 12, .ia (.tmp 10) (.tmp 11), none, []⟩, ⟨3, some 13, .ld (.tmp 12), none, []⟩, ⟨4, some 14, .call n_s_l01Finite [.tmp 13], none, []⟩, ⟨5, some 15, .un .not (.tmp 14), none, []⟩])
  (.cond (.tmp 15) (.seq (.keep [] (.ops [⟨0, some 2, .mv (.const (.bool false)), none, []⟩]))
  (.ret)) (.skip))))
  (.keep [0, 3] (.ops [⟨0, some 8, .mv (.tmp 3), none, []⟩, ⟨1, some 9, .bin .add (.tmp 8) (.const (.int .i64 1)), none, []⟩, ⟨2, some 3, .mv (.tmp 9), none, []⟩])))))))
  (.seq (.keep [] (.ops [⟨0, some 2, .mv (.const (.bool true)), none, []⟩]))
  (.ret)))
theorem k_s_l02Finite : FnOk Try.prog n_s_l02Finite 1 c_s_l02Finite [.tmp 2] := ⟨by kernel_rfl⟩
def c_s_l01Finite : ACode :=
  .seq (.ops [⟨0, some 2, .mv (.const (.bool false)), none, []⟩])
  (.seq (.ops [⟨0, some 3, .mv (.tmp 0), none, []⟩, ⟨1, some 4, .mv (.tmp 0), none, []⟩, ⟨2, some 5, .bin .sub (.tmp 3) (.tmp 4), none, []⟩, ⟨3, some 6, .bin .eql (.tmp 5) (.const (.float .f32 0)), none, []⟩, ⟨4, some 2, .mv (.tmp 6), none, []⟩])
  (.ret))
theorem k_s_l01Finite : FnOk Try.prog n_s_l01Finite 1 c_s_l01Finite [.tmp 2] := ⟨by kernel_rfl⟩
def c_i_IsFinite : ACode :=
  .seq (.ops [⟨0, some 2, .mv (.const (.bool false)), none, []⟩])
  (.seq (.ops [⟨0, some 3, .mv (.tmp 0), none, []⟩, ⟨1, some 4, .mv (.tmp 0), none, []⟩, ⟨2, some 5, .bin .sub (.tmp 3) (.tmp 4), none, []⟩, ⟨3, some 6, .bin .eql (.tmp 5) (.const (.float .f32 0)), none, []⟩, ⟨4, some 2, .mv (.tmp 6), none, []⟩])
  (.ret))
theorem k_i_IsFinite : FnOk Try.prog n_i_IsFinite 1 c_i_IsFinite [.tmp 2] := ⟨by kernel_rfl⟩
def c_s_l03Size : ACode :=
  .seq (.ops [⟨0, some 2, .mv (.const (.float .f32 0)), none, []⟩])
  (.seq (.seq (.ops [⟨0, some 3, .mv (.tmp 0), none, []⟩, ⟨1, some 4, .bin .leq (.tmp 3) (.const (.float .f32 0)), none, []⟩])
  (.cond (.tmp 4) (.seq (.ops [⟨0, some 5, .mv (.tmp 0), none, []⟩, ⟨1, some 6, .bin .sub (.const (.float .f32 0)) (.tmp 5), none, []⟩, ⟨2, some 2, .mv (.tmp 6), none, []⟩])
  (.ret)) (.skip)))
  (.seq (.ops [⟨0, some 7, .mv (.tmp 0), none, []⟩, ⟨1, some 2, .mv (.tmp 7), none, []⟩])
  (.ret)))
theorem k_s_l03Size : FnOk Try.prog n_s_l03Size 1 c_s_l03Size [.tmp 2] := ⟨by kernel_rfl⟩
end Go.Proofs.Ytkojmlpaamdhoad

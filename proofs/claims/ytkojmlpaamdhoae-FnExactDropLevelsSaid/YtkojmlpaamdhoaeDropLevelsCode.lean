/- The code of functions, for the abstract machine; printed by a program (gen.py). -/
import Derived.Test.YtkojmlpaamdhoaeGxFn
import Derived.Test.YtkojmlpaamdhoaeProg
namespace Go.Proofs.Ytkojmlpaamdhoae
open Go.Gx
set_option maxRecDepth 100000
abbrev t_int64 : Nat := 2
abbrev t_int : Nat := 3
abbrev t_bool : Nat := 4
abbrev t_uint8 : Nat := 5
abbrev t_ssint64 : Nat := 22
abbrev t_sint64 : Nat := 24
abbrev t_sfloat32 : Nat := 32
abbrev t_ssfloat32 : Nat := 33
abbrev t_float32 : Nat := 37
abbrev t_float64 : Nat := 43
abbrev t_scomplex64 : Nat := 71
abbrev t_suint8 : Nat := 84
abbrev t_sbool : Nat := 90
abbrev t_sint : Nat := 95
abbrev t_complex64 : Nat := 126
abbrev t_Bands : Nat := 40
abbrev t_Pair : Nat := 51
abbrev t_Scheme : Nat := 64
abbrev n_w_FnExactDropLevels : Nat := 3
abbrev n_w_szInt64SS : Nat := 12
abbrev n_s_DropLevels : Nat := 13
abbrev n_w_toInt64SS : Nat := 14
abbrev n_i_DropLevels : Nat := 15
abbrev n_w_eqInt64S : Nat := 16
abbrev n_w_eqInt64SS : Nat := 17
abbrev n_w_markInt64SS : Nat := 18
abbrev n_w_markInt64S : Nat := 19
abbrev n_w_heldInt64S : Nat := 20
abbrev n_w_szInt64S : Nat := 69
abbrev n_s_l02Kind : Nat := 70
abbrev n_s_l02Sizes : Nat := 71
abbrev n_s_l02Integers : Nat := 72
abbrev n_s_l02Drop : Nat := 73
abbrev n_w_toInt64S : Nat := 74
abbrev n_i_within : Nat := 75
abbrev n_i_areSizes : Nat := 76
abbrev n_i_sizesOf_int64_ : Nat := 77
abbrev n_i_DropIntegers : Nat := 78
abbrev n_i_AreIntegers : Nat := 79
abbrev n_s_l00In : Nat := 106
abbrev n_s_l02Fit : Nat := 130
abbrev n_s_l02Bound : Nat := 131
abbrev n_s_l02Gain : Nat := 132
abbrev n_s_l02Guess : Nat := 133
abbrev n_i_areWithin : Nat := 134
abbrev n_i_evenBy : Nat := 135
abbrev n_i_oddBy : Nat := 136
abbrev n_i_woven_int64_ : Nat := 137
abbrev n_s_l02Down : Nat := 178
abbrev n_s_l02Near : Nat := 179
abbrev n_s_l02Mirrored : Nat := 180
abbrev n_i_below : Nat := 181
abbrev n_i_besideEven_int64_ : Nat := 182
abbrev n_i_besideOdd_int64_ : Nat := 183
abbrev n_i_oddBy_1 : Nat := 184
abbrev n_i_mirrored : Nat := 185
abbrev n_s_l02Mirror : Nat := 205
def c_w_FnExactDropLevels : ACode :=
  .seq (.ops [⟨0, some 4, .mv (.const (.bool false)), none, []⟩])
  (.seq (.ops [⟨0, some 5, .mv (.const (.int .i64 1048576)), none, []⟩])
  (.seq (.ops [⟨0, some 16, .mv (.tmp 1), none, []⟩, ⟨1, some 17, .mv (.tmp 5), none, []⟩, ⟨2, some 18, .call n_w_szInt64SS [.tmp 16, .tmp 17], none, []⟩, ⟨3, some 5, .mv (.tmp 18), none, []⟩])
  (.seq (.seq (.ops [⟨0, some 19, .mv (.tmp 5), none, []⟩, ⟨1, some 20, .bin .lss (.tmp 19) (.const (.int .i64 0)), none, []⟩])
  (.cond (.tmp 20) (.seq (.keep [] (.ops [⟨0, some 4, .mv (.const (.bool true)), none, []⟩]))
  (.ret)) (.skip)))
  (.seq (.keep [0, 1] (.ops [⟨0, some 22, .mv (.tmp 0), none, []⟩, ⟨1, some 23, .mv (.tmp 1), none, []⟩, ⟨2, some 24, .call n_w_toInt64SS [.tmp 23], none, []⟩, ⟨3, some 25, .call n_s_DropLevels [.tmp 22, .tmp 24], none, []⟩, ⟨4, some 21, .mv (.tmp 25), none, []⟩, ⟨5, some 26, .ext (.tmp 21) 0, none, []⟩, ⟨6, some 27, .ext (.tmp 21) 1, none, []⟩, ⟨7, some 6, .mv (.tmp 26), none, []⟩, ⟨8, some 7, .mv (.tmp 27), none, []⟩]))
  (.seq (.keep [0, 1, 6, 7] (.ops [⟨0, some 28, .mv (.tmp 1), none, []⟩, ⟨1, some 29, .call n_w_toInt64SS [.tmp 28], none, []⟩, ⟨2, some 8, .mv (.tmp 29), none, []⟩]))
  (.seq (.ops [⟨0, some 31, .mv (.tmp 0), none, []⟩, ⟨1, some 32, .mv (.tmp 8), none, []⟩, ⟨2, some 33, .call n_i_DropLevels [.tmp 31, .tmp 32], none, []⟩, ⟨3, some 30, .mv (.tmp 33), none, []⟩, ⟨4, some 34, .ext (.tmp 30) 0, none, []⟩, ⟨5, some 35, .ext (.tmp 30) 1, none, []⟩, ⟨6, some 9, .mv (.tmp 34), none, []⟩, ⟨7, some 10, .mv (.tmp 35), none, []⟩])
  (.seq (.seq (.keep [0, 1, 6, 7, 8, 9, 10] (.ops [⟨0, some 36, .mv (.tmp 9), none, []⟩, ⟨1, some 37, .mv (.tmp 6), none, []⟩, ⟨2, some 38, .call n_w_eqInt64S [.tmp 36, .tmp 37], none, []⟩, ⟨3, some 39, .un .not (.tmp 38), none, []⟩, ⟨4, some 40, .mv (.tmp 39), none, []⟩, ⟨5, some 41, .mv (.tmp 10), (some (40, false)), []⟩, ⟨6, some 42, .mv (.tmp 7), (some (40, false)), []⟩, ⟨7, some 43, .beq true (.tmp 41) (.tmp 42), (some (40, false)), []⟩, ⟨8, some 44, .pick (.tmp 40) (.const (.bool true)) (.tmp 43), none, []⟩]))
  (.cond (.tmp 44) (.seq (.keep [] (.ops [⟨0, some 4, .mv (.const (.bool false)), none, []⟩]))
  (.ret)) (.skip)))
  (.seq (.seq (.keep [0, 1, 6, 7, 8, 9, 10] (.ops [⟨0, some 45, .mv (.tmp 8), none, []⟩, ⟨1, some 46, .mv (.tmp 1), none, []⟩, ⟨2, some 47, .call n_w_toInt64SS [.tmp 46], none, []⟩, ⟨3, some 48, .call n_w_eqInt64SS [.tmp 45, .tmp 47], none, []⟩, ⟨4, some 49, .un .not (.tmp 48), none, []⟩]))
  (.cond (.tmp 49) (.seq (.keep [] (.ops [⟨0, some 4, .mv (.const (.bool false)), none, []⟩]))
  (.ret)) (.skip)))
  (.seq (.keep [0, 1, 6, 7, 8, 9, 10] (.ops [⟨0, some 11, .mv (.const (.int .i64 1)), none, []⟩]))
  (.seq (.ops [⟨0, some 50, .mv (.tmp 8), none, []⟩, ⟨1, some 51, .mv (.tmp 11), none, []⟩, ⟨2, some 52, .call n_w_markInt64SS [.tmp 50, .tmp 51], none, []⟩, ⟨3, some 11, .mv (.tmp 52), none, []⟩])
  (.seq (.seq (.ops [⟨0, some 53, .mv (.tmp 11), none, []⟩, ⟨1, some 54, .bin .lss (.tmp 53) (.const (.int .i64 0)), none, []⟩, ⟨2, some 55, .mv (.tmp 54), none, []⟩, ⟨3, some 56, .mv (.tmp 9), (some (55, false)), []⟩, ⟨4, some 57, .mv (.tmp 6), (some (55, false)), []⟩, ⟨5, some 58, .call n_w_eqInt64S [.tmp 56, .tmp 57], (some (55, false)), []⟩, ⟨6, some 59, .un .not (.tmp 58), (some (55, false)), []⟩, ⟨7, some 60, .pick (.tmp 55) (.const (.bool true)) (.tmp 59), none, []⟩, ⟨8, some 61, .mv (.tmp 60), none, []⟩, ⟨9, some 62, .mv (.tmp 10), (some (61, false)), []⟩, ⟨10, some 63, .mv (.tmp 7), (some (61, false)), []⟩, ⟨11, some 64, .beq true (.tmp 62) (.tmp 63), (some (61, false)), []⟩, ⟨12, some 65, .pick (.tmp 61) (.const (.bool true)) (.tmp 64), none, []⟩])
  (.cond (.tmp 65) (.seq (.keep [] (.ops [⟨0, some 4, .mv (.const (.bool false)), none, []⟩]))
  (.ret)) (.skip)))
  (.seq (.keep [0, 1, 6, 7, 9] (.ops [⟨0, some 12, .mv (.const (.int .i64 1)), none, []⟩]))
  (.seq (.ops [⟨0, some 66, .mv (.tmp 9), none, []⟩, ⟨1, some 67, .mv (.tmp 12), none, []⟩, ⟨2, some 68, .call n_w_markInt64S [.tmp 66, .tmp 67], none, []⟩, ⟨3, some 12, .mv (.tmp 68), none, []⟩])
  (.seq (.ops [⟨0, some 13, .mv (.const (.int .i64 1)), none, []⟩])
  (.seq (.ops [⟨0, some 69, .mv (.tmp 9), none, []⟩, ⟨1, some 70, .mv (.tmp 13), none, []⟩, ⟨2, some 71, .call n_w_heldInt64S [.tmp 69, .tmp 70], none, []⟩, ⟨3, some 13, .mv (.tmp 71), none, []⟩])
  (.seq (.seq (.keep [0, 1, 6, 7, 9, 12, 13] (.ops [⟨0, some 72, .mv (.tmp 13), none, []⟩, ⟨1, some 73, .bin .lss (.tmp 72) (.const (.int .i64 0)), none, []⟩]))
  (.cond (.tmp 73) (.seq (.keep [] (.ops [⟨0, some 4, .mv (.const (.bool false)), none, []⟩]))
  (.ret)) (.skip)))
  (.seq (.seq (.ops [⟨0, some 74, .mv (.tmp 13), none, []⟩, ⟨1, some 75, .mv (.tmp 12), none, []⟩, ⟨2, some 76, .bin .neq (.tmp 74) (.tmp 75), none, []⟩])
  (.cond (.tmp 76) (.seq (.keep [] (.ops [⟨0, some 4, .mv (.const (.bool false)), none, []⟩]))
  (.ret)) (.skip)))
  (.seq (.keep [0, 1, 6, 7, 9, 12] (.ops [⟨0, some 78, .mv (.tmp 0), none, []⟩, ⟨1, some 79, .mv (.tmp 1), none, []⟩, ⟨2, some 80, .call n_w_toInt64SS [.tmp 79], none, []⟩, ⟨3, some 81, .call n_i_DropLevels [.tmp 78, .tmp 80], none, []⟩, ⟨4, some 77, .mv (.tmp 81), none, []⟩, ⟨5, some 82, .ext (.tmp 77) 0, none, []⟩, ⟨6, some 83, .ext (.tmp 77) 1, none, []⟩, ⟨7, some 14, .mv (.tmp 82), none, []⟩, ⟨8, some 15, .mv (.tmp 83), none, []⟩]))
  (.seq (.seq (.keep [6, 7, 9, 12, 14, 15] (.ops [⟨0, some 84, .mv (.tmp 14), none, []⟩, ⟨1, some 85, .mv (.tmp 6), none, []⟩, ⟨2, some 86, .call n_w_eqInt64S [.tmp 84, .tmp 85], none, []⟩, ⟨3, some 87, .un .not (.tmp 86), none, []⟩, ⟨4, some 88, .mv (.tmp 87), none, []⟩, ⟨5, some 89, .mv (.tmp 15), (some (88, false)), []⟩, ⟨6, some 90, .mv (.tmp 7), (some (88, false)), []⟩, ⟨7, some 91, .beq true (.tmp 89) (.tmp 90), (some (88, false)), []⟩, ⟨8, some 92, .pick (.tmp 88) (.const (.bool true)) (.tmp 91), none, []⟩]))
  (.cond (.tmp 92) (.seq (.keep [] (.ops [⟨0, some 4, .mv (.const (.bool false)), none, []⟩]))
  (.ret)) (.skip)))
  (.seq (.keep [9, 12] (.ops [⟨0, some 13, .mv (.const (.int .i64 1)), none, []⟩]))
  (.seq (.ops [⟨0, some 93, .mv (.tmp 9), none, []⟩, ⟨1, some 94, .mv (.tmp 13), none, []⟩, ⟨2, some 95, .call n_w_heldInt64S [.tmp 93, .tmp 94], none, []⟩, ⟨3, some 13, .mv (.tmp 95), none, []⟩])
  (.seq (.seq (.ops [⟨0, some 96, .mv (.tmp 13), none, []⟩, ⟨1, some 97, .bin .lss (.tmp 96) (.const (.int .i64 0)), none, []⟩])
  (.cond (.tmp 97) (.seq (.keep [] (.ops [⟨0, some 4, .mv (.const (.bool false)), none, []⟩]))
  (.ret)) (.skip)))
  (.seq (.seq (.keep [12, 13] (.ops [⟨0, some 98, .mv (.tmp 13), none, []⟩, ⟨1, some 99, .mv (.tmp 12), none, []⟩, ⟨2, some 100, .bin .neq (.tmp 98) (.tmp 99), none, []⟩]))
  (.cond (.tmp 100) (.seq (.keep [] (.ops [⟨0, some 4, .mv (.const (.bool false)), none, []⟩]))
  (.ret)) (.skip)))
  (.seq (.keep [] (.ops [⟨0, some 4, .mv (.const (.bool true)), none, []⟩]))
  (.ret)))))))))))))))))))))))))
theorem k_w_FnExactDropLevels : FnOk Try.prog n_w_FnExactDropLevels 2 c_w_FnExactDropLevels [.tmp 4] := ⟨by kernel_rfl⟩
def c_w_szInt64SS : ACode :=
  .seq (.ops [⟨0, some 4, .mv (.const (.int .i64 0)), none, []⟩])
  (.seq (.ops [⟨0, some 6, .mv (.tmp 1), none, []⟩, ⟨1, some 7, .mv (.tmp 0), none, []⟩, ⟨2, some 8, .len (.tmp 7), none, []⟩, ⟨3, some 9, .bin .sub (.tmp 6) (.tmp 8), none, []⟩, ⟨4, some 1, .mv (.tmp 9), none, []⟩])
  (.seq (.seq (.keep [0, 1] (.ops [⟨0, some 10, .mv (.tmp 1), none, []⟩, ⟨1, some 11, .bin .lss (.tmp 10) (.const (.int .i64 0)), none, []⟩]))
  (.cond (.tmp 11) (.seq (.ops [⟨0, some 4, .mv (.const (.int .i64 (-1))), none, []⟩])
  (.ret)) (.skip)))
  (.seq (.seq (.ops [⟨0, some 5, .mv (.const (.int .i64 0)), none, []⟩])
  (.block 0 (.loop [0, 1, 5] (.seq (.seq (.ops [⟨0, some 12, .mv (.tmp 5), none, []⟩, ⟨1, some 13, .mv (.tmp 0), none, []⟩, ⟨2, some 14, .len (.tmp 13), none, []⟩, ⟨3, some 15, .bin .lss (.tmp 12) (.tmp 14), none, []⟩])
  (.cond (.tmp 15) (.skip) (.exit 0)))
  (.seq (.block 1 (.seq (.ops [⟨0, some 18, .mv (.tmp 0), none, []⟩, ⟨1, some 19, .mv (.tmp 5), none, []⟩, ⟨2, some 20, .ia (.tmp 18) (.tmp 19), none, []⟩, ⟨3, some 21, .ld (.tmp 20), none, []⟩, ⟨4, some 22, .mv (.tmp 1), none, []⟩, ⟨5, some 23, .call n_w_szInt64S [.tmp 21, .tmp 22], none, []⟩, ⟨6, some 1, .mv (.tmp 23), none, []⟩])
  (.seq (.keep [0, 1, 5] (.ops [⟨0, some 24, .mv (.tmp 1), none, []⟩, ⟨1, some 25, .bin .lss (.tmp 24) (.const (.int .i64 0)), none, []⟩]))
  (.cond (.tmp 25) (.seq (.keep [] (.ops [⟨0, some 4, .mv (.const (.int .i64 (-1))), none, []⟩]))
  (.ret)) (.skip)))))
  (.ops [⟨0, some 16, .mv (.tmp 5), none, []⟩, ⟨1, some 17, .bin .add (.tmp 16) (.const (.int .i64 1)), none, []⟩, ⟨2, some 5, .mv (.tmp 17), none, []⟩]))))))
  (.seq (.keep [1] (.ops [⟨0, some 26, .mv (.tmp 1), none, []⟩, ⟨1, some 4, .mv (.tmp 26), none, []⟩]))
  (.ret)))))
theorem k_w_szInt64SS : FnOk Try.prog n_w_szInt64SS 2 c_w_szInt64SS [.tmp 4] := ⟨by kernel_rfl⟩
def c_s_DropLevels : ACode :=
  .seq (.ops [⟨0, some 4, .mv (.const (.slice none 0 0)), none, []⟩, ⟨1, some 5, .mv (.const (.bool false)), none, []⟩])
  (.seq (.ops [⟨0, some 12, .bsl 3 0 (.int .i64 0) [], none, []⟩, ⟨1, some 6, .mv (.tmp 12), none, []⟩])
  (.seq (.seq (.ops [⟨0, some 7, .mv (.const (.int .i64 0)), none, []⟩])
  (.block 0 (.loop [0, 1, 6, 7] (.seq (.seq (.ops [⟨0, some 13, .mv (.tmp 7), none, []⟩, ⟨1, some 14, .mv (.tmp 1), none, []⟩, ⟨2, some 15, .len (.tmp 14), none, []⟩, ⟨3, some 16, .bin .lss (.tmp 13) (.tmp 15), none, []⟩])
  (.cond (.tmp 16) (.skip) (.exit 0)))
  (.seq (.block 1 (.ops [⟨0, some 19, .mv (.tmp 6), none, []⟩, ⟨1, some 20, .mv (.tmp 1), none, []⟩, ⟨2, some 21, .mv (.tmp 7), none, []⟩, ⟨3, some 22, .ia (.tmp 20) (.tmp 21), none, []⟩, ⟨4, some 23, .ld (.tmp 22), none, []⟩, ⟨5, some 24, .len (.tmp 23), none, []⟩, ⟨6, some 25, .bsl 3 1 (.int .i64 0) [(0, .tmp 24)], none, []⟩, ⟨7, some 26, .app 3 8 (.tmp 19) (.tmp 25), none, []⟩, ⟨8, some 6, .mv (.tmp 26), none, []⟩]))
  (.keep [0, 1, 6, 7] (.ops [⟨0, some 17, .mv (.tmp 7), none, []⟩, ⟨1, some 18, .bin .add (.tmp 17) (.const (.int .i64 1)), none, []⟩, ⟨2, some 7, .mv (.tmp 18), none, []⟩])))))))
  (.seq (.seq (.keep [0, 1, 6] (.ops [⟨0, some 27, .mv (.tmp 0), none, []⟩, ⟨1, some 28, .call n_s_l02Kind [.tmp 27], none, []⟩, ⟨2, some 29, .un .not (.tmp 28), none, []⟩, ⟨3, some 30, .mv (.tmp 29), none, []⟩, ⟨4, some 31, .mv (.tmp 6), (some (30, false)), []⟩, ⟨5, some 32, .call n_s_l02Sizes [.tmp 31], (some (30, false)), []⟩, ⟨6, some 33, .un .not (.tmp 32), (some (30, false)), []⟩, ⟨7, some 34, .pick (.tmp 30) (.const (.bool true)) (.tmp 33), none, []⟩, ⟨8, some 35, .mv (.tmp 34), none, []⟩, ⟨9, some 36, .mv (.tmp 1), (some (35, false)), []⟩, ⟨10, some 37, .mv (.tmp 1), (some (35, false)), []⟩, ⟨11, some 38, .len (.tmp 37), (some (35, false)), []⟩, ⟨12, some 39, .bin .sub (.tmp 38) (.const (.int .i64 1)), (some (35, false)), []⟩, ⟨13, some 40, .ia (.tmp 36) (.tmp 39), (some (35, false)), []⟩, ⟨14, some 41, .ld (.tmp 40), (some (35, false)), []⟩, ⟨15, some 42, .call n_s_l02Integers [.tmp 41], (some (35, false)), []⟩, ⟨16, some 43, .un .not (.tmp 42), (some (35, false)), []⟩, ⟨17, some 44, .mv (.tmp 43), (some (35, false)), []⟩, ⟨18, some 45, .mv (.tmp 1), (some (44, true)), []⟩, ⟨19, some 46, .len (.tmp 45), (some (44, true)), []⟩, ⟨20, some 47, .bin .eql (.tmp 46) (.const (.int .i64 1)), (some (44, true)), []⟩, ⟨21, some 48, .pick (.tmp 44) (.tmp 47) (.const (.bool false)), (some (35, false)), []⟩, ⟨22, some 49, .pick (.tmp 35) (.const (.bool true)) (.tmp 48), none, []⟩]))
  (.cond (.tmp 49) (.seq (.keep [] (.ops [⟨0, some 4, .mv (.const (.slice none 0 0)), none, []⟩, ⟨1, some 5, .mv (.const (.bool false)), none, []⟩]))
  (.ret)) (.skip)))
  (.seq (.keep [0, 1] (.ops [⟨0, some 50, .bsl 2 0 (.int .i64 0) [], none, []⟩, ⟨1, some 51, .mv (.tmp 1), none, []⟩, ⟨2, some 52, .mv (.tmp 1), none, []⟩, ⟨3, some 53, .len (.tmp 52), none, []⟩, ⟨4, some 54, .bin .sub (.tmp 53) (.const (.int .i64 1)), none, []⟩, ⟨5, some 55, .ia (.tmp 51) (.tmp 54), none, []⟩, ⟨6, some 56, .ld (.tmp 55), none, []⟩, ⟨7, some 57, .app 2 8 (.tmp 50) (.tmp 56), none, []⟩, ⟨8, some 8, .mv (.tmp 57), none, []⟩]))
  (.seq (.seq (.keep [0, 1, 8] (.ops [⟨0, some 58, .mv (.tmp 1), none, []⟩, ⟨1, some 59, .len (.tmp 58), none, []⟩, ⟨2, some 60, .bin .sub (.tmp 59) (.const (.int .i64 2)), none, []⟩, ⟨3, some 9, .mv (.tmp 60), none, []⟩]))
  (.block 2 (.loop [0, 1, 8, 9] (.seq (.seq (.ops [⟨0, some 61, .mv (.tmp 9), none, []⟩, ⟨1, some 62, .bin .geq (.tmp 61) (.const (.int .i64 0)), none, []⟩])
  (.cond (.tmp 62) (.skip) (.exit 2)))
  (.seq (.block 3 (.seq (.ops [⟨0, some 66, .mv (.tmp 0), none, []⟩, ⟨1, some 67, .mv (.tmp 8), none, []⟩, ⟨2, some 68, .mv (.tmp 1), none, []⟩, ⟨3, some 69, .mv (.tmp 9), none, []⟩, ⟨4, some 70, .ia (.tmp 68) (.tmp 69), none, []⟩, ⟨5, some 71, .ld (.tmp 70), none, []⟩, ⟨6, some 72, .call n_s_l02Drop [.tmp 66, .tmp 67, .tmp 71], none, []⟩, ⟨7, some 65, .mv (.tmp 72), none, []⟩, ⟨8, some 73, .ext (.tmp 65) 0, none, []⟩, ⟨9, some 74, .ext (.tmp 65) 1, none, []⟩, ⟨10, some 10, .mv (.tmp 73), none, []⟩, ⟨11, some 11, .mv (.tmp 74), none, []⟩])
  (.seq (.seq (.keep [0, 1, 9, 10, 11] (.ops [⟨0, some 75, .mv (.tmp 11), none, []⟩, ⟨1, some 76, .un .not (.tmp 75), none, []⟩]))
  (.cond (.tmp 76) (.seq (.keep [] (.ops [⟨0, some 4, .mv (.const (.slice none 0 0)), none, []⟩, ⟨1, some 5, .mv (.const (.bool false)), none, []⟩]))
  (.ret)) (.skip)))
  (.ops [⟨0, some 77, .mv (.tmp 10), none, []⟩, ⟨1, some 8, .mv (.tmp 77), none, []⟩]))))
  (.keep [0, 1, 8, 9] (.ops [⟨0, some 63, .mv (.tmp 9), none, []⟩, ⟨1, some 64, .bin .sub (.tmp 63) (.const (.int .i64 1)), none, []⟩, ⟨2, some 9, .mv (.tmp 64), none, []⟩])))))))
  (.seq (.keep [8] (.ops [⟨0, some 78, .mv (.tmp 8), none, []⟩, ⟨1, some 4, .mv (.tmp 78), none, []⟩, ⟨2, some 5, .mv (.const (.bool true)), none, []⟩]))
  (.ret)))))))
theorem k_s_DropLevels : FnOk Try.prog n_s_DropLevels 2 c_s_DropLevels [.tmp 4, .tmp 5] := ⟨by kernel_rfl⟩
def c_w_toInt64SS : ACode :=
  .seq (.ops [⟨0, some 2, .mv (.const (.slice none 0 0)), none, []⟩])
  (.seq (.ops [⟨0, some 5, .mv (.tmp 0), none, []⟩, ⟨1, some 6, .len (.tmp 5), none, []⟩, ⟨2, some 7, .mks 24 24 (.slice none 0 0) (.tmp 6) (.tmp 6), none, []⟩, ⟨3, some 3, .mv (.tmp 7), none, []⟩])
  (.seq (.seq (.ops [⟨0, some 4, .mv (.const (.int .i64 0)), none, []⟩])
  (.block 0 (.loop [0, 3, 4] (.seq (.seq (.ops [⟨0, some 8, .mv (.tmp 4), none, []⟩, ⟨1, some 9, .mv (.tmp 0), none, []⟩, ⟨2, some 10, .len (.tmp 9), none, []⟩, ⟨3, some 11, .bin .lss (.tmp 8) (.tmp 10), none, []⟩])
  (.cond (.tmp 11) (.skip) (.exit 0)))
  (.seq (.block 1 (.ops [⟨0, some 14, .mv (.tmp 3), none, []⟩, ⟨1, some 15, .mv (.tmp 4), none, []⟩, ⟨2, some 16, .mv (.tmp 0), none, []⟩, ⟨3, some 17, .mv (.tmp 4), none, []⟩, ⟨4, some 18, .ia (.tmp 16) (.tmp 17), none, []⟩, ⟨5, some 19, .ld (.tmp 18), none, []⟩, ⟨6, some 20, .call n_w_toInt64S [.tmp 19], none, []⟩, ⟨7, some 21, .ia (.tmp 14) (.tmp 15), none, []⟩, ⟨8, none, .st (.tmp 21) (.tmp 20), none, []⟩]))
  (.keep [0, 3, 4] (.ops [⟨0, some 12, .mv (.tmp 4), none, []⟩, ⟨1, some 13, .bin .add (.tmp 12) (.const (.int .i64 1)), none, []⟩, ⟨2, some 4, .mv (.tmp 13), none, []⟩])))))))
  (.seq (.keep [3] (.ops [⟨0, some 22, .mv (.tmp 3), none, []⟩, ⟨1, some 2, .mv (.tmp 22), none, []⟩]))
  (.ret))))
theorem k_w_toInt64SS : FnOk Try.prog n_w_toInt64SS 1 c_w_toInt64SS [.tmp 2] := ⟨by kernel_rfl⟩
def c_i_DropLevels : ACode :=
  .seq (.ops [⟨0, some 4, .mv (.const (.slice none 0 0)), none, []⟩, ⟨1, some 5, .mv (.const (.bool false)), none, []⟩])
  (.seq (.seq (.ops [⟨0, some 10, .mv (.tmp 0), none, []⟩, ⟨1, some 11, .call n_i_within [.tmp 10, .const (.int .i64 0), .const (.int .i64 2)], none, []⟩, ⟨2, some 12, .un .not (.tmp 11), none, []⟩, ⟨3, some 13, .mv (.tmp 12), none, []⟩, ⟨4, some 14, .mv (.tmp 1), (some (13, false)), []⟩, ⟨5, some 15, .call n_i_sizesOf_int64_ [.tmp 14], (some (13, false)), []⟩, ⟨6, some 16, .call n_i_areSizes [.tmp 15], (some (13, false)), []⟩, ⟨7, some 17, .un .not (.tmp 16), (some (13, false)), []⟩, ⟨8, some 18, .pick (.tmp 13) (.const (.bool true)) (.tmp 17), none, []⟩])
  (.cond (.tmp 18) (.seq (.keep [] (.ops [⟨0, some 4, .mv (.const (.slice none 0 0)), none, []⟩, ⟨1, some 5, .mv (.const (.bool false)), none, []⟩]))
  (.ret)) (.skip)))
  (.seq (.keep [0, 1] (.ops [⟨0, some 19, .bsl 2 0 (.int .i64 0) [], none, []⟩, ⟨1, some 20, .mv (.tmp 1), none, []⟩, ⟨2, some 21, .mv (.tmp 1), none, []⟩, ⟨3, some 22, .len (.tmp 21), none, []⟩, ⟨4, some 23, .bin .sub (.tmp 22) (.const (.int .i64 1)), none, []⟩, ⟨5, some 24, .ia (.tmp 20) (.tmp 23), none, []⟩, ⟨6, some 25, .ld (.tmp 24), none, []⟩, ⟨7, some 26, .app 2 8 (.tmp 19) (.tmp 25), none, []⟩, ⟨8, some 6, .mv (.tmp 26), none, []⟩]))
  (.seq (.seq (.keep [0, 1, 6] (.ops [⟨0, some 27, .mv (.tmp 1), none, []⟩, ⟨1, some 28, .len (.tmp 27), none, []⟩, ⟨2, some 29, .bin .sub (.tmp 28) (.const (.int .i64 2)), none, []⟩, ⟨3, some 7, .mv (.tmp 29), none, []⟩]))
  (.block 0 (.loop [0, 1, 6, 7] (.seq (.seq (.ops [⟨0, some 30, .mv (.tmp 7), none, []⟩, ⟨1, some 31, .bin .geq (.tmp 30) (.const (.int .i64 0)), none, []⟩])
  (.cond (.tmp 31) (.skip) (.exit 0)))
  (.seq (.block 1 (.seq (.ops [⟨0, some 35, .mv (.tmp 0), none, []⟩, ⟨1, some 36, .mv (.tmp 6), none, []⟩, ⟨2, some 37, .mv (.tmp 1), none, []⟩, ⟨3, some 38, .mv (.tmp 7), none, []⟩, ⟨4, some 39, .ia (.tmp 37) (.tmp 38), none, []⟩, ⟨5, some 40, .ld (.tmp 39), none, []⟩, ⟨6, some 41, .call n_i_DropIntegers [.tmp 35, .tmp 36, .tmp 40], none, []⟩, ⟨7, some 34, .mv (.tmp 41), none, []⟩, ⟨8, some 42, .ext (.tmp 34) 0, none, []⟩, ⟨9, some 43, .ext (.tmp 34) 1, none, []⟩, ⟨10, some 8, .mv (.tmp 42), none, []⟩, ⟨11, some 9, .mv (.tmp 43), none, []⟩])
  (.seq (.seq (.keep [0, 1, 7, 8, 9] (.ops [⟨0, some 44, .mv (.tmp 9), none, []⟩, ⟨1, some 45, .un .not (.tmp 44), none, []⟩]))
  (.cond (.tmp 45) (.seq (.keep [] (.ops [⟨0, some 4, .mv (.const (.slice none 0 0)), none, []⟩, ⟨1, some 5, .mv (.const (.bool false)), none, []⟩]))
  (.ret)) (.skip)))
  (.ops [⟨0, some 46, .mv (.tmp 8), none, []⟩, ⟨1, some 6, .mv (.tmp 46), none, []⟩]))))
  (.keep [0, 1, 6, 7] (.ops [⟨0, some 32, .mv (.tmp 7), none, []⟩, ⟨1, some 33, .bin .sub (.tmp 32) (.const (.int .i64 1)), none, []⟩, ⟨2, some 7, .mv (.tmp 33), none, []⟩])))))))
  (.seq (.seq (.keep [6] (.ops [⟨0, some 47, .mv (.tmp 6), none, []⟩, ⟨1, some 48, .call n_i_AreIntegers [.tmp 47], none, []⟩, ⟨2, some 49, .un .not (.tmp 48), none, []⟩]))
  (.cond (.tmp 49) (.seq (.ops [⟨0, some 4, .mv (.const (.slice none 0 0)), none, []⟩, ⟨1, some 5, .mv (.const (.bool false)), none, []⟩])
  (.ret)) (.skip)))
  (.seq (.ops [⟨0, some 50, .mv (.tmp 6), none, []⟩, ⟨1, some 4, .mv (.tmp 50), none, []⟩, ⟨2, some 5, .mv (.const (.bool true)), none, []⟩])
  (.ret))))))
theorem k_i_DropLevels : FnOk Try.prog n_i_DropLevels 2 c_i_DropLevels [.tmp 4, .tmp 5] := ⟨by kernel_rfl⟩
def c_w_eqInt64S : ACode :=
  .seq (.ops [⟨0, some 4, .mv (.const (.bool false)), none, []⟩])
  (.seq (.seq (.ops [⟨0, some 6, .mv (.tmp 0), none, []⟩, ⟨1, some 7, .len (.tmp 6), none, []⟩, ⟨2, some 8, .mv (.tmp 1), none, []⟩, ⟨3, some 9, .len (.tmp 8), none, []⟩, ⟨4, some 10, .bin .neq (.tmp 7) (.tmp 9), none, []⟩])
  (.cond (.tmp 10) (.seq (.keep [] (.ops [⟨0, some 4, .mv (.const (.bool false)), none, []⟩]))
  (.ret)) (.skip)))
  (.seq (.seq (.keep [0, 1] (.ops [⟨0, some 5, .mv (.const (.int .i64 0)), none, []⟩]))
  (.block 0 (.loop [0, 1, 5] (.seq (.seq (.ops [⟨0, some 11, .mv (.tmp 5), none, []⟩, ⟨1, some 12, .mv (.tmp 0), none, []⟩, ⟨2, some 13, .len (.tmp 12), none, []⟩, ⟨3, some 14, .bin .lss (.tmp 11) (.tmp 13), none, []⟩])
  (.cond (.tmp 14) (.skip) (.exit 0)))
  (.seq (.block 1 (.seq (.ops [⟨0, some 17, .mv (.tmp 0), none, []⟩, ⟨1, some 18, .mv (.tmp 5), none, []⟩, ⟨2, some 19, .ia (.tmp 17) (.tmp 18), none, []⟩, ⟨3, some 20, .ld (.tmp 19), none, []⟩, ⟨4, some 21, .mv (.tmp 1), none, []⟩, ⟨5, some 22, .mv (.tmp 5), none, []⟩, ⟨6, some 23, .ia (.tmp 21) (.tmp 22), none, []⟩, ⟨7, some 24, .ld (.tmp 23), none, []⟩, ⟨8, some 25, .bin .neq (.tmp 20) (.tmp 24), none, []⟩])
  (.cond (.tmp 25) (.seq (.keep [] (.ops [⟨0, some 4, .mv (.const (.bool false)), none, []⟩]))
  (.ret)) (.skip))))
  (.keep [0, 1, 5] (.ops [⟨0, some 15, .mv (.tmp 5), none, []⟩, ⟨1, some 16, .bin .add (.tmp 15) (.const (.int .i64 1)), none, []⟩, ⟨2, some 5, .mv (.tmp 16), none, []⟩])))))))
  (.seq (.keep [] (.ops [⟨0, some 4, .mv (.const (.bool true)), none, []⟩]))
  (.ret))))
theorem k_w_eqInt64S : FnOk Try.prog n_w_eqInt64S 2 c_w_eqInt64S [.tmp 4] := ⟨by kernel_rfl⟩
def c_w_eqInt64SS : ACode :=
  .seq (.ops [⟨0, some 4, .mv (.const (.bool false)), none, []⟩])
  (.seq (.seq (.ops [⟨0, some 6, .mv (.tmp 0), none, []⟩, ⟨1, some 7, .len (.tmp 6), none, []⟩, ⟨2, some 8, .mv (.tmp 1), none, []⟩, ⟨3, some 9, .len (.tmp 8), none, []⟩, ⟨4, some 10, .bin .neq (.tmp 7) (.tmp 9), none, []⟩])
  (.cond (.tmp 10) (.seq (.keep [] (.ops [⟨0, some 4, .mv (.const (.bool false)), none, []⟩]))
  (.ret)) (.skip)))
  (.seq (.seq (.keep [0, 1] (.ops [⟨0, some 5, .mv (.const (.int .i64 0)), none, []⟩]))
  (.block 0 (.loop [0, 1, 5] (.seq (.seq (.ops [⟨0, some 11, .mv (.tmp 5), none, []⟩, ⟨1, some 12, .mv (.tmp 0), none, []⟩, ⟨2, some 13, .len (.tmp 12), none, []⟩, ⟨3, some 14, .bin .lss (.tmp 11) (.tmp 13), none, []⟩])
  (.cond (.tmp 14) (.skip) (.exit 0)))
  (.seq (.block 1 (.seq (.ops [⟨0, some 17, .mv (.tmp 0), none, []⟩, ⟨1, some 18, .mv (.tmp 5), none, []⟩, ⟨2, some 19, .ia (.tmp 17) (.tmp 18), none, []⟩, ⟨3, some 20, .ld (.tmp 19), none, []⟩, ⟨4, some 21, .mv (.tmp 1), none, []⟩, ⟨5, some 22, .mv (.tmp 5), none, []⟩, ⟨6, some 23, .ia (.tmp 21) (.tmp 22), none, []⟩, ⟨7, some 24, .ld (.tmp 23), none, []⟩, ⟨8, some 25, .call n_w_eqInt64S [.tmp 20, .tmp 24], none, []⟩, ⟨9, some 26, .un .not (.tmp 25), none, []⟩])
  (.cond (.tmp 26) (.seq (.keep [] (.ops [⟨0, some 4, .mv (.const (.bool false)), none, []⟩]))
  (.ret)) (.skip))))
  (.keep [0, 1, 5] (.ops [⟨0, some 15, .mv (.tmp 5), none, []⟩, ⟨1, some 16, .bin .add (.tmp 15) (.const (.int .i64 1)), none, []⟩, ⟨2, some 5, .mv (.tmp 16), none, []⟩])))))))
  (.seq (.keep [] (.ops [⟨0, some 4, .mv (.const (.bool true)), none, []⟩]))
  (.ret))))
theorem k_w_eqInt64SS : FnOk Try.prog n_w_eqInt64SS 2 c_w_eqInt64SS [.tmp 4] := ⟨by kernel_rfl⟩
def c_w_markInt64SS : ACode :=
  .seq (.ops [⟨0, some 4, .mv (.const (.int .i64 0)), none, []⟩])
  (.seq (.seq (.ops [⟨0, some 5, .mv (.const (.int .i64 0)), none, []⟩])
  (.block 0 (.loop [0, 1, 5] (.seq (.seq (.ops [⟨0, some 6, .mv (.tmp 5), none, []⟩, ⟨1, some 7, .mv (.tmp 0), none, []⟩, ⟨2, some 8, .len (.tmp 7), none, []⟩, ⟨3, some 9, .bin .lss (.tmp 6) (.tmp 8), none, []⟩])
  (.cond (.tmp 9) (.skip) (.exit 0)))
  (.seq (.block 1 (.ops [⟨0, some 12, .mv (.tmp 0), none, []⟩, ⟨1, some 13, .mv (.tmp 5), none, []⟩, ⟨2, some 14, .ia (.tmp 12) (.tmp 13), none, []⟩, ⟨3, some 15, .ld (.tmp 14), none, []⟩, ⟨4, some 16, .mv (.tmp 1), none, []⟩, ⟨5, some 17, .call n_w_markInt64S [.tmp 15, .tmp 16], none, []⟩, ⟨6, some 1, .mv (.tmp 17), none, []⟩]))
  (.keep [0, 1, 5] (.ops [⟨0, some 10, .mv (.tmp 5), none, []⟩, ⟨1, some 11, .bin .add (.tmp 10) (.const (.int .i64 1)), none, []⟩, ⟨2, some 5, .mv (.tmp 11), none, []⟩])))))))
  (.seq (.keep [1] (.ops [⟨0, some 18, .mv (.tmp 1), none, []⟩, ⟨1, some 4, .mv (.tmp 18), none, []⟩]))
  (.ret)))
theorem k_w_markInt64SS : FnOk Try.prog n_w_markInt64SS 2 c_w_markInt64SS [.tmp 4] := ⟨by kernel_rfl⟩
def c_w_markInt64S : ACode :=
  .seq (.ops [⟨0, some 4, .mv (.const (.int .i64 0)), none, []⟩])
  (.seq (.seq (.ops [⟨0, some 5, .mv (.const (.int .i64 0)), none, []⟩])
  (.block 0 (.loop [0, 1, 5] (.seq (.seq (.ops [⟨0, some 6, .mv (.tmp 5), none, []⟩, ⟨1, some 7, .mv (.tmp 0), none, []⟩, ⟨2, some 8, .len (.tmp 7), none, []⟩, ⟨3, some 9, .bin .lss (.tmp 6) (.tmp 8), none, []⟩])
  (.cond (.tmp 9) (.skip) (.exit 0)))
  (.seq (.block 1 (.seq (.ops [⟨0, some 12, .mv (.tmp 0), none, []⟩, ⟨1, some 13, .mv (.tmp 5), none, []⟩, ⟨2, some 14, .mv (.tmp 1), none, []⟩, ⟨3, some 15, .ia (.tmp 12) (.tmp 13), none, []⟩, ⟨4, none, .st (.tmp 15) (.tmp 14), none, []⟩])
  (.keep [0, 1, 5] (.ops [⟨0, some 16, .mv (.tmp 1), none, []⟩, ⟨1, some 17, .bin .add (.tmp 16) (.const (.int .i64 1)), none, []⟩, ⟨2, some 1, .mv (.tmp 17), none, []⟩]))))
  (.ops [⟨0, some 10, .mv (.tmp 5), none, []⟩, ⟨1, some 11, .bin .add (.tmp 10) (.const (.int .i64 1)), none, []⟩, ⟨2, some 5, .mv (.tmp 11), none, []⟩]))))))
  (.seq (.keep [1] (.ops [⟨0, some 18, .mv (.tmp 1), none, []⟩, ⟨1, some 4, .mv (.tmp 18), none, []⟩]))
  (.ret)))
theorem k_w_markInt64S : FnOk Try.prog n_w_markInt64S 2 c_w_markInt64S [.tmp 4] := ⟨by kernel_rfl⟩
def c_w_heldInt64S : ACode :=
  .seq (.ops [⟨0, some 4, .mv (.const (.int .i64 0)), none, []⟩])
  (.seq (.seq (.ops [⟨0, some 5, .mv (.const (.int .i64 0)), none, []⟩])
  (.block 0 (.loop [0, 1, 5] (.seq (.seq (.ops [⟨0, some 6, .mv (.tmp 5), none, []⟩, ⟨1, some 7, .mv (.tmp 0), none, []⟩, ⟨2, some 8, .len (.tmp 7), none, []⟩, ⟨3, some 9, .bin .lss (.tmp 6) (.tmp 8), none, []⟩])
  (.cond (.tmp 9) (.skip) (.exit 0)))
  (.seq (.block 1 (.seq (.seq (.ops [⟨0, some 12, .mv (.tmp 0), none, []⟩, ⟨1, some 13, .mv (.tmp 5), none, []⟩, ⟨2, some 14, .ia (.tmp 12) (.tmp 13), none, []⟩, ⟨3, some 15, .ld (.tmp 14), none, []⟩, ⟨4, some 16, .mv (.tmp 1), none, []⟩, ⟨5, some 17, .bin .neq (.tmp 15) (.tmp 16), none, []⟩])
  (.cond (.tmp 17) (.seq (.keep [] (.ops [⟨0, some 4, .mv (.const (.int .i64 (-1))), none, []⟩]))
  (.ret)) (.skip)))
  (.keep [0, 1, 5] (.ops [⟨0, some 18, .mv (.tmp 1), none, []⟩, ⟨1, some 19, .bin .add (.tmp 18) (.const (.int .i64 1)), none, []⟩, ⟨2, some 1, .mv (.tmp 19), none, []⟩]))))
  (.ops [⟨0, some 10, .mv (.tmp 5), none, []⟩, ⟨1, some 11, .bin .add (.tmp 10) (.const (.int .i64 1)), none, []⟩, ⟨2, some 5, .mv (.tmp 11), none, []⟩]))))))
  (.seq (.keep [1] (.ops [⟨0, some 20, .mv (.tmp 1), none, []⟩, ⟨1, some 4, .mv (.tmp 20), none, []⟩]))
  (.ret)))
theorem k_w_heldInt64S : FnOk Try.prog n_w_heldInt64S 2 c_w_heldInt64S [.tmp 4] := ⟨by kernel_rfl⟩
def c_w_szInt64S : ACode :=
  .seq (.ops [⟨0, some 4, .mv (.const (.int .i64 0)), none, []⟩])
  (.seq (.ops [⟨0, some 5, .mv (.tmp 1), none, []⟩, ⟨1, some 6, .mv (.tmp 0), none, []⟩, ⟨2, some 7, .len (.tmp 6), none, []⟩, ⟨3, some 8, .bin .sub (.tmp 5) (.tmp 7), none, []⟩, ⟨4, some 1, .mv (.tmp 8), none, []⟩])
  (.seq (.seq (.keep [1] (.ops [⟨0, some 9, .mv (.tmp 1), none, []⟩, ⟨1, some 10, .bin .lss (.tmp 9) (.const (.int .i64 0)), none, []⟩]))
  (.cond (.tmp 10) (.seq (.ops [⟨0, some 4, .mv (.const (.int .i64 (-1))), none, []⟩])
  (.ret)) (.skip)))
  (.seq (.ops [⟨0, some 11, .mv (.tmp 1), none, []⟩, ⟨1, some 4, .mv (.tmp 11), none, []⟩])
  (.ret))))
theorem k_w_szInt64S : FnOk Try.prog n_w_szInt64S 2 c_w_szInt64S [.tmp 4] := ⟨by kernel_rfl⟩
def c_s_l02Kind : ACode :=
  .seq (.ops [⟨0, some 2, .mv (.const (.bool false)), none, []⟩])
  (.seq (.ops [⟨0, some 3, .mv (.tmp 0), none, []⟩, ⟨1, some 4, .call n_s_l00In [.tmp 3, .const (.int .i64 0), .const (.int .i64 2)], none, []⟩, ⟨2, some 2, .mv (.tmp 4), none, []⟩])
  (.ret))
theorem k_s_l02Kind : FnOk Try.prog n_s_l02Kind 1 c_s_l02Kind [.tmp 2] := ⟨by kernel_rfl⟩
def c_s_l02Sizes : ACode :=
  .seq (.ops [⟨0, some 2, .mv (.const (.bool false)), none, []⟩])
  (.seq (.ops [⟨0, some 6, .mv (.tmp 0), none, []⟩, ⟨1, some 7, .len (.tmp 6), none, []⟩, ⟨2, some 8, .bin .sub (.tmp 7) (.const (.int .i64 1)), none, []⟩, ⟨3, some 3, .mv (.tmp 8), none, []⟩])
  (.seq (.seq (.ops [⟨0, some 9, .mv (.tmp 3), none, []⟩, ⟨1, some 10, .bin .lss (.tmp 9) (.const (.int .i64 0)), none, []⟩, ⟨2, some 11, .mv (.tmp 10), none, []⟩, ⟨3, some 12, .mv (.tmp 3), (some (11, false)), []⟩, ⟨4, some 13, .bin .gtr (.tmp 12) (.const (.int .i64 6)), (some (11, false)), []⟩, ⟨5, some 14, .pick (.tmp 11) (.const (.bool true)) (.tmp 13), none, []⟩, ⟨6, some 15, .mv (.tmp 14), none, []⟩, ⟨7, some 16, .mv (.tmp 0), (some (15, false)), []⟩, ⟨8, some 17, .mv (.tmp 3), (some (15, false)), []⟩, ⟨9, some 18, .ia (.tmp 16) (.tmp 17), (some (15, false)), []⟩, ⟨10, some 19, .ld (.tmp 18), (some (15, false)), []⟩, ⟨11, some 20, .bin .lss (.tmp 19) (.const (.int .i64 1)), (some (15, false)), []⟩, ⟨12, some 21, .pick (.tmp 15) (.const (.bool true)) (.tmp 20), none, []⟩, ⟨13, some 22, .mv (.tmp 21), none, []⟩, ⟨14, some 23, .mv (.tmp 3), (some (22, false)), []⟩, ⟨15, some 24, .bin .eql (.tmp 23) (.const (.int .i64 0)), (some (22, false)), []⟩, ⟨16, some 25, .mv (.tmp 24), (some (22, false)), []⟩, ⟨17, some 26, .mv (.tmp 0), (some (25, true)), []⟩, ⟨18, some 27, .ia (.tmp 26) (.const (.int .i64 0)), (some (25, true)), []⟩, ⟨19, some 28, .ld (.tmp 27), (some (25, true)), []⟩, ⟨20, some 29, .bin .gtr (.tmp 28) (.const (.int .i64 1)), (some (25, true)), []⟩, ⟨21, some 30, .pick (.tmp 25) (.tmp 29) (.const (.bool false)), (some (22, false)), []⟩, ⟨22, some 31, .pick (.tmp 22) (.const (.bool true)) (.tmp 30), none, []⟩])
  (.cond (.tmp 31) (.seq (.keep [] (.ops [⟨0, some 2, .mv (.const (.bool false)), none, []⟩]))
  (.ret)) (.skip)))
  (.seq (.keep [0, 3] (.ops [⟨0, some 32, .mv (.tmp 0), none, []⟩, ⟨1, some 33, .mv (.tmp 3), none, []⟩, ⟨2, some 34, .ia (.tmp 32) (.tmp 33), none, []⟩, ⟨3, some 35, .ld (.tmp 34), none, []⟩, ⟨4, some 4, .mv (.tmp 35), none, []⟩]))
  (.seq (.seq (.ops [⟨0, some 36, .mv (.tmp 3), none, []⟩, ⟨1, some 37, .bin .sub (.tmp 36) (.const (.int .i64 1)), none, []⟩, ⟨2, some 5, .mv (.tmp 37), none, []⟩])
  (.block 0 (.loop [0, 4, 5] (.seq (.seq (.ops [⟨0, some 38, .mv (.tmp 5), none, []⟩, ⟨1, some 39, .bin .geq (.tmp 38) (.const (.int .i64 0)), none, []⟩])
  (.cond (.tmp 39) (.skip) (.exit 0)))
  (.seq (.block 1 (.seq (.seq (.ops [⟨0, some 42, .mv (.tmp 0), none, []⟩, ⟨1, some 43, .mv (.tmp 5), none, []⟩, ⟨2, some 44, .ia (.tmp 42) (.tmp 43), none, []⟩, ⟨3, some 45, .ld (.tmp 44), none, []⟩, ⟨4, some 46, .bin .lss (.tmp 45) (.const (.int .i64 1)), none, []⟩, ⟨5, some 47, .mv (.tmp 46), none, []⟩, ⟨6, some 48, .mv (.tmp 4), (some (47, false)), []⟩, ⟨7, some 49, .mv (.tmp 0), (some (47, false)), []⟩, ⟨8, some 50, .mv (.tmp 5), (some (47, false)), []⟩, ⟨9, some 51, .ia (.tmp 49) (.tmp 50), (some (47, false)), []⟩, ⟨10, some 52, .ld (.tmp 51), (some (47, false)), []⟩, ⟨11, some 53, .call n_s_l02Fit [.tmp 48, .tmp 52], (some (47, false)), []⟩, ⟨12, some 54, .un .not (.tmp 53), (some (47, false)), []⟩, ⟨13, some 55, .pick (.tmp 47) (.const (.bool true)) (.tmp 54), none, []⟩])
  (.cond (.tmp 55) (.seq (.keep [] (.ops [⟨0, some 2, .mv (.const (.bool false)), none, []⟩]))
  (.ret)) (.skip)))
  (.keep [0, 4, 5] (.ops [⟨0, some 56, .mv (.tmp 4), none, []⟩, ⟨1, some 57, .mv (.tmp 0), none, []⟩, ⟨2, some 58, .mv (.tmp 5), none, []⟩, ⟨3, some 59, .ia (.tmp 57) (.tmp 58), none, []⟩, ⟨4, some 60, .ld (.tmp 59), none, []⟩, ⟨5, some 61, .bin .add (.tmp 56) (.tmp 60), none, []⟩, ⟨6, some 4, .mv (.tmp 61), none, []⟩]))))
  (.keep [0, 4, 5] (.ops [⟨0, some 40, .mv (.tmp 5), none, []⟩, ⟨1, some 41, .bin .sub (.tmp 40) (.const (.int .i64 1)), none, []⟩, ⟨2, some 5, .mv (.tmp 41), none, []⟩])))))))
  (.seq (.ops [⟨0, some 62, .mv (.tmp 4), none, []⟩, ⟨1, some 63, .bin .leq (.tmp 62) (.const (.int .i64 128)), none, []⟩, ⟨2, some 2, .mv (.tmp 63), none, []⟩])
  (.ret))))))
theorem k_s_l02Sizes : FnOk Try.prog n_s_l02Sizes 1 c_s_l02Sizes [.tmp 2] := ⟨by kernel_rfl⟩
def c_s_l02Integers : ACode :=
  .seq (.ops [⟨0, some 2, .mv (.const (.bool false)), none, []⟩])
  (.seq (.ops [⟨0, some 3, .mv (.tmp 0), none, []⟩, ⟨1, some 4, .len (.tmp 3), none, []⟩, ⟨2, some 5, .bin .geq (.tmp 4) (.const (.int .i64 1)), none, []⟩, ⟨3, some 6, .mv (.tmp 5), none, []⟩, ⟨4, some 7, .mv (.tmp 0), (some (6, true)), []⟩, ⟨5, some 8, .len (.tmp 7), (some (6, true)), []⟩, ⟨6, some 9, .bin .leq (.tmp 8) (.const (.int .i64 128)), (some (6, true)), []⟩, ⟨7, some 10, .pick (.tmp 6) (.tmp 9) (.const (.bool false)), none, []⟩, ⟨8, some 11, .mv (.tmp 10), none, []⟩, ⟨9, some 12, .mv (.tmp 0), (some (11, true)), []⟩, ⟨10, some 13, .call n_s_l02Bound [.tmp 12, .const (.int .i64 1000000)], (some (11, true)), []⟩, ⟨11, some 14, .pick (.tmp 11) (.tmp 13) (.const (.bool false)), none, []⟩, ⟨12, some 2, .mv (.tmp 14), none, []⟩])
  (.ret))
theorem k_s_l02Integers : FnOk Try.prog n_s_l02Integers 1 c_s_l02Integers [.tmp 2] := ⟨by kernel_rfl⟩
def c_s_l02Drop : ACode :=
  .seq (.ops [⟨0, some 6, .mv (.const (.slice none 0 0)), none, []⟩, ⟨1, some 7, .mv (.const (.bool false)), none, []⟩])
  (.seq (.seq (.ops [⟨0, some 12, .mv (.tmp 1), none, []⟩, ⟨1, some 13, .len (.tmp 12), none, []⟩, ⟨2, some 14, .mv (.tmp 2), none, []⟩, ⟨3, some 15, .len (.tmp 14), none, []⟩, ⟨4, some 16, .call n_s_l02Fit [.tmp 13, .tmp 15], none, []⟩, ⟨5, some 17, .un .not (.tmp 16), none, []⟩, ⟨6, some 18, .mv (.tmp 17), none, []⟩, ⟨7, some 19, .mv (.tmp 1), (some (18, false)), []⟩, ⟨8, some 20, .call n_s_l02Bound [.tmp 19, .const (.int .i64 10000000)], (some (18, false)), []⟩, ⟨9, some 21, .un .not (.tmp 20), (some (18, false)), []⟩, ⟨10, some 22, .pick (.tmp 18) (.const (.bool true)) (.tmp 21), none, []⟩, ⟨11, some 23, .mv (.tmp 22), none, []⟩, ⟨12, some 24, .mv (.tmp 2), (some (23, false)), []⟩, ⟨13, some 25, .call n_s_l02Bound [.tmp 24, .const (.int .i64 10000000)], (some (23, false)), []⟩, ⟨14, some 26, .un .not (.tmp 25), (some (23, false)), []⟩, ⟨15, some 27, .pick (.tmp 23) (.const (.bool true)) (.tmp 26), none, []⟩])
  (.cond (.tmp 27) (.seq (.keep [] (.ops [⟨0, some 6, .mv (.const (.slice none 0 0)), none, []⟩, ⟨1, some 7, .mv (.const (.bool false)), none, []⟩]))
  (.ret)) (.skip)))
  (.seq (.keep [0, 1, 2] (.ops [⟨0, some 28, .bsl 2 0 (.int .i64 0) [], none, []⟩, ⟨1, some 8, .mv (.tmp 28), none, []⟩]))
  (.seq (.seq (.ops [⟨0, some 9, .mv (.const (.int .i64 0)), none, []⟩])
  (.block 0 (.loop [0, 1, 2, 8, 9] (.seq (.seq (.ops [⟨0, some 29, .mv (.tmp 9), none, []⟩, ⟨1, some 30, .mv (.tmp 1), none, []⟩, ⟨2, some 31, .len (.tmp 30), none, []⟩, ⟨3, some 32, .bin .lss (.tmp 29) (.tmp 31), none, []⟩])
  (.cond (.tmp 32) (.skip) (.exit 0)))
  (.seq (.block 1 (.ops [⟨0, some 35, .mv (.tmp 8), none, []⟩, ⟨1, some 36, .mv (.tmp 1), none, []⟩, ⟨2, some 37, .mv (.tmp 9), none, []⟩, ⟨3, some 38, .ia (.tmp 36) (.tmp 37), none, []⟩, ⟨4, some 39, .ld (.tmp 38), none, []⟩, ⟨5, some 40, .mv (.tmp 0), none, []⟩, ⟨6, some 41, .mv (.tmp 2), none, []⟩, ⟨7, some 42, .mv (.tmp 9), none, []⟩, ⟨8, some 43, .call n_s_l02Gain [.tmp 40, .tmp 41, .tmp 42], none, [(some 38, .ia (.tmp 36) (.tmp 37), none), (some 39, .ld (.tmp 38), none)]⟩, ⟨9, some 44, .bin .sub (.tmp 39) (.tmp 43), none, []⟩, ⟨10, some 45, .bsl 2 1 (.int .i64 0) [(0, .tmp 44)], none, []⟩, ⟨11, some 46, .app 2 8 (.tmp 35) (.tmp 45), none, []⟩, ⟨12, some 8, .mv (.tmp 46), none, []⟩]))
  (.keep [0, 1, 2, 8, 9] (.ops [⟨0, some 33, .mv (.tmp 9), none, []⟩, ⟨1, some 34, .bin .add (.tmp 33) (.const (.int .i64 1)), none, []⟩, ⟨2, some 9, .mv (.tmp 34), none, []⟩])))))))
  (.seq (.keep [0, 2, 8] (.ops [⟨0, some 47, .bsl 2 0 (.int .i64 0) [], none, []⟩, ⟨1, some 10, .mv (.tmp 47), none, []⟩]))
  (.seq (.seq (.ops [⟨0, some 11, .mv (.const (.int .i64 0)), none, []⟩])
  (.block 2 (.loop [0, 2, 8, 10, 11] (.seq (.seq (.ops [⟨0, some 48, .mv (.tmp 11), none, []⟩, ⟨1, some 49, .mv (.tmp 8), none, []⟩, ⟨2, some 50, .len (.tmp 49), none, []⟩, ⟨3, some 51, .bin .lss (.tmp 48) (.tmp 50), none, []⟩])
  (.cond (.tmp 51) (.skip) (.exit 2)))
  (.seq (.block 3 (.seq (.ops [⟨0, some 54, .mv (.tmp 10), none, []⟩, ⟨1, some 55, .mv (.tmp 8), none, []⟩, ⟨2, some 56, .mv (.tmp 11), none, []⟩, ⟨3, some 57, .ia (.tmp 55) (.tmp 56), none, []⟩, ⟨4, some 58, .ld (.tmp 57), none, []⟩, ⟨5, some 59, .bsl 2 1 (.int .i64 0) [(0, .tmp 58)], none, []⟩, ⟨6, some 60, .app 2 8 (.tmp 54) (.tmp 59), none, []⟩, ⟨7, some 10, .mv (.tmp 60), none, []⟩])
  (.seq (.keep [0, 2, 8, 10, 11] (.ops [⟨0, some 61, .mv (.tmp 11), none, []⟩, ⟨1, some 62, .mv (.tmp 2), none, []⟩, ⟨2, some 63, .len (.tmp 62), none, []⟩, ⟨3, some 64, .bin .lss (.tmp 61) (.tmp 63), none, []⟩]))
  (.cond (.tmp 64) (.ops [⟨0, some 65, .mv (.tmp 10), none, []⟩, ⟨1, some 66, .mv (.tmp 2), none, []⟩, ⟨2, some 67, .mv (.tmp 11), none, []⟩, ⟨3, some 68, .ia (.tmp 66) (.tmp 67), none, []⟩, ⟨4, some 69, .ld (.tmp 68), none, []⟩, ⟨5, some 70, .mv (.tmp 0), none, []⟩, ⟨6, some 71, .mv (.tmp 8), none, []⟩, ⟨7, some 72, .mv (.tmp 11), none, []⟩, ⟨8, some 73, .call n_s_l02Guess [.tmp 70, .tmp 71, .tmp 72], none, [(some 68, .ia (.tmp 66) (.tmp 67), none), (some 69, .ld (.tmp 68), none)]⟩, ⟨9, some 74, .bin .add (.tmp 69) (.tmp 73), none, []⟩, ⟨10, some 75, .bsl 2 1 (.int .i64 0) [(0, .tmp 74)], none, []⟩, ⟨11, some 76, .app 2 8 (.tmp 65) (.tmp 75), none, []⟩, ⟨12, some 10, .mv (.tmp 76), none, []⟩]) (.skip)))))
  (.keep [0, 2, 8, 10, 11] (.ops [⟨0, some 52, .mv (.tmp 11), none, []⟩, ⟨1, some 53, .bin .add (.tmp 52) (.const (.int .i64 1)), none, []⟩, ⟨2, some 11, .mv (.tmp 53), none, []⟩])))))))
  (.seq (.seq (.keep [10] (.ops [⟨0, some 77, .mv (.tmp 10), none, []⟩, ⟨1, some 78, .call n_s_l02Integers [.tmp 77], none, []⟩, ⟨2, some 79, .un .not (.tmp 78), none, []⟩]))
  (.cond (.tmp 79) (.seq (.ops [⟨0, some 6, .mv (.const (.slice none 0 0)), none, []⟩, ⟨1, some 7, .mv (.const (.bool false)), none, []⟩])
  (.ret)) (.skip)))
  (.seq (.ops [⟨0, some 80, .mv (.tmp 10), none, []⟩, ⟨1, some 6, .mv (.tmp 80), none, []⟩, ⟨2, some 7, .mv (.const (.bool true)), none, []⟩])
  (.ret))))))))
theorem k_s_l02Drop : FnOk Try.prog n_s_l02Drop 3 c_s_l02Drop [.tmp 6, .tmp 7] := ⟨by kernel_rfl⟩
def c_w_toInt64S : ACode :=
  .seq (.ops [⟨0, some 2, .mv (.const (.slice none 0 0)), none, []⟩])
  (.seq (.ops [⟨0, some 5, .mv (.tmp 0), none, []⟩, ⟨1, some 6, .len (.tmp 5), none, []⟩, ⟨2, some 7, .mks 2 8 (.int .i64 0) (.tmp 6) (.tmp 6), none, []⟩, ⟨3, some 3, .mv (.tmp 7), none, []⟩])
  (.seq (.seq (.ops [⟨0, some 4, .mv (.const (.int .i64 0)), none, []⟩])
  (.block 0 (.loop [0, 3, 4] (.seq (.seq (.ops [⟨0, some 8, .mv (.tmp 4), none, []⟩, ⟨1, some 9, .mv (.tmp 0), none, []⟩, ⟨2, some 10, .len (.tmp 9), none, []⟩, ⟨3, some 11, .bin .lss (.tmp 8) (.tmp 10), none, []⟩])
  (.cond (.tmp 11) (.skip) (.exit 0)))
  (.seq (.block 1 (.ops [⟨0, some 14, .mv (.tmp 3), none, []⟩, ⟨1, some 15, .mv (.tmp 4), none, []⟩, ⟨2, some 16, .mv (.tmp 0), none, []⟩, ⟨3, some 17, .mv (.tmp 4), none, []⟩, ⟨4, some 18, .ia (.tmp 16) (.tmp 17), none, []⟩, ⟨5, some 19, .ld (.tmp 18), none, []⟩, ⟨6, some 20, .ia (.tmp 14) (.tmp 15), none, []⟩, ⟨7, none, .st (.tmp 20) (.tmp 19), none, []⟩]))
  (.keep [0, 3, 4] (.ops [⟨0, some 12, .mv (.tmp 4), none, []⟩, ⟨1, some 13, .bin .add (.tmp 12) (.const (.int .i64 1)), none, []⟩, ⟨2, some 4, .mv (.tmp 13), none, []⟩])))))))
  (.seq (.keep [3] (.ops [⟨0, some 21, .mv (.tmp 3), none, []⟩, ⟨1, some 2, .mv (.tmp 21), none, []⟩]))
  (.ret))))
theorem k_w_toInt64S : FnOk Try.prog n_w_toInt64S 1 c_w_toInt64S [.tmp 2] := ⟨by kernel_rfl⟩
def c_i_within : ACode :=
  .seq (.ops [⟨0, some 6, .mv (.const (.bool false)), none, []⟩])
  (.seq (.ops [⟨0, some 7, .mv (.tmp 0), none, []⟩, ⟨1, some 8, .mv (.tmp 1), none, []⟩, ⟨2, some 9, .bin .geq (.tmp 7) (.tmp 8), none, []⟩, ⟨3, some 10, .mv (.tmp 9), none, []⟩, ⟨4, some 11, .mv (.tmp 0), (some (10, true)), []⟩, ⟨5, some 12, .mv (.tmp 2), (some (10, true)), []⟩, ⟨6, some 13, .bin .leq (.tmp 11) (.tmp 12), (some (10, true)), []⟩, ⟨7, some 14, .pick (.tmp 10) (.tmp 13) (.const (.bool false)), none, []⟩, ⟨8, some 6, .mv (.tmp 14), none, []⟩])
  (.ret))
theorem k_i_within : FnOk Try.prog n_i_within 3 c_i_within [.tmp 6] := ⟨by kernel_rfl⟩
def c_i_areSizes : ACode :=
  .seq (.ops [⟨0, some 2, .mv (.const (.bool false)), none, []⟩])
  (.seq (.ops [⟨0, some 7, .mv (.tmp 0), none, []⟩, ⟨1, some 8, .len (.tmp 7), none, []⟩, ⟨2, some 9, .bin .sub (.tmp 8) (.const (.int .i64 1)), none, []⟩, ⟨3, some 3, .mv (.tmp 9), none, []⟩])
  (.seq (.seq (.ops [⟨0, some 10, .mv (.tmp 3), none, []⟩, ⟨1, some 11, .call n_i_within [.tmp 10, .const (.int .i64 0), .const (.int .i64 6)], none, []⟩, ⟨2, some 12, .un .not (.tmp 11), none, []⟩, ⟨3, some 13, .mv (.tmp 12), none, []⟩, ⟨4, some 14, .mv (.tmp 0), (some (13, false)), []⟩, ⟨5, some 15, .mv (.tmp 3), (some (13, false)), []⟩, ⟨6, some 16, .ia (.tmp 14) (.tmp 15), (some (13, false)), []⟩, ⟨7, some 17, .ld (.tmp 16), (some (13, false)), []⟩, ⟨8, some 18, .bin .lss (.tmp 17) (.const (.int .i64 1)), (some (13, false)), []⟩, ⟨9, some 19, .pick (.tmp 13) (.const (.bool true)) (.tmp 18), none, []⟩, ⟨10, some 20, .mv (.tmp 19), none, []⟩, ⟨11, some 21, .mv (.tmp 3), (some (20, false)), []⟩, ⟨12, some 22, .bin .eql (.tmp 21) (.const (.int .i64 0)), (some (20, false)), []⟩, ⟨13, some 23, .mv (.tmp 22), (some (20, false)), []⟩, ⟨14, some 24, .mv (.tmp 0), (some (23, true)), []⟩, ⟨15, some 25, .ia (.tmp 24) (.const (.int .i64 0)), (some (23, true)), []⟩, ⟨16, some 26, .ld (.tmp 25), (some (23, true)), []⟩, ⟨17, some 27, .bin .neq (.tmp 26) (.const (.int .i64 1)), (some (23, true)), []⟩, ⟨18, some 28, .pick (.tmp 23) (.tmp 27) (.const (.bool false)), (some (20, false)), []⟩, ⟨19, some 29, .pick (.tmp 20) (.const (.bool true)) (.tmp 28), none, []⟩])
  (.cond (.tmp 29) (.seq (.keep [] (.ops [⟨0, some 2, .mv (.const (.bool false)), none, []⟩]))
  (.ret)) (.skip)))
  (.seq (.keep [0, 3] (.ops [⟨0, some 30, .mv (.tmp 0), none, []⟩, ⟨1, some 31, .mv (.tmp 3), none, []⟩, ⟨2, some 32, .ia (.tmp 30) (.tmp 31), none, []⟩, ⟨3, some 33, .ld (.tmp 32), none, []⟩, ⟨4, some 4, .mv (.tmp 33), none, []⟩]))
  (.seq (.seq (.ops [⟨0, some 34, .mv (.tmp 3), none, []⟩, ⟨1, some 35, .bin .sub (.tmp 34) (.const (.int .i64 1)), none, []⟩, ⟨2, some 5, .mv (.tmp 35), none, []⟩])
  (.block 0 (.loop [0, 4, 5] (.seq (.seq (.ops [⟨0, some 36, .mv (.tmp 5), none, []⟩, ⟨1, some 37, .bin .geq (.tmp 36) (.const (.int .i64 0)), none, []⟩])
  (.cond (.tmp 37) (.skip) (.exit 0)))
  (.seq (.block 1 (.seq (.seq (.ops [⟨0, some 40, .mv (.tmp 0), none, []⟩, ⟨1, some 41, .mv (.tmp 5), none, []⟩, ⟨2, some 42, .ia (.tmp 40) (.tmp 41), none, []⟩, ⟨3, some 43, .ld (.tmp 42), none, []⟩, ⟨4, some 6, .mv (.tmp 43), none, []⟩])
  (.seq (.keep [0, 4, 5, 6] (.ops [⟨0, some 44, .mv (.tmp 6), none, []⟩, ⟨1, some 45, .bin .lss (.tmp 44) (.const (.int .i64 1)), none, []⟩, ⟨2, some 46, .mv (.tmp 45), none, []⟩, ⟨3, some 47, .mv (.tmp 6), (some (46, false)), []⟩, ⟨4, some 48, .mv (.tmp 4), (some (46, false)), []⟩, ⟨5, some 49, .bin .neq (.tmp 47) (.tmp 48), (some (46, false)), []⟩, ⟨6, some 50, .mv (.tmp 49), (some (46, false)), []⟩, ⟨7, some 51, .mv (.tmp 6), (some (50, true)), []⟩, ⟨8, some 52, .mv (.tmp 4), (some (50, true)), []⟩, ⟨9, some 53, .bin .sub (.tmp 52) (.const (.int .i64 1)), (some (50, true)), []⟩, ⟨10, some 54, .bin .neq (.tmp 51) (.tmp 53), (some (50, true)), []⟩, ⟨11, some 55, .pick (.tmp 50) (.tmp 54) (.const (.bool false)), (some (46, false)), []⟩, ⟨12, some 56, .pick (.tmp 46) (.const (.bool true)) (.tmp 55), none, []⟩]))
  (.cond (.tmp 56) (.seq (.keep [] (.ops [⟨0, some 2, .mv (.const (.bool false)), none, []⟩]))
  (.ret)) (.skip))))
  (.seq (.keep [0, 4, 5] (.ops [⟨0, some 57, .mv (.tmp 4), none, []⟩, ⟨1, some 58, .mv (.tmp 0), none, []⟩, ⟨2, some 59, .mv (.tmp 5), none, []⟩, ⟨3, some 60, .ia (.tmp 58) (.tmp 59), none, []⟩, ⟨4, some 61, .ld (.tmp 60), none, []⟩, ⟨5, some 62, .bin .add (.tmp 57) (.tmp 61), none, []⟩, ⟨6, some 4, .mv (.tmp 62), none, []⟩]))
  (.seq (.keep [0, 4, 5] (.ops [⟨0, some 63, .mv (.tmp 4), none, []⟩, ⟨1, some 64, .bin .gtr (.tmp 63) (.const (.int .i64 128)), none, []⟩]))
  (.cond (.tmp 64) (.seq (.keep [] (.ops [⟨0, some 2, .mv (.const (.bool false)), none, []⟩]))
  (.ret)) (.skip))))))
  (.ops [⟨0, some 38, .mv (.tmp 5), none, []⟩, ⟨1, some 39, .bin .sub (.tmp 38) (.const (.int .i64 1)), none, []⟩, ⟨2, some 5, .mv (.tmp 39), none, []⟩]))))))
  (.seq (.ops [⟨0, some 65, .mv (.tmp 4), none, []⟩, ⟨1, some 66, .bin .leq (.tmp 65) (.const (.int .i64 128)), none, []⟩, ⟨2, some 2, .mv (.tmp 66), none, []⟩])
  (.ret))))))
theorem k_i_areSizes : FnOk Try.prog n_i_areSizes 1 c_i_areSizes [.tmp 2] := ⟨by kernel_rfl⟩
def c_i_sizesOf_int64_ : ACode :=
  .seq (.ops [⟨0, some 2, .mv (.const (.slice none 0 0)), none, []⟩])
  (.seq (.ops [⟨0, some 6, .bsl 3 0 (.int .i64 0) [], none, []⟩, ⟨1, some 3, .mv (.tmp 6), none, []⟩])
  (.seq (.seq (.ops [⟨0, some 7, .mv (.tmp 0), none, []⟩, ⟨1, some 8, .len (.tmp 7), none, []⟩, ⟨2, some 9, .mv (.const (.int .i64 0)), none, []⟩])
  (.block 0 (.loop [3, 7, 8, 9] (.seq (.ops [⟨0, some 10, .bin .lss (.tmp 9) (.tmp 8), none, []⟩])
  (.seq (.cond (.tmp 10) (.skip) (.exit 0))
  (.seq (.block 1 (.seq (.ops [⟨0, some 11, .ia (.tmp 7) (.tmp 9), none, []⟩, ⟨1, some 12, .ld (.tmp 11), none, []⟩, ⟨2, some 5, .mv (.tmp 12), none, []⟩])
  (.ops [⟨0, some 13, .mv (.tmp 3), none, []⟩, ⟨1, some 14, .mv (.tmp 5), none, []⟩, ⟨2, some 15, .len (.tmp 14), none, []⟩, ⟨3, some 16, .bsl 3 1 (.int .i64 0) [(0, .tmp 15)], none, []⟩, ⟨4, some 17, .app 3 8 (.tmp 13) (.tmp 16), none, []⟩, ⟨5, some 3, .mv (.tmp 17), none, []⟩])))
  (.keep [3, 7, 8, 9] (.ops [⟨0, some 18, .bin .add (.tmp 9) (.const (.int .i64 1)), none, []⟩, ⟨1, some 9, .mv (.tmp 18), none, []⟩]))))))))
  (.seq (.ops [⟨0, some 19, .mv (.tmp 3), none, []⟩, ⟨1, some 2, .mv (.tmp 19), none, []⟩])
  (.ret))))
theorem k_i_sizesOf_int64_ : FnOk Try.prog n_i_sizesOf_int64_ 1 c_i_sizesOf_int64_ [.tmp 2] := ⟨by kernel_rfl⟩
def c_i_DropIntegers : ACode :=
  .seq (.ops [⟨0, some 6, .mv (.const (.slice none 0 0)), none, []⟩, ⟨1, some 7, .mv (.const (.bool false)), none, []⟩])
  (.seq (.ops [⟨0, some 14, .mv (.tmp 1), none, []⟩, ⟨1, some 15, .len (.tmp 14), none, []⟩, ⟨2, some 8, .mv (.tmp 15), none, []⟩])
  (.seq (.seq (.ops [⟨0, some 16, .mv (.tmp 0), none, []⟩, ⟨1, some 17, .call n_i_within [.tmp 16, .const (.int .i64 0), .const (.int .i64 2)], none, []⟩, ⟨2, some 18, .un .not (.tmp 17), none, []⟩, ⟨3, some 19, .mv (.tmp 18), none, []⟩, ⟨4, some 20, .mv (.tmp 8), (some (19, false)), []⟩, ⟨5, some 21, .call n_i_within [.tmp 20, .const (.int .i64 1), .const (.int .i64 64)], (some (19, false)), []⟩, ⟨6, some 22, .un .not (.tmp 21), (some (19, false)), []⟩, ⟨7, some 23, .pick (.tmp 19) (.const (.bool true)) (.tmp 22), none, []⟩, ⟨8, some 24, .mv (.tmp 23), none, []⟩, ⟨9, some 25, .mv (.tmp 2), (some (24, false)), []⟩, ⟨10, some 26, .len (.tmp 25), (some (24, false)), []⟩, ⟨11, some 27, .mv (.tmp 8), (some (24, false)), []⟩, ⟨12, some 28, .bin .neq (.tmp 26) (.tmp 27), (some (24, false)), []⟩, ⟨13, some 29, .mv (.tmp 28), (some (24, false)), []⟩, ⟨14, some 30, .mv (.tmp 2), (some (29, true)), []⟩, ⟨15, some 31, .len (.tmp 30), (some (29, true)), []⟩, ⟨16, some 32, .mv (.tmp 8), (some (29, true)), []⟩, ⟨17, some 33, .bin .sub (.tmp 32) (.const (.int .i64 1)), (some (29, true)), []⟩, ⟨18, some 34, .bin .neq (.tmp 31) (.tmp 33), (some (29, true)), []⟩, ⟨19, some 35, .pick (.tmp 29) (.tmp 34) (.const (.bool false)), (some (24, false)), []⟩, ⟨20, some 36, .pick (.tmp 24) (.const (.bool true)) (.tmp 35), none, []⟩, ⟨21, some 37, .mv (.tmp 36), none, []⟩, ⟨22, some 38, .mv (.tmp 1), (some (37, false)), []⟩, ⟨23, some 39, .call n_i_areWithin [.tmp 38, .const (.int .i64 10000000)], (some (37, false)), []⟩, ⟨24, some 40, .un .not (.tmp 39), (some (37, false)), []⟩, ⟨25, some 41, .pick (.tmp 37) (.const (.bool true)) (.tmp 40), none, []⟩, ⟨26, some 42, .mv (.tmp 41), none, []⟩, ⟨27, some 43, .mv (.tmp 2), (some (42, false)), []⟩, ⟨28, some 44, .call n_i_areWithin [.tmp 43, .const (.int .i64 10000000)], (some (42, false)), []⟩, ⟨29, some 45, .un .not (.tmp 44), (some (42, false)), []⟩, ⟨30, some 46, .pick (.tmp 42) (.const (.bool true)) (.tmp 45), none, []⟩])
  (.cond (.tmp 46) (.seq (.keep [] (.ops [⟨0, some 6, .mv (.const (.slice none 0 0)), none, []⟩, ⟨1, some 7, .mv (.const (.bool false)), none, []⟩]))
  (.ret)) (.skip)))
  (.seq (.keep [0, 1, 2] (.ops [⟨0, some 47, .bsl 2 0 (.int .i64 0) [], none, []⟩, ⟨1, some 48, .mv (.tmp 1), none, []⟩, ⟨2, some 49, .app 2 8 (.tmp 47) (.tmp 48), none, []⟩, ⟨3, some 50, .bsl 2 0 (.int .i64 0) [], none, []⟩, ⟨4, some 51, .mv (.tmp 2), none, []⟩, ⟨5, some 52, .app 2 8 (.tmp 50) (.tmp 51), none, []⟩, ⟨6, some 9, .mv (.tmp 49), none, []⟩, ⟨7, some 10, .mv (.tmp 52), none, []⟩]))
  (.seq (.seq (.keep [0, 9, 10] (.ops [⟨0, some 53, .mv (.tmp 9), none, []⟩, ⟨1, some 54, .len (.tmp 53), none, []⟩, ⟨2, some 55, .mv (.const (.int .i64 0)), none, []⟩]))
  (.block 0 (.loop [0, 9, 10, 54, 55] (.seq (.ops [⟨0, some 56, .bin .lss (.tmp 55) (.tmp 54), none, []⟩])
  (.seq (.cond (.tmp 56) (.skip) (.exit 0))
  (.seq (.block 1 (.seq (.ops [⟨0, some 57, .mv (.tmp 55), none, []⟩, ⟨1, some 11, .mv (.tmp 57), none, []⟩])
  (.ops [⟨0, some 58, .mv (.tmp 9), none, []⟩, ⟨1, some 59, .mv (.tmp 11), none, []⟩, ⟨2, some 60, .ia (.tmp 58) (.tmp 59), none, []⟩, ⟨3, some 61, .ld (.tmp 60), none, []⟩, ⟨4, some 62, .mv (.tmp 0), none, []⟩, ⟨5, some 63, .mv (.tmp 10), none, []⟩, ⟨6, some 64, .mv (.tmp 11), none, []⟩, ⟨7, some 65, .call n_i_evenBy [.tmp 62, .tmp 63, .tmp 64], none, [(some 60, .ia (.tmp 58) (.tmp 59), none), (some 61, .ld (.tmp 60), none)]⟩, ⟨8, some 66, .bin .sub (.tmp 61) (.tmp 65), none, []⟩, ⟨9, some 67, .ia (.tmp 58) (.tmp 59), none, []⟩, ⟨10, none, .st (.tmp 67) (.tmp 66), none, []⟩])))
  (.keep [0, 9, 10, 54, 55] (.ops [⟨0, some 68, .bin .add (.tmp 55) (.const (.int .i64 1)), none, []⟩, ⟨1, some 55, .mv (.tmp 68), none, []⟩]))))))))
  (.seq (.seq (.ops [⟨0, some 69, .mv (.tmp 10), none, []⟩, ⟨1, some 70, .len (.tmp 69), none, []⟩, ⟨2, some 71, .mv (.const (.int .i64 0)), none, []⟩])
  (.block 2 (.loop [0, 9, 10, 70, 71] (.seq (.ops [⟨0, some 72, .bin .lss (.tmp 71) (.tmp 70), none, []⟩])
  (.seq (.cond (.tmp 72) (.skip) (.exit 2))
  (.seq (.block 3 (.seq (.ops [⟨0, some 73, .mv (.tmp 71), none, []⟩, ⟨1, some 12, .mv (.tmp 73), none, []⟩])
  (.ops [⟨0, some 74, .mv (.tmp 10), none, []⟩, ⟨1, some 75, .mv (.tmp 12), none, []⟩, ⟨2, some 76, .ia (.tmp 74) (.tmp 75), none, []⟩, ⟨3, some 77, .ld (.tmp 76), none, []⟩, ⟨4, some 78, .mv (.tmp 0), none, []⟩, ⟨5, some 79, .mv (.tmp 9), none, []⟩, ⟨6, some 80, .mv (.tmp 12), none, []⟩, ⟨7, some 81, .call n_i_oddBy [.tmp 78, .tmp 79, .tmp 80], none, [(some 76, .ia (.tmp 74) (.tmp 75), none), (some 77, .ld (.tmp 76), none)]⟩, ⟨8, some 82, .bin .add (.tmp 77) (.tmp 81), none, []⟩, ⟨9, some 83, .ia (.tmp 74) (.tmp 75), none, []⟩, ⟨10, none, .st (.tmp 83) (.tmp 82), none, []⟩])))
  (.keep [0, 9, 10, 70, 71] (.ops [⟨0, some 84, .bin .add (.tmp 71) (.const (.int .i64 1)), none, []⟩, ⟨1, some 71, .mv (.tmp 84), none, []⟩]))))))))
  (.seq (.ops [⟨0, some 85, .mv (.tmp 9), none, []⟩, ⟨1, some 86, .mv (.tmp 10), none, []⟩, ⟨2, some 87, .call n_i_woven_int64_ [.tmp 85, .tmp 86], none, []⟩, ⟨3, some 13, .mv (.tmp 87), none, []⟩])
  (.seq (.seq (.keep [13] (.ops [⟨0, some 88, .mv (.tmp 13), none, []⟩, ⟨1, some 89, .call n_i_AreIntegers [.tmp 88], none, []⟩, ⟨2, some 90, .un .not (.tmp 89), none, []⟩]))
  (.cond (.tmp 90) (.seq (.ops [⟨0, some 6, .mv (.const (.slice none 0 0)), none, []⟩, ⟨1, some 7, .mv (.const (.bool false)), none, []⟩])
  (.ret)) (.skip)))
  (.seq (.ops [⟨0, some 91, .mv (.tmp 13), none, []⟩, ⟨1, some 6, .mv (.tmp 91), none, []⟩, ⟨2, some 7, .mv (.const (.bool true)), none, []⟩])
  (.ret)))))))))
theorem k_i_DropIntegers : FnOk Try.prog n_i_DropIntegers 3 c_i_DropIntegers [.tmp 6, .tmp 7] := ⟨by kernel_rfl⟩
def c_i_AreIntegers : ACode :=
  .seq (.ops [⟨0, some 2, .mv (.const (.bool false)), none, []⟩])
  (.seq (.ops [⟨0, some 3, .mv (.tmp 0), none, []⟩, ⟨1, some 4, .len (.tmp 3), none, []⟩, ⟨2, some 5, .call n_i_within [.tmp 4, .const (.int .i64 1), .const (.int .i64 128)], none, []⟩, ⟨3, some 6, .mv (.tmp 5), none, []⟩, ⟨4, some 7, .mv (.tmp 0), (some (6, true)), []⟩, ⟨5, some 8, .call n_i_areWithin [.tmp 7, .const (.int .i64 1000000)], (some (6, true)), []⟩, ⟨6, some 9, .pick (.tmp 6) (.tmp 8) (.const (.bool false)), none, []⟩, ⟨7, some 2, .mv (.tmp 9), none, []⟩])
  (.ret))
theorem k_i_AreIntegers : FnOk Try.prog n_i_AreIntegers 1 c_i_AreIntegers [.tmp 2] := ⟨by kernel_rfl⟩
def c_s_l00In : ACode :=
  .seq (.ops [⟨0, some 6, .mv (.const (.bool false)), none, []⟩])
  (.seq (.ops [⟨0, some 7, .mv (.tmp 0), none, []⟩, ⟨1, some 8, .mv (.tmp 1), none, []⟩, ⟨2, some 9, .bin .geq (.tmp 7) (.tmp 8), none, []⟩, ⟨3, some 10, .mv (.tmp 9), none, []⟩, ⟨4, some 11, .mv (.tmp 0), (some (10, true)), []⟩, ⟨5, some 12, .mv (.tmp 2), (some (10, true)), []⟩, ⟨6, some 13, .bin .leq (.tmp 11) (.tmp 12), (some (10, true)), []⟩, ⟨7, some 14, .pick (.tmp 10) (.tmp 13) (.const (.bool false)), none, []⟩, ⟨8, some 6, .mv (.tmp 14), none, []⟩])
  (.ret))
theorem k_s_l00In : FnOk Try.prog n_s_l00In 3 c_s_l00In [.tmp 6] := ⟨by kernel_rfl⟩
def c_s_l02Fit : ACode :=
  .seq (.ops [⟨0, some 4, .mv (.const (.bool false)), none, []⟩])
  (.seq (.ops [⟨0, some 5, .mv (.tmp 0), none, []⟩, ⟨1, some 6, .bin .geq (.tmp 5) (.const (.int .i64 1)), none, []⟩, ⟨2, some 7, .mv (.tmp 6), none, []⟩, ⟨3, some 8, .mv (.tmp 1), (some (7, true)), []⟩, ⟨4, some 9, .mv (.tmp 0), (some (7, true)), []⟩, ⟨5, some 10, .bin .eql (.tmp 8) (.tmp 9), (some (7, true)), []⟩, ⟨6, some 11, .mv (.tmp 10), (some (7, true)), []⟩, ⟨7, some 12, .mv (.tmp 1), (some (11, false)), []⟩, ⟨8, some 13, .mv (.tmp 0), (some (11, false)), []⟩, ⟨9, some 14, .bin .sub (.tmp 13) (.const (.int .i64 1)), (some (11, false)), []⟩, ⟨10, some 15, .bin .eql (.tmp 12) (.tmp 14), (some (11, false)), []⟩, ⟨11, some 16, .pick (.tmp 11) (.const (.bool true)) (.tmp 15), (some (7, true)), []⟩, ⟨12, some 17, .pick (.tmp 7) (.tmp 16) (.const (.bool false)), none, []⟩, ⟨13, some 18, .mv (.tmp 17), none, []⟩, ⟨14, some 19, .mv (.tmp 0), (some (18, true)), []⟩, ⟨15, some 20, .mv (.tmp 1), (some (18, true)), []⟩, ⟨16, some 21, .bin .add (.tmp 19) (.tmp 20), (some (18, true)), []⟩, ⟨17, some 22, .bin .leq (.tmp 21) (.const (.int .i64 128)), (some (18, true)), []⟩, ⟨18, some 23, .pick (.tmp 18) (.tmp 22) (.const (.bool false)), none, []⟩, ⟨19, some 4, .mv (.tmp 23), none, []⟩])
  (.ret))
theorem k_s_l02Fit : FnOk Try.prog n_s_l02Fit 2 c_s_l02Fit [.tmp 4] := ⟨by kernel_rfl⟩
def c_s_l02Bound : ACode :=
  .seq (.ops [⟨0, some 4, .mv (.const (.bool false)), none, []⟩])
  (.seq (.seq (.ops [⟨0, some 5, .mv (.const (.int .i64 0)), none, []⟩])
  (.block 0 (.loop [0, 1, 5] (.seq (.seq (.ops [⟨0, some 6, .mv (.tmp 5), none, []⟩, ⟨1, some 7, .mv (.tmp 0), none, []⟩, ⟨2, some 8, .len (.tmp 7), none, []⟩, ⟨3, some 9, .bin .lss (.tmp 6) (.tmp 8), none, []⟩])
  (.cond (.tmp 9) (.skip) (.exit 0)))
  (.seq (.block 1 (.seq (.ops [⟨0, some 12, .mv (.tmp 0), none, []⟩, ⟨1, some 13, .mv (.tmp 5), none, []⟩, ⟨2, some 14, .ia (.tmp 12) (.tmp 13), none, []⟩, ⟨3, some 15, .ld (.tmp 14), none, []⟩, ⟨4, some 16, .mv (.tmp 1), none, []⟩, ⟨5, some 17, .un .neg (.tmp 16), none, []⟩, ⟨6, some 18, .mv (.tmp 1), none, []⟩, ⟨7, some 19, .call n_s_l00In [.tmp 15, .tmp 17, .tmp 18], none, []⟩, ⟨8, some 20, .un .not (.tmp 19), none, []⟩])
  (.cond (.tmp 20) (.seq (.keep [] (.ops [⟨0, some 4, .mv (.const (.bool false)), none, []⟩]))
  (.ret)) (.skip))))
  (.keep [0, 1, 5] (.ops [⟨0, some 10, .mv (.tmp 5), none, []⟩, ⟨1, some 11, .bin .add (.tmp 10) (.const (.int .i64 1)), none, []⟩, ⟨2, some 5, .mv (.tmp 11), none, []⟩])))))))
  (.seq (.keep [] (.ops [⟨0, some 4, .mv (.const (.bool true)), none, []⟩]))
  (.ret)))
theorem k_s_l02Bound : FnOk Try.prog n_s_l02Bound 2 c_s_l02Bound [.tmp 4] := ⟨by kernel_rfl⟩
def c_s_l02Gain : ACode :=
  .seq (.ops [⟨0, some 6, .mv (.const (.int .i64 0)), none, []⟩])
  (.seq (.seq (.ops [⟨0, some 7, .mv (.tmp 1), none, []⟩, ⟨1, some 8, .len (.tmp 7), none, []⟩, ⟨2, some 9, .bin .eql (.tmp 8) (.const (.int .i64 0)), none, []⟩, ⟨3, some 10, .mv (.tmp 9), none, []⟩, ⟨4, some 11, .mv (.tmp 0), (some (10, false)), []⟩, ⟨5, some 12, .bin .eql (.tmp 11) (.const (.int .i64 0)), (some (10, false)), []⟩, ⟨6, some 13, .mv (.tmp 12), (some (10, false)), []⟩, ⟨7, some 14, .mv (.tmp 2), (some (13, true)), []⟩, ⟨8, some 15, .mv (.tmp 1), (some (13, true)), []⟩, ⟨9, some 16, .len (.tmp 15), (some (13, true)), []⟩, ⟨10, some 17, .bin .geq (.tmp 14) (.tmp 16), (some (13, true)), []⟩, ⟨11, some 18, .pick (.tmp 13) (.tmp 17) (.const (.bool false)), (some (10, false)), []⟩, ⟨12, some 19, .pick (.tmp 10) (.const (.bool true)) (.tmp 18), none, []⟩])
  (.cond (.tmp 19) (.seq (.keep [] (.ops [⟨0, some 6, .mv (.const (.int .i64 0)), none, []⟩]))
  (.ret)) (.skip)))
  (.seq (.seq (.keep [0, 1, 2] (.ops [⟨0, some 20, .mv (.tmp 0), none, []⟩, ⟨1, some 21, .bin .eql (.tmp 20) (.const (.int .i64 0)), none, []⟩]))
  (.cond (.tmp 21) (.seq (.ops [⟨0, some 22, .mv (.tmp 1), none, []⟩, ⟨1, some 23, .mv (.tmp 2), none, []⟩, ⟨2, some 24, .ia (.tmp 22) (.tmp 23), none, []⟩, ⟨3, some 25, .ld (.tmp 24), none, []⟩, ⟨4, some 26, .call n_s_l02Down [.tmp 25, .const (.int .i64 2)], none, []⟩, ⟨5, some 6, .mv (.tmp 26), none, []⟩])
  (.ret)) (.skip)))
  (.seq (.ops [⟨0, some 27, .mv (.tmp 1), none, []⟩, ⟨1, some 28, .mv (.tmp 2), none, []⟩, ⟨2, some 29, .bin .sub (.tmp 28) (.const (.int .i64 1)), none, []⟩, ⟨3, some 30, .call n_s_l02Near [.tmp 27, .tmp 29], none, []⟩, ⟨4, some 31, .mv (.tmp 1), none, []⟩, ⟨5, some 32, .mv (.tmp 2), none, []⟩, ⟨6, some 33, .call n_s_l02Near [.tmp 31, .tmp 32], none, []⟩, ⟨7, some 34, .bin .add (.tmp 30) (.tmp 33), none, []⟩, ⟨8, some 35, .bin .add (.tmp 34) (.const (.int .i64 2)), none, []⟩, ⟨9, some 36, .call n_s_l02Down [.tmp 35, .const (.int .i64 4)], none, []⟩, ⟨10, some 6, .mv (.tmp 36), none, []⟩])
  (.ret))))
theorem k_s_l02Gain : FnOk Try.prog n_s_l02Gain 3 c_s_l02Gain [.tmp 6] := ⟨by kernel_rfl⟩
def c_s_l02Guess : ACode :=
  .seq (.ops [⟨0, some 6, .mv (.const (.int .i64 0)), none, []⟩])
  (.seq (.seq (.ops [⟨0, some 9, .mv (.tmp 0), none, []⟩, ⟨1, some 10, .bin .eql (.tmp 9) (.const (.int .i64 0)), none, []⟩])
  (.cond (.tmp 10) (.seq (.ops [⟨0, some 11, .mv (.tmp 1), none, []⟩, ⟨1, some 12, .mv (.tmp 2), none, []⟩, ⟨2, some 13, .ia (.tmp 11) (.tmp 12), none, []⟩, ⟨3, some 14, .ld (.tmp 13), none, []⟩, ⟨4, some 6, .mv (.tmp 14), none, []⟩])
  (.ret)) (.skip)))
  (.seq (.seq (.ops [⟨0, some 15, .mv (.tmp 0), none, []⟩, ⟨1, some 16, .bin .eql (.tmp 15) (.const (.int .i64 1)), none, []⟩])
  (.cond (.tmp 16) (.seq (.keep [1, 2] (.ops [⟨0, some 17, .mv (.tmp 1), none, []⟩, ⟨1, some 18, .mv (.tmp 2), none, []⟩, ⟨2, some 19, .ia (.tmp 17) (.tmp 18), none, []⟩, ⟨3, some 20, .ld (.tmp 19), none, []⟩, ⟨4, some 21, .mv (.tmp 1), none, []⟩, ⟨5, some 22, .mv (.tmp 2), none, []⟩, ⟨6, some 23, .bin .add (.tmp 22) (.const (.int .i64 1)), none, []⟩, ⟨7, some 24, .call n_s_l02Near [.tmp 21, .tmp 23], none, [(some 19, .ia (.tmp 17) (.tmp 18), none), (some 20, .ld (.tmp 19), none)]⟩, ⟨8, some 25, .bin .add (.tmp 20) (.tmp 24), none, []⟩, ⟨9, some 26, .call n_s_l02Down [.tmp 25, .const (.int .i64 2)], none, []⟩, ⟨10, some 6, .mv (.tmp 26), none, []⟩]))
  (.ret)) (.skip)))
  (.seq (.keep [1, 2] (.ops [⟨0, some 27, .mv (.tmp 1), none, []⟩, ⟨1, some 28, .mv (.tmp 2), none, []⟩, ⟨2, some 29, .ia (.tmp 27) (.tmp 28), none, []⟩, ⟨3, some 30, .ld (.tmp 29), none, []⟩, ⟨4, some 31, .mv (.tmp 1), none, []⟩, ⟨5, some 32, .mv (.tmp 2), none, []⟩, ⟨6, some 33, .bin .add (.tmp 32) (.const (.int .i64 1)), none, []⟩, ⟨7, some 34, .call n_s_l02Mirrored [.tmp 31, .tmp 33], none, [(some 29, .ia (.tmp 27) (.tmp 28), none), (some 30, .ld (.tmp 29), none)]⟩, ⟨8, some 35, .bin .add (.tmp 30) (.tmp 34), none, []⟩, ⟨9, some 7, .mv (.tmp 35), none, []⟩]))
  (.seq (.keep [1, 2, 7] (.ops [⟨0, some 36, .mv (.tmp 1), none, []⟩, ⟨1, some 37, .mv (.tmp 2), none, []⟩, ⟨2, some 38, .bin .sub (.tmp 37) (.const (.int .i64 1)), none, []⟩, ⟨3, some 39, .call n_s_l02Mirrored [.tmp 36, .tmp 38], none, []⟩, ⟨4, some 40, .mv (.tmp 1), none, []⟩, ⟨5, some 41, .mv (.tmp 2), none, []⟩, ⟨6, some 42, .bin .add (.tmp 41) (.const (.int .i64 2)), none, []⟩, ⟨7, some 43, .call n_s_l02Mirrored [.tmp 40, .tmp 42], none, []⟩, ⟨8, some 44, .bin .add (.tmp 39) (.tmp 43), none, []⟩, ⟨9, some 8, .mv (.tmp 44), none, []⟩]))
  (.seq (.keep [7, 8] (.ops [⟨0, some 45, .mv (.tmp 7), none, []⟩, ⟨1, some 46, .bin .mul (.const (.int .i64 9)) (.tmp 45), none, []⟩, ⟨2, some 47, .mv (.tmp 8), none, []⟩, ⟨3, some 48, .bin .sub (.tmp 46) (.tmp 47), none, []⟩, ⟨4, some 49, .bin .add (.tmp 48) (.const (.int .i64 8)), none, []⟩, ⟨5, some 50, .call n_s_l02Down [.tmp 49, .const (.int .i64 16)], none, []⟩, ⟨6, some 6, .mv (.tmp 50), none, []⟩]))
  (.ret))))))
theorem k_s_l02Guess : FnOk Try.prog n_s_l02Guess 3 c_s_l02Guess [.tmp 6] := ⟨by kernel_rfl⟩
def c_i_areWithin : ACode :=
  .seq (.ops [⟨0, some 4, .mv (.const (.bool false)), none, []⟩])
  (.seq (.seq (.ops [⟨0, some 7, .mv (.tmp 0), none, []⟩, ⟨1, some 8, .len (.tmp 7), none, []⟩, ⟨2, some 9, .mv (.const (.int .i64 0)), none, []⟩])
  (.block 0 (.loop [1, 7, 8, 9] (.seq (.ops [⟨0, some 10, .bin .lss (.tmp 9) (.tmp 8), none, []⟩])
  (.seq (.cond (.tmp 10) (.skip) (.exit 0))
  (.seq (.block 1 (.seq (.ops [⟨0, some 11, .ia (.tmp 7) (.tmp 9), none, []⟩, ⟨1, some 12, .ld (.tmp 11), none, []⟩, ⟨2, some 6, .mv (.tmp 12), none, []⟩])
  (.seq (.ops [⟨0, some 13, .mv (.tmp 6), none, []⟩, ⟨1, some 14, .mv (.tmp 1), none, []⟩, ⟨2, some 15, .un .neg (.tmp 14), none, []⟩, ⟨3, some 16, .mv (.tmp 1), none, []⟩, ⟨4, some 17, .call n_i_within [.tmp 13, .tmp 15, .tmp 16], none, []⟩, ⟨5, some 18, .un .not (.tmp 17), none, []⟩])
  (.cond (.tmp 18) (.seq (.keep [] (.ops [⟨0, some 4, .mv (.const (.bool false)), none, []⟩]))
  (.ret)) (.skip)))))
  (.keep [1, 7, 8, 9] (.ops [⟨0, some 19, .bin .add (.tmp 9) (.const (.int .i64 1)), none, []⟩, ⟨1, some 9, .mv (.tmp 19), none, []⟩]))))))))
  (.seq (.keep [] (.ops [⟨0, some 4, .mv (.const (.bool true)), none, []⟩]))
  (.ret)))
theorem k_i_areWithin : FnOk Try.prog n_i_areWithin 2 c_i_areWithin [.tmp 4] := ⟨by kernel_rfl⟩
def c_i_evenBy : ACode :=
  .seq (.ops [⟨0, some 6, .mv (.const (.int .i64 0)), none, []⟩])
  (.seq (.seq (.ops [⟨0, some 9, .mv (.tmp 0), none, []⟩, ⟨1, some 10, .bin .eql (.tmp 9) (.const (.int .i64 0)), none, []⟩])
  (.cond (.tmp 10) (.seq (.seq (.ops [⟨0, some 11, .mv (.tmp 2), none, []⟩, ⟨1, some 12, .mv (.tmp 1), none, []⟩, ⟨2, some 13, .len (.tmp 12), none, []⟩, ⟨3, some 14, .bin .lss (.tmp 11) (.tmp 13), none, []⟩])
  (.cond (.tmp 14) (.seq (.keep [1, 2] (.ops [⟨0, some 15, .mv (.tmp 1), none, []⟩, ⟨1, some 16, .mv (.tmp 2), none, []⟩, ⟨2, some 17, .ia (.tmp 15) (.tmp 16), none, []⟩, ⟨3, some 18, .ld (.tmp 17), none, []⟩, ⟨4, some 19, .call n_i_below [.tmp 18, .const (.int .i64 2)], none, []⟩, ⟨5, some 6, .mv (.tmp 19), none, []⟩]))
  (.ret)) (.skip)))
  (.seq (.keep [] (.ops [⟨0, some 6, .mv (.const (.int .i64 0)), none, []⟩]))
  (.ret))) (.skip)))
  (.seq (.seq (.ops [⟨0, some 20, .mv (.tmp 1), none, []⟩, ⟨1, some 21, .len (.tmp 20), none, []⟩, ⟨2, some 22, .bin .eql (.tmp 21) (.const (.int .i64 0)), none, []⟩])
  (.cond (.tmp 22) (.seq (.keep [] (.ops [⟨0, some 6, .mv (.const (.int .i64 0)), none, []⟩]))
  (.ret)) (.skip)))
  (.seq (.keep [1, 2] (.ops [⟨0, some 24, .mv (.tmp 1), none, []⟩, ⟨1, some 25, .mv (.tmp 2), none, []⟩, ⟨2, some 26, .call n_i_besideEven_int64_ [.tmp 24, .tmp 25], none, []⟩, ⟨3, some 23, .mv (.tmp 26), none, []⟩, ⟨4, some 27, .ext (.tmp 23) 0, none, []⟩, ⟨5, some 28, .ext (.tmp 23) 1, none, []⟩, ⟨6, some 7, .mv (.tmp 27), none, []⟩, ⟨7, some 8, .mv (.tmp 28), none, []⟩]))
  (.seq (.keep [7, 8] (.ops [⟨0, some 29, .mv (.tmp 7), none, []⟩, ⟨1, some 30, .mv (.tmp 8), none, []⟩, ⟨2, some 31, .bin .add (.tmp 29) (.tmp 30), none, []⟩, ⟨3, some 32, .bin .add (.tmp 31) (.const (.int .i64 2)), none, []⟩, ⟨4, some 33, .call n_i_below [.tmp 32, .const (.int .i64 4)], none, []⟩, ⟨5, some 6, .mv (.tmp 33), none, []⟩]))
  (.ret)))))
theorem k_i_evenBy : FnOk Try.prog n_i_evenBy 3 c_i_evenBy [.tmp 6] := ⟨by kernel_rfl⟩
def c_i_oddBy : ACode :=
  .seq (.ops [⟨0, some 4, .box 24 (.tmp 1), none, []⟩, ⟨1, some 6, .mv (.const (.int .i64 0)), none, []⟩])
  (.seq (.seq (.ops [⟨0, some 10, .mv (.tmp 0), none, []⟩])
  (.block 0 (.seq (.ops [⟨0, some 12, .bin .eql (.tmp 10) (.const (.int .i64 0)), none, []⟩, ⟨1, some 11, .mv (.tmp 12), none, []⟩])
  (.cond (.tmp 11) (.seq (.keep [2, 4] (.ops [⟨0, some 13, .ld (.tmp 4), none, []⟩, ⟨1, some 14, .mv (.tmp 2), none, []⟩, ⟨2, some 15, .ia (.tmp 13) (.tmp 14), none, []⟩, ⟨3, some 16, .ld (.tmp 15), none, []⟩, ⟨4, some 6, .mv (.tmp 16), none, []⟩]))
  (.ret)) (.seq (.keep [2, 4, 10] (.ops [⟨0, some 18, .bin .eql (.tmp 10) (.const (.int .i64 1)), none, []⟩, ⟨1, some 17, .mv (.tmp 18), none, []⟩]))
  (.cond (.tmp 17) (.seq (.ops [⟨0, some 20, .ld (.tmp 4), none, []⟩, ⟨1, some 21, .mv (.tmp 2), none, []⟩, ⟨2, some 22, .call n_i_besideOdd_int64_ [.tmp 20, .tmp 21], none, []⟩, ⟨3, some 19, .mv (.tmp 22), none, []⟩, ⟨4, some 23, .ext (.tmp 19) 0, none, []⟩, ⟨5, some 24, .ext (.tmp 19) 1, none, []⟩, ⟨6, some 7, .mv (.tmp 23), none, []⟩, ⟨7, some 8, .mv (.tmp 24), none, []⟩])
  (.seq (.keep [7, 8] (.ops [⟨0, some 25, .mv (.tmp 7), none, []⟩, ⟨1, some 26, .mv (.tmp 8), none, []⟩, ⟨2, some 27, .bin .add (.tmp 25) (.tmp 26), none, []⟩, ⟨3, some 28, .call n_i_below [.tmp 27, .const (.int .i64 2)], none, []⟩, ⟨4, some 6, .mv (.tmp 28), none, []⟩]))
  (.ret))) (.skip)))))))
  (.seq (.ops [⟨0, some 29, .mkf (.func n_i_oddBy_1) [] [.tmp 4], none, []⟩, ⟨1, some 9, .mv (.tmp 29), none, []⟩])
  (.seq (.keep [2, 9] (.ops [⟨0, some 30, .mv (.tmp 9), none, []⟩, ⟨1, some 31, .mv (.tmp 2), none, []⟩, ⟨2, some 32, .callv (.tmp 30) [.tmp 31], none, []⟩, ⟨3, some 33, .mv (.tmp 9), none, []⟩, ⟨4, some 34, .mv (.tmp 2), none, []⟩, ⟨5, some 35, .bin .add (.tmp 34) (.const (.int .i64 1)), none, []⟩, ⟨6, some 36, .callv (.tmp 33) [.tmp 35], none, []⟩, ⟨7, some 37, .bin .add (.tmp 32) (.tmp 36), none, []⟩, ⟨8, some 38, .bin .mul (.const (.int .i64 9)) (.tmp 37), none, []⟩, ⟨9, some 39, .mv (.tmp 9), none, []⟩, ⟨10, some 40, .mv (.tmp 2), none, []⟩, ⟨11, some 41, .bin .sub (.tmp 40) (.const (.int .i64 1)), none, []⟩, ⟨12, some 42, .callv (.tmp 39) [.tmp 41], none, []⟩, ⟨13, some 43, .mv (.tmp 9), none, []⟩, ⟨14, some 44, .mv (.tmp 2), none, []⟩, ⟨15, some 45, .bin .add (.tmp 44) (.const (.int .i64 2)), none, []⟩, ⟨16, some 46, .callv (.tmp 43) [.tmp 45], none, []⟩, ⟨17, some 47, .bin .add (.tmp 42) (.tmp 46), none, []⟩, ⟨18, some 48, .bin .sub (.tmp 38) (.tmp 47), none, []⟩, ⟨19, some 49, .bin .add (.tmp 48) (.const (.int .i64 8)), none, []⟩, ⟨20, some 50, .call n_i_below [.tmp 49, .const (.int .i64 16)], none, []⟩, ⟨21, some 6, .mv (.tmp 50), none, []⟩]))
  (.ret))))
theorem k_i_oddBy : FnOk Try.prog n_i_oddBy 3 c_i_oddBy [.tmp 6] := ⟨by kernel_rfl⟩
def c_i_woven_int64_ : ACode :=
  .seq (.ops [⟨0, some 4, .mv (.const (.slice none 0 0)), none, []⟩])
  (.seq (.ops [⟨0, some 8, .bsl 2 0 (.int .i64 0) [], none, []⟩, ⟨1, some 5, .mv (.tmp 8), none, []⟩])
  (.seq (.seq (.ops [⟨0, some 9, .mv (.tmp 0), none, []⟩, ⟨1, some 10, .len (.tmp 9), none, []⟩, ⟨2, some 11, .mv (.const (.int .i64 0)), none, []⟩])
  (.block 0 (.loop [1, 5, 9, 10, 11] (.seq (.ops [⟨0, some 12, .bin .lss (.tmp 11) (.tmp 10), none, []⟩])
  (.seq (.cond (.tmp 12) (.skip) (.exit 0))
  (.seq (.block 1 (.seq (.ops [⟨0, some 13, .mv (.tmp 11), none, []⟩, ⟨1, some 14, .ia (.tmp 9) (.tmp 11), none, []⟩, ⟨2, some 15, .ld (.tmp 14), none, []⟩, ⟨3, some 6, .mv (.tmp 13), none, []⟩, ⟨4, some 7, .mv (.tmp 15), none, []⟩])
  (.seq (.ops [⟨0, some 16, .mv (.tmp 5), none, []⟩, ⟨1, some 17, .mv (.tmp 7), none, []⟩, ⟨2, some 18, .bsl 2 1 (.int .i64 0) [(0, .tmp 17)], none, []⟩, ⟨3, some 19, .app 2 8 (.tmp 16) (.tmp 18), none, []⟩, ⟨4, some 5, .mv (.tmp 19), none, []⟩])
  (.seq (.keep [1, 5, 6, 9, 10, 11] (.ops [⟨0, some 20, .mv (.tmp 6), none, []⟩, ⟨1, some 21, .mv (.tmp 1), none, []⟩, ⟨2, some 22, .len (.tmp 21), none, []⟩, ⟨3, some 23, .bin .lss (.tmp 20) (.tmp 22), none, []⟩]))
  (.cond (.tmp 23) (.ops [⟨0, some 24, .mv (.tmp 5), none, []⟩, ⟨1, some 25, .mv (.tmp 1), none, []⟩, ⟨2, some 26, .mv (.tmp 6), none, []⟩, ⟨3, some 27, .ia (.tmp 25) (.tmp 26), none, []⟩, ⟨4, some 28, .ld (.tmp 27), none, []⟩, ⟨5, some 29, .bsl 2 1 (.int .i64 0) [(0, .tmp 28)], none, []⟩, ⟨6, some 30, .app 2 8 (.tmp 24) (.tmp 29), none, []⟩, ⟨7, some 5, .mv (.tmp 30), none, []⟩]) (.skip))))))
  (.keep [1, 5, 9, 10, 11] (.ops [⟨0, some 31, .bin .add (.tmp 11) (.const (.int .i64 1)), none, []⟩, ⟨1, some 11, .mv (.tmp 31), none, []⟩]))))))))
  (.seq (.keep [5] (.ops [⟨0, some 32, .mv (.tmp 5), none, []⟩, ⟨1, some 4, .mv (.tmp 32), none, []⟩]))
  (.ret))))
theorem k_i_woven_int64_ : FnOk Try.prog n_i_woven_int64_ 2 c_i_woven_int64_ [.tmp 4] := ⟨by kernel_rfl⟩
def c_s_l02Down : ACode :=
  .seq (.ops [⟨0, some 4, .mv (.const (.int .i64 0)), none, []⟩])
  (.seq (.ops [⟨0, some 6, .mv (.tmp 0), none, []⟩, ⟨1, some 7, .mv (.tmp 1), none, []⟩, ⟨2, some 8, .bin .quo (.tmp 6) (.tmp 7), none, []⟩, ⟨3, some 5, .mv (.tmp 8), none, []⟩])
  (.seq (.seq (.ops [⟨0, some 9, .mv (.tmp 0), none, []⟩, ⟨1, some 10, .mv (.tmp 1), none, []⟩, ⟨2, some 11, .bin .rem (.tmp 9) (.tmp 10), none, []⟩, ⟨3, some 12, .bin .lss (.tmp 11) (.const (.int .i64 0)), none, []⟩])
  (.cond (.tmp 12) (.keep [5] (.ops [⟨0, some 13, .mv (.tmp 5), none, []⟩, ⟨1, some 14, .bin .sub (.tmp 13) (.const (.int .i64 1)), none, []⟩, ⟨2, some 5, .mv (.tmp 14), none, []⟩])) (.skip)))
  (.seq (.keep [5] (.ops [⟨0, some 15, .mv (.tmp 5), none, []⟩, ⟨1, some 4, .mv (.tmp 15), none, []⟩]))
  (.ret))))
theorem k_s_l02Down : FnOk Try.prog n_s_l02Down 2 c_s_l02Down [.tmp 4] := ⟨by kernel_rfl⟩
def c_s_l02Near : ACode :=
  .seq (.ops [⟨0, some 4, .mv (.const (.int .i64 0)), none, []⟩])
  (.seq (.ops [⟨0, some 5, .mv (.tmp 0), none, []⟩, ⟨1, some 6, .mv (.tmp 0), none, []⟩, ⟨2, some 7, .len (.tmp 6), none, []⟩, ⟨3, some 8, .bin .sub (.tmp 7) (.const (.int .i64 1)), none, []⟩, ⟨4, some 9, .mv (.tmp 1), none, []⟩, ⟨5, some 10, .mnx false (.tmp 8) (.tmp 9), none, []⟩, ⟨6, some 11, .mnx true (.const (.int .i64 0)) (.tmp 10), none, []⟩, ⟨7, some 12, .ia (.tmp 5) (.tmp 11), none, []⟩, ⟨8, some 13, .ld (.tmp 12), none, []⟩, ⟨9, some 4, .mv (.tmp 13), none, []⟩])
  (.ret))
theorem k_s_l02Near : FnOk Try.prog n_s_l02Near 2 c_s_l02Near [.tmp 4] := ⟨by kernel_rfl⟩
def c_s_l02Mirrored : ACode :=
  .seq (.ops [⟨0, some 4, .mv (.const (.int .i64 0)), none, []⟩])
  (.seq (.ops [⟨0, some 5, .mv (.tmp 0), none, []⟩, ⟨1, some 6, .mv (.tmp 0), none, []⟩, ⟨2, some 7, .len (.tmp 6), none, []⟩, ⟨3, some 8, .mv (.tmp 1), none, []⟩, ⟨4, some 9, .call n_s_l02Mirror [.tmp 7, .tmp 8], none, []⟩, ⟨5, some 10, .ia (.tmp 5) (.tmp 9), none, []⟩, ⟨6, some 11, .ld (.tmp 10), none, []⟩, ⟨7, some 4, .mv (.tmp 11), none, []⟩])
  (.ret))
theorem k_s_l02Mirrored : FnOk Try.prog n_s_l02Mirrored 2 c_s_l02Mirrored [.tmp 4] := ⟨by kernel_rfl⟩
def c_i_below : ACode :=
  .seq (.ops [⟨0, some 4, .mv (.const (.int .i64 0)), none, []⟩])
  (.seq (.ops [⟨0, some 6, .mv (.tmp 0), none, []⟩, ⟨1, some 7, .mv (.tmp 1), none, []⟩, ⟨2, some 8, .bin .quo (.tmp 6) (.tmp 7), none, []⟩, ⟨3, some 5, .mv (.tmp 8), none, []⟩])
  (.seq (.seq (.ops [⟨0, some 9, .mv (.tmp 0), none, []⟩, ⟨1, some 10, .mv (.tmp 1), none, []⟩, ⟨2, some 11, .bin .rem (.tmp 9) (.tmp 10), none, []⟩, ⟨3, some 12, .bin .lss (.tmp 11) (.const (.int .i64 0)), none, []⟩])
  (.cond (.tmp 12) (.keep [5] (.ops [⟨0, some 13, .mv (.tmp 5), none, []⟩, ⟨1, some 14, .bin .sub (.tmp 13) (.const (.int .i64 1)), none, []⟩, ⟨2, some 5, .mv (.tmp 14), none, []⟩])) (.skip)))
  (.seq (.keep [5] (.ops [⟨0, some 15, .mv (.tmp 5), none, []⟩, ⟨1, some 4, .mv (.tmp 15), none, []⟩]))
  (.ret))))
theorem k_i_below : FnOk Try.prog n_i_below 2 c_i_below [.tmp 4] := ⟨by kernel_rfl⟩
def c_i_besideEven_int64_ : ACode :=
  .seq (.ops [⟨0, some 4, .mv (.const (.int .i64 0)), none, []⟩, ⟨1, some 5, .mv (.const (.int .i64 0)), none, []⟩])
  (.seq (.ops [⟨0, some 6, .mv (.tmp 0), none, []⟩, ⟨1, some 7, .mv (.tmp 1), none, []⟩, ⟨2, some 8, .bin .sub (.tmp 7) (.const (.int .i64 1)), none, []⟩, ⟨3, some 9, .mnx true (.tmp 8) (.const (.int .i64 0)), none, []⟩, ⟨4, some 10, .ia (.tmp 6) (.tmp 9), none, []⟩, ⟨5, some 11, .ld (.tmp 10), none, []⟩, ⟨6, some 12, .mv (.tmp 0), none, []⟩, ⟨7, some 13, .mv (.tmp 1), none, []⟩, ⟨8, some 14, .mv (.tmp 0), none, []⟩, ⟨9, some 15, .len (.tmp 14), none, []⟩, ⟨10, some 16, .bin .sub (.tmp 15) (.const (.int .i64 1)), none, []⟩, ⟨11, some 17, .mnx false (.tmp 13) (.tmp 16), none, []⟩, ⟨12, some 18, .ia (.tmp 12) (.tmp 17), none, []⟩, ⟨13, some 19, .ld (.tmp 18), none, []⟩, ⟨14, some 4, .mv (.tmp 11), none, []⟩, ⟨15, some 5, .mv (.tmp 19), none, []⟩])
  (.ret))
theorem k_i_besideEven_int64_ : FnOk Try.prog n_i_besideEven_int64_ 2 c_i_besideEven_int64_ [.tmp 4, .tmp 5] := ⟨by kernel_rfl⟩
def c_i_besideOdd_int64_ : ACode :=
  .seq (.ops [⟨0, some 4, .mv (.const (.int .i64 0)), none, []⟩, ⟨1, some 5, .mv (.const (.int .i64 0)), none, []⟩])
  (.seq (.ops [⟨0, some 6, .mv (.tmp 0), none, []⟩, ⟨1, some 7, .mv (.tmp 1), none, []⟩, ⟨2, some 8, .ia (.tmp 6) (.tmp 7), none, []⟩, ⟨3, some 9, .ld (.tmp 8), none, []⟩, ⟨4, some 10, .mv (.tmp 0), none, []⟩, ⟨5, some 11, .mv (.tmp 1), none, []⟩, ⟨6, some 12, .bin .add (.tmp 11) (.const (.int .i64 1)), none, []⟩, ⟨7, some 13, .mv (.tmp 0), none, []⟩, ⟨8, some 14, .len (.tmp 13), none, []⟩, ⟨9, some 15, .bin .sub (.tmp 14) (.const (.int .i64 1)), none, []⟩, ⟨10, some 16, .mnx false (.tmp 12) (.tmp 15), none, []⟩, ⟨11, some 17, .ia (.tmp 10) (.tmp 16), none, []⟩, ⟨12, some 18, .ld (.tmp 17), none, []⟩, ⟨13, some 4, .mv (.tmp 9), none, []⟩, ⟨14, some 5, .mv (.tmp 18), none, []⟩])
  (.ret))
theorem k_i_besideOdd_int64_ : FnOk Try.prog n_i_besideOdd_int64_ 2 c_i_besideOdd_int64_ [.tmp 4, .tmp 5] := ⟨by kernel_rfl⟩
def c_i_oddBy_1 : ACode :=
  .seq (.ops [⟨0, some 3, .mv (.const (.int .i64 0)), none, []⟩])
  (.seq (.ops [⟨0, some 4, .ld (.tmp 1), none, []⟩, ⟨1, some 5, .ld (.tmp 1), none, []⟩, ⟨2, some 6, .len (.tmp 5), none, []⟩, ⟨3, some 7, .mv (.tmp 0), none, []⟩, ⟨4, some 8, .call n_i_mirrored [.tmp 6, .tmp 7], none, [(some 4, .ld (.tmp 1), none)]⟩, ⟨5, some 9, .ia (.tmp 4) (.tmp 8), none, []⟩, ⟨6, some 10, .ld (.tmp 9), none, []⟩, ⟨7, some 3, .mv (.tmp 10), none, []⟩])
  (.ret))
theorem k_i_oddBy_1 : FnOk Try.prog n_i_oddBy_1 2 c_i_oddBy_1 [.tmp 3] := ⟨by kernel_rfl⟩
def c_i_mirrored : ACode :=
  .seq (.ops [⟨0, some 4, .mv (.const (.int .i64 0)), none, []⟩])
  (.seq (.seq (.ops [⟨0, some 5, .mv (.tmp 0), none, []⟩, ⟨1, some 6, .bin .eql (.tmp 5) (.const (.int .i64 1)), none, []⟩])
  (.cond (.tmp 6) (.seq (.keep [] (.ops [⟨0, some 4, .mv (.const (.int .i64 0)), none, []⟩]))
  (.ret)) (.skip)))
  (.seq (.block 0 (.loop [0, 1] (.seq (.seq (.ops [⟨0, some 7, .mv (.tmp 1), none, []⟩, ⟨1, some 8, .mv (.tmp 0), none, []⟩, ⟨2, some 9, .bin .sub (.tmp 8) (.const (.int .i64 1)), none, []⟩, ⟨3, some 10, .call n_i_within [.tmp 7, .const (.int .i64 0), .tmp 9], none, []⟩, ⟨4, some 11, .un .not (.tmp 10), none, []⟩])
  (.cond (.tmp 11) (.skip) (.exit 0)))
  (.block 1 (.seq (.keep [0, 1] (.ops [⟨0, some 12, .mv (.tmp 1), none, []⟩, ⟨1, some 13, .bin .lss (.tmp 12) (.const (.int .i64 0)), none, []⟩]))
  (.cond (.tmp 13) (.ops [⟨0, some 14, .mv (.tmp 1), none, []⟩, ⟨1, some 15, .un .neg (.tmp 14), none, []⟩, ⟨2, some 1, .mv (.tmp 15), none, []⟩]) (.ops [⟨0, some 16, .mv (.tmp 0), none, []⟩, ⟨1, some 17, .bin .sub (.tmp 16) (.const (.int .i64 1)), none, []⟩, ⟨2, some 18, .bin .mul (.const (.int .i64 2)) (.tmp 17), none, []⟩, ⟨3, some 19, .mv (.tmp 1), none, []⟩, ⟨4, some 20, .bin .sub (.tmp 18) (.tmp 19), none, []⟩, ⟨5, some 1, .mv (.tmp 20), none, []⟩])))))))
  (.seq (.keep [1] (.ops [⟨0, some 21, .mv (.tmp 1), none, []⟩, ⟨1, some 4, .mv (.tmp 21), none, []⟩]))
  (.ret))))
theorem k_i_mirrored : FnOk Try.prog n_i_mirrored 2 c_i_mirrored [.tmp 4] := ⟨by kernel_rfl⟩
def c_s_l02Mirror : ACode :=
  .seq (.ops [⟨0, some 4, .mv (.const (.int .i64 0)), none, []⟩])
  (.seq (.seq (.ops [⟨0, some 5, .mv (.tmp 0), none, []⟩, ⟨1, some 6, .bin .eql (.tmp 5) (.const (.int .i64 1)), none, []⟩])
  (.cond (.tmp 6) (.seq (.keep [] (.ops [⟨0, some 4, .mv (.const (.int .i64 0)), none, []⟩]))
  (.ret)) (.skip)))
  (.seq (.ops [⟨0, some 7, .mv (.tmp 1), none, []⟩, ⟨1, some 8, .mv (.tmp 0), none, []⟩, ⟨2, some 9, .bin .sub (.tmp 8) (.const (.int .i64 1)), none, []⟩, ⟨3, some 10, .bin .mul (.const (.int .i64 2)) (.tmp 9), none, []⟩, ⟨4, some 11, .bin .rem (.tmp 7) (.tmp 10), none, []⟩, ⟨5, some 1, .mv (.tmp 11), none, []⟩])
  (.seq (.seq (.keep [0, 1] (.ops [⟨0, some 12, .mv (.tmp 1), none, []⟩, ⟨1, some 13, .bin .lss (.tmp 12) (.const (.int .i64 0)), none, []⟩]))
  (.cond (.tmp 13) (.ops [⟨0, some 14, .mv (.tmp 1), none, []⟩, ⟨1, some 15, .un .neg (.tmp 14), none, []⟩, ⟨2, some 1, .mv (.tmp 15), none, []⟩]) (.skip)))
  (.seq (.seq (.ops [⟨0, some 16, .mv (.tmp 1), none, []⟩, ⟨1, some 17, .mv (.tmp 0), none, []⟩, ⟨2, some 18, .bin .geq (.tmp 16) (.tmp 17), none, []⟩])
  (.cond (.tmp 18) (.keep [0, 1] (.ops [⟨0, some 19, .mv (.tmp 0), none, []⟩, ⟨1, some 20, .bin .sub (.tmp 19) (.const (.int .i64 1)), none, []⟩, ⟨2, some 21, .bin .mul (.const (.int .i64 2)) (.tmp 20), none, []⟩, ⟨3, some 22, .mv (.tmp 1), none, []⟩, ⟨4, some 23, .bin .sub (.tmp 21) (.tmp 22), none, []⟩, ⟨5, some 1, .mv (.tmp 23), none, []⟩])) (.skip)))
  (.seq (.keep [1] (.ops [⟨0, some 24, .mv (.tmp 1), none, []⟩, ⟨1, some 4, .mv (.tmp 24), none, []⟩]))
  (.ret))))))
theorem k_s_l02Mirror : FnOk Try.prog n_s_l02Mirror 2 c_s_l02Mirror [.tmp 4] := ⟨by kernel_rfl⟩
end Go.Proofs.Ytkojmlpaamdhoae

/- The code of functions, for the abstract machine; printed by a program (gen.py). -/
import Derived.Test.YtkojmlpaamdhoadGxFn
import Derived.Test.YtkojmlpaamdhoadProg
namespace Go.Proofs.Ytkojmlpaamdhoad
open Go.Gx
set_option maxRecDepth 100000
abbrev t_int64 : Nat := 2
abbrev t_int : Nat := 3
abbrev t_bool : Nat := 4
abbrev t_uint8 : Nat := 5
abbrev t_sfloat32 : Nat := 22
abbrev t_ssfloat32 : Nat := 33
abbrev t_float32 : Nat := 34
abbrev t_suint8 : Nat := 41
abbrev t_float64 : Nat := 53
abbrev t_sint64 : Nat := 72
abbrev t_ssint64 : Nat := 79
abbrev t_sbool : Nat := 96
abbrev t_sint : Nat := 114
abbrev t_Picture : Nat := 26
abbrev t_Pair : Nat := 44
abbrev t_Scheme : Nat := 64
abbrev t_Bands : Nat := 98
abbrev n_w_FnExactLiftLevels : Nat := 8
abbrev n_i_LiftLevels : Nat := 62
abbrev n_s_LiftLevels : Nat := 66
abbrev n_w_toInt64S : Nat := 67
abbrev n_w_eqInt64SS : Nat := 68
abbrev n_w_eqInt64S : Nat := 69
abbrev n_w_markInt64S : Nat := 70
abbrev n_w_markInt64SS : Nat := 71
abbrev n_w_heldInt64SS : Nat := 72
abbrev n_w_heldInt64S : Nat := 75
abbrev n_s_l00In : Nat := 112
abbrev n_i_within : Nat := 129
abbrev n_i_AreIntegers : Nat := 138
abbrev n_i_lifted : Nat := 139
abbrev n_i_areWithin : Nat := 140
abbrev n_i_evenBy : Nat := 141
abbrev n_i_oddBy : Nat := 142
abbrev n_i_split_int64_ : Nat := 144
abbrev n_i_mirrored : Nat := 147
abbrev n_s_l02Kind : Nat := 148
abbrev n_s_l02Integers : Nat := 149
abbrev n_s_l02Levels : Nat := 150
abbrev n_s_l02Lift : Nat := 151
abbrev n_i_below : Nat := 192
abbrev n_i_besideEven_int64_ : Nat := 193
abbrev n_i_besideOdd_int64_ : Nat := 194
abbrev n_i_oddBy_1 : Nat := 195
abbrev n_s_l02Bound : Nat := 196
abbrev n_s_l02Split : Nat := 197
abbrev n_s_l02Guess : Nat := 198
abbrev n_s_l02Gain : Nat := 199
abbrev n_s_l02Down : Nat := 217
abbrev n_s_l02Near : Nat := 218
abbrev n_s_l02Mirrored : Nat := 219
abbrev n_s_l02Mirror : Nat := 222
def c_w_FnExactLiftLevels : ACode :=
  .seq (.ops [⟨0, some 6, .mv (.const (.bool false)), none, []⟩])
  (.seq (.seq (.ops [⟨0, some 17, .mv (.tmp 1), none, []⟩, ⟨1, some 18, .len (.tmp 17), none, []⟩, ⟨2, some 19, .bin .gtr (.tmp 18) (.const (.int .i64 1048576)), none, []⟩])
  (.cond (.tmp 19) (.seq (.keep [] (.ops [⟨0, some 6, .mv (.const (.bool true)), none, []⟩]))
  (.ret)) (.skip)))
  (.seq (.ops [⟨0, some 21, .mv (.tmp 0), none, []⟩, ⟨1, some 22, .mv (.tmp 1), none, []⟩, ⟨2, some 23, .call n_w_toInt64S [.tmp 22], none, []⟩, ⟨3, some 24, .mv (.tmp 2), none, []⟩, ⟨4, some 25, .call n_s_LiftLevels [.tmp 21, .tmp 23, .tmp 24], none, []⟩, ⟨5, some 20, .mv (.tmp 25), none, []⟩, ⟨6, some 26, .ext (.tmp 20) 0, none, []⟩, ⟨7, some 27, .ext (.tmp 20) 1, none, []⟩, ⟨8, some 7, .mv (.tmp 26), none, []⟩, ⟨9, some 8, .mv (.tmp 27), none, []⟩])
  (.seq (.keep [0, 1, 2, 7, 8] (.ops [⟨0, some 28, .mv (.tmp 1), none, []⟩, ⟨1, some 29, .call n_w_toInt64S [.tmp 28], none, []⟩, ⟨2, some 9, .mv (.tmp 29), none, []⟩]))
  (.seq (.ops [⟨0, some 31, .mv (.tmp 0), none, []⟩, ⟨1, some 32, .mv (.tmp 9), none, []⟩, ⟨2, some 33, .mv (.tmp 2), none, []⟩, ⟨3, some 34, .call n_i_LiftLevels [.tmp 31, .tmp 32, .tmp 33], none, []⟩, ⟨4, some 30, .mv (.tmp 34), none, []⟩, ⟨5, some 35, .ext (.tmp 30) 0, none, []⟩, ⟨6, some 36, .ext (.tmp 30) 1, none, []⟩, ⟨7, some 10, .mv (.tmp 35), none, []⟩, ⟨8, some 11, .mv (.tmp 36), none, []⟩])
  (.seq (.seq (.keep [0, 1, 2, 7, 8, 9, 10, 11] (.ops [⟨0, some 37, .mv (.tmp 10), none, []⟩, ⟨1, some 38, .mv (.tmp 7), none, []⟩, ⟨2, some 39, .call n_w_eqInt64SS [.tmp 37, .tmp 38], none, []⟩, ⟨3, some 40, .un .not (.tmp 39), none, []⟩, ⟨4, some 41, .mv (.tmp 40), none, []⟩, ⟨5, some 42, .mv (.tmp 11), (some (41, false)), []⟩, ⟨6, some 43, .mv (.tmp 8), (some (41, false)), []⟩, ⟨7, some 44, .beq true (.tmp 42) (.tmp 43), (some (41, false)), []⟩, ⟨8, some 45, .pick (.tmp 41) (.const (.bool true)) (.tmp 44), none, []⟩]))
  (.cond (.tmp 45) (.seq (.keep [] (.ops [⟨0, some 6, .mv (.const (.bool false)), none, []⟩]))
  (.ret)) (.skip)))
  (.seq (.seq (.keep [0, 1, 2, 7, 8, 9, 10, 11] (.ops [⟨0, some 46, .mv (.tmp 9), none, []⟩, ⟨1, some 47, .mv (.tmp 1), none, []⟩, ⟨2, some 48, .call n_w_toInt64S [.tmp 47], none, []⟩, ⟨3, some 49, .call n_w_eqInt64S [.tmp 46, .tmp 48], none, []⟩, ⟨4, some 50, .un .not (.tmp 49), none, []⟩]))
  (.cond (.tmp 50) (.seq (.keep [] (.ops [⟨0, some 6, .mv (.const (.bool false)), none, []⟩]))
  (.ret)) (.skip)))
  (.seq (.keep [0, 1, 2, 7, 8, 9, 10, 11] (.ops [⟨0, some 12, .mv (.const (.int .i64 1)), none, []⟩]))
  (.seq (.ops [⟨0, some 51, .mv (.tmp 9), none, []⟩, ⟨1, some 52, .mv (.tmp 12), none, []⟩, ⟨2, some 53, .call n_w_markInt64S [.tmp 51, .tmp 52], none, []⟩, ⟨3, some 12, .mv (.tmp 53), none, []⟩])
  (.seq (.seq (.ops [⟨0, some 54, .mv (.tmp 12), none, []⟩, ⟨1, some 55, .bin .lss (.tmp 54) (.const (.int .i64 0)), none, []⟩, ⟨2, some 56, .mv (.tmp 55), none, []⟩, ⟨3, some 57, .mv (.tmp 10), (some (56, false)), []⟩, ⟨4, some 58, .mv (.tmp 7), (some (56, false)), []⟩, ⟨5, some 59, .call n_w_eqInt64SS [.tmp 57, .tmp 58], (some (56, false)), []⟩, ⟨6, some 60, .un .not (.tmp 59), (some (56, false)), []⟩, ⟨7, some 61, .pick (.tmp 56) (.const (.bool true)) (.tmp 60), none, []⟩, ⟨8, some 62, .mv (.tmp 61), none, []⟩, ⟨9, some 63, .mv (.tmp 11), (some (62, false)), []⟩, ⟨10, some 64, .mv (.tmp 8), (some (62, false)), []⟩, ⟨11, some 65, .beq true (.tmp 63) (.tmp 64), (some (62, false)), []⟩, ⟨12, some 66, .pick (.tmp 62) (.const (.bool true)) (.tmp 65), none, []⟩])
  (.cond (.tmp 66) (.seq (.keep [] (.ops [⟨0, some 6, .mv (.const (.bool false)), none, []⟩]))
  (.ret)) (.skip)))
  (.seq (.keep [0, 1, 2, 7, 8, 10] (.ops [⟨0, some 13, .mv (.const (.int .i64 1)), none, []⟩]))
  (.seq (.ops [⟨0, some 67, .mv (.tmp 10), none, []⟩, ⟨1, some 68, .mv (.tmp 13), none, []⟩, ⟨2, some 69, .call n_w_markInt64SS [.tmp 67, .tmp 68], none, []⟩, ⟨3, some 13, .mv (.tmp 69), none, []⟩])
  (.seq (.ops [⟨0, some 14, .mv (.const (.int .i64 1)), none, []⟩])
  (.seq (.ops [⟨0, some 70, .mv (.tmp 10), none, []⟩, ⟨1, some 71, .mv (.tmp 14), none, []⟩, ⟨2, some 72, .call n_w_heldInt64SS [.tmp 70, .tmp 71], none, []⟩, ⟨3, some 14, .mv (.tmp 72), none, []⟩])
  (.seq (.seq (.keep [0, 1, 2, 7, 8, 10, 13, 14] (.ops [⟨0, some 73, .mv (.tmp 14), none, []⟩, ⟨1, some 74, .bin .lss (.tmp 73) (.const (.int .i64 0)), none, []⟩]))
  (.cond (.tmp 74) (.seq (.keep [] (.ops [⟨0, some 6, .mv (.const (.bool false)), none, []⟩]))
  (.ret)) (.skip)))
  (.seq (.seq (.ops [⟨0, some 75, .mv (.tmp 14), none, []⟩, ⟨1, some 76, .mv (.tmp 13), none, []⟩, ⟨2, some 77, .bin .neq (.tmp 75) (.tmp 76), none, []⟩])
  (.cond (.tmp 77) (.seq (.keep [] (.ops [⟨0, some 6, .mv (.const (.bool false)), none, []⟩]))
  (.ret)) (.skip)))
  (.seq (.keep [0, 1, 2, 7, 8, 10, 13] (.ops [⟨0, some 79, .mv (.tmp 0), none, []⟩, ⟨1, some 80, .mv (.tmp 1), none, []⟩, ⟨2, some 81, .call n_w_toInt64S [.tmp 80], none, []⟩, ⟨3, some 82, .mv (.tmp 2), none, []⟩, ⟨4, some 83, .call n_i_LiftLevels [.tmp 79, .tmp 81, .tmp 82], none, []⟩, ⟨5, some 78, .mv (.tmp 83), none, []⟩, ⟨6, some 84, .ext (.tmp 78) 0, none, []⟩, ⟨7, some 85, .ext (.tmp 78) 1, none, []⟩, ⟨8, some 15, .mv (.tmp 84), none, []⟩, ⟨9, some 16, .mv (.tmp 85), none, []⟩]))
  (.seq (.seq (.keep [7, 8, 10, 13, 15, 16] (.ops [⟨0, some 86, .mv (.tmp 15), none, []⟩, ⟨1, some 87, .mv (.tmp 7), none, []⟩, ⟨2, some 88, .call n_w_eqInt64SS [.tmp 86, .tmp 87], none, []⟩, ⟨3, some 89, .un .not (.tmp 88), none, []⟩, ⟨4, some 90, .mv (.tmp 89), none, []⟩, ⟨5, some 91, .mv (.tmp 16), (some (90, false)), []⟩, ⟨6, some 92, .mv (.tmp 8), (some (90, false)), []⟩, ⟨7, some 93, .beq true (.tmp 91) (.tmp 92), (some (90, false)), []⟩, ⟨8, some 94, .pick (.tmp 90) (.const (.bool true)) (.tmp 93), none, []⟩]))
  (.cond (.tmp 94) (.seq (.keep [] (.ops [⟨0, some 6, .mv (.const (.bool false)), none, []⟩]))
  (.ret)) (.skip)))
  (.seq (.keep [10, 13] (.ops [⟨0, some 14, .mv (.const (.int .i64 1)), none, []⟩]))
  (.seq (.ops [⟨0, some 95, .mv (.tmp 10), none, []⟩, ⟨1, some 96, .mv (.tmp 14), none, []⟩, ⟨2, some 97, .call n_w_heldInt64SS [.tmp 95, .tmp 96], none, []⟩, ⟨3, some 14, .mv (.tmp 97), none, []⟩])
  (.seq (.seq (.ops [⟨0, some 98, .mv (.tmp 14), none, []⟩, ⟨1, some 99, .bin .lss (.tmp 98) (.const (.int .i64 0)), none, []⟩])
  (.cond (.tmp 99) (.seq (.keep [] (.ops [⟨0, some 6, .mv (.const (.bool false)), none, []⟩]))
  (.ret)) (.skip)))
  (.seq (.seq (.keep [13, 14] (.ops [⟨0, some 100, .mv (.tmp 14), none, []⟩, ⟨1, some 101, .mv (.tmp 13), none, []⟩, ⟨2, some 102, .bin .neq (.tmp 100) (.tmp 101), none, []⟩]))
  (.cond (.tmp 102) (.seq (.keep [] (.ops [⟨0, some 6, .mv (.const (.bool false)), none, []⟩]))
  (.ret)) (.skip)))
  (.seq (.keep [] (.ops [⟨0, some 6, .mv (.const (.bool true)), none, []⟩]))
  (.ret)))))))))))))))))))))))
theorem k_w_FnExactLiftLevels : FnOk Try.prog n_w_FnExactLiftLevels 3 c_w_FnExactLiftLevels [.tmp 6] := ⟨by kernel_rfl⟩
def c_i_LiftLevels : ACode :=
  .seq (.ops [⟨0, some 6, .mv (.const (.slice none 0 0)), none, []⟩, ⟨1, some 7, .mv (.const (.bool false)), none, []⟩])
  (.seq (.seq (.ops [⟨0, some 13, .mv (.tmp 0), none, []⟩, ⟨1, some 14, .call n_i_within [.tmp 13, .const (.int .i64 0), .const (.int .i64 2)], none, []⟩, ⟨2, some 15, .un .not (.tmp 14), none, []⟩, ⟨3, some 16, .mv (.tmp 15), none, []⟩, ⟨4, some 17, .mv (.tmp 1), (some (16, false)), []⟩, ⟨5, some 18, .call n_i_AreIntegers [.tmp 17], (some (16, false)), []⟩, ⟨6, some 19, .un .not (.tmp 18), (some (16, false)), []⟩, ⟨7, some 20, .pick (.tmp 16) (.const (.bool true)) (.tmp 19), none, []⟩, ⟨8, some 21, .mv (.tmp 20), none, []⟩, ⟨9, some 22, .mv (.tmp 2), (some (21, false)), []⟩, ⟨10, some 23, .call n_i_within [.tmp 22, .const (.int .i64 1), .const (.int .i64 6)], (some (21, false)), []⟩, ⟨11, some 24, .un .not (.tmp 23), (some (21, false)), []⟩, ⟨12, some 25, .pick (.tmp 21) (.const (.bool true)) (.tmp 24), none, []⟩])
  (.cond (.tmp 25) (.seq (.keep [] (.ops [⟨0, some 6, .mv (.const (.slice none 0 0)), none, []⟩, ⟨1, some 7, .mv (.const (.bool false)), none, []⟩]))
  (.ret)) (.skip)))
  (.seq (.keep [0, 1, 2] (.ops [⟨0, some 26, .bsl 72 0 (.slice none 0 0) [], none, []⟩, ⟨1, some 27, .bsl 2 0 (.int .i64 0) [], none, []⟩, ⟨2, some 28, .mv (.tmp 1), none, []⟩, ⟨3, some 29, .app 2 8 (.tmp 27) (.tmp 28), none, []⟩, ⟨4, some 8, .mv (.tmp 26), none, []⟩, ⟨5, some 9, .mv (.tmp 29), none, []⟩]))
  (.seq (.seq (.keep [0, 2, 8, 9] (.ops [⟨0, some 10, .mv (.const (.int .i64 0)), none, []⟩]))
  (.block 0 (.loop [0, 2, 8, 9, 10] (.seq (.seq (.ops [⟨0, some 30, .mv (.tmp 10), none, []⟩, ⟨1, some 31, .mv (.tmp 2), none, []⟩, ⟨2, some 32, .bin .lss (.tmp 30) (.tmp 31), none, []⟩, ⟨3, some 33, .mv (.tmp 32), none, []⟩, ⟨4, some 34, .mv (.tmp 9), (some (33, true)), []⟩, ⟨5, some 35, .len (.tmp 34), (some (33, true)), []⟩, ⟨6, some 36, .bin .gtr (.tmp 35) (.const (.int .i64 1)), (some (33, true)), []⟩, ⟨7, some 37, .pick (.tmp 33) (.tmp 36) (.const (.bool false)), none, []⟩])
  (.cond (.tmp 37) (.skip) (.exit 0)))
  (.seq (.block 1 (.seq (.keep [0, 2, 8, 9, 10] (.ops [⟨0, some 41, .mv (.tmp 0), none, []⟩, ⟨1, some 42, .mv (.tmp 9), none, []⟩, ⟨2, some 43, .call n_i_lifted [.tmp 41, .tmp 42], none, []⟩, ⟨3, some 40, .mv (.tmp 43), none, []⟩, ⟨4, some 44, .ext (.tmp 40) 0, none, []⟩, ⟨5, some 45, .ext (.tmp 40) 1, none, []⟩, ⟨6, some 11, .mv (.tmp 44), none, []⟩, ⟨7, some 12, .mv (.tmp 45), none, []⟩]))
  (.seq (.keep [0, 2, 8, 10, 11, 12] (.ops [⟨0, some 46, .mv (.tmp 8), none, []⟩, ⟨1, some 47, .mv (.tmp 12), none, []⟩, ⟨2, some 48, .bsl 72 1 (.slice none 0 0) [(0, .tmp 47)], none, []⟩, ⟨3, some 49, .app 72 24 (.tmp 46) (.tmp 48), none, []⟩, ⟨4, some 8, .mv (.tmp 49), none, []⟩]))
  (.keep [0, 2, 8, 10, 11] (.ops [⟨0, some 50, .mv (.tmp 11), none, []⟩, ⟨1, some 9, .mv (.tmp 50), none, []⟩])))))
  (.ops [⟨0, some 38, .mv (.tmp 10), none, []⟩, ⟨1, some 39, .bin .add (.tmp 38) (.const (.int .i64 1)), none, []⟩, ⟨2, some 10, .mv (.tmp 39), none, []⟩]))))))
  (.seq (.keep [8, 9] (.ops [⟨0, some 51, .mv (.tmp 8), none, []⟩, ⟨1, some 52, .mv (.tmp 9), none, []⟩, ⟨2, some 53, .bsl 72 1 (.slice none 0 0) [(0, .tmp 52)], none, []⟩, ⟨3, some 54, .app 72 24 (.tmp 51) (.tmp 53), none, []⟩, ⟨4, some 6, .mv (.tmp 54), none, []⟩, ⟨5, some 7, .mv (.const (.bool true)), none, []⟩]))
  (.ret)))))
theorem k_i_LiftLevels : FnOk Try.prog n_i_LiftLevels 3 c_i_LiftLevels [.tmp 6, .tmp 7] := ⟨by kernel_rfl⟩
def c_s_LiftLevels : ACode :=
  .seq (.ops [⟨0, some 6, .mv (.const (.slice none 0 0)), none, []⟩, ⟨1, some 7, .mv (.const (.bool false)), none, []⟩])
  (.seq (.seq (.ops [⟨0, some 13, .mv (.tmp 0), none, []⟩, ⟨1, some 14, .call n_s_l02Kind [.tmp 13], none, []⟩, ⟨2, some 15, .un .not (.tmp 14), none, []⟩, ⟨3, some 16, .mv (.tmp 15), none, []⟩, ⟨4, some 17, .mv (.tmp 1), (some (16, false)), []⟩, ⟨5, some 18, .call n_s_l02Integers [.tmp 17], (some (16, false)), []⟩, ⟨6, some 19, .un .not (.tmp 18), (some (16, false)), []⟩, ⟨7, some 20, .pick (.tmp 16) (.const (.bool true)) (.tmp 19), none, []⟩, ⟨8, some 21, .mv (.tmp 20), none, []⟩, ⟨9, some 22, .mv (.tmp 2), (some (21, false)), []⟩, ⟨10, some 23, .call n_s_l02Levels [.tmp 22], (some (21, false)), []⟩, ⟨11, some 24, .un .not (.tmp 23), (some (21, false)), []⟩, ⟨12, some 25, .pick (.tmp 21) (.const (.bool true)) (.tmp 24), none, []⟩])
  (.cond (.tmp 25) (.seq (.keep [] (.ops [⟨0, some 6, .mv (.const (.slice none 0 0)), none, []⟩, ⟨1, some 7, .mv (.const (.bool false)), none, []⟩]))
  (.ret)) (.skip)))
  (.seq (.keep [0, 1, 2] (.ops [⟨0, some 26, .bsl 72 0 (.slice none 0 0) [], none, []⟩, ⟨1, some 8, .mv (.tmp 26), none, []⟩]))
  (.seq (.ops [⟨0, some 27, .bsl 2 0 (.int .i64 0) [], none, []⟩, ⟨1, some 28, .mv (.tmp 1), none, []⟩, ⟨2, some 29, .app 2 8 (.tmp 27) (.tmp 28), none, []⟩, ⟨3, some 9, .mv (.tmp 29), none, []⟩])
  (.seq (.seq (.keep [0, 2, 8, 9] (.ops [⟨0, some 10, .mv (.const (.int .i64 0)), none, []⟩]))
  (.block 0 (.loop [0, 2, 8, 9, 10] (.seq (.seq (.ops [⟨0, some 30, .mv (.tmp 10), none, []⟩, ⟨1, some 31, .mv (.tmp 2), none, []⟩, ⟨2, some 32, .bin .lss (.tmp 30) (.tmp 31), none, []⟩, ⟨3, some 33, .mv (.tmp 32), none, []⟩, ⟨4, some 34, .mv (.tmp 9), (some (33, true)), []⟩, ⟨5, some 35, .len (.tmp 34), (some (33, true)), []⟩, ⟨6, some 36, .bin .geq (.tmp 35) (.const (.int .i64 2)), (some (33, true)), []⟩, ⟨7, some 37, .pick (.tmp 33) (.tmp 36) (.const (.bool false)), none, []⟩])
  (.cond (.tmp 37) (.skip) (.exit 0)))
  (.seq (.block 1 (.seq (.keep [0, 2, 8, 9, 10] (.ops [⟨0, some 41, .mv (.tmp 0), none, []⟩, ⟨1, some 42, .mv (.tmp 9), none, []⟩, ⟨2, some 43, .call n_s_l02Lift [.tmp 41, .tmp 42], none, []⟩, ⟨3, some 40, .mv (.tmp 43), none, []⟩, ⟨4, some 44, .ext (.tmp 40) 0, none, []⟩, ⟨5, some 45, .ext (.tmp 40) 1, none, []⟩, ⟨6, some 11, .mv (.tmp 44), none, []⟩, ⟨7, some 12, .mv (.tmp 45), none, []⟩]))
  (.seq (.keep [0, 2, 8, 10, 11, 12] (.ops [⟨0, some 46, .mv (.tmp 8), none, []⟩, ⟨1, some 47, .mv (.tmp 12), none, []⟩, ⟨2, some 48, .bsl 72 1 (.slice none 0 0) [(0, .tmp 47)], none, []⟩, ⟨3, some 49, .app 72 24 (.tmp 46) (.tmp 48), none, []⟩, ⟨4, some 8, .mv (.tmp 49), none, []⟩]))
  (.keep [0, 2, 8, 10, 11] (.ops [⟨0, some 50, .mv (.tmp 11), none, []⟩, ⟨1, some 9, .mv (.tmp 50), none, []⟩])))))
  (.ops [⟨0, some 38, .mv (.tmp 10), none, []⟩, ⟨1, some 39, .bin .add (.tmp 38) (.const (.int .i64 1)), none, []⟩, ⟨2, some 10, .mv (.tmp 39), none, []⟩]))))))
  (.seq (.keep [8, 9] (.ops [⟨0, some 51, .mv (.tmp 8), none, []⟩, ⟨1, some 52, .mv (.tmp 9), none, []⟩, ⟨2, some 53, .bsl 72 1 (.slice none 0 0) [(0, .tmp 52)], none, []⟩, ⟨3, some 54, .app 72 24 (.tmp 51) (.tmp 53), none, []⟩, ⟨4, some 6, .mv (.tmp 54), none, []⟩, ⟨5, some 7, .mv (.const (.bool true)), none, []⟩]))
  (.ret))))))
theorem k_s_LiftLevels : FnOk Try.prog n_s_LiftLevels 3 c_s_LiftLevels [.tmp 6, .tmp 7] := ⟨by kernel_rfl⟩
def c_w_toInt64S : ACode :=
  .seq (.ops [⟨0, some 2, .mv (.const (.slice none 0 0)), none, []⟩])
  (.seq (.ops [⟨0, some 5, .mv (.tmp 0), none, []⟩, ⟨1, some 6, .len (.tmp 5), none, []⟩, ⟨2, some 7, .mks 2 8 (.int .i64 0) (.tmp 6) (.tmp 6), none, []⟩, ⟨3, some 3, .mv (.tmp 7), none, []⟩])
  (.seq (.seq (.ops [⟨0, some 4, .mv (.const (.int .i64 0)), none, []⟩])
  (.block 0 (.loop [0, 3, 4] (.seq (.seq (.ops [⟨0, some 8, .mv (.tmp 4), none, []⟩, ⟨1, some 9, .mv (.tmp 0), none, []⟩, ⟨2, some 10, .len (.tmp 9), none, []⟩, ⟨3, some 11, .bin .lss (.tmp 8) (.tmp 10), none, []⟩])
  (.cond (.tmp 11) (.skip) (.exit 0)))
  (.seq (.block 1 (.ops [⟨0, some 14, .mv (.tmp 3), none, []⟩, ⟨1, some 15, .mv (.tmp 4), none, []⟩, ⟨2, some 16, .mv (.tmp 0), none, []⟩, ⟨3, some 17, .mv (.tmp 4), none, []⟩, ⟨4, some 18, .ia (.tmp 16) (.tmp 17), none, []⟩, ⟨5, some 19, .ld (.tmp 18), none, []⟩, ⟨6, some 20, .ia (.tmp 14) (.tmp 15), none, []⟩, ⟨7, none, .st (.tmp 20) (.tmp 19), none, []⟩]))
  (.keep [0, 3, 4] (.ops [⟨0, some 12, .mv (.tmp 4), none, []⟩, ⟨1, some 13, .bin .add (.tmp 12) (.const (.int .i64 1)), none, []⟩, ⟨2, some 4, .mv (.tmp 13), none, []⟩])))))))
  (.seq (.keep [3] (.ops [⟨0, some 21, .mv (.tmp 3), none, []⟩, ⟨1, some 2, .mv (.tmp 21), none, []⟩]))
  (.ret))))
theorem k_w_toInt64S : FnOk Try.prog n_w_toInt64S 1 c_w_toInt64S [.tmp 2] := ⟨by kernel_rfl⟩
def c_w_eqInt64SS : ACode :=
  .seq (.ops [⟨0, some 4, .mv (.const (.bool false)), none, []⟩])
  (.seq (.seq (.ops [⟨0, some 6, .mv (.tmp 0), none, []⟩, ⟨1, some 7, .len (.tmp 6), none, []⟩, ⟨2, some 8, .mv (.tmp 1), none, []⟩, ⟨3, some 9, .len (.tmp 8), none, []⟩, ⟨4, some 10, .bin .neq (.tmp 7) (.tmp 9), none, []⟩])
  (.cond (.tmp 10) (.seq (.keep [] (.ops [⟨0, some 4, .mv (.const (.bool false)), none, []⟩]))
  (.ret)) (.skip)))
  (.seq (.seq (.keep [0, 1] (.ops [⟨0, some 5, .mv (.const (.int .i64 0)), none, []⟩]))
  (.block 0 (.loop [0, 1, 5] (.seq (.seq (.ops [⟨0, some 11, .mv (.tmp 5), none, []⟩, ⟨1, some 12, .mv (.tmp 0), none, []⟩, ⟨2, some 13, .len (.tmp 12), none, []⟩, ⟨3, some 14, .bin .lss (.tmp 11) (.tmp 13), none, []⟩])
  (.cond (.tmp 14) (.skip) (.exit 0)))
  (.seq (.block 1 (.seq (.ops [⟨0, some 17, .mv (.tmp 0), none, []⟩, ⟨1, some 18, .mv (.tmp 5), none, []⟩, ⟨2, some 19, .ia (.tmp 17) (.tmp 18), none, []⟩, ⟨3, some 20, .ld (.tmp 19), none, []⟩, ⟨4, some 21, .mv (.tmp 1), none, []⟩, ⟨5, some 22, .mv (.tmp 5), none, []⟩, ⟨6, some 23, .ia (.tmp 21) (.tmp 22), none, []⟩, ⟨7, some 24, .ld (.tmp 23), none, []⟩, ⟨8, some 25, .call n_w_eqInt64S [.tmp 20, .tmp 24], none, []⟩, ⟨9, some 26, .un .not (.tmp 25), none, []⟩])
  (.cond (.tmp 26) (.seq (.keep [] (.ops [⟨0, some 4, .mv (.const (.bool false)), none, []⟩]))
  (.ret)) (.skip))))
  (.keep [0, 1, 5] (.ops [⟨0, some 15, .mv (.tmp 5), none, []⟩, ⟨1, some 16, .bin .add (.tmp 15) (.const (.int .i64 1)), none, []⟩, ⟨2, some 5, .mv (.tmp 16), none, []⟩])))))))
  (.seq (.keep [] (.ops [⟨0, some 4, .mv (.const (.bool true)), none, []⟩]))
  (.ret))))
theorem k_w_eqInt64SS : FnOk Try.prog n_w_eqInt64SS 2 c_w_eqInt64SS [.tmp 4] := ⟨by kernel_rfl⟩
def c_w_eqInt64S : ACode :=
  .seq (.ops [⟨0, some 4, .mv (.const (.bool false)), none, []⟩])
  (.seq (.seq (.ops [⟨0, some 6, .mv (.tmp 0), none, []⟩, ⟨1, some 7, .len (.tmp 6), none, []⟩, ⟨2, some 8, .mv (.tmp 1), none, []⟩, ⟨3, some 9, .len (.tmp 8), none, []⟩, ⟨4, some 10, .bin .neq (.tmp 7) (.tmp 9), none, []⟩])
  (.cond (.tmp 10) (.seq (.keep [] (.ops [⟨0, some 4, .mv (.const (.bool false)), none, []⟩]))
  (.ret)) (.skip)))
  (.seq (.seq (.keep [0, 1] (.ops [⟨0, some 5, .mv (.const (.int .i64 0)), none, []⟩]))
  (.block 0 (.loop [0, 1, 5] (.seq (.seq (.ops [⟨0, some 11, .mv (.tmp 5), none, []⟩, ⟨1, some 12, .mv (.tmp 0), none, []⟩, ⟨2, some 13, .len (.tmp 12), none, []⟩, ⟨3, some 14, .bin .lss (.tmp 11) (.tmp 13), none, []⟩])
  (.cond (.tmp 14) (.skip) (.exit 0)))
  (.seq (.block 1 (.seq (.ops [⟨0, some 17, .mv (.tmp 0), none, []⟩, ⟨1, some 18, .mv (.tmp 5), none, []⟩, ⟨2, some 19, .ia (.tmp 17) (.tmp 18), none, []⟩, ⟨3, some 20, .ld (.tmp 19), none, []⟩, ⟨4, some 21, .mv (.tmp 1), none, []⟩, ⟨5, some 22, .mv (.tmp 5), none, []⟩, ⟨6, some 23, .ia (.tmp 21) (.tmp 22), none, []⟩, ⟨7, some 24, .ld (.tmp 23), none, []⟩, ⟨8, some 25, .bin .neq (.tmp 20) (.tmp 24), none, []⟩])
  (.cond (.tmp 25) (.seq (.keep [] (.ops [⟨0, some 4, .mv (.const (.bool false)), none, []⟩]))
  (.ret)) (.skip))))
  (.keep [0, 1, 5] (.ops [⟨0, some 15, .mv (.tmp 5), none, []⟩, ⟨1, some 16, .bin .add (.tmp 15) (.const (.int .i64 1)), none, []⟩, ⟨2, some 5, .mv (.tmp 16), none, []⟩])))))))
  (.seq (.keep [] (.ops [⟨0, some 4, .mv (.const (.bool true)), none, []⟩]))
  (.ret))))
theorem k_w_eqInt64S : FnOk Try.prog n_w_eqInt64S 2 c_w_eqInt64S [.tmp 4] := ⟨by kernel_rfl⟩
def c_w_markInt64S : ACode :=
  .seq (.ops [⟨0, some 4, .mv (.const (.int .i64 0)), none, []⟩])
  (.seq (.seq (.ops [⟨0, some 5, .mv (.const (.int .i64 0)), none, []⟩])
  (.block 0 (.loop [0, 1, 5] (.seq (.seq (.ops [⟨0, some 6, .mv (.tmp 5), none, []⟩, ⟨1, some 7, .mv (.tmp 0), none, []⟩, ⟨2, some 8, .len (.tmp 7), none, []⟩, ⟨3, some 9, .bin .lss (.tmp 6) (.tmp 8), none, []⟩])
  (.cond (.tmp 9) (.skip) (.exit 0)))
  (.seq (.block 1 (.seq (.ops [⟨0, some 12, .mv (.tmp 0), none, []⟩, ⟨1, some 13, .mv (.tmp 5), none, []⟩, ⟨2, some 14, .mv (.tmp 1), none, []⟩, ⟨3, some 15, .ia (.tmp 12) (.tmp 13), none, []⟩, ⟨4, none, .st (.tmp 15) (.tmp 14), none, []⟩])
  (.keep [0, 1, 5] (.ops [⟨0, some 16, .mv (.tmp 1), none, []⟩, ⟨1, some 17, .bin .add (.tmp 16) (.const (.int .i64 1)), none, []⟩, ⟨2, some 1, .mv (.tmp 17), none, []⟩]))))
  (.ops [⟨0, some 10, .mv (.tmp 5), none, []⟩, ⟨1, some 11, .bin .add (.tmp 10) (.const (.int .i64 1)), none, []⟩, ⟨2, some 5, .mv (.tmp 11), none, []⟩]))))))
  (.seq (.keep [1] (.ops [⟨0, some 18, .mv (.tmp 1), none, []⟩, ⟨1, some 4, .mv (.tmp 18), none, []⟩]))
  (.ret)))
theorem k_w_markInt64S : FnOk Try.prog n_w_markInt64S 2 c_w_markInt64S [.tmp 4] := ⟨by kernel_rfl⟩
def c_w_markInt64SS : ACode :=
  .seq (.ops [⟨0, some 4, .mv (.const (.int .i64 0)), none, []⟩])
  (.seq (.seq (.ops [⟨0, some 5, .mv (.const (.int .i64 0)), none, []⟩])
  (.block 0 (.loop [0, 1, 5] (.seq (.seq (.ops [⟨0, some 6, .mv (.tmp 5), none, []⟩, ⟨1, some 7, .mv (.tmp 0), none, []⟩, ⟨2, some 8, .len (.tmp 7), none, []⟩, ⟨3, some 9, .bin .lss (.tmp 6) (.tmp 8), none, []⟩])
  (.cond (.tmp 9) (.skip) (.exit 0)))
  (.seq (.block 1 (.ops [⟨0, some 12, .mv (.tmp 0), none, []⟩, ⟨1, some 13, .mv (.tmp 5), none, []⟩, ⟨2, some 14, .ia (.tmp 12) (.tmp 13), none, []⟩, ⟨3, some 15, .ld (.tmp 14), none, []⟩, ⟨4, some 16, .mv (.tmp 1), none, []⟩, ⟨5, some 17, .call n_w_markInt64S [.tmp 15, .tmp 16], none, []⟩, ⟨6, some 1, .mv (.tmp 17), none, []⟩]))
  (.keep [0, 1, 5] (.ops [⟨0, some 10, .mv (.tmp 5), none, []⟩, ⟨1, some 11, .bin .add (.tmp 10) (.const (.int .i64 1)), none, []⟩, ⟨2, some 5, .mv (.tmp 11), none, []⟩])))))))
  (.seq (.keep [1] (.ops [⟨0, some 18, .mv (.tmp 1), none, []⟩, ⟨1, some 4, .mv (.tmp 18), none, []⟩]))
  (.ret)))
theorem k_w_markInt64SS : FnOk Try.prog n_w_markInt64SS 2 c_w_markInt64SS [.tmp 4] := ⟨by kernel_rfl⟩
def c_w_heldInt64SS : ACode :=
  .seq (.ops [⟨0, some 4, .mv (.const (.int .i64 0)), none, []⟩])
  (.seq (.seq (.ops [⟨0, some 5, .mv (.const (.int .i64 0)), none, []⟩])
  (.block 0 (.loop [0, 1, 5] (.seq (.seq (.ops [⟨0, some 6, .mv (.tmp 5), none, []⟩, ⟨1, some 7, .mv (.tmp 0), none, []⟩, ⟨2, some 8, .len (.tmp 7), none, []⟩, ⟨3, some 9, .bin .lss (.tmp 6) (.tmp 8), none, []⟩])
  (.cond (.tmp 9) (.skip) (.exit 0)))
  (.seq (.block 1 (.seq (.ops [⟨0, some 12, .mv (.tmp 0), none, []⟩, ⟨1, some 13, .mv (.tmp 5), none, []⟩, ⟨2, some 14, .ia (.tmp 12) (.tmp 13), none, []⟩, ⟨3, some 15, .ld (.tmp 14), none, []⟩, ⟨4, some 16, .mv (.tmp 1), none, []⟩, ⟨5, some 17, .call n_w_heldInt64S [.tmp 15, .tmp 16], none, []⟩, ⟨6, some 1, .mv (.tmp 17), none, []⟩])
  (.seq (.keep [0, 1, 5] (.ops [⟨0, some 18, .mv (.tmp 1), none, []⟩, ⟨1, some 19, .bin .lss (.tmp 18) (.const (.int .i64 0)), none, []⟩]))
  (.cond (.tmp 19) (.seq (.keep [] (.ops [⟨0, some 4, .mv (.const (.int .i64 (-1))), none, []⟩]))
  (.ret)) (.skip)))))
  (.ops [⟨0, some 10, .mv (.tmp 5), none, []⟩, ⟨1, some 11, .bin .add (.tmp 10) (.const (.int .i64 1)), none, []⟩, ⟨2, some 5, .mv (.tmp 11), none, []⟩]))))))
  (.seq (.keep [1] (.ops [⟨0, some 20, .mv (.tmp 1), none, []⟩, ⟨1, some 4, .mv (.tmp 20), none, []⟩]))
  (.ret)))
theorem k_w_heldInt64SS : FnOk Try.prog n_w_heldInt64SS 2 c_w_heldInt64SS [.tmp 4] := ⟨by kernel_rfl⟩
def c_w_heldInt64S : ACode :=
  .seq (.ops [⟨0, some 4, .mv (.const (.int .i64 0)), none, []⟩])
  (.seq (.seq (.ops [⟨0, some 5, .mv (.const (.int .i64 0)), none, []⟩])
  (.block 0 (.loop [0, 1, 5] (.seq (.seq (.ops [⟨0, some 6, .mv (.tmp 5), none, []⟩, ⟨1, some 7, .mv (.tmp 0), none, []⟩, ⟨2, some 8, .len (.tmp 7), none, []⟩, ⟨3, some 9, .bin .lss (.tmp 6) (.tmp 8), none, []⟩])
  (.cond (.tmp 9) (.skip) (.exit 0)))
  (.seq (.block 1 (.seq (.seq (.ops [⟨0, some 12, .mv (.tmp 0), none, []⟩, ⟨1, some 13, .mv (.tmp 5), none, []⟩, ⟨2, some 14, .ia (.tmp 12) (.tmp 13), none, []⟩, ⟨3, some 15, .ld (.tmp 14), none, []⟩, ⟨4, some 16, .mv (.tmp 1), none, []⟩, ⟨5, some 17, .bin .neq (.tmp 15) (.tmp 16), none, []⟩])
  (.cond (.tmp 17) (.seq (.keep [] (.ops [⟨0, some 4, .mv (.const (.int .i64 (-1))), none, []⟩]))
  (.ret)) (.skip)))
  (.keep [0, 1, 5] (.ops [⟨0, some 18, .mv (.tmp 1), none, []⟩, ⟨1, some 19, .bin .add (.tmp 18) (.const (.int .i64 1)), none, []⟩, ⟨2, some 1, .mv (.tmp 19), none, []⟩]))))
  (.ops [⟨0, some 10, .mv (.tmp 5), none, []⟩, ⟨1, some 11, .bin .add (.tmp 10) (.const (.int .i64 1)), none, []⟩, ⟨2, some 5, .mv (.tmp 11), none, []⟩]))))))
  (.seq (.keep [1] (.ops [⟨0, some 20, .mv (.tmp 1), none, []⟩, ⟨1, some 4, .mv (.tmp 20), none, []⟩]))
  (.ret)))
theorem k_w_heldInt64S : FnOk Try.prog n_w_heldInt64S 2 c_w_heldInt64S [.tmp 4] := ⟨by kernel_rfl⟩
def c_s_l00In : ACode :=
  .seq (.ops [⟨0, some 6, .mv (.const (.bool false)), none, []⟩])
  (.seq (.ops [⟨0, some 7, .mv (.tmp 0), none, []⟩, ⟨1, some 8, .mv (.tmp 1), none, []⟩, ⟨2, some 9, .bin .geq (.tmp 7) (.tmp 8), none, []⟩, ⟨3, some 10, .mv (.tmp 9), none, []⟩, ⟨4, some 11, .mv (.tmp 0), (some (10, true)), []⟩, ⟨5, some 12, .mv (.tmp 2), (some (10, true)), []⟩, ⟨6, some 13, .bin .leq (.tmp 11) (.tmp 12), (some (10, true)), []⟩, ⟨7, some 14, .pick (.tmp 10) (.tmp 13) (.const (.bool false)), none, []⟩, ⟨8, some 6, .mv (.tmp 14), none, []⟩])
  (.ret))
theorem k_s_l00In : FnOk Try.prog n_s_l00In 3 c_s_l00In [.tmp 6] := ⟨by kernel_rfl⟩
def c_i_within : ACode :=
  .seq (.ops [⟨0, some 6, .mv (.const (.bool false)), none, []⟩])
  (.seq (.ops [⟨0, some 7, .mv (.tmp 0), none, []⟩, ⟨1, some 8, .mv (.tmp 1), none, []⟩, ⟨2, some 9, .bin .geq (.tmp 7) (.tmp 8), none, []⟩, ⟨3, some 10, .mv (.tmp 9), none, []⟩, ⟨4, some 11, .mv (.tmp 0), (some (10, true)), []⟩, ⟨5, some 12, .mv (.tmp 2), (some (10, true)), []⟩, ⟨6, some 13, .bin .leq (.tmp 11) (.tmp 12), (some (10, true)), []⟩, ⟨7, some 14, .pick (.tmp 10) (.tmp 13) (.const (.bool false)), none, []⟩, ⟨8, some 6, .mv (.tmp 14), none, []⟩])
  (.ret))
theorem k_i_within : FnOk Try.prog n_i_within 3 c_i_within [.tmp 6] := ⟨by kernel_rfl⟩
def c_i_AreIntegers : ACode :=
  .seq (.ops [⟨0, some 2, .mv (.const (.bool false)), none, []⟩])
  (.seq (.ops [⟨0, some 3, .mv (.tmp 0), none, []⟩, ⟨1, some 4, .len (.tmp 3), none, []⟩, ⟨2, some 5, .call n_i_within [.tmp 4, .const (.int .i64 1), .const (.int .i64 128)], none, []⟩, ⟨3, some 6, .mv (.tmp 5), none, []⟩, ⟨4, some 7, .mv (.tmp 0), (some (6, true)), []⟩, ⟨5, some 8, .call n_i_areWithin [.tmp 7, .const (.int .i64 1000000)], (some (6, true)), []⟩, ⟨6, some 9, .pick (.tmp 6) (.tmp 8) (.const (.bool false)), none, []⟩, ⟨7, some 2, .mv (.tmp 9), none, []⟩])
  (.ret))
theorem k_i_AreIntegers : FnOk Try.prog n_i_AreIntegers 1 c_i_AreIntegers [.tmp 2] := ⟨by kernel_rfl⟩
def c_i_lifted : ACode :=
  .seq (.ops [⟨0, some 4, .mv (.const (.slice none 0 0)), none, []⟩, ⟨1, some 5, .mv (.const (.slice none 0 0)), none, []⟩])
  (.seq (.ops [⟨0, some 11, .mv (.tmp 1), none, []⟩, ⟨1, some 12, .call n_i_split_int64_ [.tmp 11], none, []⟩, ⟨2, some 10, .mv (.tmp 12), none, []⟩, ⟨3, some 13, .ext (.tmp 10) 0, none, []⟩, ⟨4, some 14, .ext (.tmp 10) 1, none, []⟩, ⟨5, some 6, .mv (.tmp 13), none, []⟩, ⟨6, some 7, .mv (.tmp 14), none, []⟩])
  (.seq (.seq (.keep [0, 6, 7] (.ops [⟨0, some 15, .mv (.tmp 7), none, []⟩, ⟨1, some 16, .len (.tmp 15), none, []⟩, ⟨2, some 17, .mv (.const (.int .i64 0)), none, []⟩]))
  (.block 0 (.loop [0, 6, 7, 16, 17] (.seq (.ops [⟨0, some 18, .bin .lss (.tmp 17) (.tmp 16), none, []⟩])
  (.seq (.cond (.tmp 18) (.skip) (.exit 0))
  (.seq (.block 1 (.seq (.ops [⟨0, some 19, .mv (.tmp 17), none, []⟩, ⟨1, some 8, .mv (.tmp 19), none, []⟩])
  (.ops [⟨0, some 20, .mv (.tmp 7), none, []⟩, ⟨1, some 21, .mv (.tmp 8), none, []⟩, ⟨2, some 22, .ia (.tmp 20) (.tmp 21), none, []⟩, ⟨3, some 23, .ld (.tmp 22), none, []⟩, ⟨4, some 24, .mv (.tmp 0), none, []⟩, ⟨5, some 25, .mv (.tmp 6), none, []⟩, ⟨6, some 26, .mv (.tmp 8), none, []⟩, ⟨7, some 27, .call n_i_oddBy [.tmp 24, .tmp 25, .tmp 26], none, [(some 22, .ia (.tmp 20) (.tmp 21), none), (some 23, .ld (.tmp 22), none)]⟩, ⟨8, some 28, .bin .sub (.tmp 23) (.tmp 27), none, []⟩, ⟨9, some 29, .ia (.tmp 20) (.tmp 21), none, []⟩, ⟨10, none, .st (.tmp 29) (.tmp 28), none, []⟩])))
  (.keep [0, 6, 7, 16, 17] (.ops [⟨0, some 30, .bin .add (.tmp 17) (.const (.int .i64 1)), none, []⟩, ⟨1, some 17, .mv (.tmp 30), none, []⟩]))))))))
  (.seq (.seq (.ops [⟨0, some 31, .mv (.tmp 6), none, []⟩, ⟨1, some 32, .len (.tmp 31), none, []⟩, ⟨2, some 33, .mv (.const (.int .i64 0)), none, []⟩])
  (.block 2 (.loop [0, 6, 7, 32, 33] (.seq (.ops [⟨0, some 34, .bin .lss (.tmp 33) (.tmp 32), none, []⟩])
  (.seq (.cond (.tmp 34) (.skip) (.exit 2))
  (.seq (.block 3 (.seq (.ops [⟨0, some 35, .mv (.tmp 33), none, []⟩, ⟨1, some 9, .mv (.tmp 35), none, []⟩])
  (.ops [⟨0, some 36, .mv (.tmp 6), none, []⟩, ⟨1, some 37, .mv (.tmp 9), none, []⟩, ⟨2, some 38, .ia (.tmp 36) (.tmp 37), none, []⟩, ⟨3, some 39, .ld (.tmp 38), none, []⟩, ⟨4, some 40, .mv (.tmp 0), none, []⟩, ⟨5, some 41, .mv (.tmp 7), none, []⟩, ⟨6, some 42, .mv (.tmp 9), none, []⟩, ⟨7, some 43, .call n_i_evenBy [.tmp 40, .tmp 41, .tmp 42], none, [(some 38, .ia (.tmp 36) (.tmp 37), none), (some 39, .ld (.tmp 38), none)]⟩, ⟨8, some 44, .bin .add (.tmp 39) (.tmp 43), none, []⟩, ⟨9, some 45, .ia (.tmp 36) (.tmp 37), none, []⟩, ⟨10, none, .st (.tmp 45) (.tmp 44), none, []⟩])))
  (.keep [0, 6, 7, 32, 33] (.ops [⟨0, some 46, .bin .add (.tmp 33) (.const (.int .i64 1)), none, []⟩, ⟨1, some 33, .mv (.tmp 46), none, []⟩]))))))))
  (.seq (.ops [⟨0, some 47, .mv (.tmp 6), none, []⟩, ⟨1, some 48, .mv (.tmp 7), none, []⟩, ⟨2, some 4, .mv (.tmp 47), none, []⟩, ⟨3, some 5, .mv (.tmp 48), none, []⟩])
  (.ret)))))
theorem k_i_lifted : FnOk Try.prog n_i_lifted 2 c_i_lifted [.tmp 4, .tmp 5] := ⟨by kernel_rfl⟩
def c_i_areWithin : ACode :=
  .seq (.ops [⟨0, some 4, .mv (.const (.bool false)), none, []⟩])
  (.seq (.seq (.ops [⟨0, some 7, .mv (.tmp 0), none, []⟩, ⟨1, some 8, .len (.tmp 7), none, []⟩, ⟨2, some 9, .mv (.const (.int .i64 0)), none, []⟩])
  (.block 0 (.loop [1, 7, 8, 9] (.seq (.ops [⟨0, some 10, .bin .lss (.tmp 9) (.tmp 8), none, []⟩])
  (.seq (.cond (.tmp 10) (.skip) (.exit 0))
  (.seq (.block 1 (.seq (.ops [⟨0, some 11, .ia (.tmp 7) (.tmp 9), none, []⟩, ⟨1, some 12, .ld (.tmp 11), none, []⟩, ⟨2, some 6, .mv (.tmp 12), none, []⟩])
  (.seq (.ops [⟨0, some 13, .mv (.tmp 6), none, []⟩, ⟨1, some 14, .mv (.tmp 1), none, []⟩, ⟨2, some 15, .un .neg (.tmp 14), none, []⟩, ⟨3, some 16, .mv (.tmp 1), none, []⟩, ⟨4, some 17, .call n_i_within [.tmp 13, .tmp 15, .tmp 16], none, []⟩, ⟨5, some 18, .un .not (.tmp 17), none, []⟩])
  (.cond (.tmp 18) (.seq (.keep [] (.ops [⟨0, some 4, .mv (.const (.bool false)), none, []⟩]))
  (.ret)) (.skip)))))
  (.keep [1, 7, 8, 9] (.ops [⟨0, some 19, .bin .add (.tmp 9) (.const (.int .i64 1)), none, []⟩, ⟨1, some 9, .mv (.tmp 19), none, []⟩]))))))))
  (.seq (.keep [] (.ops [⟨0, some 4, .mv (.const (.bool true)), none, []⟩]))
  (.ret)))
theorem k_i_areWithin : FnOk Try.prog n_i_areWithin 2 c_i_areWithin [.tmp 4] := ⟨by kernel_rfl⟩
def c_i_evenBy : ACode :=
  .seq (.ops [⟨0, some 6, .mv (.const (.int .i64 0)), none, []⟩])
  (.seq (.seq (.ops [⟨0, some 9, .mv (.tmp 0), none, []⟩, ⟨1, some 10, .bin .eql (.tmp 9) (.const (.int .i64 0)), none, []⟩])
  (.cond (.tmp 10) (.seq (.seq (.ops [⟨0, some 11, .mv (.tmp 2), none, []⟩, ⟨1, some 12, .mv (.tmp 1), none, []⟩, ⟨2, some 13, .len (.tmp 12), none, []⟩, ⟨3, some 14, .bin .lss (.tmp 11) (.tmp 13), none, []⟩])
  (.cond (.tmp 14) (.seq (.keep [1, 2] (.ops [⟨0, some 15, .mv (.tmp 1), none, []⟩, ⟨1, some 16, .mv (.tmp 2), none, []⟩, ⟨2, some 17, .ia (.tmp 15) (.tmp 16), none, []⟩, ⟨3, some 18, .ld (.tmp 17), none, []⟩, ⟨4, some 19, .call n_i_below [.tmp 18, .const (.int .i64 2)], none, []⟩, ⟨5, some 6, .mv (.tmp 19), none, []⟩]))
  (.ret)) (.skip)))
  (.seq (.keep [] (.ops [⟨0, some 6, .mv (.const (.int .i64 0)), none, []⟩]))
  (.ret))) (.skip)))
  (.seq (.seq (.ops [⟨0, some 20, .mv (.tmp 1), none, []⟩, ⟨1, some 21, .len (.tmp 20), none, []⟩, ⟨2, some 22, .bin .eql (.tmp 21) (.const (.int .i64 0)), none, []⟩])
  (.cond (.tmp 22) (.seq (.keep [] (.ops [⟨0, some 6, .mv (.const (.int .i64 0)), none, []⟩]))
  (.ret)) (.skip)))
  (.seq (.keep [1, 2] (.ops [⟨0, some 24, .mv (.tmp 1), none, []⟩, ⟨1, some 25, .mv (.tmp 2), none, []⟩, ⟨2, some 26, .call n_i_besideEven_int64_ [.tmp 24, .tmp 25], none, []⟩, ⟨3, some 23, .mv (.tmp 26), none, []⟩, ⟨4, some 27, .ext (.tmp 23) 0, none, []⟩, ⟨5, some 28, .ext (.tmp 23) 1, none, []⟩, ⟨6, some 7, .mv (.tmp 27), none, []⟩, ⟨7, some 8, .mv (.tmp 28), none, []⟩]))
  (.seq (.keep [7, 8] (.ops [⟨0, some 29, .mv (.tmp 7), none, []⟩, ⟨1, some 30, .mv (.tmp 8), none, []⟩, ⟨2, some 31, .bin .add (.tmp 29) (.tmp 30), none, []⟩, ⟨3, some 32, .bin .add (.tmp 31) (.const (.int .i64 2)), none, []⟩, ⟨4, some 33, .call n_i_below [.tmp 32, .const (.int .i64 4)], none, []⟩, ⟨5, some 6, .mv (.tmp 33), none, []⟩]))
  (.ret)))))
theorem k_i_evenBy : FnOk Try.prog n_i_evenBy 3 c_i_evenBy [.tmp 6] := ⟨by kernel_rfl⟩
def c_i_oddBy : ACode :=
  .seq (.ops [⟨0, some 4, .box 72 (.tmp 1), none, []⟩, ⟨1, some 6, .mv (.const (.int .i64 0)), none, []⟩])
  (.seq (.seq (.ops [⟨0, some 10, .mv (.tmp 0), none, []⟩])
  (.block 0 (.seq (.ops [⟨0, some 12, .bin .eql (.tmp 10) (.const (.int .i64 0)), none, []⟩, ⟨1, some 11, .mv (.tmp 12), none, []⟩])
  (.cond (.tmp 11) (.seq (.keep [2, 4] (.ops [⟨0, some 13, .ld (.tmp 4), none, []⟩, ⟨1, some 14, .mv (.tmp 2), none, []⟩, ⟨2, some 15, .ia (.tmp 13) (.tmp 14), none, []⟩, ⟨3, some 16, .ld (.tmp 15), none, []⟩, ⟨4, some 6, .mv (.tmp 16), none, []⟩]))
  (.ret)) (.seq (.keep [2, 4, 10] (.ops [⟨0, some 18, .bin .eql (.tmp 10) (.const (.int .i64 1)), none, []⟩, ⟨1, some 17, .mv (.tmp 18), none, []⟩]))
  (.cond (.tmp 17) (.seq (.ops [⟨0, some 20, .ld (.tmp 4), none, []⟩, ⟨1, some 21, .mv (.tmp 2), none, []⟩, ⟨2, some 22, .call n_i_besideOdd_int64_ [.tmp 20, .tmp 21], none, []⟩, ⟨3, some 19, .mv (.tmp 22), none, []⟩, ⟨4, some 23, .ext (.tmp 19) 0, none, []⟩, ⟨5, some 24, .ext (.tmp 19) 1, none, []⟩, ⟨6, some 7, .mv (.tmp 23), none, []⟩, ⟨7, some 8, .mv (.tmp 24), none, []⟩])
  (.seq (.keep [7, 8] (.ops [⟨0, some 25, .mv (.tmp 7), none, []⟩, ⟨1, some 26, .mv (.tmp 8), none, []⟩, ⟨2, some 27, .bin .add (.tmp 25) (.tmp 26), none, []⟩, ⟨3, some 28, .call n_i_below [.tmp 27, .const (.int .i64 2)], none, []⟩, ⟨4, some 6, .mv (.tmp 28), none, []⟩]))
  (.ret))) (.skip)))))))
  (.seq (.ops [⟨0, some 29, .mkf (.func n_i_oddBy_1) [] [.tmp 4], none, []⟩, ⟨1, some 9, .mv (.tmp 29), none, []⟩])
  (.seq (.keep [2, 9] (.ops [⟨0, some 30, .mv (.tmp 9), none, []⟩, ⟨1, some 31, .mv (.tmp 2), none, []⟩, ⟨2, some 32, .callv (.tmp 30) [.tmp 31], none, []⟩, ⟨3, some 33, .mv (.tmp 9), none, []⟩, ⟨4, some 34, .mv (.tmp 2), none, []⟩, ⟨5, some 35, .bin .add (.tmp 34) (.const (.int .i64 1)), none, []⟩, ⟨6, some 36, .callv (.tmp 33) [.tmp 35], none, []⟩, ⟨7, some 37, .bin .add (.tmp 32) (.tmp 36), none, []⟩, ⟨8, some 38, .bin .mul (.const (.int .i64 9)) (.tmp 37), none, []⟩, ⟨9, some 39, .mv (.tmp 9), none, []⟩, ⟨10, some 40, .mv (.tmp 2), none, []⟩, ⟨11, some 41, .bin .sub (.tmp 40) (.const (.int .i64 1)), none, []⟩, ⟨12, some 42, .callv (.tmp 39) [.tmp 41], none, []⟩, ⟨13, some 43, .mv (.tmp 9), none, []⟩, ⟨14, some 44, .mv (.tmp 2), none, []⟩, ⟨15, some 45, .bin .add (.tmp 44) (.const (.int .i64 2)), none, []⟩, ⟨16, some 46, .callv (.tmp 43) [.tmp 45], none, []⟩, ⟨17, some 47, .bin .add (.tmp 42) (.tmp 46), none, []⟩, ⟨18, some 48, .bin .sub (.tmp 38) (.tmp 47), none, []⟩, ⟨19, some 49, .bin .add (.tmp 48) (.const (.int .i64 8)), none, []⟩, ⟨20, some 50, .call n_i_below [.tmp 49, .const (.int .i64 16)], none, []⟩, ⟨21, some 6, .mv (.tmp 50), none, []⟩]))
  (.ret))))
theorem k_i_oddBy : FnOk Try.prog n_i_oddBy 3 c_i_oddBy [.tmp 6] := ⟨by kernel_rfl⟩
def c_i_split_int64_ : ACode :=
  .seq (.ops [⟨0, some 2, .mv (.const (.slice none 0 0)), none, []⟩, ⟨1, some 3, .mv (.const (.slice none 0 0)), none, []⟩])
  (.seq (.ops [⟨0, some 8, .bsl 2 0 (.int .i64 0) [], none, []⟩, ⟨1, some 9, .bsl 2 0 (.int .i64 0) [], none, []⟩, ⟨2, some 4, .mv (.tmp 8), none, []⟩, ⟨3, some 5, .mv (.tmp 9), none, []⟩])
  (.seq (.seq (.ops [⟨0, some 10, .mv (.tmp 0), none, []⟩, ⟨1, some 11, .len (.tmp 10), none, []⟩, ⟨2, some 12, .mv (.const (.int .i64 0)), none, []⟩])
  (.block 0 (.loop [4, 5, 10, 11, 12] (.seq (.ops [⟨0, some 13, .bin .lss (.tmp 12) (.tmp 11), none, []⟩])
  (.seq (.cond (.tmp 13) (.skip) (.exit 0))
  (.seq (.block 1 (.seq (.ops [⟨0, some 14, .mv (.tmp 12), none, []⟩, ⟨1, some 15, .ia (.tmp 10) (.tmp 12), none, []⟩, ⟨2, some 16, .ld (.tmp 15), none, []⟩, ⟨3, some 6, .mv (.tmp 14), none, []⟩, ⟨4, some 7, .mv (.tmp 16), none, []⟩])
  (.seq (.ops [⟨0, some 17, .mv (.tmp 6), none, []⟩, ⟨1, some 18, .bin .rem (.tmp 17) (.const (.int .i64 2)), none, []⟩, ⟨2, some 19, .bin .eql (.tmp 18) (.const (.int .i64 0)), none, []⟩])
  (.cond (.tmp 19) (.keep [4, 5, 7, 10, 11, 12] (.ops [⟨0, some 20, .mv (.tmp 4), none, []⟩, ⟨1, some 21, .mv (.tmp 7), none, []⟩, ⟨2, some 22, .bsl 2 1 (.int .i64 0) [(0, .tmp 21)], none, []⟩, ⟨3, some 23, .app 2 8 (.tmp 20) (.tmp 22), none, []⟩, ⟨4, some 4, .mv (.tmp 23), none, []⟩])) (.keep [4, 5, 7, 10, 11, 12] (.ops [⟨0, some 24, .mv (.tmp 5), none, []⟩, ⟨1, some 25, .mv (.tmp 7), none, []⟩, ⟨2, some 26, .bsl 2 1 (.int .i64 0) [(0, .tmp 25)], none, []⟩, ⟨3, some 27, .app 2 8 (.tmp 24) (.tmp 26), none, []⟩, ⟨4, some 5, .mv (.tmp 27), none, []⟩]))))))
  (.keep [4, 5, 10, 11, 12] (.ops [⟨0, some 28, .bin .add (.tmp 12) (.const (.int .i64 1)), none, []⟩, ⟨1, some 12, .mv (.tmp 28), none, []⟩]))))))))
  (.seq (.ops [⟨0, some 29, .mv (.tmp 4), none, []⟩, ⟨1, some 30, .mv (.tmp 5), none, []⟩, ⟨2, some 2, .mv (.tmp 29), none, []⟩, ⟨3, some 3, .mv (.tmp 30), none, []⟩])
  (.ret))))
theorem k_i_split_int64_ : FnOk Try.prog n_i_split_int64_ 1 c_i_split_int64_ [.tmp 2, .tmp 3] := ⟨by kernel_rfl⟩
def c_i_mirrored : ACode :=
  .seq (.ops [⟨0, some 4, .mv (.const (.int .i64 0)), none, []⟩])
  (.seq (.seq (.ops [⟨0, some 5, .mv (.tmp 0), none, []⟩, ⟨1, some 6, .bin .eql (.tmp 5) (.const (.int .i64 1)), none, []⟩])
  (.cond (.tmp 6) (.seq (.keep [] (.ops [⟨0, some 4, .mv (.const (.int .i64 0)), none, []⟩]))
  (.ret)) (.skip)))
  (.seq (.block 0 (.loop [0, 1] (.seq (.seq (.ops [⟨0, some 7, .mv (.tmp 1), none, []⟩, ⟨1, some 8, .mv (.tmp 0), none, []⟩, ⟨2, some 9, .bin .sub (.tmp 8) (.const (.int .i64 1)), none, []⟩, ⟨3, some 10, .call n_i_within [.tmp 7, .const (.int .i64 0), .tmp 9], none, []⟩, ⟨4, some 11, .un .not (.tmp 10), none, []⟩])
  (.cond (.tmp 11) (.skip) (.exit 0)))
  (.block 1 (.seq (.keep [0, 1] (.ops [⟨0, some 12, .mv (.tmp 1), none, []⟩, ⟨1, some 13, .bin .lss (.tmp 12) (.const (.int .i64 0)), none, []⟩]))
  (.cond (.tmp 13) (.ops [⟨0, some 14, .mv (.tmp 1), none, []⟩, ⟨1, some 15, .un .neg (.tmp 14), none, []⟩, ⟨2, some 1, .mv (.tmp 15), none, []⟩]) (.ops [⟨0, some 16, .mv (.tmp 0), none, []⟩, ⟨1, some 17, .bin .sub (.tmp 16) (.const (.int .i64 1)), none, []⟩, ⟨2, some 18, .bin .mul (.const (.int .i64 2)) (.tmp 17), none, []⟩, ⟨3, some 19, .mv (.tmp 1), none, []⟩, ⟨4, some 20, .bin .sub (.tmp 18) (.tmp 19), none, []⟩, ⟨5, some 1, .mv (.tmp 20), none, []⟩])))))))
  (.seq (.keep [1] (.ops [⟨0, some 21, .mv (.tmp 1), none, []⟩, ⟨1, some 4, .mv (.tmp 21), none, []⟩]))
  (.ret))))
theorem k_i_mirrored : FnOk Try.prog n_i_mirrored 2 c_i_mirrored [.tmp 4] := ⟨by kernel_rfl⟩
def c_s_l02Kind : ACode :=
  .seq (.ops [⟨0, some 2, .mv (.const (.bool false)), none, []⟩])
  (.seq (.ops [⟨0, some 3, .mv (.tmp 0), none, []⟩, ⟨1, some 4, .call n_s_l00In [.tmp 3, .const (.int .i64 0), .const (.int .i64 2)], none, []⟩, ⟨2, some 2, .mv (.tmp 4), none, []⟩])
  (.ret))
theorem k_s_l02Kind : FnOk Try.prog n_s_l02Kind 1 c_s_l02Kind [.tmp 2] := ⟨by kernel_rfl⟩
def c_s_l02Integers : ACode :=
  .seq (.ops [⟨0, some 2, .mv (.const (.bool false)), none, []⟩])
  (.seq (.ops [⟨0, some 3, .mv (.tmp 0), none, []⟩, ⟨1, some 4, .len (.tmp 3), none, []⟩, ⟨2, some 5, .bin .geq (.tmp 4) (.const (.int .i64 1)), none, []⟩, ⟨3, some 6, .mv (.tmp 5), none, []⟩, ⟨4, some 7, .mv (.tmp 0), (some (6, true)), []⟩, ⟨5, some 8, .len (.tmp 7), (some (6, true)), []⟩, ⟨6, some 9, .bin .leq (.tmp 8) (.const (.int .i64 128)), (some (6, true)), []⟩, ⟨7, some 10, .pick (.tmp 6) (.tmp 9) (.const (.bool false)), none, []⟩, ⟨8, some 11, .mv (.tmp 10), none, []⟩, ⟨9, some 12, .mv (.tmp 0), (some (11, true)), []⟩, ⟨10, some 13, .call n_s_l02Bound [.tmp 12, .const (.int .i64 1000000)], (some (11, true)), []⟩, ⟨11, some 14, .pick (.tmp 11) (.tmp 13) (.const (.bool false)), none, []⟩, ⟨12, some 2, .mv (.tmp 14), none, []⟩])
  (.ret))
theorem k_s_l02Integers : FnOk Try.prog n_s_l02Integers 1 c_s_l02Integers [.tmp 2] := ⟨by kernel_rfl⟩
def c_s_l02Levels : ACode :=
  .seq (.ops [⟨0, some 2, .mv (.const (.bool false)), none, []⟩])
  (.seq (.ops [⟨0, some 3, .mv (.tmp 0), none, []⟩, ⟨1, some 4, .call n_s_l00In [.tmp 3, .const (.int .i64 1), .const (.int .i64 6)], none, []⟩, ⟨2, some 2, .mv (.tmp 4), none, []⟩])
  (.ret))
theorem k_s_l02Levels : FnOk Try.prog n_s_l02Levels 1 c_s_l02Levels [.tmp 2] := ⟨by kernel_rfl⟩
def c_s_l02Lift : ACode :=
  .seq (.ops [⟨0, some 4, .mv (.const (.slice none 0 0)), none, []⟩, ⟨1, some 5, .mv (.const (.slice none 0 0)), none, []⟩])
  (.seq (.ops [⟨0, some 11, .mv (.tmp 1), none, []⟩, ⟨1, some 12, .call n_s_l02Split [.tmp 11], none, []⟩, ⟨2, some 10, .mv (.tmp 12), none, []⟩, ⟨3, some 13, .ext (.tmp 10) 0, none, []⟩, ⟨4, some 14, .ext (.tmp 10) 1, none, []⟩, ⟨5, some 6, .mv (.tmp 13), none, []⟩, ⟨6, some 7, .mv (.tmp 14), none, []⟩])
  (.seq (.seq (.keep [0, 6, 7] (.ops [⟨0, some 8, .mv (.const (.int .i64 0)), none, []⟩]))
  (.block 0 (.loop [0, 6, 7, 8] (.seq (.seq (.ops [⟨0, some 15, .mv (.tmp 8), none, []⟩, ⟨1, some 16, .mv (.tmp 7), none, []⟩, ⟨2, some 17, .len (.tmp 16), none, []⟩, ⟨3, some 18, .bin .lss (.tmp 15) (.tmp 17), none, []⟩])
  (.cond (.tmp 18) (.skip) (.exit 0)))
  (.seq (.block 1 (.ops [⟨0, some 21, .mv (.tmp 7), none, []⟩, ⟨1, some 22, .mv (.tmp 8), none, []⟩, ⟨2, some 23, .mv (.tmp 7), none, []⟩, ⟨3, some 24, .mv (.tmp 8), none, []⟩, ⟨4, some 25, .ia (.tmp 23) (.tmp 24), none, []⟩, ⟨5, some 26, .ld (.tmp 25), none, []⟩, ⟨6, some 27, .mv (.tmp 0), none, []⟩, ⟨7, some 28, .mv (.tmp 6), none, []⟩, ⟨8, some 29, .mv (.tmp 8), none, []⟩, ⟨9, some 30, .call n_s_l02Guess [.tmp 27, .tmp 28, .tmp 29], none, [(some 25, .ia (.tmp 23) (.tmp 24), none), (some 26, .ld (.tmp 25), none)]⟩, ⟨10, some 31, .bin .sub (.tmp 26) (.tmp 30), none, []⟩, ⟨11, some 32, .ia (.tmp 21) (.tmp 22), none, []⟩, ⟨12, none, .st (.tmp 32) (.tmp 31), none, []⟩]))
  (.keep [0, 6, 7, 8] (.ops [⟨0, some 19, .mv (.tmp 8), none, []⟩, ⟨1, some 20, .bin .add (.tmp 19) (.const (.int .i64 1)), none, []⟩, ⟨2, some 8, .mv (.tmp 20), none, []⟩])))))))
  (.seq (.seq (.keep [0, 6, 7] (.ops [⟨0, some 9, .mv (.const (.int .i64 0)), none, []⟩]))
  (.block 2 (.loop [0, 6, 7, 9] (.seq (.seq (.ops [⟨0, some 33, .mv (.tmp 9), none, []⟩, ⟨1, some 34, .mv (.tmp 6), none, []⟩, ⟨2, some 35, .len (.tmp 34), none, []⟩, ⟨3, some 36, .bin .lss (.tmp 33) (.tmp 35), none, []⟩])
  (.cond (.tmp 36) (.skip) (.exit 2)))
  (.seq (.block 3 (.ops [⟨0, some 39, .mv (.tmp 6), none, []⟩, ⟨1, some 40, .mv (.tmp 9), none, []⟩, ⟨2, some 41, .mv (.tmp 6), none, []⟩, ⟨3, some 42, .mv (.tmp 9), none, []⟩, ⟨4, some 43, .ia (.tmp 41) (.tmp 42), none, []⟩, ⟨5, some 44, .ld (.tmp 43), none, []⟩, ⟨6, some 45, .mv (.tmp 0), none, []⟩, ⟨7, some 46, .mv (.tmp 7), none, []⟩, ⟨8, some 47, .mv (.tmp 9), none, []⟩, ⟨9, some 48, .call n_s_l02Gain [.tmp 45, .tmp 46, .tmp 47], none, [(some 43, .ia (.tmp 41) (.tmp 42), none), (some 44, .ld (.tmp 43), none)]⟩, ⟨10, some 49, .bin .add (.tmp 44) (.tmp 48), none, []⟩, ⟨11, some 50, .ia (.tmp 39) (.tmp 40), none, []⟩, ⟨12, none, .st (.tmp 50) (.tmp 49), none, []⟩]))
  (.keep [0, 6, 7, 9] (.ops [⟨0, some 37, .mv (.tmp 9), none, []⟩, ⟨1, some 38, .bin .add (.tmp 37) (.const (.int .i64 1)), none, []⟩, ⟨2, some 9, .mv (.tmp 38), none, []⟩])))))))
  (.seq (.keep [6, 7] (.ops [⟨0, some 51, .mv (.tmp 6), none, []⟩, ⟨1, some 52, .mv (.tmp 7), none, []⟩, ⟨2, some 4, .mv (.tmp 51), none, []⟩, ⟨3, some 5, .mv (.tmp 52), none, []⟩]))
  (.ret)))))
theorem k_s_l02Lift : FnOk Try.prog n_s_l02Lift 2 c_s_l02Lift [.tmp 4, .tmp 5] := ⟨by kernel_rfl⟩
def c_i_below : ACode :=
  .seq (.ops [⟨0, some 4, .mv (.const (.int .i64 0)), none, []⟩])
  (.seq (.ops [⟨0, some 6, .mv (.tmp 0), none, []⟩, ⟨1, some 7, .mv (.tmp 1), none, []⟩, ⟨2, some 8, .bin .quo (.tmp 6) (.tmp 7), none, []⟩, ⟨3, some 5, .mv (.tmp 8), none, []⟩])
  (.seq (.seq (.ops [⟨0, some 9, .mv (.tmp 0), none, []⟩, ⟨1, some 10, .mv (.tmp 1), none, []⟩, ⟨2, some 11, .bin .rem (.tmp 9) (.tmp 10), none, []⟩, ⟨3, some 12, .bin .lss (.tmp 11) (.const (.int .i64 0)), none, []⟩])
  (.cond (.tmp 12) (.keep [5] (.ops [⟨0, some 13, .mv (.tmp 5), none, []⟩, ⟨1, some 14, .bin .sub (.tmp 13) (.const (.int .i64 1)), none, []⟩, ⟨2, some 5, .mv (.tmp 14), none, []⟩])) (.skip)))
  (.seq (.keep [5] (.ops [⟨0, some 15, .mv (.tmp 5), none, []⟩, ⟨1, some 4, .mv (.tmp 15), none, []⟩]))
  (.ret))))
theorem k_i_below : FnOk Try.prog n_i_below 2 c_i_below [.tmp 4] := ⟨by kernel_rfl⟩
def c_i_besideEven_int64_ : ACode :=
  .seq (.ops [⟨0, some 4, .mv (.const (.int .i64 0)), none, []⟩, ⟨1, some 5, .mv (.const (.int .i64 0)), none, []⟩])
  (.seq (.ops [⟨0, some 6, .mv (.tmp 0), none, []⟩, ⟨1, some 7, .mv (.tmp 1), none, []⟩, ⟨2, some 8, .bin .sub (.tmp 7) (.const (.int .i64 1)), none, []⟩, ⟨3, some 9, .mnx true (.tmp 8) (.const (.int .i64 0)), none, []⟩, ⟨4, some 10, .ia (.tmp 6) (.tmp 9), none, []⟩, ⟨5, some 11, .ld (.tmp 10), none, []⟩, ⟨6, some 12, .mv (.tmp 0), none, []⟩, ⟨7, some 13, .mv (.tmp 1), none, []⟩, ⟨8, some 14, .mv (.tmp 0), none, []⟩, ⟨9, some 15, .len (.tmp 14), none, []⟩, ⟨10, some 16, .bin .sub (.tmp 15) (.const (.int .i64 1)), none, []⟩, ⟨11, some 17, .mnx false (.tmp 13) (.tmp 16), none, []⟩, ⟨12, some 18, .ia (.tmp 12) (.tmp 17), none, []⟩, ⟨13, some 19, .ld (.tmp 18), none, []⟩, ⟨14, some 4, .mv (.tmp 11), none, []⟩, ⟨15, some 5, .mv (.tmp 19), none, []⟩])
  (.ret))
theorem k_i_besideEven_int64_ : FnOk Try.prog n_i_besideEven_int64_ 2 c_i_besideEven_int64_ [.tmp 4, .tmp 5] := ⟨by kernel_rfl⟩
def c_i_besideOdd_int64_ : ACode :=
  .seq (.ops [⟨0, some 4, .mv (.const (.int .i64 0)), none, []⟩, ⟨1, some 5, .mv (.const (.int .i64 0)), none, []⟩])
  (.seq (.ops [⟨0, some 6, .mv (.tmp 0), none, []⟩, ⟨1, some 7, .mv (.tmp 1), none, []⟩, ⟨2, some 8, .ia (.tmp 6) (.tmp 7), none, []⟩, ⟨3, some 9, .ld (.tmp 8), none, []⟩, ⟨4, some 10, .mv (.tmp 0), none, []⟩, ⟨5, some 11, .mv (.tmp 1), none, []⟩, ⟨6, some 12, .bin .add (.tmp 11) (.const (.int .i64 1)), none, []⟩, ⟨7, some 13, .mv (.tmp 0), none, []⟩, ⟨8, some 14, .len (.tmp 13), none, []⟩, ⟨9, some 15, .bin .sub (.tmp 14) (.const (.int .i64 1)), none, []⟩, ⟨10, some 16, .mnx false (.tmp 12) (.tmp 15), none, []⟩, ⟨11, some 17, .ia (.tmp 10) (.tmp 16), none, []⟩, ⟨12, some 18, .ld (.tmp 17), none, []⟩, ⟨13, some 4, .mv (.tmp 9), none, []⟩, ⟨14, some 5, .mv (.tmp 18), none, []⟩])
  (.ret))
theorem k_i_besideOdd_int64_ : FnOk Try.prog n_i_besideOdd_int64_ 2 c_i_besideOdd_int64_ [.tmp 4, .tmp 5] := ⟨by kernel_rfl⟩
def c_i_oddBy_1 : ACode :=
  .seq (.ops [⟨0, some 3, .mv (.const (.int .i64 0)), none, []⟩])
  (.seq (.ops [⟨0, some 4, .ld (.tmp 1), none, []⟩, ⟨1, some 5, .ld (.tmp 1), none, []⟩, ⟨2, some 6, .len (.tmp 5), none, []⟩, ⟨3, some 7, .mv (.tmp 0), none, []⟩, ⟨4, some 8, .call n_i_mirrored [.tmp 6, .tmp 7], none, [(some 4, .ld (.tmp 1), none)]⟩, ⟨5, some 9, .ia (.tmp 4) (.tmp 8), none, []⟩, ⟨6, some 10, .ld (.tmp 9), none, []⟩, ⟨7, some 3, .mv (.tmp 10), none, []⟩])
  (.ret))
theorem k_i_oddBy_1 : FnOk Try.prog n_i_oddBy_1 2 c_i_oddBy_1 [.tmp 3] := ⟨by kernel_rfl⟩
def c_s_l02Bound : ACode :=
  .seq (.ops [⟨0, some 4, .mv (.const (.bool false)), none, []⟩])
  (.seq (.seq (.ops [⟨0, some 5, .mv (.const (.int .i64 0)), none, []⟩])
  (.block 0 (.loop [0, 1, 5] (.seq (.seq (.ops [⟨0, some 6, .mv (.tmp 5), none, []⟩, ⟨1, some 7, .mv (.tmp 0), none, []⟩, ⟨2, some 8, .len (.tmp 7), none, []⟩, ⟨3, some 9, .bin .lss (.tmp 6) (.tmp 8), none, []⟩])
  (.cond (.tmp 9) (.skip) (.exit 0)))
  (.seq (.block 1 (.seq (.ops [⟨0, some 12, .mv (.tmp 0), none, []⟩, ⟨1, some 13, .mv (.tmp 5), none, []⟩, ⟨2, some 14, .ia (.tmp 12) (.tmp 13), none, []⟩, ⟨3, some 15, .ld (.tmp 14), none, []⟩, ⟨4, some 16, .mv (.tmp 1), none, []⟩, ⟨5, some 17, .un .neg (.tmp 16), none, []⟩, ⟨6, some 18, .mv (.tmp 1), none, []⟩, ⟨7, some 19, .call n_s_l00In [.tmp 15, .tmp 17, .tmp 18], none, []⟩, ⟨8, some 20, .un .not (.tmp 19), none, []⟩])
  (.cond (.tmp 20) (.seq (.keep [] (.ops [⟨0, some 4, .mv (.const (.bool false)), none, []⟩]))
  (.ret)) (.skip))))
  (.keep [0, 1, 5] (.ops [⟨0, some 10, .mv (.tmp 5), none, []⟩, ⟨1, some 11, .bin .add (.tmp 10) (.const (.int .i64 1)), none, []⟩, ⟨2, some 5, .mv (.tmp 11), none, []⟩])))))))
  (.seq (.keep [] (.ops [⟨0, some 4, .mv (.const (.bool true)), none, []⟩]))
  (.ret)))
theorem k_s_l02Bound : FnOk Try.prog n_s_l02Bound 2 c_s_l02Bound [.tmp 4] := ⟨by kernel_rfl⟩
def c_s_l02Split : ACode :=
  .seq (.ops [⟨0, some 2, .mv (.const (.slice none 0 0)), none, []⟩, ⟨1, some 3, .mv (.const (.slice none 0 0)), none, []⟩])
  (.seq (.ops [⟨0, some 7, .bsl 2 0 (.int .i64 0) [], none, []⟩, ⟨1, some 4, .mv (.tmp 7), none, []⟩])
  (.seq (.ops [⟨0, some 8, .bsl 2 0 (.int .i64 0) [], none, []⟩, ⟨1, some 5, .mv (.tmp 8), none, []⟩])
  (.seq (.seq (.ops [⟨0, some 6, .mv (.const (.int .i64 0)), none, []⟩])
  (.block 0 (.loop [0, 4, 5, 6] (.seq (.seq (.ops [⟨0, some 9, .mv (.tmp 6), none, []⟩, ⟨1, some 10, .mv (.tmp 0), none, []⟩, ⟨2, some 11, .len (.tmp 10), none, []⟩, ⟨3, some 12, .bin .lss (.tmp 9) (.tmp 11), none, []⟩])
  (.cond (.tmp 12) (.skip) (.exit 0)))
  (.seq (.block 1 (.seq (.ops [⟨0, some 15, .mv (.tmp 6), none, []⟩, ⟨1, some 16, .bin .rem (.tmp 15) (.const (.int .i64 2)), none, []⟩, ⟨2, some 17, .bin .eql (.tmp 16) (.const (.int .i64 0)), none, []⟩])
  (.cond (.tmp 17) (.keep [0, 4, 5, 6] (.ops [⟨0, some 18, .mv (.tmp 4), none, []⟩, ⟨1, some 19, .mv (.tmp 0), none, []⟩, ⟨2, some 20, .mv (.tmp 6), none, []⟩, ⟨3, some 21, .ia (.tmp 19) (.tmp 20), none, []⟩, ⟨4, some 22, .ld (.tmp 21), none, []⟩, ⟨5, some 23, .bsl 2 1 (.int .i64 0) [(0, .tmp 22)], none, []⟩, ⟨6, some 24, .app 2 8 (.tmp 18) (.tmp 23), none, []⟩, ⟨7, some 4, .mv (.tmp 24), none, []⟩])) (.keep [0, 4, 5, 6] (.ops [⟨0, some 25, .mv (.tmp 5), none, []⟩, ⟨1, some 26, .mv (.tmp 0), none, []⟩, ⟨2, some 27, .mv (.tmp 6), none, []⟩, ⟨3, some 28, .ia (.tmp 26) (.tmp 27), none, []⟩, ⟨4, some 29, .ld (.tmp 28), none, []⟩, ⟨5, some 30, .bsl 2 1 (.int .i64 0) [(0, .tmp 29)], none, []⟩, ⟨6, some 31, .app 2 8 (.tmp 25) (.tmp 30), none, []⟩, ⟨7, some 5, .mv (.tmp 31), none, []⟩])))))
  (.keep [0, 4, 5, 6] (.ops [⟨0, some 13, .mv (.tmp 6), none, []⟩, ⟨1, some 14, .bin .add (.tmp 13) (.const (.int .i64 1)), none, []⟩, ⟨2, some 6, .mv (.tmp 14), none, []⟩])))))))
  (.seq (.keep [4, 5] (.ops [⟨0, some 32, .mv (.tmp 4), none, []⟩, ⟨1, some 33, .mv (.tmp 5), none, []⟩, ⟨2, some 2, .mv (.tmp 32), none, []⟩, ⟨3, some 3, .mv (.tmp 33), none, []⟩]))
  (.ret)))))
theorem k_s_l02Split : FnOk Try.prog n_s_l02Split 1 c_s_l02Split [.tmp 2, .tmp 3] := ⟨by kernel_rfl⟩
def c_s_l02Guess : ACode :=
  .seq (.ops [⟨0, some 6, .mv (.const (.int .i64 0)), none, []⟩])
  (.seq (.seq (.ops [⟨0, some 9, .mv (.tmp 0), none, []⟩, ⟨1, some 10, .bin .eql (.tmp 9) (.const (.int .i64 0)), none, []⟩])
  (.cond (.tmp 10) (.seq (.ops [⟨0, some 11, .mv (.tmp 1), none, []⟩, ⟨1, some 12, .mv (.tmp 2), none, []⟩, ⟨2, some 13, .ia (.tmp 11) (.tmp 12), none, []⟩, ⟨3, some 14, .ld (.tmp 13), none, []⟩, ⟨4, some 6, .mv (.tmp 14), none, []⟩])
  (.ret)) (.skip)))
  (.seq (.seq (.ops [⟨0, some 15, .mv (.tmp 0), none, []⟩, ⟨1, some 16, .bin .eql (.tmp 15) (.const (.int .i64 1)), none, []⟩])
  (.cond (.tmp 16) (.seq (.keep [1, 2] (.ops [⟨0, some 17, .mv (.tmp 1), none, []⟩, ⟨1, some 18, .mv (.tmp 2), none, []⟩, ⟨2, some 19, .ia (.tmp 17) (.tmp 18), none, []⟩, ⟨3, some 20, .ld (.tmp 19), none, []⟩, ⟨4, some 21, .mv (.tmp 1), none, []⟩, ⟨5, some 22, .mv (.tmp 2), none, []⟩, ⟨6, some 23, .bin .add (.tmp 22) (.const (.int .i64 1)), none, []⟩, ⟨7, some 24, .call n_s_l02Near [.tmp 21, .tmp 23], none, [(some 19, .ia (.tmp 17) (.tmp 18), none), (some 20, .ld (.tmp 19), none)]⟩, ⟨8, some 25, .bin .add (.tmp 20) (.tmp 24), none, []⟩, ⟨9, some 26, .call n_s_l02Down [.tmp 25, .const (.int .i64 2)], none, []⟩, ⟨10, some 6, .mv (.tmp 26), none, []⟩]))
  (.ret)) (.skip)))
  (.seq (.keep [1, 2] (.ops [⟨0, some 27, .mv (.tmp 1), none, []⟩, ⟨1, some 28, .mv (.tmp 2), none, []⟩, ⟨2, some 29, .ia (.tmp 27) (.tmp 28), none, []⟩, ⟨3, some 30, .ld (.tmp 29), none, []⟩, ⟨4, some 31, .mv (.tmp 1), none, []⟩, ⟨5, some 32, .mv (.tmp 2), none, []⟩, ⟨6, some 33, .bin .add (.tmp 32) (.const (.int .i64 1)), none, []⟩, ⟨7, some 34, .call n_s_l02Mirrored [.tmp 31, .tmp 33], none, [(some 29, .ia (.tmp 27) (.tmp 28), none), (some 30, .ld (.tmp 29), none)]⟩, ⟨8, some 35, .bin .add (.tmp 30) (.tmp 34), none, []⟩, ⟨9, some 7, .mv (.tmp 35), none, []⟩]))
  (.seq (.keep [1, 2, 7] (.ops [⟨0, some 36, .mv (.tmp 1), none, []⟩, ⟨1, some 37, .mv (.tmp 2), none, []⟩, ⟨2, some 38, .bin .sub (.tmp 37) (.const (.int .i64 1)), none, []⟩, ⟨3, some 39, .call n_s_l02Mirrored [.tmp 36, .tmp 38], none, []⟩, ⟨4, some 40, .mv (.tmp 1), none, []⟩, ⟨5, some 41, .mv (.tmp 2), none, []⟩, ⟨6, some 42, .bin .add (.tmp 41) (.const (.int .i64 2)), none, []⟩, ⟨7, some 43, .call n_s_l02Mirrored [.tmp 40, .tmp 42], none, []⟩, ⟨8, some 44, .bin .add (.tmp 39) (.tmp 43), none, []⟩, ⟨9, some 8, .mv (.tmp 44), none, []⟩]))
  (.seq (.keep [7, 8] (.ops [⟨0, some 45, .mv (.tmp 7), none, []⟩, ⟨1, some 46, .bin .mul (.const (.int .i64 9)) (.tmp 45), none, []⟩, ⟨2, some 47, .mv (.tmp 8), none, []⟩, ⟨3, some 48, .bin .sub (.tmp 46) (.tmp 47), none, []⟩, ⟨4, some 49, .bin .add (.tmp 48) (.const (.int .i64 8)), none, []⟩, ⟨5, some 50, .call n_s_l02Down [.tmp 49, .const (.int .i64 16)], none, []⟩, ⟨6, some 6, .mv (.tmp 50), none, []⟩]))
  (.ret))))))
theorem k_s_l02Guess : FnOk Try.prog n_s_l02Guess 3 c_s_l02Guess [.tmp 6] := ⟨by kernel_rfl⟩
def c_s_l02Gain : ACode :=
  .seq (.ops [⟨0, some 6, .mv (.const (.int .i64 0)), none, []⟩])
  (.seq (.seq (.ops [⟨0, some 7, .mv (.tmp 1), none, []⟩, ⟨1, some 8, .len (.tmp 7), none, []⟩, ⟨2, some 9, .bin .eql (.tmp 8) (.const (.int .i64 0)), none, []⟩, ⟨3, some 10, .mv (.tmp 9), none, []⟩, ⟨4, some 11, .mv (.tmp 0), (some (10, false)), []⟩, ⟨5, some 12, .bin .eql (.tmp 11) (.const (.int .i64 0)), (some (10, false)), []⟩, ⟨6, some 13, .mv (.tmp 12), (some (10, false)), []⟩, ⟨7, some 14, .mv (.tmp 2), (some (13, true)), []⟩, ⟨8, some 15, .mv (.tmp 1), (some (13, true)), []⟩, ⟨9, some 16, .len (.tmp 15), (some (13, true)), []⟩, ⟨10, some 17, .bin .geq (.tmp 14) (.tmp 16), (some (13, true)), []⟩, ⟨11, some 18, .pick (.tmp 13) (.tmp 17) (.const (.bool false)), (some (10, false)), []⟩, ⟨12, some 19, .pick (.tmp 10) (.const (.bool true)) (.tmp 18), none, []⟩])
  (.cond (.tmp 19) (.seq (.keep [] (.ops [⟨0, some 6, .mv (.const (.int .i64 0)), none, []⟩]))
  (.ret)) (.skip)))
  (.seq (.seq (.keep [0, 1, 2] (.ops [⟨0, some 20, .mv (.tmp 0), none, []⟩, ⟨1, some 21, .bin .eql (.tmp 20) (.const (.int .i64 0)), none, []⟩]))
  (.cond (.tmp 21) (.seq (.ops [⟨0, some 22, .mv (.tmp 1), none, []⟩, ⟨1, some 23, .mv (.tmp 2), none, []⟩, ⟨2, some 24, .ia (.tmp 22) (.tmp 23), none, []⟩, ⟨3, some 25, .ld (.tmp 24), none, []⟩, ⟨4, some 26, .call n_s_l02Down [.tmp 25, .const (.int .i64 2)], none, []⟩, ⟨5, some 6, .mv (.tmp 26), none, []⟩])
  (.ret)) (.skip)))
  (.seq (.ops [⟨0, some 27, .mv (.tmp 1), none, []⟩, ⟨1, some 28, .mv (.tmp 2), none, []⟩, ⟨2, some 29, .bin .sub (.tmp 28) (.const (.int .i64 1)), none, []⟩, ⟨3, some 30, .call n_s_l02Near [.tmp 27, .tmp 29], none, []⟩, ⟨4, some 31, .mv (.tmp 1), none, []⟩, ⟨5, some 32, .mv (.tmp 2), none, []⟩, ⟨6, some 33, .call n_s_l02Near [.tmp 31, .tmp 32], none, []⟩, ⟨7, some 34, .bin .add (.tmp 30) (.tmp 33), none, []⟩, ⟨8, some 35, .bin .add (.tmp 34) (.const (.int .i64 2)), none, []⟩, ⟨9, some 36, .call n_s_l02Down [.tmp 35, .const (.int .i64 4)], none, []⟩, ⟨10, some 6, .mv (.tmp 36), none, []⟩])
  (.ret))))
theorem k_s_l02Gain : FnOk Try.prog n_s_l02Gain 3 c_s_l02Gain [.tmp 6] := ⟨by kernel_rfl⟩
def c_s_l02Down : ACode :=
  .seq (.ops [⟨0, some 4, .mv (.const (.int .i64 0)), none, []⟩])
  (.seq (.ops [⟨0, some 6, .mv (.tmp 0), none, []⟩, ⟨1, some 7, .mv (.tmp 1), none, []⟩, ⟨2, some 8, .bin .quo (.tmp 6) (.tmp 7), none, []⟩, ⟨3, some 5, .mv (.tmp 8), none, []⟩])
  (.seq (.seq (.ops [⟨0, some 9, .mv (.tmp 0), none, []⟩, ⟨1, some 10, .mv (.tmp 1), none, []⟩, ⟨2, some 11, .bin .rem (.tmp 9) (.tmp 10), none, []⟩, ⟨3, some 12, .bin .lss (.tmp 11) (.const (.int .i64 0)), none, []⟩])
  (.cond (.tmp 12) (.keep [5] (.ops [⟨0, some 13, .mv (.tmp 5), none, []⟩, ⟨1, some 14, .bin .sub (.tmp 13) (.const (.int .i64 1)), none, []⟩, ⟨2, some 5, .mv (.tmp 14), none, []⟩])) (.skip)))
  (.seq (.keep [5] (.ops [⟨0, some 15, .mv (.tmp 5), none, []⟩, ⟨1, some 4, .mv (.tmp 15), none, []⟩]))
  (.ret))))
theorem k_s_l02Down : FnOk Try.prog n_s_l02Down 2 c_s_l02Down [.tmp 4] := ⟨by kernel_rfl⟩
def c_s_l02Near : ACode :=
  .seq (.ops [⟨0, some 4, .mv (.const (.int .i64 0)), none, []⟩])
  (.seq (.ops [⟨0, some 5, .mv (.tmp 0), none, []⟩, ⟨1, some 6, .mv (.tmp 0), none, []⟩, ⟨2, some 7, .len (.tmp 6), none, []⟩, ⟨3, some 8, .bin .sub (.tmp 7) (.const (.int .i64 1)), none, []⟩, ⟨4, some 9, .mv (.tmp 1), none, []⟩, ⟨5, some 10, .mnx false (.tmp 8) (.tmp 9), none, []⟩, ⟨6, some 11, .mnx true (.const (.int .i64 0)) (.tmp 10), none, []⟩, ⟨7, some 12, .ia (.tmp 5) (.tmp 11), none, []⟩, ⟨8, some 13, .ld (.tmp 12), none, []⟩, ⟨9, some 4, .mv (.tmp 13), none, []⟩])
  (.ret))
theorem k_s_l02Near : FnOk Try.prog n_s_l02Near 2 c_s_l02Near [.tmp 4] := ⟨by kernel_rfl⟩
def c_s_l02Mirrored : ACode :=
  .seq (.ops [⟨0, some 4, .mv (.const (.int .i64 0)), none, []⟩])
  (.seq (.ops [⟨0, some 5, .mv (.tmp 0), none, []⟩, ⟨1, some 6, .mv (.tmp 0), none, []⟩, ⟨2, some 7, .len (.tmp 6), none, []⟩, ⟨3, some 8, .mv (.tmp 1), none, []⟩, ⟨4, some 9, .call n_s_l02Mirror [.tmp 7, .tmp 8], none, []⟩, ⟨5, some 10, .ia (.tmp 5) (.tmp 9), none, []⟩, ⟨6, some 11, .ld (.tmp 10), none, []⟩, ⟨7, some 4, .mv (.tmp 11), none, []⟩])
  (.ret))
theorem k_s_l02Mirrored : FnOk Try.prog n_s_l02Mirrored 2 c_s_l02Mirrored [.tmp 4] := ⟨by kernel_rfl⟩
def c_s_l02Mirror : ACode :=
  .seq (.ops [⟨0, some 4, .mv (.const (.int .i64 0)), none, []⟩])
  (.seq (.seq (.ops [⟨0, some 5, .mv (.tmp 0), none, []⟩, ⟨1, some 6, .bin .eql (.tmp 5) (.const (.int .i64 1)), none, []⟩])
  (.cond (.tmp 6) (.seq (.keep [] (.ops [⟨0, some 4, .mv (.const (.int .i64 0)), none, []⟩]))
  (.ret)) (.skip)))
  (.seq (.ops [⟨0, some 7, .mv (.tmp 1), none, []⟩, ⟨1, some 8, .mv (.tmp 0), none, []⟩, ⟨2, some 9, .bin .sub (.tmp 8) (.const (.int .i64 1)), none, []⟩, ⟨3, some 10, .bin .mul (.const (.int .i64 2)) (.tmp 9), none, []⟩, ⟨4, some 11, .bin .rem (.tmp 7) (.tmp 10), none, []⟩, ⟨5, some 1, .mv (.tmp 11), none, []⟩])
  (.seq (.seq (.keep [0, 1] (.ops [⟨0, some 12, .mv (.tmp 1), none, []⟩, ⟨1, some 13, .bin .lss (.tmp 12) (.const (.int .i64 0)), none, []⟩]))
  (.cond (.tmp 13) (.ops [⟨0, some 14, .mv (.tmp 1), none, []⟩, ⟨1, some 15, .un .neg (.tmp 14), none, []⟩, ⟨2, some 1, .mv (.tmp 15), none, []⟩]) (.skip)))
  (.seq (.seq (.ops [⟨0, some 16, .mv (.tmp 1), none, []⟩, ⟨1, some 17, .mv (.tmp 0), none, []⟩, ⟨2, some 18, .bin .geq (.tmp 16) (.tmp 17), none, []⟩])
  (.cond (.tmp 18) (.keep [0, 1] (.ops [⟨0, some 19, .mv (.tmp 0), none, []⟩, ⟨1, some 20, .bin .sub (.tmp 19) (.const (.int .i64 1)), none, []⟩, ⟨2, some 21, .bin .mul (.const (.int .i64 2)) (.tmp 20), none, []⟩, ⟨3, some 22, .mv (.tmp 1), none, []⟩, ⟨4, some 23, .bin .sub (.tmp 21) (.tmp 22), none, []⟩, ⟨5, some 1, .mv (.tmp 23), none, []⟩])) (.skip)))
  (.seq (.keep [1] (.ops [⟨0, some 24, .mv (.tmp 1), none, []⟩, ⟨1, some 4, .mv (.tmp 24), none, []⟩]))
  (.ret))))))
theorem k_s_l02Mirror : FnOk Try.prog n_s_l02Mirror 2 c_s_l02Mirror [.tmp 4] := ⟨by kernel_rfl⟩
end Go.Proofs.Ytkojmlpaamdhoad

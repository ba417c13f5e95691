/- The code of functions, for the abstract machine; printed by a program (gen.py). -/
import Derived.Test.YtkojmlpaamdhoacGxFn
import Derived.Test.YtkojmlpaamdhoacProg
namespace Go.Proofs.Ytkojmlpaamdhoac
open Go.Gx
set_option maxRecDepth 100000
abbrev t_int64 : Nat := 2
abbrev t_int : Nat := 3
abbrev t_bool : Nat := 4
abbrev t_uint8 : Nat := 5
abbrev t_sfloat32 : Nat := 22
abbrev t_ssfloat32 : Nat := 23
abbrev t_float32 : Nat := 34
abbrev t_sint64 : Nat := 43
abbrev t_float64 : Nat := 94
abbrev t_sint : Nat := 152
abbrev t_Picture : Nat := 36
abbrev t_Bands : Nat := 58
abbrev t_Pair : Nat := 70
abbrev t_Scheme : Nat := 84
abbrev n_w_FnExactSoftPicture : Nat := 4
abbrev n_w_toFloat32S : Nat := 16
abbrev n_w_eqFloat32S : Nat := 19
abbrev n_w_markFloat32S : Nat := 20
abbrev n_w_szPicture : Nat := 23
abbrev n_s_SoftPicture : Nat := 24
abbrev n_w_toPicture : Nat := 25
abbrev n_i_SoftPicture : Nat := 26
abbrev n_w_eqPicture : Nat := 27
abbrev n_w_markPicture : Nat := 28
abbrev n_w_heldPicture : Nat := 29
abbrev n_w_heldFloat32S : Nat := 44
abbrev n_w_sameFloat : Nat := 69
abbrev n_s_l00In : Nat := 71
abbrev n_s_l02Finite : Nat := 73
abbrev n_i_within : Nat := 75
abbrev n_i_copyOf : Nat := 76
abbrev n_w_szFloat32S : Nat := 79
abbrev n_s_l04Is : Nat := 80
abbrev n_s_l04Levels : Nat := 81
abbrev n_s_l02Least : Nat := 82
abbrev n_s_l04Own : Nat := 83
abbrev n_s_l04Coarse : Nat := 84
abbrev n_i_isLeast : Nat := 85
abbrev n_i_finesBy : Nat := 86
abbrev n_i_SoftPicture_1 : Nat := 87
abbrev n_i_softer : Nat := 88
abbrev n_i_areFinite : Nat := 110
abbrev n_s_l01Finite : Nat := 134
abbrev n_s_l04Sides : Nat := 137
abbrev n_s_l04Halves : Nat := 138
abbrev n_i_IsFinite : Nat := 139
abbrev n_i_ValidPicture : Nat := 140
abbrev n_i_areLevels : Nat := 141
abbrev n_i_isCoarse : Nat := 142
abbrev n_i_validPicture : Nat := 143
abbrev n_i_halfOf : Nat := 164
def c_w_FnExactSoftPicture : ACode :=
  .seq (.ops [⟨0, some 3, .box 33 (.tmp 0), none, []⟩, ⟨1, some 6, .mv (.const (.bool false)), none, []⟩])
  (.seq (.ops [⟨0, some 7, .mv (.const (.int .i64 1048576)), none, []⟩])
  (.seq (.ops [⟨0, some 18, .ldn 3 (.tmp 3), none, []⟩, ⟨1, some 19, .mv (.tmp 7), none, []⟩, ⟨2, some 20, .call n_w_szPicture [.tmp 18, .tmp 19], none, []⟩, ⟨3, some 7, .mv (.tmp 20), none, []⟩])
  (.seq (.seq (.keep [1, 2, 3, 7] (.ops [⟨0, some 21, .mv (.tmp 7), none, []⟩, ⟨1, some 22, .bin .lss (.tmp 21) (.const (.int .i64 0)), none, []⟩]))
  (.cond (.tmp 22) (.seq (.keep [] (.ops [⟨0, some 6, .mv (.const (.bool true)), none, []⟩]))
  (.ret)) (.skip)))
  (.seq (.ops [⟨0, some 24, .ldn 3 (.tmp 3), none, []⟩, ⟨1, some 25, .call n_w_toPicture [.tmp 24], none, []⟩, ⟨2, some 26, .mv (.tmp 1), none, []⟩, ⟨3, some 27, .mv (.tmp 2), none, []⟩, ⟨4, some 28, .call n_s_SoftPicture [.tmp 25, .tmp 26, .tmp 27], none, []⟩, ⟨5, some 23, .mv (.tmp 28), none, []⟩, ⟨6, some 29, .ext (.tmp 23) 0, none, []⟩, ⟨7, some 30, .ext (.tmp 23) 1, none, []⟩, ⟨8, some 8, .new 36 [.int .i64 0, .int .i64 0, .slice none 0 0], none, []⟩, ⟨9, none, .stn 3 (.tmp 8) (.tmp 29), none, []⟩, ⟨10, some 9, .mv (.tmp 30), none, []⟩])
  (.seq (.keep [1, 2, 3, 8, 9] (.ops [⟨0, some 31, .ldn 3 (.tmp 3), none, []⟩, ⟨1, some 32, .call n_w_toPicture [.tmp 31], none, []⟩, ⟨2, some 10, .new 36 [.int .i64 0, .int .i64 0, .slice none 0 0], none, []⟩, ⟨3, none, .stn 3 (.tmp 10) (.tmp 32), none, []⟩]))
  (.seq (.ops [⟨0, some 34, .ldn 3 (.tmp 10), none, []⟩, ⟨1, some 35, .mv (.tmp 1), none, []⟩, ⟨2, some 36, .mv (.tmp 2), none, []⟩, ⟨3, some 37, .call n_i_SoftPicture [.tmp 34, .tmp 35, .tmp 36], none, []⟩, ⟨4, some 33, .mv (.tmp 37), none, []⟩, ⟨5, some 38, .ext (.tmp 33) 0, none, []⟩, ⟨6, some 39, .ext (.tmp 33) 1, none, []⟩, ⟨7, some 11, .new 36 [.int .i64 0, .int .i64 0, .slice none 0 0], none, []⟩, ⟨8, none, .stn 3 (.tmp 11) (.tmp 38), none, []⟩, ⟨9, some 12, .mv (.tmp 39), none, []⟩])
  (.seq (.seq (.keep [1, 2, 3, 8, 9, 10, 11, 12] (.ops [⟨0, some 40, .ldn 3 (.tmp 11), none, []⟩, ⟨1, some 41, .ldn 3 (.tmp 8), none, []⟩, ⟨2, some 42, .call n_w_eqPicture [.tmp 40, .tmp 41], none, []⟩, ⟨3, some 43, .un .not (.tmp 42), none, []⟩, ⟨4, some 44, .mv (.tmp 43), none, []⟩, ⟨5, some 45, .mv (.tmp 12), (some (44, false)), []⟩, ⟨6, some 46, .mv (.tmp 9), (some (44, false)), []⟩, ⟨7, some 47, .beq true (.tmp 45) (.tmp 46), (some (44, false)), []⟩, ⟨8, some 48, .pick (.tmp 44) (.const (.bool true)) (.tmp 47), none, []⟩]))
  (.cond (.tmp 48) (.seq (.keep [] (.ops [⟨0, some 6, .mv (.const (.bool false)), none, []⟩]))
  (.ret)) (.skip)))
  (.seq (.seq (.keep [1, 2, 3, 8, 9, 10, 11, 12] (.ops [⟨0, some 49, .ldn 3 (.tmp 10), none, []⟩, ⟨1, some 50, .ldn 3 (.tmp 3), none, []⟩, ⟨2, some 51, .call n_w_toPicture [.tmp 50], none, [(some 49, .ldn 3 (.tmp 10), none)]⟩, ⟨3, some 52, .call n_w_eqPicture [.tmp 49, .tmp 51], none, []⟩, ⟨4, some 53, .un .not (.tmp 52), none, []⟩]))
  (.cond (.tmp 53) (.seq (.keep [] (.ops [⟨0, some 6, .mv (.const (.bool false)), none, []⟩]))
  (.ret)) (.skip)))
  (.seq (.keep [1, 2, 3, 8, 9, 10, 11, 12] (.ops [⟨0, some 13, .mv (.const (.int .i64 1)), none, []⟩]))
  (.seq (.ops [⟨0, some 54, .ldn 3 (.tmp 10), none, []⟩, ⟨1, some 55, .mv (.tmp 13), none, []⟩, ⟨2, some 56, .call n_w_markPicture [.tmp 54, .tmp 55], none, []⟩, ⟨3, some 13, .mv (.tmp 56), none, []⟩])
  (.seq (.seq (.ops [⟨0, some 57, .mv (.tmp 13), none, []⟩, ⟨1, some 58, .bin .lss (.tmp 57) (.const (.int .i64 0)), none, []⟩, ⟨2, some 59, .mv (.tmp 58), none, []⟩, ⟨3, some 60, .ldn 3 (.tmp 11), (some (59, false)), []⟩, ⟨4, some 61, .ldn 3 (.tmp 8), (some (59, false)), []⟩, ⟨5, some 62, .call n_w_eqPicture [.tmp 60, .tmp 61], (some (59, false)), []⟩, ⟨6, some 63, .un .not (.tmp 62), (some (59, false)), []⟩, ⟨7, some 64, .pick (.tmp 59) (.const (.bool true)) (.tmp 63), none, []⟩, ⟨8, some 65, .mv (.tmp 64), none, []⟩, ⟨9, some 66, .mv (.tmp 12), (some (65, false)), []⟩, ⟨10, some 67, .mv (.tmp 9), (some (65, false)), []⟩, ⟨11, some 68, .beq true (.tmp 66) (.tmp 67), (some (65, false)), []⟩, ⟨12, some 69, .pick (.tmp 65) (.const (.bool true)) (.tmp 68), none, []⟩])
  (.cond (.tmp 69) (.seq (.keep [] (.ops [⟨0, some 6, .mv (.const (.bool false)), none, []⟩]))
  (.ret)) (.skip)))
  (.seq (.keep [1, 2, 3, 8, 9, 11] (.ops [⟨0, some 14, .mv (.const (.int .i64 1)), none, []⟩]))
  (.seq (.ops [⟨0, some 70, .ldn 3 (.tmp 11), none, []⟩, ⟨1, some 71, .mv (.tmp 14), none, []⟩, ⟨2, some 72, .call n_w_markPicture [.tmp 70, .tmp 71], none, []⟩, ⟨3, some 14, .mv (.tmp 72), none, []⟩])
  (.seq (.ops [⟨0, some 15, .mv (.const (.int .i64 1)), none, []⟩])
  (.seq (.ops [⟨0, some 73, .ldn 3 (.tmp 11), none, []⟩, ⟨1, some 74, .mv (.tmp 15), none, []⟩, ⟨2, some 75, .call n_w_heldPicture [.tmp 73, .tmp 74], none, []⟩, ⟨3, some 15, .mv (.tmp 75), none, []⟩])
  (.seq (.seq (.keep [1, 2, 3, 8, 9, 11, 14, 15] (.ops [⟨0, some 76, .mv (.tmp 15), none, []⟩, ⟨1, some 77, .bin .lss (.tmp 76) (.const (.int .i64 0)), none, []⟩]))
  (.cond (.tmp 77) (.seq (.keep [] (.ops [⟨0, some 6, .mv (.const (.bool false)), none, []⟩]))
  (.ret)) (.skip)))
  (.seq (.seq (.ops [⟨0, some 78, .mv (.tmp 15), none, []⟩, ⟨1, some 79, .mv (.tmp 14), none, []⟩, ⟨2, some 80, .bin .neq (.tmp 78) (.tmp 79), none, []⟩])
  (.cond (.tmp 80) (.seq (.keep [] (.ops [⟨0, some 6, .mv (.const (.bool false)), none, []⟩]))
  (.ret)) (.skip)))
  (.seq (.keep [1, 2, 3, 8, 9, 11, 14] (.ops [⟨0, some 82, .ldn 3 (.tmp 3), none, []⟩, ⟨1, some 83, .call n_w_toPicture [.tmp 82], none, []⟩, ⟨2, some 84, .mv (.tmp 1), none, []⟩, ⟨3, some 85, .mv (.tmp 2), none, []⟩, ⟨4, some 86, .call n_i_SoftPicture [.tmp 83, .tmp 84, .tmp 85], none, []⟩, ⟨5, some 81, .mv (.tmp 86), none, []⟩, ⟨6, some 87, .ext (.tmp 81) 0, none, []⟩, ⟨7, some 88, .ext (.tmp 81) 1, none, []⟩, ⟨8, some 16, .new 36 [.int .i64 0, .int .i64 0, .slice none 0 0], none, []⟩, ⟨9, none, .stn 3 (.tmp 16) (.tmp 87), none, []⟩, ⟨10, some 17, .mv (.tmp 88), none, []⟩]))
  (.seq (.seq (.keep [8, 9, 11, 14, 16, 17] (.ops [⟨0, some 89, .ldn 3 (.tmp 16), none, []⟩, ⟨1, some 90, .ldn 3 (.tmp 8), none, []⟩, ⟨2, some 91, .call n_w_eqPicture [.tmp 89, .tmp 90], none, []⟩, ⟨3, some 92, .un .not (.tmp 91), none, []⟩, ⟨4, some 93, .mv (.tmp 92), none, []⟩, ⟨5, some 94, .mv (.tmp 17), (some (93, false)), []⟩, ⟨6, some 95, .mv (.tmp 9), (some (93, false)), []⟩, ⟨7, some 96, .beq true (.tmp 94) (.tmp 95), (some (93, false)), []⟩, ⟨8, some 97, .pick (.tmp 93) (.const (.bool true)) (.tmp 96), none, []⟩]))
  (.cond (.tmp 97) (.seq (.keep [] (.ops [⟨0, some 6, .mv (.const (.bool false)), none, []⟩]))
  (.ret)) (.skip)))
  (.seq (.keep [11, 14] (.ops [⟨0, some 15, .mv (.const (.int .i64 1)), none, []⟩]))
  (.seq (.ops [⟨0, some 98, .ldn 3 (.tmp 11), none, []⟩, ⟨1, some 99, .mv (.tmp 15), none, []⟩, ⟨2, some 100, .call n_w_heldPicture [.tmp 98, .tmp 99], none, []⟩, ⟨3, some 15, .mv (.tmp 100), none, []⟩])
  (.seq (.seq (.ops [⟨0, some 101, .mv (.tmp 15), none, []⟩, ⟨1, some 102, .bin .lss (.tmp 101) (.const (.int .i64 0)), none, []⟩])
  (.cond (.tmp 102) (.seq (.keep [] (.ops [⟨0, some 6, .mv (.const (.bool false)), none, []⟩]))
  (.ret)) (.skip)))
  (.seq (.seq (.keep [14, 15] (.ops [⟨0, some 103, .mv (.tmp 15), none, []⟩, ⟨1, some 104, .mv (.tmp 14), none, []⟩, ⟨2, some 105, .bin .neq (.tmp 103) (.tmp 104), none, []⟩]))
  (.cond (.tmp 105) (.seq (.keep [] (.ops [⟨0, some 6, .mv (.const (.bool false)), none, []⟩]))
  (.ret)) (.skip)))
  (.seq (.keep [] (.ops [⟨0, some 6, .mv (.const (.bool true)), none, []⟩]))
  (.ret)))))))))))))))))))))))))
theorem k_w_FnExactSoftPicture : FnOk Try.prog n_w_FnExactSoftPicture 3 c_w_FnExactSoftPicture [.tmp 6] := ⟨by kernel_rfl⟩
def c_w_toFloat32S : ACode :=
  .seq (.ops [⟨0, some 2, .mv (.const (.slice none 0 0)), none, []⟩])
  (.seq (.ops [⟨0, some 5, .mv (.tmp 0), none, []⟩, ⟨1, some 6, .len (.tmp 5), none, []⟩, ⟨2, some 7, .mks 34 4 (.float .f32 0) (.tmp 6) (.tmp 6), none, []⟩, ⟨3, some 3, .mv (.tmp 7), none, []⟩])
  (.seq (.seq (.ops [⟨0, some 4, .mv (.const (.int .i64 0)), none, []⟩])
  (.block 0 (.loop [0, 3, 4] (.seq (.seq (.ops [⟨0, some 8, .mv (.tmp 4), none, []⟩, ⟨1, some 9, .mv (.tmp 0), none, []⟩, ⟨2, some 10, .len (.tmp 9), none, []⟩, ⟨3, some 11, .bin .lss (.tmp 8) (.tmp 10), none, []⟩])
  (.cond (.tmp 11) (.skip) (.exit 0)))
  (.seq (.block 1 (.ops [⟨0, some 14, .mv (.tmp 3), none, []⟩, ⟨1, some 15, .mv (.tmp 4), none, []⟩, ⟨2, some 16, .mv (.tmp 0), none, []⟩, ⟨3, some 17, .mv (.tmp 4), none, []⟩, ⟨4, some 18, .ia (.tmp 16) (.tmp 17), none, []⟩, ⟨5, some 19, .ld (.tmp 18), none, []⟩, ⟨6, some 20, .ia (.tmp 14) (.tmp 15), none, []⟩, ⟨7, none, .st (.tmp 20) (.tmp 19), none, []⟩]))
  (.keep [0, 3, 4] (.ops [⟨0, some 12, .mv (.tmp 4), none, []⟩, ⟨1, some 13, .bin .add (.tmp 12) (.const (.int .i64 1)), none, []⟩, ⟨2, some 4, .mv (.tmp 13), none, []⟩])))))))
  (.seq (.keep [3] (.ops [⟨0, some 21, .mv (.tmp 3), none, []⟩, ⟨1, some 2, .mv (.tmp 21), none, []⟩]))
  (.ret))))
theorem k_w_toFloat32S : FnOk Try.prog n_w_toFloat32S 1 c_w_toFloat32S [.tmp 2] := ⟨by kernel_rfl⟩
def c_w_eqFloat32S : ACode :=
  .seq (.ops [⟨0, some 4, .mv (.const (.bool false)), none, []⟩])
  (.seq (.seq (.ops [⟨0, some 6, .mv (.tmp 0), none, []⟩, ⟨1, some 7, .len (.tmp 6), none, []⟩, ⟨2, some 8, .mv (.tmp 1), none, []⟩, ⟨3, some 9, .len (.tmp 8), none, []⟩, ⟨4, some 10, .bin .neq (.tmp 7) (.tmp 9), none, []⟩])
  (.cond (.tmp 10) (.seq (.keep [] (.ops [⟨0, some 4, .mv (.const (.bool false)), none, []⟩]))
  (.ret)) (.skip)))
  (.seq (.seq (.keep [0, 1] (.ops [⟨0, some 5, .mv (.const (.int .i64 0)), none, []⟩]))
  (.block 0 (.loop [0, 1, 5] (.seq (.seq (.ops [⟨0, some 11, .mv (.tmp 5), none, []⟩, ⟨1, some 12, .mv (.tmp 0), none, []⟩, ⟨2, some 13, .len (.tmp 12), none, []⟩, ⟨3, some 14, .bin .lss (.tmp 11) (.tmp 13), none, []⟩])
  (.cond (.tmp 14) (.skip) (.exit 0)))
  (.seq (.block 1 (.seq (.ops [⟨0, some 17, .mv (.tmp 0), none, []⟩, ⟨1, some 18, .mv (.tmp 5), none, []⟩, ⟨2, some 19, .ia (.tmp 17) (.tmp 18), none, []⟩, ⟨3, some 20, .ld (.tmp 19), none, []⟩, ⟨4, some 21, .cv (.f .f64) (.tmp 20), none, []⟩, ⟨5, some 22, .mv (.tmp 1), none, []⟩, ⟨6, some 23, .mv (.tmp 5), none, []⟩, ⟨7, some 24, .ia (.tmp 22) (.tmp 23), none, []⟩, ⟨8, some 25, .ld (.tmp 24), none, []⟩, ⟨9, some 26, .cv (.f .f64) (.tmp 25), none, []⟩, ⟨10, some 27, .call n_w_sameFloat [.tmp 21, .tmp 26], none, []⟩, ⟨11, some 28, .un .not (.tmp 27), none, []⟩])
  (.cond (.tmp 28) (.seq (.keep [] (.ops [⟨0, some 4, .mv (.const (.bool false)), none, []⟩]))
  (.ret)) (.skip))))
  (.keep [0, 1, 5] (.ops [⟨0, some 15, .mv (.tmp 5), none, []⟩, ⟨1, some 16, .bin .add (.tmp 15) (.const (.int .i64 1)), none, []⟩, ⟨2, some 5, .mv (.tmp 16), none, []⟩])))))))
  (.seq (.keep [] (.ops [⟨0, some 4, .mv (.const (.bool true)), none, []⟩]))
  (.ret))))
theorem k_w_eqFloat32S : FnOk Try.prog n_w_eqFloat32S 2 c_w_eqFloat32S [.tmp 4] := ⟨by kernel_rfl⟩
def c_w_markFloat32S : ACode :=
  .seq (.ops [⟨0, some 4, .mv (.const (.int .i64 0)), none, []⟩])
  (.seq (.seq (.ops [⟨0, some 5, .mv (.const (.int .i64 0)), none, []⟩])
  (.block 0 (.loop [0, 1, 5] (.seq (.seq (.ops [⟨0, some 6, .mv (.tmp 5), none, []⟩, ⟨1, some 7, .mv (.tmp 0), none, []⟩, ⟨2, some 8, .len (.tmp 7), none, []⟩, ⟨3, some 9, .bin .lss (.tmp 6) (.tmp 8), none, []⟩])
  (.cond (.tmp 9) (.skip) (.exit 0)))
  (.seq (.block 1 (.seq (.ops [⟨0, some 12, .mv (.tmp 0), none, []⟩, ⟨1, some 13, .mv (.tmp 5), none, []⟩, ⟨2, some 14, .mv (.tmp 1), none, []⟩, ⟨3, some 15, .cv (.f .f32) (.tmp 14), none, []⟩, ⟨4, some 16, .ia (.tmp 12) (.tmp 13), none, []⟩, ⟨5, none, .st (.tmp 16) (.tmp 15), none, []⟩])
  (.keep [0, 1, 5] (.ops [⟨0, some 17, .mv (.tmp 1), none, []⟩, ⟨1, some 18, .bin .add (.tmp 17) (.const (.int .i64 1)), none, []⟩, ⟨2, some 1, .mv (.tmp 18), none, []⟩]))))
  (.ops [⟨0, some 10, .mv (.tmp 5), none, []⟩, ⟨1, some 11, .bin .add (.tmp 10) (.const (.int .i64 1)), none, []⟩, ⟨2, some 5, .mv (.tmp 11), none, []⟩]))))))
  (.seq (.keep [1] (.ops [⟨0, some 19, .mv (.tmp 1), none, []⟩, ⟨1, some 4, .mv (.tmp 19), none, []⟩]))
  (.ret)))
theorem k_w_markFloat32S : FnOk Try.prog n_w_markFloat32S 2 c_w_markFloat32S [.tmp 4] := ⟨by kernel_rfl⟩
def c_w_szPicture : ACode :=
  .seq (.ops [⟨0, some 2, .box 33 (.tmp 0), none, []⟩, ⟨1, some 4, .mv (.const (.int .i64 0)), none, []⟩])
  (.seq (.ops [⟨0, some 5, .fa 2 (.tmp 2), none, []⟩, ⟨1, some 6, .ld (.tmp 5), none, []⟩, ⟨2, some 7, .mv (.tmp 1), none, []⟩, ⟨3, some 8, .call n_w_szFloat32S [.tmp 6, .tmp 7], none, []⟩, ⟨4, some 1, .mv (.tmp 8), none, []⟩])
  (.seq (.seq (.keep [1] (.ops [⟨0, some 9, .mv (.tmp 1), none, []⟩, ⟨1, some 10, .bin .lss (.tmp 9) (.const (.int .i64 0)), none, []⟩]))
  (.cond (.tmp 10) (.seq (.ops [⟨0, some 4, .mv (.const (.int .i64 (-1))), none, []⟩])
  (.ret)) (.skip)))
  (.seq (.ops [⟨0, some 11, .mv (.tmp 1), none, []⟩, ⟨1, some 4, .mv (.tmp 11), none, []⟩])
  (.ret))))
theorem k_w_szPicture : FnOk Try.prog n_w_szPicture 2 c_w_szPicture [.tmp 4] := ⟨by kernel_rfl⟩
def c_s_SoftPicture : ACode :=
  .seq (.ops [⟨0, some 3, .box 36 (.tmp 0), none, []⟩, ⟨1, some 6, .new 36 [.int .i64 0, .int .i64 0, .slice none 0 0], none, []⟩, ⟨2, some 7, .mv (.const (.bool false)), none, []⟩])
  (.seq (.seq (.ops [⟨0, some 11, .call n_s_l04Is [.tmp 3], none, []⟩, ⟨1, some 12, .un .not (.tmp 11), none, []⟩, ⟨2, some 13, .mv (.tmp 12), none, []⟩, ⟨3, some 14, .mv (.tmp 1), (some (13, false)), []⟩, ⟨4, some 15, .call n_s_l04Levels [.tmp 14], (some (13, false)), []⟩, ⟨5, some 16, .un .not (.tmp 15), (some (13, false)), []⟩, ⟨6, some 17, .pick (.tmp 13) (.const (.bool true)) (.tmp 16), none, []⟩, ⟨7, some 18, .mv (.tmp 17), none, []⟩, ⟨8, some 19, .mv (.tmp 2), (some (18, false)), []⟩, ⟨9, some 20, .call n_s_l02Least [.tmp 19], (some (18, false)), []⟩, ⟨10, some 21, .un .not (.tmp 20), (some (18, false)), []⟩, ⟨11, some 22, .pick (.tmp 18) (.const (.bool true)) (.tmp 21), none, []⟩])
  (.cond (.tmp 22) (.seq (.keep [6] (.ops [⟨0, some 23, .bld [.int .i64 0, .int .i64 0, .slice none 0 0] [], none, []⟩, ⟨1, none, .stn 3 (.tmp 6) (.tmp 23), none, []⟩, ⟨2, some 7, .mv (.const (.bool false)), none, []⟩]))
  (.ret)) (.skip)))
  (.seq (.keep [1, 2, 3, 6] (.ops [⟨0, some 24, .call n_s_l04Own [.tmp 3], none, []⟩, ⟨1, some 8, .new 36 [.int .i64 0, .int .i64 0, .slice none 0 0], none, []⟩, ⟨2, none, .stn 3 (.tmp 8) (.tmp 24), none, []⟩]))
  (.seq (.seq (.ops [⟨0, some 9, .mv (.const (.int .i64 0)), none, []⟩])
  (.block 0 (.loop [1, 2, 3, 6, 8, 9] (.seq (.seq (.ops [⟨0, some 25, .mv (.tmp 9), none, []⟩, ⟨1, some 26, .fa 0 (.tmp 3), none, []⟩, ⟨2, some 27, .ld (.tmp 26), none, []⟩, ⟨3, some 28, .fa 1 (.tmp 3), none, []⟩, ⟨4, some 29, .ld (.tmp 28), none, []⟩, ⟨5, some 30, .bin .mul (.tmp 27) (.tmp 29), none, []⟩, ⟨6, some 31, .bin .lss (.tmp 25) (.tmp 30), none, []⟩])
  (.cond (.tmp 31) (.skip) (.exit 0)))
  (.seq (.block 1 (.seq (.seq (.keep [1, 2, 3, 6, 8, 9] (.ops [⟨0, some 34, .mv (.tmp 1), none, []⟩, ⟨1, some 35, .mv (.tmp 9), none, []⟩, ⟨2, some 36, .call n_s_l04Coarse [.tmp 3, .tmp 34, .tmp 35], none, []⟩]))
  (.cond (.tmp 36) (.exit 1) (.skip)))
  (.seq (.ops [⟨0, some 37, .fa 2 (.tmp 3), none, []⟩, ⟨1, some 38, .ld (.tmp 37), none, []⟩, ⟨2, some 39, .mv (.tmp 9), none, []⟩, ⟨3, some 40, .ia (.tmp 38) (.tmp 39), none, []⟩, ⟨4, some 41, .ld (.tmp 40), none, []⟩, ⟨5, some 10, .mv (.tmp 41), none, []⟩])
  (.seq (.keep [1, 2, 3, 6, 8, 9, 10] (.ops [⟨0, some 42, .fa 2 (.tmp 8), none, []⟩, ⟨1, some 43, .ld (.tmp 42), none, []⟩, ⟨2, some 44, .mv (.tmp 9), none, []⟩, ⟨3, some 45, .ia (.tmp 43) (.tmp 44), none, []⟩, ⟨4, none, .st (.tmp 45) (.const (.float .f32 0)), none, []⟩]))
  (.seq (.seq (.ops [⟨0, some 46, .mv (.tmp 10), none, []⟩, ⟨1, some 47, .mv (.tmp 2), none, []⟩, ⟨2, some 48, .bin .gtr (.tmp 46) (.tmp 47), none, []⟩])
  (.cond (.tmp 48) (.keep [1, 2, 3, 6, 8, 9, 10] (.ops [⟨0, some 49, .fa 2 (.tmp 8), none, []⟩, ⟨1, some 50, .ld (.tmp 49), none, []⟩, ⟨2, some 51, .mv (.tmp 9), none, []⟩, ⟨3, some 52, .mv (.tmp 10), none, []⟩, ⟨4, some 53, .mv (.tmp 2), none, []⟩, ⟨5, some 54, .bin .sub (.tmp 52) (.tmp 53), none, []⟩, ⟨6, some 55, .ia (.tmp 50) (.tmp 51), none, []⟩, ⟨7, none, .st (.tmp 55) (.tmp 54), none, []⟩])) (.skip)))
  (.seq (.keep [1, 2, 3, 6, 8, 9, 10] (.ops [⟨0, some 56, .mv (.tmp 10), none, []⟩, ⟨1, some 57, .mv (.tmp 2), none, []⟩, ⟨2, some 58, .un .neg (.tmp 57), none, []⟩, ⟨3, some 59, .bin .lss (.tmp 56) (.tmp 58), none, []⟩]))
  (.cond (.tmp 59) (.ops [⟨0, some 60, .fa 2 (.tmp 8), none, []⟩, ⟨1, some 61, .ld (.tmp 60), none, []⟩, ⟨2, some 62, .mv (.tmp 9), none, []⟩, ⟨3, some 63, .mv (.tmp 10), none, []⟩, ⟨4, some 64, .mv (.tmp 2), none, []⟩, ⟨5, some 65, .bin .add (.tmp 63) (.tmp 64), none, []⟩, ⟨6, some 66, .ia (.tmp 61) (.tmp 62), none, []⟩, ⟨7, none, .st (.tmp 66) (.tmp 65), none, []⟩]) (.skip))))))))
  (.keep [1, 2, 3, 6, 8, 9] (.ops [⟨0, some 32, .mv (.tmp 9), none, []⟩, ⟨1, some 33, .bin .add (.tmp 32) (.const (.int .i64 1)), none, []⟩, ⟨2, some 9, .mv (.tmp 33), none, []⟩])))))))
  (.seq (.keep [6, 8] (.ops [⟨0, some 67, .ldn 3 (.tmp 8), none, []⟩, ⟨1, none, .stn 3 (.tmp 6) (.tmp 67), none, []⟩, ⟨2, some 7, .mv (.const (.bool true)), none, []⟩]))
  (.ret)))))
theorem k_s_SoftPicture : FnOk Try.prog n_s_SoftPicture 3 c_s_SoftPicture [.celln 6 3, .tmp 7] := ⟨by kernel_rfl⟩
def c_w_toPicture : ACode :=
  .seq (.ops [⟨0, some 1, .box 33 (.tmp 0), none, []⟩, ⟨1, some 2, .new 36 [.int .i64 0, .int .i64 0, .slice none 0 0], none, []⟩])
  (.seq (.ops [⟨0, some 3, .new 36 [.int .i64 0, .int .i64 0, .slice none 0 0], none, []⟩])
  (.seq (.ops [⟨0, some 4, .fa 0 (.tmp 1), none, []⟩, ⟨1, some 5, .ld (.tmp 4), none, []⟩, ⟨2, some 6, .fa 0 (.tmp 3), none, []⟩, ⟨3, none, .st (.tmp 6) (.tmp 5), none, []⟩])
  (.seq (.ops [⟨0, some 7, .fa 1 (.tmp 1), none, []⟩, ⟨1, some 8, .ld (.tmp 7), none, []⟩, ⟨2, some 9, .fa 1 (.tmp 3), none, []⟩, ⟨3, none, .st (.tmp 9) (.tmp 8), none, []⟩])
  (.seq (.keep [1, 2, 3] (.ops [⟨0, some 10, .fa 2 (.tmp 1), none, []⟩, ⟨1, some 11, .ld (.tmp 10), none, []⟩, ⟨2, some 12, .call n_w_toFloat32S [.tmp 11], none, []⟩, ⟨3, some 13, .fa 2 (.tmp 3), none, []⟩, ⟨4, none, .st (.tmp 13) (.tmp 12), none, []⟩]))
  (.seq (.keep [2, 3] (.ops [⟨0, some 14, .ldn 3 (.tmp 3), none, []⟩, ⟨1, none, .stn 3 (.tmp 2) (.tmp 14), none, []⟩]))
  (.ret))))))
theorem k_w_toPicture : FnOk Try.prog n_w_toPicture 1 c_w_toPicture [.celln 2 3] := ⟨by kernel_rfl⟩
def c_i_SoftPicture : ACode :=
  .seq (.ops [⟨0, some 3, .box 36 (.tmp 0), none, []⟩, ⟨1, some 5, .box 34 (.tmp 2), none, []⟩, ⟨2, some 6, .new 36 [.int .i64 0, .int .i64 0, .slice none 0 0], none, []⟩, ⟨3, some 7, .mv (.const (.bool false)), none, []⟩])
  (.seq (.seq (.ops [⟨0, some 8, .ld (.tmp 5), none, []⟩, ⟨1, some 9, .call n_i_isLeast [.tmp 8], none, []⟩, ⟨2, some 10, .un .not (.tmp 9), none, []⟩])
  (.cond (.tmp 10) (.seq (.keep [6] (.ops [⟨0, some 11, .bld [.int .i64 0, .int .i64 0, .slice none 0 0] [], none, []⟩, ⟨1, none, .stn 3 (.tmp 6) (.tmp 11), none, []⟩, ⟨2, some 7, .mv (.const (.bool false)), none, []⟩]))
  (.ret)) (.skip)))
  (.seq (.keep [1, 3, 5, 6] (.ops [⟨0, some 12, .ldn 3 (.tmp 3), none, []⟩, ⟨1, some 13, .mv (.tmp 1), none, []⟩, ⟨2, some 14, .mkf (.func n_i_SoftPicture_1) [] [.tmp 5], none, []⟩, ⟨3, some 15, .call n_i_finesBy [.tmp 12, .tmp 13, .tmp 14], none, []⟩, ⟨4, some 16, .ext (.tmp 15) 0, none, []⟩, ⟨5, some 17, .ext (.tmp 15) 1, none, []⟩, ⟨6, none, .stn 3 (.tmp 6) (.tmp 16), none, []⟩, ⟨7, some 7, .mv (.tmp 17), none, []⟩]))
  (.ret)))
theorem k_i_SoftPicture : FnOk Try.prog n_i_SoftPicture 3 c_i_SoftPicture [.celln 6 3, .tmp 7] := ⟨by kernel_rfl⟩
def c_w_eqPicture : ACode :=
  .seq (.ops [⟨0, some 2, .box 36 (.tmp 0), none, []⟩, ⟨1, some 3, .box 36 (.tmp 1), none, []⟩, ⟨2, some 4, .mv (.const (.bool false)), none, []⟩])
  (.seq (.seq (.ops [⟨0, some 5, .fa 0 (.tmp 2), none, []⟩, ⟨1, some 6, .ld (.tmp 5), none, []⟩, ⟨2, some 7, .fa 0 (.tmp 3), none, []⟩, ⟨3, some 8, .ld (.tmp 7), none, []⟩, ⟨4, some 9, .bin .neq (.tmp 6) (.tmp 8), none, []⟩])
  (.cond (.tmp 9) (.seq (.keep [] (.ops [⟨0, some 4, .mv (.const (.bool false)), none, []⟩]))
  (.ret)) (.skip)))
  (.seq (.seq (.keep [2, 3] (.ops [⟨0, some 10, .fa 1 (.tmp 2), none, []⟩, ⟨1, some 11, .ld (.tmp 10), none, []⟩, ⟨2, some 12, .fa 1 (.tmp 3), none, []⟩, ⟨3, some 13, .ld (.tmp 12), none, []⟩, ⟨4, some 14, .bin .neq (.tmp 11) (.tmp 13), none, []⟩]))
  (.cond (.tmp 14) (.seq (.keep [] (.ops [⟨0, some 4, .mv (.const (.bool false)), none, []⟩]))
  (.ret)) (.skip)))
  (.seq (.seq (.keep [2, 3] (.ops [⟨0, some 15, .fa 2 (.tmp 2), none, []⟩, ⟨1, some 16, .ld (.tmp 15), none, []⟩, ⟨2, some 17, .fa 2 (.tmp 3), none, []⟩, ⟨3, some 18, .ld (.tmp 17), none, []⟩, ⟨4, some 19, .call n_w_eqFloat32S [.tmp 16, .tmp 18], none, []⟩, ⟨5, some 20, .un .not (.tmp 19), none, []⟩]))
  (.cond (.tmp 20) (.seq (.keep [] (.ops [⟨0, some 4, .mv (.const (.bool false)), none, []⟩]))
  (.ret)) (.skip)))
  (.seq (.keep [] (.ops [⟨0, some 4, .mv (.const (.bool true)), none, []⟩]))
  (.ret)))))
theorem k_w_eqPicture : FnOk Try.prog n_w_eqPicture 2 c_w_eqPicture [.tmp 4] := ⟨by kernel_rfl⟩
def c_w_markPicture : ACode :=
  .seq (.ops [⟨0, some 2, .box 36 (.tmp 0), none, []⟩, ⟨1, some 4, .mv (.const (.int .i64 0)), none, []⟩])
  (.seq (.ops [⟨0, some 5, .fa 2 (.tmp 2), none, []⟩, ⟨1, some 6, .ld (.tmp 5), none, []⟩, ⟨2, some 7, .mv (.tmp 1), none, []⟩, ⟨3, some 8, .call n_w_markFloat32S [.tmp 6, .tmp 7], none, []⟩, ⟨4, some 1, .mv (.tmp 8), none, []⟩])
  (.seq (.keep [1] (.ops [⟨0, some 9, .mv (.tmp 1), none, []⟩, ⟨1, some 4, .mv (.tmp 9), none, []⟩]))
  (.ret)))
theorem k_w_markPicture : FnOk Try.prog n_w_markPicture 2 c_w_markPicture [.tmp 4] := ⟨by kernel_rfl⟩
def c_w_heldPicture : ACode :=
  .seq (.ops [⟨0, some 2, .box 36 (.tmp 0), none, []⟩, ⟨1, some 4, .mv (.const (.int .i64 0)), none, []⟩])
  (.seq (.ops [⟨0, some 5, .fa 2 (.tmp 2), none, []⟩, ⟨1, some 6, .ld (.tmp 5), none, []⟩, ⟨2, some 7, .mv (.tmp 1), none, []⟩, ⟨3, some 8, .call n_w_heldFloat32S [.tmp 6, .tmp 7], none, []⟩, ⟨4, some 1, .mv (.tmp 8), none, []⟩])
  (.seq (.seq (.keep [1] (.ops [⟨0, some 9, .mv (.tmp 1), none, []⟩, ⟨1, some 10, .bin .lss (.tmp 9) (.const (.int .i64 0)), none, []⟩]))
  (.cond (.tmp 10) (.seq (.ops [⟨0, some 4, .mv (.const (.int .i64 (-1))), none, []⟩])
  (.ret)) (.skip)))
  (.seq (.ops [⟨0, some 11, .mv (.tmp 1), none, []⟩, ⟨1, some 4, .mv (.tmp 11), none, []⟩])
  (.ret))))
theorem k_w_heldPicture : FnOk Try.prog n_w_heldPicture 2 c_w_heldPicture [.tmp 4] := ⟨by kernel_rfl⟩
def c_w_heldFloat32S : ACode :=
  .seq (.ops [⟨0, some 4, .mv (.const (.int .i64 0)), none, []⟩])
  (.seq (.seq (.ops [⟨0, some 5, .mv (.const (.int .i64 0)), none, []⟩])
  (.block 0 (.loop [0, 1, 5] (.seq (.seq (.ops [⟨0, some 6, .mv (.tmp 5), none, []⟩, ⟨1, some 7, .mv (.tmp 0), none, []⟩, ⟨2, some 8, .len (.tmp 7), none, []⟩, ⟨3, some 9, .bin .lss (.tmp 6) (.tmp 8), none, []⟩])
  (.cond (.tmp 9) (.skip) (.exit 0)))
  (.seq (.block 1 (.seq (.seq (.ops [⟨0, some 12, .mv (.tmp 0), none, []⟩, ⟨1, some 13, .mv (.tmp 5), none, []⟩, ⟨2, some 14, .ia (.tmp 12) (.tmp 13), none, []⟩, ⟨3, some 15, .ld (.tmp 14), none, []⟩, ⟨4, some 16, .mv (.tmp 1), none, []⟩, ⟨5, some 17, .cv (.f .f32) (.tmp 16), none, []⟩, ⟨6, some 18, .bin .neq (.tmp 15) (.tmp 17), none, []⟩])
  (.cond (.tmp 18) (.seq (.keep [] (.ops [⟨0, some 4, .mv (.const (.int .i64 (-1))), none, []⟩]))
  (.ret)) (.skip)))
  (.keep [0, 1, 5] (.ops [⟨0, some 19, .mv (.tmp 1), none, []⟩, ⟨1, some 20, .bin .add (.tmp 19) (.const (.int .i64 1)), none, []⟩, ⟨2, some 1, .mv (.tmp 20), none, []⟩]))))
  (.ops [⟨0, some 10, .mv (.tmp 5), none, []⟩, ⟨1, some 11, .bin .add (.tmp 10) (.const (.int .i64 1)), none, []⟩, ⟨2, some 5, .mv (.tmp 11), none, []⟩]))))))
  (.seq (.keep [1] (.ops [⟨0, some 21, .mv (.tmp 1), none, []⟩, ⟨1, some 4, .mv (.tmp 21), none, []⟩]))
  (.ret)))
theorem k_w_heldFloat32S : FnOk Try.prog n_w_heldFloat32S 2 c_w_heldFloat32S [.tmp 4] := ⟨by kernel_rfl⟩
def c_w_sameFloat : ACode :=
  .seq (.ops [⟨0, some 4, .mv (.const (.bool false)), none, []⟩])
  (.seq (.seq (.ops [⟨0, some 5, .mv (.tmp 0), none, []⟩, ⟨1, some 6, .mv (.tmp 0), none, []⟩, ⟨2, some 7, .bin .neq (.tmp 5) (.tmp 6), none, []⟩, ⟨3, some 8, .mv (.tmp 7), none, []⟩, ⟨4, some 9, .mv (.tmp 1), (some (8, false)), []⟩, ⟨5, some 10, .mv (.tmp 1), (some (8, false)), []⟩, ⟨6, some 11, .bin .neq (.tmp 9) (.tmp 10), (some (8, false)), []⟩, ⟨7, some 12, .pick (.tmp 8) (.const (.bool true)) (.tmp 11), none, []⟩])
  (.cond (.tmp 12) (.seq (.keep [0, 1] (.ops [⟨0, some 13, .mv (.tmp 0), none, []⟩, ⟨1, some 14, .mv (.tmp 0), none, []⟩, ⟨2, some 15, .bin .neq (.tmp 13) (.tmp 14), none, []⟩, ⟨3, some 16, .mv (.tmp 15), none, []⟩, ⟨4, some 17, .mv (.tmp 1), (some (16, true)), []⟩, ⟨5, some 18, .mv (.tmp 1), (some (16, true)), []⟩, ⟨6, some 19, .bin .neq (.tmp 17) (.tmp 18), (some (16, true)), []⟩, ⟨7, some 20, .pick (.tmp 16) (.tmp 19) (.const (.bool false)), none, []⟩, ⟨8, some 4, .mv (.tmp 20), none, []⟩]))
  (.ret)) (.skip)))
  (.seq (.seq (.keep [0, 1] (.ops [⟨0, some 21, .mv (.tmp 0), none, []⟩, ⟨1, some 22, .bin .eql (.tmp 21) (.const (.float .f64 0)), none, []⟩, ⟨2, some 23, .mv (.tmp 22), none, []⟩, ⟨3, some 24, .mv (.tmp 1), (some (23, true)), []⟩, ⟨4, some 25, .bin .eql (.tmp 24) (.const (.float .f64 0)), (some (23, true)), []⟩, ⟨5, some 26, .pick (.tmp 23) (.tmp 25) (.const (.bool false)), none, []⟩]))
  (.cond (.tmp 26) (.seq (.keep [0, 1] (.ops [⟨0, some 27, .mv (.tmp 0), none, []⟩, ⟨1, some 28, .bin .quo (.const (.float .f64 4607182418800017408)) (.tmp 27), none, []⟩, ⟨2, some 29, .bin .gtr (.tmp 28) (.const (.float .f64 0)), none, []⟩, ⟨3, some 30, .mv (.tmp 1), none, []⟩, ⟨4, some 31, .bin .quo (.const (.float .f64 4607182418800017408)) (.tmp 30), none, []⟩, ⟨5, some 32, .bin .gtr (.tmp 31) (.const (.float .f64 0)), none, []⟩, ⟨6, some 33, .beq false (.tmp 29) (.tmp 32), none, []⟩, ⟨7, some 4, .mv (.tmp 33), none, []⟩]))
  (.ret)) (.skip)))
  (.seq (.keep [0, 1] (.ops [⟨0, some 34, .mv (.tmp 0), none, []⟩, ⟨1, some 35, .mv (.tmp 1), none, []⟩, ⟨2, some 36, .bin .eql (.tmp 34) (.tmp 35), none, []⟩, ⟨3, some 4, .mv (.tmp 36), none, []⟩]))
  (.ret))))
theorem k_w_sameFloat : FnOk Try.prog n_w_sameFloat 2 c_w_sameFloat [.tmp 4] := ⟨by kernel_rfl⟩
def c_s_l00In : ACode :=
  .seq (.ops [⟨0, some 6, .mv (.const (.bool false)), none, []⟩])
  (.seq (.ops [⟨0, some 7, .mv (.tmp 0), none, []⟩, ⟨1, some 8, .mv (.tmp 1), none, []⟩, ⟨2, some 9, .bin .geq (.tmp 7) (.tmp 8), none, []⟩, ⟨3, some 10, .mv (.tmp 9), none, []⟩, ⟨4, some 11, .mv (.tmp 0), (some (10, true)), []⟩, ⟨5, some 12, .mv (.tmp 2), (some (10, true)), []⟩, ⟨6, some 13, .bin .leq (.tmp 11) (.tmp 12), (some (10, true)), []⟩, ⟨7, some 14, .pick (.tmp 10) (.tmp 13) (.const (.bool false)), none, []⟩, ⟨8, some 6, .mv (.tmp 14), none, []⟩])
  (.ret))
theorem k_s_l00In : FnOk Try.prog n_s_l00In 3 c_s_l00In [.tmp 6] := ⟨by kernel_rfl⟩
def c_s_l02Finite : ACode :=
  .seq (.ops [⟨0, some 2, .mv (.const (.bool false)), none, []⟩])
  (.seq (.seq (.ops [⟨0, some 3, .mv (.const (.int .i64 0)), none, []⟩])
  (.block 0 (.loop [0, 3] (.seq (.seq (.ops [⟨0, some 4, .mv (.tmp 3), none, []⟩, ⟨1, some 5, .mv (.tmp 0), none, []⟩, ⟨2, some 6, .len (.tmp 5), none, []⟩, ⟨3, some 7, .bin .lss (.tmp 4) (.tmp 6), none, []⟩])
  (.cond (.tmp 7) (.skip) (.exit 0)))
  (.seq (.block 1 (.seq (.ops [⟨0, some 10, .mv (.tmp 0), none, []⟩, ⟨1, some 11, .mv (.tmp 3), none, []⟩, ⟨2, some 12, .ia (.tmp 10) (.tmp 11), none, []⟩, ⟨3, some 13, .ld (.tmp 12), none, []⟩, ⟨4, some 14, .call n_s_l01Finite [.tmp 13], none, []⟩, ⟨5, some 15, .un .not (.tmp 14), none, []⟩])
  (.cond (.tmp 15) (.seq (.keep [] (.ops [⟨0, some 2, .mv (.const (.bool false)), none, []⟩]))
  (.ret)) (.skip))))
  (.keep [0, 3] (.ops [⟨0, some 8, .mv (.tmp 3), none, []⟩, ⟨1, some 9, .bin .add (.tmp 8) (.const (.int .i64 1)), none, []⟩, ⟨2, some 3, .mv (.tmp 9), none, []⟩])))))))
  (.seq (.keep [] (.ops [⟨0, some 2, .mv (.const (.bool true)), none, []⟩]))
  (.ret)))
theorem k_s_l02Finite : FnOk Try.prog n_s_l02Finite 1 c_s_l02Finite [.tmp 2] := ⟨by kernel_rfl⟩
def c_i_within : ACode :=
  .seq (.ops [⟨0, some 6, .mv (.const (.bool false)), none, []⟩])
  (.seq (.ops [⟨0, some 7, .mv (.tmp 0), none, []⟩, ⟨1, some 8, .mv (.tmp 1), none, []⟩, ⟨2, some 9, .bin .geq (.tmp 7) (.tmp 8), none, []⟩, ⟨3, some 10, .mv (.tmp 9), none, []⟩, ⟨4, some 11, .mv (.tmp 0), (some (10, true)), []⟩, ⟨5, some 12, .mv (.tmp 2), (some (10, true)), []⟩, ⟨6, some 13, .bin .leq (.tmp 11) (.tmp 12), (some (10, true)), []⟩, ⟨7, some 14, .pick (.tmp 10) (.tmp 13) (.const (.bool false)), none, []⟩, ⟨8, some 6, .mv (.tmp 14), none, []⟩])
  (.ret))
theorem k_i_within : FnOk Try.prog n_i_within 3 c_i_within [.tmp 6] := ⟨by kernel_rfl⟩
def c_i_copyOf : ACode :=
  .seq (.ops [⟨0, some 2, .mv (.const (.slice none 0 0)), none, []⟩])
  (.seq (.ops [⟨0, some 3, .bsl 34 0 (.float .f32 0) [], none, []⟩, ⟨1, some 4, .mv (.tmp 0), none, []⟩, ⟨2, some 5, .app 34 4 (.tmp 3) (.tmp 4), none, []⟩, ⟨3, some 2, .mv (.tmp 5), none, []⟩])
  (.ret))
theorem k_i_copyOf : FnOk Try.prog n_i_copyOf 1 c_i_copyOf [.tmp 2] := ⟨by kernel_rfl⟩
def c_w_szFloat32S : ACode :=
  .seq (.ops [⟨0, some 4, .mv (.const (.int .i64 0)), none, []⟩])
  (.seq (.ops [⟨0, some 5, .mv (.tmp 1), none, []⟩, ⟨1, some 6, .mv (.tmp 0), none, []⟩, ⟨2, some 7, .len (.tmp 6), none, []⟩, ⟨3, some 8, .bin .sub (.tmp 5) (.tmp 7), none, []⟩, ⟨4, some 1, .mv (.tmp 8), none, []⟩])
  (.seq (.seq (.keep [1] (.ops [⟨0, some 9, .mv (.tmp 1), none, []⟩, ⟨1, some 10, .bin .lss (.tmp 9) (.const (.int .i64 0)), none, []⟩]))
  (.cond (.tmp 10) (.seq (.ops [⟨0, some 4, .mv (.const (.int .i64 (-1))), none, []⟩])
  (.ret)) (.skip)))
  (.seq (.ops [⟨0, some 11, .mv (.tmp 1), none, []⟩, ⟨1, some 4, .mv (.tmp 11), none, []⟩])
  (.ret))))
theorem k_w_szFloat32S : FnOk Try.prog n_w_szFloat32S 2 c_w_szFloat32S [.tmp 4] := ⟨by kernel_rfl⟩
def c_s_l04Is : ACode :=
  .seq (.ops [⟨0, some 2, .mv (.const (.bool false)), none, []⟩])
  (.seq (.ops [⟨0, some 3, .mv (.tmp 0), none, []⟩, ⟨1, some 4, .nc (.tmp 3), none, []⟩, ⟨2, some 5, .fa 0 (.tmp 4), none, []⟩, ⟨3, some 6, .ld (.tmp 5), none, []⟩, ⟨4, some 7, .mv (.tmp 0), none, []⟩, ⟨5, some 8, .nc (.tmp 7), none, []⟩, ⟨6, some 9, .fa 1 (.tmp 8), none, []⟩, ⟨7, some 10, .ld (.tmp 9), none, []⟩, ⟨8, some 11, .call n_s_l04Sides [.tmp 6, .tmp 10], none, []⟩, ⟨9, some 12, .mv (.tmp 11), none, []⟩, ⟨10, some 13, .mv (.tmp 0), (some (12, true)), []⟩, ⟨11, some 14, .nc (.tmp 13), (some (12, true)), []⟩, ⟨12, some 15, .fa 2 (.tmp 14), (some (12, true)), []⟩, ⟨13, some 16, .ld (.tmp 15), (some (12, true)), []⟩, ⟨14, some 17, .len (.tmp 16), (some (12, true)), []⟩, ⟨15, some 18, .mv (.tmp 0), (some (12, true)), []⟩, ⟨16, some 19, .nc (.tmp 18), (some (12, true)), []⟩, ⟨17, some 20, .fa 0 (.tmp 19), (some (12, true)), []⟩, ⟨18, some 21, .ld (.tmp 20), (some (12, true)), []⟩, ⟨19, some 22, .mv (.tmp 0), (some (12, true)), []⟩, ⟨20, some 23, .nc (.tmp 22), (some (12, true)), []⟩, ⟨21, some 24, .fa 1 (.tmp 23), (some (12, true)), []⟩, ⟨22, some 25, .ld (.tmp 24), (some (12, true)), []⟩, ⟨23, some 26, .bin .mul (.tmp 21) (.tmp 25), (some (12, true)), []⟩, ⟨24, some 27, .bin .eql (.tmp 17) (.tmp 26), (some (12, true)), []⟩, ⟨25, some 28, .pick (.tmp 12) (.tmp 27) (.const (.bool false)), none, []⟩, ⟨26, some 29, .mv (.tmp 28), none, []⟩, ⟨27, some 30, .mv (.tmp 0), (some (29, true)), []⟩, ⟨28, some 31, .nc (.tmp 30), (some (29, true)), []⟩, ⟨29, some 32, .fa 2 (.tmp 31), (some (29, true)), []⟩, ⟨30, some 33, .ld (.tmp 32), (some (29, true)), []⟩, ⟨31, some 34, .call n_s_l02Finite [.tmp 33], (some (29, true)), []⟩, ⟨32, some 35, .pick (.tmp 29) (.tmp 34) (.const (.bool false)), none, []⟩, ⟨33, some 2, .mv (.tmp 35), none, []⟩])
  (.ret))
theorem k_s_l04Is : FnOk Try.prog n_s_l04Is 1 c_s_l04Is [.tmp 2] := ⟨by kernel_rfl⟩
def c_s_l04Levels : ACode :=
  .seq (.ops [⟨0, some 2, .mv (.const (.bool false)), none, []⟩])
  (.seq (.ops [⟨0, some 3, .mv (.tmp 0), none, []⟩, ⟨1, some 4, .call n_s_l00In [.tmp 3, .const (.int .i64 1), .const (.int .i64 4)], none, []⟩, ⟨2, some 2, .mv (.tmp 4), none, []⟩])
  (.ret))
theorem k_s_l04Levels : FnOk Try.prog n_s_l04Levels 1 c_s_l04Levels [.tmp 2] := ⟨by kernel_rfl⟩
def c_s_l02Least : ACode :=
  .seq (.ops [⟨0, some 2, .mv (.const (.bool false)), none, []⟩])
  (.seq (.ops [⟨0, some 3, .mv (.tmp 0), none, []⟩, ⟨1, some 4, .call n_s_l01Finite [.tmp 3], none, []⟩, ⟨2, some 5, .mv (.tmp 4), none, []⟩, ⟨3, some 6, .mv (.tmp 0), (some (5, true)), []⟩, ⟨4, some 7, .bin .geq (.tmp 6) (.const (.float .f32 0)), (some (5, true)), []⟩, ⟨5, some 8, .pick (.tmp 5) (.tmp 7) (.const (.bool false)), none, []⟩, ⟨6, some 2, .mv (.tmp 8), none, []⟩])
  (.ret))
theorem k_s_l02Least : FnOk Try.prog n_s_l02Least 1 c_s_l02Least [.tmp 2] := ⟨by kernel_rfl⟩
def c_s_l04Own : ACode :=
  .seq (.ops [⟨0, some 2, .new 36 [.int .i64 0, .int .i64 0, .slice none 0 0], none, []⟩])
  (.seq (.ops [⟨0, some 3, .mv (.tmp 0), none, []⟩, ⟨1, some 4, .nc (.tmp 3), none, []⟩, ⟨2, some 5, .fa 0 (.tmp 4), none, []⟩, ⟨3, some 6, .ld (.tmp 5), none, []⟩, ⟨4, some 7, .mv (.tmp 0), none, []⟩, ⟨5, some 8, .nc (.tmp 7), none, []⟩, ⟨6, some 9, .fa 1 (.tmp 8), none, []⟩, ⟨7, some 10, .ld (.tmp 9), none, []⟩, ⟨9, some 12, .mv (.tmp 0), none, []⟩, ⟨10, some 13, .nc (.tmp 12), none, []⟩, ⟨11, some 14, .fa 2 (.tmp 13), none, []⟩, ⟨12, some 15, .ld (.tmp 14), none, []⟩, ⟨8, some 11, .bsl 34 0 (.float .f32 0) [], none, [(some 6, .ld (.tmp 5), none), (some 10, .ld (.tmp 9), none), (some 15, .ld (.tmp 14), none)]⟩, ⟨13, some 16, .app 34 4 (.tmp 11) (.tmp 15), none, [(some 6, .ld (.tmp 5), none), (some 10, .ld (.tmp 9), none)]⟩, ⟨14, some 17, .bld [.int .i64 0, .int .i64 0, .slice none 0 0] [(0, 1, .tmp 6), (1, 1, .tmp 10), (2, 1, .tmp 16)], none, []⟩, ⟨15, none, .stn 3 (.tmp 2) (.tmp 17), none, []⟩])
  (.ret))
theorem k_s_l04Own : FnOk Try.prog n_s_l04Own 1 c_s_l04Own [.celln 2 3] := ⟨by kernel_rfl⟩
def c_s_l04Coarse : ACode :=
  .seq (.ops [⟨0, some 6, .mv (.const (.bool false)), none, []⟩])
  (.seq (.ops [⟨0, some 10, .mv (.tmp 0), none, []⟩, ⟨1, some 11, .nc (.tmp 10), none, []⟩, ⟨2, some 12, .fa 0 (.tmp 11), none, []⟩, ⟨3, some 13, .ld (.tmp 12), none, []⟩, ⟨4, some 14, .mv (.tmp 0), none, []⟩, ⟨5, some 15, .nc (.tmp 14), none, []⟩, ⟨6, some 16, .fa 1 (.tmp 15), none, []⟩, ⟨7, some 17, .ld (.tmp 16), none, []⟩, ⟨8, some 18, .mv (.tmp 1), none, []⟩, ⟨9, some 19, .call n_s_l04Halves [.tmp 13, .tmp 17, .tmp 18], none, []⟩, ⟨10, some 9, .mv (.tmp 19), none, []⟩, ⟨11, some 20, .ext (.tmp 9) 0, none, []⟩, ⟨12, some 21, .ext (.tmp 9) 1, none, []⟩, ⟨13, some 7, .mv (.tmp 20), none, []⟩, ⟨14, some 8, .mv (.tmp 21), none, []⟩])
  (.seq (.keep [0, 2, 7, 8] (.ops [⟨0, some 22, .mv (.tmp 2), none, []⟩, ⟨1, some 23, .mv (.tmp 0), none, []⟩, ⟨2, some 24, .nc (.tmp 23), none, []⟩, ⟨3, some 25, .fa 0 (.tmp 24), none, []⟩, ⟨4, some 26, .ld (.tmp 25), none, []⟩, ⟨5, some 27, .bin .rem (.tmp 22) (.tmp 26), none, []⟩, ⟨6, some 28, .mv (.tmp 7), none, []⟩, ⟨7, some 29, .bin .lss (.tmp 27) (.tmp 28), none, []⟩, ⟨8, some 30, .mv (.tmp 29), none, []⟩, ⟨9, some 31, .mv (.tmp 2), (some (30, true)), []⟩, ⟨10, some 32, .mv (.tmp 0), (some (30, true)), []⟩, ⟨11, some 33, .nc (.tmp 32), (some (30, true)), []⟩, ⟨12, some 34, .fa 0 (.tmp 33), (some (30, true)), []⟩, ⟨13, some 35, .ld (.tmp 34), (some (30, true)), []⟩, ⟨14, some 36, .bin .quo (.tmp 31) (.tmp 35), (some (30, true)), []⟩, ⟨15, some 37, .mv (.tmp 8), (some (30, true)), []⟩, ⟨16, some 38, .bin .lss (.tmp 36) (.tmp 37), (some (30, true)), []⟩, ⟨17, some 39, .pick (.tmp 30) (.tmp 38) (.const (.bool false)), none, []⟩, ⟨18, some 6, .mv (.tmp 39), none, []⟩]))
  (.ret)))
theorem k_s_l04Coarse : FnOk Try.prog n_s_l04Coarse 3 c_s_l04Coarse [.tmp 6] := ⟨by kernel_rfl⟩
def c_i_isLeast : ACode :=
  .seq (.ops [⟨0, some 2, .mv (.const (.bool false)), none, []⟩])
  (.seq (.ops [⟨0, some 3, .mv (.tmp 0), none, []⟩, ⟨1, some 4, .call n_i_IsFinite [.tmp 3], none, []⟩, ⟨2, some 5, .mv (.tmp 4), none, []⟩, ⟨3, some 6, .mv (.tmp 0), (some (5, true)), []⟩, ⟨4, some 7, .bin .geq (.tmp 6) (.const (.float .f32 0)), (some (5, true)), []⟩, ⟨5, some 8, .pick (.tmp 5) (.tmp 7) (.const (.bool false)), none, []⟩, ⟨6, some 2, .mv (.tmp 8), none, []⟩])
  (.ret))
theorem k_i_isLeast : FnOk Try.prog n_i_isLeast 1 c_i_isLeast [.tmp 2] := ⟨by kernel_rfl⟩
def c_i_finesBy : ACode :=
  .seq (.ops [⟨0, some 3, .box 36 (.tmp 0), none, []⟩, ⟨1, some 6, .new 36 [.int .i64 0, .int .i64 0, .slice none 0 0], none, []⟩, ⟨2, some 7, .mv (.const (.bool false)), none, []⟩])
  (.seq (.seq (.ops [⟨0, some 11, .ldn 3 (.tmp 3), none, []⟩, ⟨1, some 12, .call n_i_ValidPicture [.tmp 11], none, []⟩, ⟨2, some 13, .un .not (.tmp 12), none, []⟩, ⟨3, some 14, .mv (.tmp 13), none, []⟩, ⟨4, some 15, .mv (.tmp 1), (some (14, false)), []⟩, ⟨5, some 16, .call n_i_areLevels [.tmp 15], (some (14, false)), []⟩, ⟨6, some 17, .un .not (.tmp 16), (some (14, false)), []⟩, ⟨7, some 18, .pick (.tmp 14) (.const (.bool true)) (.tmp 17), none, []⟩])
  (.cond (.tmp 18) (.seq (.keep [6] (.ops [⟨0, some 19, .bld [.int .i64 0, .int .i64 0, .slice none 0 0] [], none, []⟩, ⟨1, none, .stn 3 (.tmp 6) (.tmp 19), none, []⟩, ⟨2, some 7, .mv (.const (.bool false)), none, []⟩]))
  (.ret)) (.skip)))
  (.seq (.keep [1, 2, 3, 6] (.both 6 8 (.ops [⟨0, some 20, .fa 0 (.tmp 3), none, []⟩, ⟨1, some 21, .ld (.tmp 20), none, []⟩, ⟨2, some 22, .fa 1 (.tmp 3), none, []⟩, ⟨3, some 23, .ld (.tmp 22), none, []⟩, ⟨4, some 24, .fa 2 (.tmp 3), none, []⟩, ⟨5, some 25, .ld (.tmp 24), none, []⟩, ⟨6, some 26, .call n_i_copyOf [.tmp 25], none, [(some 21, .ld (.tmp 20), none), (some 23, .ld (.tmp 22), none)]⟩, ⟨7, some 27, .bld [.int .i64 0, .int .i64 0, .slice none 0 0] [(0, 1, .tmp 21), (1, 1, .tmp 23), (2, 1, .tmp 26)], none, []⟩, ⟨8, some 8, .new 36 [.int .i64 0, .int .i64 0, .slice none 0 0], none, [(some 21, .ld (.tmp 20), none), (some 23, .ld (.tmp 22), none)]⟩, ⟨9, none, .stn 3 (.tmp 8) (.tmp 27), none, []⟩]) (.ops [⟨0, some 20, .fa 0 (.tmp 3), none, []⟩, ⟨1, some 21, .ld (.tmp 20), none, []⟩, ⟨2, some 22, .fa 1 (.tmp 3), none, []⟩, ⟨3, some 23, .ld (.tmp 22), none, []⟩, ⟨4, some 24, .fa 2 (.tmp 3), none, []⟩, ⟨5, some 25, .ld (.tmp 24), none, []⟩, ⟨8, some 8, .new 36 [.int .i64 0, .int .i64 0, .slice none 0 0], none, [(some 21, .ld (.tmp 20), none), (some 23, .ld (.tmp 22), none), (some 25, .ld (.tmp 24), none)]⟩, ⟨6, some 26, .call n_i_copyOf [.tmp 25], none, [(some 21, .ld (.tmp 20), none), (some 23, .ld (.tmp 22), none)]⟩, ⟨7, some 27, .bld [.int .i64 0, .int .i64 0, .slice none 0 0] [(0, 1, .tmp 21), (1, 1, .tmp 23), (2, 1, .tmp 26)], none, []⟩, ⟨9, none, .stn 3 (.tmp 8) (.tmp 27), none, []⟩])))
  (.keep [1, 2, 3, 6, 8] (.seq (.seq (.ops [⟨0, some 28, .fa 2 (.tmp 8), none, []⟩, ⟨1, some 29, .ld (.tmp 28), none, []⟩, ⟨2, some 30, .len (.tmp 29), none, []⟩, ⟨3, some 31, .mv (.const (.int .i64 0)), none, []⟩])
  (.block 0 (.loop [1, 2, 3, 6, 8, 29, 30, 31] (.seq (.ops [⟨0, some 32, .bin .lss (.tmp 31) (.tmp 30), none, []⟩])
  (.seq (.cond (.tmp 32) (.skip) (.exit 0))
  (.seq (.block 1 (.seq (.ops [⟨0, some 33, .mv (.tmp 31), none, []⟩, ⟨1, some 34, .ia (.tmp 29) (.tmp 31), none, []⟩, ⟨2, some 35, .ld (.tmp 34), none, []⟩, ⟨3, some 9, .mv (.tmp 33), none, []⟩, ⟨4, some 10, .mv (.tmp 35), none, []⟩])
  (.seq (.ops [⟨0, some 36, .ldn 3 (.tmp 3), none, []⟩, ⟨1, some 37, .mv (.tmp 1), none, []⟩, ⟨2, some 38, .mv (.tmp 9), none, []⟩, ⟨3, some 39, .call n_i_isCoarse [.tmp 36, .tmp 37, .tmp 38], none, []⟩, ⟨4, some 40, .un .not (.tmp 39), none, []⟩])
  (.cond (.tmp 40) (.keep [1, 2, 3, 6, 8, 9, 10, 29, 30, 31] (.ops [⟨0, some 41, .fa 2 (.tmp 8), none, []⟩, ⟨1, some 42, .ld (.tmp 41), none, []⟩, ⟨2, some 43, .mv (.tmp 9), none, []⟩, ⟨3, some 44, .mv (.tmp 2), none, []⟩, ⟨4, some 45, .mv (.tmp 10), none, []⟩, ⟨5, some 46, .callv (.tmp 44) [.tmp 45], none, [(some 42, .ld (.tmp 41), none)]⟩, ⟨6, some 47, .ia (.tmp 42) (.tmp 43), none, []⟩, ⟨7, none, .st (.tmp 47) (.tmp 46), none, []⟩])) (.skip)))))
  (.keep [1, 2, 3, 6, 8, 29, 30, 31] (.ops [⟨0, some 48, .bin .add (.tmp 31) (.const (.int .i64 1)), none, []⟩, ⟨1, some 31, .mv (.tmp 48), none, []⟩]))))))))
  (.seq (.keep [6, 8] (.ops [⟨0, some 49, .ldn 3 (.tmp 8), none, []⟩, ⟨1, some 50, .call n_i_validPicture [.tmp 49], none, []⟩, ⟨2, some 51, .ext (.tmp 50) 0, none, []⟩, ⟨3, some 52, .ext (.tmp 50) 1, none, []⟩, ⟨4, none, .stn 3 (.tmp 6) (.tmp 51), none, []⟩, ⟨5, some 7, .mv (.tmp 52), none, []⟩]))
  (.ret))))))
theorem k_i_finesBy : FnOk Try.prog n_i_finesBy 3 c_i_finesBy [.celln 6 3, .tmp 7] := ⟨by kernel_rfl⟩
def c_i_SoftPicture_1 : ACode :=
  .seq (.ops [⟨0, some 3, .mv (.const (.float .f32 0)), none, []⟩])
  (.seq (.ops [⟨0, some 4, .mv (.tmp 0), none, []⟩, ⟨1, some 5, .ld (.tmp 1), none, []⟩, ⟨2, some 6, .call n_i_softer [.tmp 4, .tmp 5], none, []⟩, ⟨3, some 3, .mv (.tmp 6), none, []⟩])
  (.ret))
theorem k_i_SoftPicture_1 : FnOk Try.prog n_i_SoftPicture_1 2 c_i_SoftPicture_1 [.tmp 3] := ⟨by kernel_rfl⟩
def c_i_softer : ACode :=
  .seq (.ops [⟨0, some 4, .mv (.const (.float .f32 0)), none, []⟩])
  (.seq (.block 0 (.seq (.ops [⟨0, some 6, .mv (.tmp 0), none, []⟩, ⟨1, some 7, .mv (.tmp 1), none, []⟩, ⟨2, some 8, .bin .gtr (.tmp 6) (.tmp 7), none, []⟩, ⟨3, some 5, .mv (.tmp 8), none, []⟩])
  (.cond (.tmp 5) (.seq (.keep [0, 1] (.ops [⟨0, some 9, .mv (.tmp 0), none, []⟩, ⟨1, some 10, .mv (.tmp 1), none, []⟩, ⟨2, some 11, .bin .sub (.tmp 9) (.tmp 10), none, []⟩, ⟨3, some 4, .mv (.tmp 11), none, []⟩]))
  (.ret)) (.seq (.keep [0, 1] (.ops [⟨0, some 13, .mv (.tmp 0), none, []⟩, ⟨1, some 14, .mv (.tmp 1), none, []⟩, ⟨2, some 15, .un .neg (.tmp 14), none, []⟩, ⟨3, some 16, .bin .lss (.tmp 13) (.tmp 15), none, []⟩, ⟨4, some 12, .mv (.tmp 16), none, []⟩]))
  (.cond (.tmp 12) (.seq (.keep [0, 1] (.ops [⟨0, some 17, .mv (.tmp 0), none, []⟩, ⟨1, some 18, .mv (.tmp 1), none, []⟩, ⟨2, some 19, .bin .add (.tmp 17) (.tmp 18), none, []⟩, ⟨3, some 4, .mv (.tmp 19), none, []⟩]))
  (.ret)) (.skip))))))
  (.seq (.keep [] (.ops [⟨0, some 4, .mv (.const (.float .f32 0)), none, []⟩]))
  (.ret)))
theorem k_i_softer : FnOk Try.prog n_i_softer 2 c_i_softer [.tmp 4] := ⟨by kernel_rfl⟩
def c_i_areFinite : ACode :=
  .seq (.ops [⟨0, some 2, .mv (.const (.bool false)), none, []⟩])
  (.seq (.seq (.ops [⟨0, some 7, .mv (.tmp 0), none, []⟩, ⟨1, some 8, .len (.tmp 7), none, []⟩, ⟨2, some 9, .mv (.const (.int .i64 0)), none, []⟩])
  (.block 0 (.loop [7, 8, 9] (.seq (.ops [⟨0, some 10, .bin .lss (.tmp 9) (.tmp 8), none, []⟩])
  (.seq (.cond (.tmp 10) (.skip) (.exit 0))
  (.seq (.block 1 (.seq (.ops [⟨0, some 11, .ia (.tmp 7) (.tmp 9), none, []⟩, ⟨1, some 12, .ld (.tmp 11), none, []⟩, ⟨2, some 4, .mv (.tmp 12), none, []⟩])
  (.seq (.ops [⟨0, some 13, .mv (.tmp 4), none, []⟩, ⟨1, some 14, .len (.tmp 13), none, []⟩, ⟨2, some 15, .mv (.const (.int .i64 0)), none, []⟩])
  (.block 2 (.loop [7, 8, 9, 13, 14, 15] (.seq (.ops [⟨0, some 16, .bin .lss (.tmp 15) (.tmp 14), none, []⟩])
  (.seq (.cond (.tmp 16) (.skip) (.exit 2))
  (.seq (.block 3 (.seq (.ops [⟨0, some 17, .ia (.tmp 13) (.tmp 15), none, []⟩, ⟨1, some 18, .ld (.tmp 17), none, []⟩, ⟨2, some 6, .mv (.tmp 18), none, []⟩])
  (.seq (.ops [⟨0, some 19, .mv (.tmp 6), none, []⟩, ⟨1, some 20, .call n_i_IsFinite [.tmp 19], none, []⟩, ⟨2, some 21, .un .not (.tmp 20), none, []⟩])
  (.cond (.tmp 21) (.seq (.keep [] (.ops [⟨0, some 2, .mv (.const (.bool false)), none, []⟩]))
  (.ret)) (.skip)))))
  (.keep [7, 8, 9, 13, 14, 15] (.ops [⟨0, some 22, .bin .add (.tmp 15) (.const (.int .i64 1)), none, []⟩, ⟨1, some 15, .mv (.tmp 22), none, []⟩]))))))))))
  (.ops [⟨0, some 23, .bin .add (.tmp 9) (.const (.int .i64 1)), none, []⟩, ⟨1, some 9, .mv (.tmp 23), none, []⟩])))))))
  (.seq (.ops [⟨0, some 2, .mv (.const (.bool true)), none, []⟩])
  (.ret)))
theorem k_i_areFinite : FnOk Try.prog n_i_areFinite 1 c_i_areFinite [.tmp 2] := ⟨by kernel_rfl⟩
def c_s_l01Finite : ACode :=
  .seq (.ops [⟨0, some 2, .mv (.const (.bool false)), none, []⟩])
  (.seq (.ops [⟨0, some 3, .mv (.tmp 0), none, []⟩, ⟨1, some 4, .mv (.tmp 0), none, []⟩, ⟨2, some 5, .bin .sub (.tmp 3) (.tmp 4), none, []⟩, ⟨3, some 6, .bin .eql (.tmp 5) (.const (.float .f32 0)), none, []⟩, ⟨4, some 2, .mv (.tmp 6), none, []⟩])
  (.ret))
theorem k_s_l01Finite : FnOk Try.prog n_s_l01Finite 1 c_s_l01Finite [.tmp 2] := ⟨by kernel_rfl⟩
def c_s_l04Sides : ACode :=
  .seq (.ops [⟨0, some 4, .mv (.const (.bool false)), none, []⟩])
  (.seq (.ops [⟨0, some 5, .mv (.tmp 0), none, []⟩, ⟨1, some 6, .call n_s_l00In [.tmp 5, .const (.int .i64 1), .const (.int .i64 16)], none, []⟩, ⟨2, some 7, .mv (.tmp 6), none, []⟩, ⟨3, some 8, .mv (.tmp 1), (some (7, true)), []⟩, ⟨4, some 9, .call n_s_l00In [.tmp 8, .const (.int .i64 1), .const (.int .i64 16)], (some (7, true)), []⟩, ⟨5, some 10, .pick (.tmp 7) (.tmp 9) (.const (.bool false)), none, []⟩, ⟨6, some 4, .mv (.tmp 10), none, []⟩])
  (.ret))
theorem k_s_l04Sides : FnOk Try.prog n_s_l04Sides 2 c_s_l04Sides [.tmp 4] := ⟨by kernel_rfl⟩
def c_s_l04Halves : ACode :=
  .seq (.ops [⟨0, some 6, .mv (.const (.int .i64 0)), none, []⟩, ⟨1, some 7, .mv (.const (.int .i64 0)), none, []⟩])
  (.seq (.seq (.ops [⟨0, some 8, .mv (.const (.int .i64 0)), none, []⟩])
  (.block 0 (.loop [0, 1, 2, 8] (.seq (.seq (.ops [⟨0, some 9, .mv (.tmp 8), none, []⟩, ⟨1, some 10, .mv (.tmp 2), none, []⟩, ⟨2, some 11, .bin .lss (.tmp 9) (.tmp 10), none, []⟩])
  (.cond (.tmp 11) (.skip) (.exit 0)))
  (.seq (.block 1 (.seq (.ops [⟨0, some 14, .mv (.tmp 0), none, []⟩, ⟨1, some 15, .bin .add (.tmp 14) (.const (.int .i64 1)), none, []⟩, ⟨2, some 16, .bin .quo (.tmp 15) (.const (.int .i64 2)), none, []⟩, ⟨3, some 0, .mv (.tmp 16), none, []⟩])
  (.keep [0, 1, 2, 8] (.ops [⟨0, some 17, .mv (.tmp 1), none, []⟩, ⟨1, some 18, .bin .add (.tmp 17) (.const (.int .i64 1)), none, []⟩, ⟨2, some 19, .bin .quo (.tmp 18) (.const (.int .i64 2)), none, []⟩, ⟨3, some 1, .mv (.tmp 19), none, []⟩]))))
  (.ops [⟨0, some 12, .mv (.tmp 8), none, []⟩, ⟨1, some 13, .bin .add (.tmp 12) (.const (.int .i64 1)), none, []⟩, ⟨2, some 8, .mv (.tmp 13), none, []⟩]))))))
  (.seq (.keep [0, 1] (.ops [⟨0, some 20, .mv (.tmp 0), none, []⟩, ⟨1, some 21, .mv (.tmp 1), none, []⟩, ⟨2, some 6, .mv (.tmp 20), none, []⟩, ⟨3, some 7, .mv (.tmp 21), none, []⟩]))
  (.ret)))
theorem k_s_l04Halves : FnOk Try.prog n_s_l04Halves 3 c_s_l04Halves [.tmp 6, .tmp 7] := ⟨by kernel_rfl⟩
def c_i_IsFinite : ACode :=
  .seq (.ops [⟨0, some 2, .mv (.const (.bool false)), none, []⟩])
  (.seq (.ops [⟨0, some 3, .mv (.tmp 0), none, []⟩, ⟨1, some 4, .mv (.tmp 0), none, []⟩, ⟨2, some 5, .bin .sub (.tmp 3) (.tmp 4), none, []⟩, ⟨3, some 6, .bin .eql (.tmp 5) (.const (.float .f32 0)), none, []⟩, ⟨4, some 2, .mv (.tmp 6), none, []⟩])
  (.ret))
theorem k_i_IsFinite : FnOk Try.prog n_i_IsFinite 1 c_i_IsFinite [.tmp 2] := ⟨by kernel_rfl⟩
def c_i_ValidPicture : ACode :=
  .seq (.ops [⟨0, some 1, .box 36 (.tmp 0), none, []⟩, ⟨1, some 2, .mv (.const (.bool false)), none, []⟩])
  (.seq (.ops [⟨0, some 3, .fa 0 (.tmp 1), none, []⟩, ⟨1, some 4, .ld (.tmp 3), none, []⟩, ⟨2, some 5, .call n_i_within [.tmp 4, .const (.int .i64 1), .const (.int .i64 16)], none, []⟩, ⟨3, some 6, .mv (.tmp 5), none, []⟩, ⟨4, some 7, .fa 1 (.tmp 1), (some (6, true)), []⟩, ⟨5, some 8, .ld (.tmp 7), (some (6, true)), []⟩, ⟨6, some 9, .call n_i_within [.tmp 8, .const (.int .i64 1), .const (.int .i64 16)], (some (6, true)), []⟩, ⟨7, some 10, .pick (.tmp 6) (.tmp 9) (.const (.bool false)), none, []⟩, ⟨8, some 11, .mv (.tmp 10), none, []⟩, ⟨9, some 12, .fa 2 (.tmp 1), (some (11, true)), []⟩, ⟨10, some 13, .ld (.tmp 12), (some (11, true)), []⟩, ⟨11, some 14, .len (.tmp 13), (some (11, true)), []⟩, ⟨12, some 15, .fa 0 (.tmp 1), (some (11, true)), []⟩, ⟨13, some 16, .ld (.tmp 15), (some (11, true)), []⟩, ⟨14, some 17, .fa 1 (.tmp 1), (some (11, true)), []⟩, ⟨15, some 18, .ld (.tmp 17), (some (11, true)), []⟩, ⟨16, some 19, .bin .mul (.tmp 16) (.tmp 18), (some (11, true)), []⟩, ⟨17, some 20, .bin .eql (.tmp 14) (.tmp 19), (some (11, true)), []⟩, ⟨18, some 21, .pick (.tmp 11) (.tmp 20) (.const (.bool false)), none, []⟩, ⟨19, some 22, .mv (.tmp 21), none, []⟩, ⟨20, some 23, .fa 2 (.tmp 1), (some (22, true)), []⟩, ⟨21, some 24, .ld (.tmp 23), (some (22, true)), []⟩, ⟨22, some 25, .bsl 22 1 (.slice none 0 0) [(0, .tmp 24)], (some (22, true)), []⟩, ⟨23, some 26, .call n_i_areFinite [.tmp 25], (some (22, true)), []⟩, ⟨24, some 27, .pick (.tmp 22) (.tmp 26) (.const (.bool false)), none, []⟩, ⟨25, some 2, .mv (.tmp 27), none, []⟩])
  (.ret))
theorem k_i_ValidPicture : FnOk Try.prog n_i_ValidPicture 1 c_i_ValidPicture [.tmp 2] := ⟨by kernel_rfl⟩
def c_i_areLevels : ACode :=
  .seq (.ops [⟨0, some 2, .mv (.const (.bool false)), none, []⟩])
  (.seq (.ops [⟨0, some 3, .mv (.tmp 0), none, []⟩, ⟨1, some 4, .call n_i_within [.tmp 3, .const (.int .i64 1), .const (.int .i64 4)], none, []⟩, ⟨2, some 2, .mv (.tmp 4), none, []⟩])
  (.ret))
theorem k_i_areLevels : FnOk Try.prog n_i_areLevels 1 c_i_areLevels [.tmp 2] := ⟨by kernel_rfl⟩
def c_i_isCoarse : ACode :=
  .seq (.ops [⟨0, some 3, .box 36 (.tmp 0), none, []⟩, ⟨1, some 6, .mv (.const (.bool false)), none, []⟩])
  (.seq (.ops [⟨0, some 7, .mv (.tmp 2), none, []⟩, ⟨1, some 8, .fa 0 (.tmp 3), none, []⟩, ⟨2, some 9, .ld (.tmp 8), none, []⟩, ⟨3, some 10, .bin .rem (.tmp 7) (.tmp 9), none, []⟩, ⟨4, some 11, .fa 0 (.tmp 3), none, []⟩, ⟨5, some 12, .ld (.tmp 11), none, []⟩, ⟨6, some 13, .mv (.tmp 1), none, []⟩, ⟨7, some 14, .call n_i_halfOf [.tmp 12, .tmp 13], none, [(some 9, .ld (.tmp 8), none)]⟩, ⟨8, some 15, .bin .lss (.tmp 10) (.tmp 14), none, []⟩, ⟨9, some 16, .mv (.tmp 15), none, []⟩, ⟨10, some 17, .mv (.tmp 2), (some (16, true)), []⟩, ⟨11, some 18, .fa 0 (.tmp 3), (some (16, true)), []⟩, ⟨12, some 19, .ld (.tmp 18), (some (16, true)), []⟩, ⟨13, some 20, .bin .quo (.tmp 17) (.tmp 19), (some (16, true)), []⟩, ⟨14, some 21, .fa 1 (.tmp 3), (some (16, true)), []⟩, ⟨15, some 22, .ld (.tmp 21), (some (16, true)), []⟩, ⟨16, some 23, .mv (.tmp 1), (some (16, true)), []⟩, ⟨17, some 24, .call n_i_halfOf [.tmp 22, .tmp 23], (some (16, true)), [(some 19, .ld (.tmp 18), (some (16, true)))]⟩, ⟨18, some 25, .bin .lss (.tmp 20) (.tmp 24), (some (16, true)), []⟩, ⟨19, some 26, .pick (.tmp 16) (.tmp 25) (.const (.bool false)), none, []⟩, ⟨20, some 6, .mv (.tmp 26), none, []⟩])
  (.ret))
theorem k_i_isCoarse : FnOk Try.prog n_i_isCoarse 3 c_i_isCoarse [.tmp 6] := ⟨by kernel_rfl⟩
def c_i_validPicture : ACode :=
  .seq (.ops [⟨0, some 1, .box 36 (.tmp 0), none, []⟩, ⟨1, some 2, .new 36 [.int .i64 0, .int .i64 0, .slice none 0 0], none, []⟩, ⟨2, some 3, .mv (.const (.bool false)), none, []⟩])
  (.seq (.seq (.ops [⟨0, some 4, .ldn 3 (.tmp 1), none, []⟩, ⟨1, some 5, .call n_i_ValidPicture [.tmp 4], none, []⟩, ⟨2, some 6, .un .not (.tmp 5), none, []⟩])
  (.cond (.tmp 6) (.seq (.keep [2] (.ops [⟨0, some 7, .bld [.int .i64 0, .int .i64 0, .slice none 0 0] [], none, []⟩, ⟨1, none, .stn 3 (.tmp 2) (.tmp 7), none, []⟩, ⟨2, some 3, .mv (.const (.bool false)), none, []⟩]))
  (.ret)) (.skip)))
  (.seq (.keep [1, 2] (.ops [⟨0, some 8, .ldn 3 (.tmp 1), none, []⟩, ⟨1, none, .stn 3 (.tmp 2) (.tmp 8), none, []⟩, ⟨2, some 3, .mv (.const (.bool true)), none, []⟩]))
  (.ret)))
theorem k_i_validPicture : FnOk Try.prog n_i_validPicture 1 c_i_validPicture [.celln 2 3, .tmp 3] := ⟨by kernel_rfl⟩
def c_i_halfOf : ACode :=
  .seq (.ops [⟨0, some 4, .mv (.const (.int .i64 0)), none, []⟩])
  (.seq (.seq (.ops [⟨0, some 5, .mv (.tmp 1), none, []⟩, ⟨1, some 6, .mv (.const (.int .i64 0)), none, []⟩])
  (.block 0 (.loop [0, 5, 6] (.seq (.ops [⟨0, some 7, .bin .lss (.tmp 6) (.tmp 5), none, []⟩])
  (.seq (.cond (.tmp 7) (.skip) (.exit 0))
  (.seq (.block 1 (.ops [⟨0, some 8, .mv (.tmp 0), none, []⟩, ⟨1, some 9, .bin .add (.tmp 8) (.const (.int .i64 1)), none, []⟩, ⟨2, some 10, .bin .quo (.tmp 9) (.const (.int .i64 2)), none, []⟩, ⟨3, some 0, .mv (.tmp 10), none, []⟩]))
  (.ops [⟨0, some 11, .bin .add (.tmp 6) (.const (.int .i64 1)), none, []⟩, ⟨1, some 6, .mv (.tmp 11), none, []⟩])))))))
  (.seq (.ops [⟨0, some 12, .mv (.tmp 0), none, []⟩, ⟨1, some 4, .mv (.tmp 12), none, []⟩])
  (.ret)))
theorem k_i_halfOf : FnOk Try.prog n_i_halfOf 2 c_i_halfOf [.tmp 4] := ⟨by kernel_rfl⟩
end Go.Proofs.Ytkojmlpaamdhoac

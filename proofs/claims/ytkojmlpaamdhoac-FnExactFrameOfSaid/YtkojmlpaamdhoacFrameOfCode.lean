/- The code of functions, for the abstract machine; printed by a program (gen.py). -/
import Derived.Test.YtkojmlpaamdhoacGxFn
import Derived.Test.YtkojmlpaamdhoacProg
namespace Go.Proofs.Ytkojmlpaamdhoac
open Go.Gx
set_option maxRecDepth 100000
abbrev t_int64 : Nat := 2
abbrev t_int : Nat := 3
abbrev t_bool : Nat := 4
abbrev t_uint8 : Nat := 5
abbrev t_sfloat32 : Nat := 22
abbrev t_ssfloat32 : Nat := 23
abbrev t_float32 : Nat := 34
abbrev t_sint64 : Nat := 43
abbrev t_float64 : Nat := 94
abbrev t_sint : Nat := 152
abbrev t_Picture : Nat := 36
abbrev t_Bands : Nat := 58
abbrev t_Pair : Nat := 70
abbrev t_Scheme : Nat := 84
abbrev n_w_FnExactFrameOf : Nat := 3
abbrev n_s_FrameOf : Nat := 15
abbrev n_w_toFloat32S : Nat := 16
abbrev n_i_FrameOf : Nat := 17
abbrev n_w_eqFloat32SS : Nat := 18
abbrev n_w_eqFloat32S : Nat := 19
abbrev n_w_markFloat32S : Nat := 20
abbrev n_w_markFloat32SS : Nat := 21
abbrev n_w_heldFloat32SS : Nat := 22
abbrev n_w_heldFloat32S : Nat := 44
abbrev n_w_sameFloat : Nat := 69
abbrev n_s_l03Long : Nat := 70
abbrev n_s_l00In : Nat := 71
abbrev n_s_l03Mirror : Nat := 72
abbrev n_s_l02Finite : Nat := 73
abbrev n_i_isLong : Nat := 74
abbrev n_i_within : Nat := 75
abbrev n_i_copyOf : Nat := 76
abbrev n_i_smoothed : Nat := 77
abbrev n_i_finiteLists : Nat := 78
abbrev n_i_areFinite : Nat := 110
abbrev n_s_l01Finite : Nat := 134
abbrev n_i_smoothed_1 : Nat := 135
abbrev n_i_mirrored : Nat := 136
abbrev n_i_IsFinite : Nat := 139
def c_w_FnExactFrameOf : ACode :=
  .seq (.ops [⟨0, some 4, .mv (.const (.bool false)), none, []⟩])
  (.seq (.seq (.ops [⟨0, some 15, .mv (.tmp 0), none, []⟩, ⟨1, some 16, .len (.tmp 15), none, []⟩, ⟨2, some 17, .bin .gtr (.tmp 16) (.const (.int .i64 1048576)), none, []⟩])
  (.cond (.tmp 17) (.seq (.keep [] (.ops [⟨0, some 4, .mv (.const (.bool true)), none, []⟩]))
  (.ret)) (.skip)))
  (.seq (.ops [⟨0, some 19, .mv (.tmp 0), none, []⟩, ⟨1, some 20, .call n_w_toFloat32S [.tmp 19], none, []⟩, ⟨2, some 21, .mv (.tmp 1), none, []⟩, ⟨3, some 22, .call n_s_FrameOf [.tmp 20, .tmp 21], none, []⟩, ⟨4, some 18, .mv (.tmp 22), none, []⟩, ⟨5, some 23, .ext (.tmp 18) 0, none, []⟩, ⟨6, some 24, .ext (.tmp 18) 1, none, []⟩, ⟨7, some 5, .mv (.tmp 23), none, []⟩, ⟨8, some 6, .mv (.tmp 24), none, []⟩])
  (.seq (.keep [0, 1, 5, 6] (.ops [⟨0, some 25, .mv (.tmp 0), none, []⟩, ⟨1, some 26, .call n_w_toFloat32S [.tmp 25], none, []⟩, ⟨2, some 7, .mv (.tmp 26), none, []⟩]))
  (.seq (.ops [⟨0, some 28, .mv (.tmp 7), none, []⟩, ⟨1, some 29, .mv (.tmp 1), none, []⟩, ⟨2, some 30, .call n_i_FrameOf [.tmp 28, .tmp 29], none, []⟩, ⟨3, some 27, .mv (.tmp 30), none, []⟩, ⟨4, some 31, .ext (.tmp 27) 0, none, []⟩, ⟨5, some 32, .ext (.tmp 27) 1, none, []⟩, ⟨6, some 8, .mv (.tmp 31), none, []⟩, ⟨7, some 9, .mv (.tmp 32), none, []⟩])
  (.seq (.seq (.keep [0, 1, 5, 6, 7, 8, 9] (.ops [⟨0, some 33, .mv (.tmp 8), none, []⟩, ⟨1, some 34, .mv (.tmp 5), none, []⟩, ⟨2, some 35, .call n_w_eqFloat32SS [.tmp 33, .tmp 34], none, []⟩, ⟨3, some 36, .un .not (.tmp 35), none, []⟩, ⟨4, some 37, .mv (.tmp 36), none, []⟩, ⟨5, some 38, .mv (.tmp 9), (some (37, false)), []⟩, ⟨6, some 39, .mv (.tmp 6), (some (37, false)), []⟩, ⟨7, some 40, .beq true (.tmp 38) (.tmp 39), (some (37, false)), []⟩, ⟨8, some 41, .pick (.tmp 37) (.const (.bool true)) (.tmp 40), none, []⟩]))
  (.cond (.tmp 41) (.seq (.keep [] (.ops [⟨0, some 4, .mv (.const (.bool false)), none, []⟩]))
  (.ret)) (.skip)))
  (.seq (.seq (.keep [0, 1, 5, 6, 7, 8, 9] (.ops [⟨0, some 42, .mv (.tmp 7), none, []⟩, ⟨1, some 43, .mv (.tmp 0), none, []⟩, ⟨2, some 44, .call n_w_toFloat32S [.tmp 43], none, []⟩, ⟨3, some 45, .call n_w_eqFloat32S [.tmp 42, .tmp 44], none, []⟩, ⟨4, some 46, .un .not (.tmp 45), none, []⟩]))
  (.cond (.tmp 46) (.seq (.keep [] (.ops [⟨0, some 4, .mv (.const (.bool false)), none, []⟩]))
  (.ret)) (.skip)))
  (.seq (.keep [0, 1, 5, 6, 7, 8, 9] (.ops [⟨0, some 10, .mv (.const (.int .i64 1)), none, []⟩]))
  (.seq (.ops [⟨0, some 47, .mv (.tmp 7), none, []⟩, ⟨1, some 48, .mv (.tmp 10), none, []⟩, ⟨2, some 49, .call n_w_markFloat32S [.tmp 47, .tmp 48], none, []⟩, ⟨3, some 10, .mv (.tmp 49), none, []⟩])
  (.seq (.seq (.ops [⟨0, some 50, .mv (.tmp 10), none, []⟩, ⟨1, some 51, .bin .lss (.tmp 50) (.const (.int .i64 0)), none, []⟩, ⟨2, some 52, .mv (.tmp 51), none, []⟩, ⟨3, some 53, .mv (.tmp 8), (some (52, false)), []⟩, ⟨4, some 54, .mv (.tmp 5), (some (52, false)), []⟩, ⟨5, some 55, .call n_w_eqFloat32SS [.tmp 53, .tmp 54], (some (52, false)), []⟩, ⟨6, some 56, .un .not (.tmp 55), (some (52, false)), []⟩, ⟨7, some 57, .pick (.tmp 52) (.const (.bool true)) (.tmp 56), none, []⟩, ⟨8, some 58, .mv (.tmp 57), none, []⟩, ⟨9, some 59, .mv (.tmp 9), (some (58, false)), []⟩, ⟨10, some 60, .mv (.tmp 6), (some (58, false)), []⟩, ⟨11, some 61, .beq true (.tmp 59) (.tmp 60), (some (58, false)), []⟩, ⟨12, some 62, .pick (.tmp 58) (.const (.bool true)) (.tmp 61), none, []⟩])
  (.cond (.tmp 62) (.seq (.keep [] (.ops [⟨0, some 4, .mv (.const (.bool false)), none, []⟩]))
  (.ret)) (.skip)))
  (.seq (.keep [0, 1, 5, 6, 8] (.ops [⟨0, some 11, .mv (.const (.int .i64 1)), none, []⟩]))
  (.seq (.ops [⟨0, some 63, .mv (.tmp 8), none, []⟩, ⟨1, some 64, .mv (.tmp 11), none, []⟩, ⟨2, some 65, .call n_w_markFloat32SS [.tmp 63, .tmp 64], none, []⟩, ⟨3, some 11, .mv (.tmp 65), none, []⟩])
  (.seq (.ops [⟨0, some 12, .mv (.const (.int .i64 1)), none, []⟩])
  (.seq (.ops [⟨0, some 66, .mv (.tmp 8), none, []⟩, ⟨1, some 67, .mv (.tmp 12), none, []⟩, ⟨2, some 68, .call n_w_heldFloat32SS [.tmp 66, .tmp 67], none, []⟩, ⟨3, some 12, .mv (.tmp 68), none, []⟩])
  (.seq (.seq (.keep [0, 1, 5, 6, 8, 11, 12] (.ops [⟨0, some 69, .mv (.tmp 12), none, []⟩, ⟨1, some 70, .bin .lss (.tmp 69) (.const (.int .i64 0)), none, []⟩]))
  (.cond (.tmp 70) (.seq (.keep [] (.ops [⟨0, some 4, .mv (.const (.bool false)), none, []⟩]))
  (.ret)) (.skip)))
  (.seq (.seq (.ops [⟨0, some 71, .mv (.tmp 12), none, []⟩, ⟨1, some 72, .mv (.tmp 11), none, []⟩, ⟨2, some 73, .bin .neq (.tmp 71) (.tmp 72), none, []⟩])
  (.cond (.tmp 73) (.seq (.keep [] (.ops [⟨0, some 4, .mv (.const (.bool false)), none, []⟩]))
  (.ret)) (.skip)))
  (.seq (.keep [0, 1, 5, 6, 8, 11] (.ops [⟨0, some 75, .mv (.tmp 0), none, []⟩, ⟨1, some 76, .call n_w_toFloat32S [.tmp 75], none, []⟩, ⟨2, some 77, .mv (.tmp 1), none, []⟩, ⟨3, some 78, .call n_i_FrameOf [.tmp 76, .tmp 77], none, []⟩, ⟨4, some 74, .mv (.tmp 78), none, []⟩, ⟨5, some 79, .ext (.tmp 74) 0, none, []⟩, ⟨6, some 80, .ext (.tmp 74) 1, none, []⟩, ⟨7, some 13, .mv (.tmp 79), none, []⟩, ⟨8, some 14, .mv (.tmp 80), none, []⟩]))
  (.seq (.seq (.keep [5, 6, 8, 11, 13, 14] (.ops [⟨0, some 81, .mv (.tmp 13), none, []⟩, ⟨1, some 82, .mv (.tmp 5), none, []⟩, ⟨2, some 83, .call n_w_eqFloat32SS [.tmp 81, .tmp 82], none, []⟩, ⟨3, some 84, .un .not (.tmp 83), none, []⟩, ⟨4, some 85, .mv (.tmp 84), none, []⟩, ⟨5, some 86, .mv (.tmp 14), (some (85, false)), []⟩, ⟨6, some 87, .mv (.tmp 6), (some (85, false)), []⟩, ⟨7, some 88, .beq true (.tmp 86) (.tmp 87), (some (85, false)), []⟩, ⟨8, some 89, .pick (.tmp 85) (.const (.bool true)) (.tmp 88), none, []⟩]))
  (.cond (.tmp 89) (.seq (.keep [] (.ops [⟨0, some 4, .mv (.const (.bool false)), none, []⟩]))
  (.ret)) (.skip)))
  (.seq (.keep [8, 11] (.ops [⟨0, some 12, .mv (.const (.int .i64 1)), none, []⟩]))
  (.seq (.ops [⟨0, some 90, .mv (.tmp 8), none, []⟩, ⟨1, some 91, .mv (.tmp 12), none, []⟩, ⟨2, some 92, .call n_w_heldFloat32SS [.tmp 90, .tmp 91], none, []⟩, ⟨3, some 12, .mv (.tmp 92), none, []⟩])
  (.seq (.seq (.ops [⟨0, some 93, .mv (.tmp 12), none, []⟩, ⟨1, some 94, .bin .lss (.tmp 93) (.const (.int .i64 0)), none, []⟩])
  (.cond (.tmp 94) (.seq (.keep [] (.ops [⟨0, some 4, .mv (.const (.bool false)), none, []⟩]))
  (.ret)) (.skip)))
  (.seq (.seq (.keep [11, 12] (.ops [⟨0, some 95, .mv (.tmp 12), none, []⟩, ⟨1, some 96, .mv (.tmp 11), none, []⟩, ⟨2, some 97, .bin .neq (.tmp 95) (.tmp 96), none, []⟩]))
  (.cond (.tmp 97) (.seq (.keep [] (.ops [⟨0, some 4, .mv (.const (.bool false)), none, []⟩]))
  (.ret)) (.skip)))
  (.seq (.keep [] (.ops [⟨0, some 4, .mv (.const (.bool true)), none, []⟩]))
  (.ret)))))))))))))))))))))))
theorem k_w_FnExactFrameOf : FnOk Try.prog n_w_FnExactFrameOf 2 c_w_FnExactFrameOf [.tmp 4] := ⟨by kernel_rfl⟩
def c_s_FrameOf : ACode :=
  .seq (.ops [⟨0, some 4, .mv (.const (.slice none 0 0)), none, []⟩, ⟨1, some 5, .mv (.const (.bool false)), none, []⟩])
  (.seq (.seq (.ops [⟨0, some 16, .mv (.tmp 0), none, []⟩, ⟨1, some 17, .call n_s_l03Long [.tmp 16], none, []⟩, ⟨2, some 18, .un .not (.tmp 17), none, []⟩, ⟨3, some 19, .mv (.tmp 18), none, []⟩, ⟨4, some 20, .mv (.tmp 1), (some (19, false)), []⟩, ⟨5, some 21, .call n_s_l00In [.tmp 20, .const (.int .i64 0), .const (.int .i64 6)], (some (19, false)), []⟩, ⟨6, some 22, .un .not (.tmp 21), (some (19, false)), []⟩, ⟨7, some 23, .pick (.tmp 19) (.const (.bool true)) (.tmp 22), none, []⟩])
  (.cond (.tmp 23) (.seq (.keep [] (.ops [⟨0, some 4, .mv (.const (.slice none 0 0)), none, []⟩, ⟨1, some 5, .mv (.const (.bool false)), none, []⟩]))
  (.ret)) (.skip)))
  (.seq (.keep [0, 1] (.ops [⟨0, some 24, .mv (.tmp 0), none, []⟩, ⟨1, some 25, .len (.tmp 24), none, []⟩, ⟨2, some 6, .mv (.tmp 25), none, []⟩]))
  (.seq (.ops [⟨0, some 26, .bsl 34 0 (.float .f32 0) [], none, []⟩, ⟨1, some 27, .mv (.tmp 0), none, []⟩, ⟨2, some 28, .app 34 4 (.tmp 26) (.tmp 27), none, []⟩, ⟨3, some 7, .mv (.tmp 28), none, []⟩])
  (.seq (.keep [1, 6, 7] (.ops [⟨0, some 29, .bsl 22 0 (.slice none 0 0) [], none, []⟩, ⟨1, some 8, .mv (.tmp 29), none, []⟩]))
  (.seq (.ops [⟨0, some 30, .bsl 34 5 (.float .f32 0) [(0, .const (.float .f32 1031798784)), (1, .const (.float .f32 1048576000)), (2, .const (.float .f32 1052770304)), (3, .const (.float .f32 1048576000)), (4, .const (.float .f32 1031798784))], none, []⟩, ⟨1, some 9, .mv (.tmp 30), none, []⟩])
  (.seq (.ops [⟨0, some 10, .mv (.const (.int .i64 1)), none, []⟩])
  (.seq (.block 0 (.loop [1, 6, 7, 8, 9, 10] (.seq (.seq (.ops [⟨0, some 31, .mv (.tmp 1), none, []⟩, ⟨1, some 32, .bin .gtr (.tmp 31) (.const (.int .i64 0)), none, []⟩])
  (.cond (.tmp 32) (.skip) (.exit 0)))
  (.seq (.block 1 (.seq (.ops [⟨0, some 35, .bsl 34 0 (.float .f32 0) [], none, []⟩, ⟨1, some 11, .mv (.tmp 35), none, []⟩])
  (.seq (.ops [⟨0, some 36, .bsl 34 0 (.float .f32 0) [], none, []⟩, ⟨1, some 12, .mv (.tmp 36), none, []⟩])
  (.seq (.seq (.ops [⟨0, some 13, .mv (.const (.int .i64 0)), none, []⟩])
  (.block 2 (.loop [1, 6, 7, 8, 9, 10, 11, 12, 13] (.seq (.seq (.ops [⟨0, some 37, .mv (.tmp 13), none, []⟩, ⟨1, some 38, .mv (.tmp 6), none, []⟩, ⟨2, some 39, .bin .lss (.tmp 37) (.tmp 38), none, []⟩])
  (.cond (.tmp 39) (.skip) (.exit 2)))
  (.seq (.block 3 (.seq (.ops [⟨0, some 14, .mv (.const (.float .f32 0)), none, []⟩])
  (.seq (.seq (.ops [⟨0, some 42, .mv (.tmp 9), none, []⟩, ⟨1, some 43, .len (.tmp 42), none, []⟩, ⟨2, some 44, .mv (.const (.int .i64 0)), none, []⟩])
  (.block 4 (.loop [1, 6, 7, 8, 9, 10, 11, 12, 13, 14, 43, 44] (.seq (.ops [⟨0, some 45, .bin .lss (.tmp 44) (.tmp 43), none, []⟩])
  (.seq (.cond (.tmp 45) (.skip) (.exit 4))
  (.seq (.block 5 (.seq (.ops [⟨0, some 46, .mv (.tmp 44), none, []⟩, ⟨1, some 15, .mv (.tmp 46), none, []⟩])
  (.ops [⟨0, some 47, .mv (.tmp 14), none, []⟩, ⟨1, some 48, .mv (.tmp 7), none, []⟩, ⟨2, some 49, .mv (.tmp 13), none, []⟩, ⟨3, some 50, .mv (.tmp 15), none, []⟩, ⟨4, some 51, .bin .sub (.tmp 50) (.const (.int .i64 2)), none, []⟩, ⟨5, some 52, .mv (.tmp 10), none, []⟩, ⟨6, some 53, .bin .mul (.tmp 51) (.tmp 52), none, []⟩, ⟨7, some 54, .bin .add (.tmp 49) (.tmp 53), none, []⟩, ⟨8, some 55, .mv (.tmp 6), none, []⟩, ⟨12, some 59, .mv (.tmp 9), none, []⟩, ⟨13, some 60, .mv (.tmp 15), none, []⟩, ⟨14, some 61, .ia (.tmp 59) (.tmp 60), none, []⟩, ⟨15, some 62, .ld (.tmp 61), none, []⟩, ⟨9, some 56, .call n_s_l03Mirror [.tmp 54, .tmp 55], none, [(some 61, .ia (.tmp 59) (.tmp 60), none), (some 62, .ld (.tmp 61), none)]⟩, ⟨10, some 57, .ia (.tmp 48) (.tmp 56), none, []⟩, ⟨11, some 58, .ld (.tmp 57), none, []⟩, ⟨16, some 63, .bin .mul (.tmp 58) (.tmp 62), none, []⟩, ⟨17, some 64, .bin .add (.tmp 47) (.tmp 63), none, []⟩, ⟨18, some 14, .mv (.tmp 64), none, []⟩])))
  (.keep [1, 6, 7, 8, 9, 10, 11, 12, 13, 14, 43, 44] (.ops [⟨0, some 65, .bin .add (.tmp 44) (.const (.int .i64 1)), none, []⟩, ⟨1, some 44, .mv (.tmp 65), none, []⟩]))))))))
  (.seq (.ops [⟨0, some 66, .mv (.tmp 11), none, []⟩, ⟨1, some 67, .mv (.tmp 14), none, []⟩, ⟨2, some 68, .bsl 34 1 (.float .f32 0) [(0, .tmp 67)], none, []⟩, ⟨3, some 69, .app 34 4 (.tmp 66) (.tmp 68), none, []⟩, ⟨4, some 11, .mv (.tmp 69), none, []⟩])
  (.keep [1, 6, 7, 8, 9, 10, 11, 12, 13, 14] (.ops [⟨0, some 70, .mv (.tmp 12), none, []⟩, ⟨1, some 71, .mv (.tmp 7), none, []⟩, ⟨2, some 72, .mv (.tmp 13), none, []⟩, ⟨3, some 73, .ia (.tmp 71) (.tmp 72), none, []⟩, ⟨4, some 74, .ld (.tmp 73), none, []⟩, ⟨5, some 75, .mv (.tmp 14), none, []⟩, ⟨6, some 76, .bin .sub (.tmp 74) (.tmp 75), none, []⟩, ⟨7, some 77, .bsl 34 1 (.float .f32 0) [(0, .tmp 76)], none, []⟩, ⟨8, some 78, .app 34 4 (.tmp 70) (.tmp 77), none, []⟩, ⟨9, some 12, .mv (.tmp 78), none, []⟩]))))))
  (.keep [1, 6, 7, 8, 9, 10, 11, 12, 13] (.ops [⟨0, some 40, .mv (.tmp 13), none, []⟩, ⟨1, some 41, .bin .add (.tmp 40) (.const (.int .i64 1)), none, []⟩, ⟨2, some 13, .mv (.tmp 41), none, []⟩])))))))
  (.seq (.seq (.keep [1, 6, 8, 9, 10, 11, 12] (.ops [⟨0, some 79, .mv (.tmp 12), none, []⟩, ⟨1, some 80, .call n_s_l02Finite [.tmp 79], none, []⟩, ⟨2, some 81, .un .not (.tmp 80), none, []⟩, ⟨3, some 82, .mv (.tmp 81), none, []⟩, ⟨4, some 83, .mv (.tmp 11), (some (82, false)), []⟩, ⟨5, some 84, .call n_s_l02Finite [.tmp 83], (some (82, false)), []⟩, ⟨6, some 85, .un .not (.tmp 84), (some (82, false)), []⟩, ⟨7, some 86, .pick (.tmp 82) (.const (.bool true)) (.tmp 85), none, []⟩]))
  (.cond (.tmp 86) (.seq (.keep [] (.ops [⟨0, some 4, .mv (.const (.slice none 0 0)), none, []⟩, ⟨1, some 5, .mv (.const (.bool false)), none, []⟩]))
  (.ret)) (.skip)))
  (.seq (.keep [1, 6, 8, 9, 10, 11, 12] (.ops [⟨0, some 87, .mv (.tmp 8), none, []⟩, ⟨1, some 88, .mv (.tmp 12), none, []⟩, ⟨2, some 89, .bsl 22 1 (.slice none 0 0) [(0, .tmp 88)], none, []⟩, ⟨3, some 90, .app 22 24 (.tmp 87) (.tmp 89), none, []⟩, ⟨4, some 8, .mv (.tmp 90), none, []⟩]))
  (.seq (.keep [1, 6, 8, 9, 10, 11] (.ops [⟨0, some 91, .mv (.tmp 11), none, []⟩, ⟨1, some 7, .mv (.tmp 91), none, []⟩]))
  (.ops [⟨0, some 92, .mv (.tmp 10), none, []⟩, ⟨1, some 93, .bin .mul (.tmp 92) (.const (.int .i64 2)), none, []⟩, ⟨2, some 10, .mv (.tmp 93), none, []⟩]))))))))
  (.ops [⟨0, some 33, .mv (.tmp 1), none, []⟩, ⟨1, some 34, .bin .sub (.tmp 33) (.const (.int .i64 1)), none, []⟩, ⟨2, some 1, .mv (.tmp 34), none, []⟩])))))
  (.seq (.keep [7, 8] (.ops [⟨0, some 94, .mv (.tmp 8), none, []⟩, ⟨1, some 95, .mv (.tmp 7), none, []⟩, ⟨2, some 96, .bsl 22 1 (.slice none 0 0) [(0, .tmp 95)], none, []⟩, ⟨3, some 97, .app 22 24 (.tmp 94) (.tmp 96), none, []⟩, ⟨4, some 4, .mv (.tmp 97), none, []⟩, ⟨5, some 5, .mv (.const (.bool true)), none, []⟩]))
  (.ret)))))))))
theorem k_s_FrameOf : FnOk Try.prog n_s_FrameOf 2 c_s_FrameOf [.tmp 4, .tmp 5] := ⟨by kernel_rfl⟩
def c_w_toFloat32S : ACode :=
  .seq (.ops [⟨0, some 2, .mv (.const (.slice none 0 0)), none, []⟩])
  (.seq (.ops [⟨0, some 5, .mv (.tmp 0), none, []⟩, ⟨1, some 6, .len (.tmp 5), none, []⟩, ⟨2, some 7, .mks 34 4 (.float .f32 0) (.tmp 6) (.tmp 6), none, []⟩, ⟨3, some 3, .mv (.tmp 7), none, []⟩])
  (.seq (.seq (.ops [⟨0, some 4, .mv (.const (.int .i64 0)), none, []⟩])
  (.block 0 (.loop [0, 3, 4] (.seq (.seq (.ops [⟨0, some 8, .mv (.tmp 4), none, []⟩, ⟨1, some 9, .mv (.tmp 0), none, []⟩, ⟨2, some 10, .len (.tmp 9), none, []⟩, ⟨3, some 11, .bin .lss (.tmp 8) (.tmp 10), none, []⟩])
  (.cond (.tmp 11) (.skip) (.exit 0)))
  (.seq (.block 1 (.ops [⟨0, some 14, .mv (.tmp 3), none, []⟩, ⟨1, some 15, .mv (.tmp 4), none, []⟩, ⟨2, some 16, .mv (.tmp 0), none, []⟩, ⟨3, some 17, .mv (.tmp 4), none, []⟩, ⟨4, some 18, .ia (.tmp 16) (.tmp 17), none, []⟩, ⟨5, some 19, .ld (.tmp 18), none, []⟩, ⟨6, some 20, .ia (.tmp 14) (.tmp 15), none, []⟩, ⟨7, none, .st (.tmp 20) (.tmp 19), none, []⟩]))
  (.keep [0, 3, 4] (.ops [⟨0, some 12, .mv (.tmp 4), none, []⟩, ⟨1, some 13, .bin .add (.tmp 12) (.const (.int .i64 1)), none, []⟩, ⟨2, some 4, .mv (.tmp 13), none, []⟩])))))))
  (.seq (.keep [3] (.ops [⟨0, some 21, .mv (.tmp 3), none, []⟩, ⟨1, some 2, .mv (.tmp 21), none, []⟩]))
  (.ret))))
theorem k_w_toFloat32S : FnOk Try.prog n_w_toFloat32S 1 c_w_toFloat32S [.tmp 2] := ⟨by kernel_rfl⟩
def c_i_FrameOf : ACode :=
  .seq (.ops [⟨0, some 4, .mv (.const (.slice none 0 0)), none, []⟩, ⟨1, some 5, .mv (.const (.bool false)), none, []⟩])
  (.seq (.seq (.ops [⟨0, some 13, .mv (.tmp 0), none, []⟩, ⟨1, some 14, .call n_i_isLong [.tmp 13], none, []⟩, ⟨2, some 15, .un .not (.tmp 14), none, []⟩, ⟨3, some 16, .mv (.tmp 15), none, []⟩, ⟨4, some 17, .mv (.tmp 1), (some (16, false)), []⟩, ⟨5, some 18, .call n_i_within [.tmp 17, .const (.int .i64 0), .const (.int .i64 6)], (some (16, false)), []⟩, ⟨6, some 19, .un .not (.tmp 18), (some (16, false)), []⟩, ⟨7, some 20, .pick (.tmp 16) (.const (.bool true)) (.tmp 19), none, []⟩])
  (.cond (.tmp 20) (.seq (.keep [] (.ops [⟨0, some 4, .mv (.const (.slice none 0 0)), none, []⟩, ⟨1, some 5, .mv (.const (.bool false)), none, []⟩]))
  (.ret)) (.skip)))
  (.seq (.keep [0, 1] (.ops [⟨0, some 21, .bsl 22 0 (.slice none 0 0) [], none, []⟩, ⟨1, some 22, .mv (.tmp 0), none, []⟩, ⟨2, some 23, .call n_i_copyOf [.tmp 22], none, []⟩, ⟨3, some 6, .mv (.tmp 21), none, []⟩, ⟨4, some 7, .mv (.tmp 23), none, []⟩]))
  (.seq (.seq (.ops [⟨0, some 24, .mv (.tmp 1), none, []⟩, ⟨1, some 25, .mv (.const (.int .i64 0)), none, []⟩])
  (.block 0 (.loop [6, 7, 24, 25] (.seq (.ops [⟨0, some 26, .bin .lss (.tmp 25) (.tmp 24), none, []⟩])
  (.seq (.cond (.tmp 26) (.skip) (.exit 0))
  (.seq (.block 1 (.seq (.ops [⟨0, some 27, .mv (.tmp 25), none, []⟩, ⟨1, some 8, .mv (.tmp 27), none, []⟩])
  (.seq (.ops [⟨0, some 28, .mv (.tmp 7), none, []⟩, ⟨1, some 29, .mv (.tmp 8), none, []⟩, ⟨2, some 30, .bin .shl (.const (.int .i64 1)) (.tmp 29), none, []⟩, ⟨3, some 31, .call n_i_smoothed [.tmp 28, .tmp 30], none, []⟩, ⟨4, some 9, .mv (.tmp 31), none, []⟩])
  (.seq (.keep [6, 7, 9, 24, 25] (.ops [⟨0, some 32, .bsl 34 0 (.float .f32 0) [], none, []⟩, ⟨1, some 10, .mv (.tmp 32), none, []⟩]))
  (.seq (.seq (.ops [⟨0, some 33, .mv (.tmp 7), none, []⟩, ⟨1, some 34, .len (.tmp 33), none, []⟩, ⟨2, some 35, .mv (.const (.int .i64 0)), none, []⟩])
  (.block 2 (.loop [6, 9, 10, 24, 25, 33, 34, 35] (.seq (.ops [⟨0, some 36, .bin .lss (.tmp 35) (.tmp 34), none, []⟩])
  (.seq (.cond (.tmp 36) (.skip) (.exit 2))
  (.seq (.block 3 (.seq (.ops [⟨0, some 37, .mv (.tmp 35), none, []⟩, ⟨1, some 38, .ia (.tmp 33) (.tmp 35), none, []⟩, ⟨2, some 39, .ld (.tmp 38), none, []⟩, ⟨3, some 11, .mv (.tmp 37), none, []⟩, ⟨4, some 12, .mv (.tmp 39), none, []⟩])
  (.ops [⟨0, some 40, .mv (.tmp 10), none, []⟩, ⟨1, some 41, .mv (.tmp 12), none, []⟩, ⟨2, some 42, .mv (.tmp 9), none, []⟩, ⟨3, some 43, .mv (.tmp 11), none, []⟩, ⟨4, some 44, .ia (.tmp 42) (.tmp 43), none, []⟩, ⟨5, some 45, .ld (.tmp 44), none, []⟩, ⟨6, some 46, .bin .sub (.tmp 41) (.tmp 45), none, []⟩, ⟨7, some 47, .bsl 34 1 (.float .f32 0) [(0, .tmp 46)], none, []⟩, ⟨8, some 48, .app 34 4 (.tmp 40) (.tmp 47), none, []⟩, ⟨9, some 10, .mv (.tmp 48), none, []⟩])))
  (.keep [6, 9, 10, 24, 25, 33, 34, 35] (.ops [⟨0, some 49, .bin .add (.tmp 35) (.const (.int .i64 1)), none, []⟩, ⟨1, some 35, .mv (.tmp 49), none, []⟩]))))))))
  (.seq (.ops [⟨0, some 50, .mv (.tmp 6), none, []⟩, ⟨1, some 51, .mv (.tmp 10), none, []⟩, ⟨2, some 52, .bsl 22 1 (.slice none 0 0) [(0, .tmp 51)], none, []⟩, ⟨3, some 53, .app 22 24 (.tmp 50) (.tmp 52), none, []⟩, ⟨4, some 6, .mv (.tmp 53), none, []⟩])
  (.keep [6, 9, 24, 25] (.ops [⟨0, some 54, .mv (.tmp 9), none, []⟩, ⟨1, some 7, .mv (.tmp 54), none, []⟩]))))))))
  (.ops [⟨0, some 55, .bin .add (.tmp 25) (.const (.int .i64 1)), none, []⟩, ⟨1, some 25, .mv (.tmp 55), none, []⟩])))))))
  (.seq (.ops [⟨0, some 56, .mv (.tmp 6), none, []⟩, ⟨1, some 57, .mv (.tmp 7), none, []⟩, ⟨2, some 58, .bsl 22 1 (.slice none 0 0) [(0, .tmp 57)], none, []⟩, ⟨3, some 59, .app 22 24 (.tmp 56) (.tmp 58), none, []⟩, ⟨4, some 60, .call n_i_finiteLists [.tmp 59], none, []⟩, ⟨5, some 61, .ext (.tmp 60) 0, none, []⟩, ⟨6, some 62, .ext (.tmp 60) 1, none, []⟩, ⟨7, some 4, .mv (.tmp 61), none, []⟩, ⟨8, some 5, .mv (.tmp 62), none, []⟩])
  (.ret)))))
theorem k_i_FrameOf : FnOk Try.prog n_i_FrameOf 2 c_i_FrameOf [.tmp 4, .tmp 5] := ⟨by kernel_rfl⟩
def c_w_eqFloat32SS : ACode :=
  .seq (.ops [⟨0, some 4, .mv (.const (.bool false)), none, []⟩])
  (.seq (.seq (.ops [⟨0, some 6, .mv (.tmp 0), none, []⟩, ⟨1, some 7, .len (.tmp 6), none, []⟩, ⟨2, some 8, .mv (.tmp 1), none, []⟩, ⟨3, some 9, .len (.tmp 8), none, []⟩, ⟨4, some 10, .bin .neq (.tmp 7) (.tmp 9), none, []⟩])
  (.cond (.tmp 10) (.seq (.keep [] (.ops [⟨0, some 4, .mv (.const (.bool false)), none, []⟩]))
  (.ret)) (.skip)))
  (.seq (.seq (.keep [0, 1] (.ops [⟨0, some 5, .mv (.const (.int .i64 0)), none, []⟩]))
  (.block 0 (.loop [0, 1, 5] (.seq (.seq (.ops [⟨0, some 11, .mv (.tmp 5), none, []⟩, ⟨1, some 12, .mv (.tmp 0), none, []⟩, ⟨2, some 13, .len (.tmp 12), none, []⟩, ⟨3, some 14, .bin .lss (.tmp 11) (.tmp 13), none, []⟩])
  (.cond (.tmp 14) (.skip) (.exit 0)))
  (.seq (.block 1 (.seq (.ops [⟨0, some 17, .mv (.tmp 0), none, []⟩, ⟨1, some 18, .mv (.tmp 5), none, []⟩, ⟨2, some 19, .ia (.tmp 17) (.tmp 18), none, []⟩, ⟨3, some 20, .ld (.tmp 19), none, []⟩, ⟨4, some 21, .mv (.tmp 1), none, []⟩, ⟨5, some 22, .mv (.tmp 5), none, []⟩, ⟨6, some 23, .ia (.tmp 21) (.tmp 22), none, []⟩, ⟨7, some 24, .ld (.tmp 23), none, []⟩, ⟨8, some 25, .call n_w_eqFloat32S [.tmp 20, .tmp 24], none, []⟩, ⟨9, some 26, .un .not (.tmp 25), none, []⟩])
  (.cond (.tmp 26) (.seq (.keep [] (.ops [⟨0, some 4, .mv (.const (.bool false)), none, []⟩]))
  (.ret)) (.skip))))
  (.keep [0, 1, 5] (.ops [⟨0, some 15, .mv (.tmp 5), none, []⟩, ⟨1, some 16, .bin .add (.tmp 15) (.const (.int .i64 1)), none, []⟩, ⟨2, some 5, .mv (.tmp 16), none, []⟩])))))))
  (.seq (.keep [] (.ops [⟨0, some 4, .mv (.const (.bool true)), none, []⟩]))
  (.ret))))
theorem k_w_eqFloat32SS : FnOk Try.prog n_w_eqFloat32SS 2 c_w_eqFloat32SS [.tmp 4] := ⟨by kernel_rfl⟩
def c_w_eqFloat32S : ACode :=
  .seq (.ops [⟨0, some 4, .mv (.const (.bool false)), none, []⟩])
  (.seq (.seq (.ops [⟨0, some 6, .mv (.tmp 0), none, []⟩, ⟨1, some 7, .len (.tmp 6), none, []⟩, ⟨2, some 8, .mv (.tmp 1), none, []⟩, ⟨3, some 9, .len (.tmp 8), none, []⟩, ⟨4, some 10, .bin .neq (.tmp 7) (.tmp 9), none, []⟩])
  (.cond (.tmp 10) (.seq (.keep [] (.ops [⟨0, some 4, .mv (.const (.bool false)), none, []⟩]))
  (.ret)) (.skip)))
  (.seq (.seq (.keep [0, 1] (.ops [⟨0, some 5, .mv (.const (.int .i64 0)), none, []⟩]))
  (.block 0 (.loop [0, 1, 5] (.seq (.seq (.ops [⟨0, some 11, .mv (.tmp 5), none, []⟩, ⟨1, some 12, .mv (.tmp 0), none, []⟩, ⟨2, some 13, .len (.tmp 12), none, []⟩, ⟨3, some 14, .bin .lss (.tmp 11) (.tmp 13), none, []⟩])
  (.cond (.tmp 14) (.skip) (.exit 0)))
  (.seq (.block 1 (.seq (.ops [⟨0, some 17, .mv (.tmp 0), none, []⟩, ⟨1, some 18, .mv (.tmp 5), none, []⟩, ⟨2, some 19, .ia (.tmp 17) (.tmp 18), none, []⟩, ⟨3, some 20, .ld (.tmp 19), none, []⟩, ⟨4, some 21, .cv (.f .f64) (.tmp 20), none, []⟩, ⟨5, some 22, .mv (.tmp 1), none, []⟩, ⟨6, some 23, .mv (.tmp 5), none, []⟩, ⟨7, some 24, .ia (.tmp 22) (.tmp 23), none, []⟩, ⟨8, some 25, .ld (.tmp 24), none, []⟩, ⟨9, some 26, .cv (.f .f64) (.tmp 25), none, []⟩, ⟨10, some 27, .call n_w_sameFloat [.tmp 21, .tmp 26], none, []⟩, ⟨11, some 28, .un .not (.tmp 27), none, []⟩])
  (.cond (.tmp 28) (.seq (.keep [] (.ops [⟨0, some 4, .mv (.const (.bool false)), none, []⟩]))
  (.ret)) (.skip))))
  (.keep [0, 1, 5] (.ops [⟨0, some 15, .mv (.tmp 5), none, []⟩, ⟨1, some 16, .bin .add (.tmp 15) (.const (.int .i64 1)), none, []⟩, ⟨2, some 5, .mv (.tmp 16), none, []⟩])))))))
  (.seq (.keep [] (.ops [⟨0, some 4, .mv (.const (.bool true)), none, []⟩]))
  (.ret))))
theorem k_w_eqFloat32S : FnOk Try.prog n_w_eqFloat32S 2 c_w_eqFloat32S [.tmp 4] := ⟨by kernel_rfl⟩
def c_w_markFloat32S : ACode :=
  .seq (.ops [⟨0, some 4, .mv (.const (.int .i64 0)), none, []⟩])
  (.seq (.seq (.ops [⟨0, some 5, .mv (.const (.int .i64 0)), none, []⟩])
  (.block 0 (.loop [0, 1, 5] (.seq (.seq (.ops [⟨0, some 6, .mv (.tmp 5), none, []⟩, ⟨1, some 7, .mv (.tmp 0), none, []⟩, ⟨2, some 8, .len (.tmp 7), none, []⟩, ⟨3, some 9, .bin .lss (.tmp 6) (.tmp 8), none, []⟩])
  (.cond (.tmp 9) (.skip) (.exit 0)))
  (.seq (.block 1 (.seq (.ops [⟨0, some 12, .mv (.tmp 0), none, []⟩, ⟨1, some 13, .mv (.tmp 5), none, []⟩, ⟨2, some 14, .mv (.tmp 1), none, []⟩, ⟨3, some 15, .cv (.f .f32) (.tmp 14), none, []⟩, ⟨4, some 16, .ia (.tmp 12) (.tmp 13), none, []⟩, ⟨5, none, .st (.tmp 16) (.tmp 15), none, []⟩])
  (.keep [0, 1, 5] (.ops [⟨0, some 17, .mv (.tmp 1), none, []⟩, ⟨1, some 18, .bin .add (.tmp 17) (.const (.int .i64 1)), none, []⟩, ⟨2, some 1, .mv (.tmp 18), none, []⟩]))))
  (.ops [⟨0, some 10, .mv (.tmp 5), none, []⟩, ⟨1, some 11, .bin .add (.tmp 10) (.const (.int .i64 1)), none, []⟩, ⟨2, some 5, .mv (.tmp 11), none, []⟩]))))))
  (.seq (.keep [1] (.ops [⟨0, some 19, .mv (.tmp 1), none, []⟩, ⟨1, some 4, .mv (.tmp 19), none, []⟩]))
  (.ret)))
theorem k_w_markFloat32S : FnOk Try.prog n_w_markFloat32S 2 c_w_markFloat32S [.tmp 4] := ⟨by kernel_rfl⟩
def c_w_markFloat32SS : ACode :=
  .seq (.ops [⟨0, some 4, .mv (.const (.int .i64 0)), none, []⟩])
  (.seq (.seq (.ops [⟨0, some 5, .mv (.const (.int .i64 0)), none, []⟩])
  (.block 0 (.loop [0, 1, 5] (.seq (.seq (.ops [⟨0, some 6, .mv (.tmp 5), none, []⟩, ⟨1, some 7, .mv (.tmp 0), none, []⟩, ⟨2, some 8, .len (.tmp 7), none, []⟩, ⟨3, some 9, .bin .lss (.tmp 6) (.tmp 8), none, []⟩])
  (.cond (.tmp 9) (.skip) (.exit 0)))
  (.seq (.block 1 (.ops [⟨0, some 12, .mv (.tmp 0), none, []⟩, ⟨1, some 13, .mv (.tmp 5), none, []⟩, ⟨2, some 14, .ia (.tmp 12) (.tmp 13), none, []⟩, ⟨3, some 15, .ld (.tmp 14), none, []⟩, ⟨4, some 16, .mv (.tmp 1), none, []⟩, ⟨5, some 17, .call n_w_markFloat32S [.tmp 15, .tmp 16], none, []⟩, ⟨6, some 1, .mv (.tmp 17), none, []⟩]))
  (.keep [0, 1, 5] (.ops [⟨0, some 10, .mv (.tmp 5), none, []⟩, ⟨1, some 11, .bin .add (.tmp 10) (.const (.int .i64 1)), none, []⟩, ⟨2, some 5, .mv (.tmp 11), none, []⟩])))))))
  (.seq (.keep [1] (.ops [⟨0, some 18, .mv (.tmp 1), none, []⟩, ⟨1, some 4, .mv (.tmp 18), none, []⟩]))
  (.ret)))
theorem k_w_markFloat32SS : FnOk Try.prog n_w_markFloat32SS 2 c_w_markFloat32SS [.tmp 4] := ⟨by kernel_rfl⟩
def c_w_heldFloat32SS : ACode :=
  .seq (.ops [⟨0, some 4, .mv (.const (.int .i64 0)), none, []⟩])
  (.seq (.seq (.ops [⟨0, some 5, .mv (.const (.int .i64 0)), none, []⟩])
  (.block 0 (.loop [0, 1, 5] (.seq (.seq (.ops [⟨0, some 6, .mv (.tmp 5), none, []⟩, ⟨1, some 7, .mv (.tmp 0), none, []⟩, ⟨2, some 8, .len (.tmp 7), none, []⟩, ⟨3, some 9, .bin .lss (.tmp 6) (.tmp 8), none, []⟩])
  (.cond (.tmp 9) (.skip) (.exit 0)))
  (.seq (.block 1 (.seq (.ops [⟨0, some 12, .mv (.tmp 0), none, []⟩, ⟨1, some 13, .mv (.tmp 5), none, []⟩, ⟨2, some 14, .ia (.tmp 12) (.tmp 13), none, []⟩, ⟨3, some 15, .ld (.tmp 14), none, []⟩, ⟨4, some 16, .mv (.tmp 1), none, []⟩, ⟨5, some 17, .call n_w_heldFloat32S [.tmp 15, .tmp 16], none, []⟩, ⟨6, some 1, .mv (.tmp 17), none, []⟩])
  (.seq (.keep [0, 1, 5] (.ops [⟨0, some 18, .mv (.tmp 1), none, []⟩, ⟨1, some 19, .bin .lss (.tmp 18) (.const (.int .i64 0)), none, []⟩]))
  (.cond (.tmp 19) (.seq (.keep [] (.ops [⟨0, some 4, .mv (.const (.int .i64 (-1))), none, []⟩]))
  (.ret)) (.skip)))))
  (.ops [⟨0, some 10, .mv (.tmp 5), none, []⟩, ⟨1, some 11, .bin .add (.tmp 10) (.const (.int .i64 1)), none, []⟩, ⟨2, some 5, .mv (.tmp 11), none, []⟩]))))))
  (.seq (.keep [1] (.ops [⟨0, some 20, .mv (.tmp 1), none, []⟩, ⟨1, some 4, .mv (.tmp 20), none, []⟩]))
  (.ret)))
theorem k_w_heldFloat32SS : FnOk Try.prog n_w_heldFloat32SS 2 c_w_heldFloat32SS [.tmp 4] := ⟨by kernel_rfl⟩
def c_w_heldFloat32S : ACode :=
  .seq (.ops [⟨0, some 4, .mv (.const (.int .i64 0)), none, []⟩])
  (.seq (.seq (.ops [⟨0, some 5, .mv (.const (.int .i64 0)), none, []⟩])
  (.block 0 (.loop [0, 1, 5] (.seq (.seq (.ops [⟨0, some 6, .mv (.tmp 5), none, []⟩, ⟨1, some 7, .mv (.tmp 0), none, []⟩, ⟨2, some 8, .len (.tmp 7), none, []⟩, ⟨3, some 9, .bin .lss (.tmp 6) (.tmp 8), none, []⟩])
  (.cond (.tmp 9) (.skip) (.exit 0)))
  (.seq (.block 1 (.seq (.seq (.ops [⟨0, some 12, .mv (.tmp 0), none, []⟩, ⟨1, some 13, .mv (.tmp 5), none, []⟩, ⟨2, some 14, .ia (.tmp 12) (.tmp 13), none, []⟩, ⟨3, some 15, .ld (.tmp 14), none, []⟩, ⟨4, some 16, .mv (.tmp 1), none, []⟩, ⟨5, some 17, .cv (.f .f32) (.tmp 16), none, []⟩, ⟨6, some 18, .bin .neq (.tmp 15) (.tmp 17), none, []⟩])
  (.cond (.tmp 18) (.seq (.keep [] (.ops [⟨0, some 4, .mv (.const (.int .i64 (-1))), none, []⟩]))
  (.ret)) (.skip)))
  (.keep [0, 1, 5] (.ops [⟨0, some 19, .mv (.tmp 1), none, []⟩, ⟨1, some 20, .bin .add (.tmp 19) (.const (.int .i64 1)), none, []⟩, ⟨2, some 1, .mv (.tmp 20), none, []⟩]))))
  (.ops [⟨0, some 10, .mv (.tmp 5), none, []⟩, ⟨1, some 11, .bin .add (.tmp 10) (.const (.int .i64 1)), none, []⟩, ⟨2, some 5, .mv (.tmp 11), none, []⟩]))))))
  (.seq (.keep [1] (.ops [⟨0, some 21, .mv (.tmp 1), none, []⟩, ⟨1, some 4, .mv (.tmp 21), none, []⟩]))
  (.ret)))
theorem k_w_heldFloat32S : FnOk Try.prog n_w_heldFloat32S 2 c_w_heldFloat32S [.tmp 4] := ⟨by kernel_rfl⟩
def c_w_sameFloat : ACode :=
  .seq (.ops [⟨0, some 4, .mv (.const (.bool false)), none, []⟩])
  (.seq (.seq (.ops [⟨0, some 5, .mv (.tmp 0), none, []⟩, ⟨1, some 6, .mv (.tmp 0), none, []⟩, ⟨2, some 7, .bin .neq (.tmp 5) (.tmp 6), none, []⟩, ⟨3, some 8, .mv (.tmp 7), none, []⟩, ⟨4, some 9, .mv (.tmp 1), (some (8, false)), []⟩, ⟨5, some 10, .mv (.tmp 1), (some (8, false)), []⟩, ⟨6, some 11, .bin .neq (.tmp 9) (.tmp 10), (some (8, false)), []⟩, ⟨7, some 12, .pick (.tmp 8) (.const (.bool true)) (.tmp 11), none, []⟩])
  (.cond (.tmp 12) (.seq (.keep [0, 1] (.ops [⟨0, some 13, .mv (.tmp 0), none, []⟩, ⟨1, some 14, .mv (.tmp 0), none, []⟩, ⟨2, some 15, .bin .neq (.tmp 13) (.tmp 14), none, []⟩, ⟨3, some 16, .mv (.tmp 15), none, []⟩, ⟨4, some 17, .mv (.tmp 1), (some (16, true)), []⟩, ⟨5, some 18, .mv (.tmp 1), (some (16, true)), []⟩, ⟨6, some 19, .bin .neq (.tmp 17) (.tmp 18), (some (16, true)), []⟩, ⟨7, some 20, .pick (.tmp 16) (.tmp 19) (.const (.bool false)), none, []⟩, ⟨8, some 4, .mv (.tmp 20), none, []⟩]))
  (.ret)) (.skip)))
  (.seq (.seq (.keep [0, 1] (.ops [⟨0, some 21, .mv (.tmp 0), none, []⟩, ⟨1, some 22, .bin .eql (.tmp 21) (.const (.float .f64 0)), none, []⟩, ⟨2, some 23, .mv (.tmp 22), none, []⟩, ⟨3, some 24, .mv (.tmp 1), (some (23, true)), []⟩, ⟨4, some 25, .bin .eql (.tmp 24) (.const (.float .f64 0)), (some (23, true)), []⟩, ⟨5, some 26, .pick (.tmp 23) (.tmp 25) (.const (.bool false)), none, []⟩]))
  (.cond (.tmp 26) (.seq (.keep [0, 1] (.ops [⟨0, some 27, .mv (.tmp 0), none, []⟩, ⟨1, some 28, .bin .quo (.const (.float .f64 4607182418800017408)) (.tmp 27), none, []⟩, ⟨2, some 29, .bin .gtr (.tmp 28) (.const (.float .f64 0)), none, []⟩, ⟨3, some 30, .mv (.tmp 1), none, []⟩, ⟨4, some 31, .bin .quo (.const (.float .f64 4607182418800017408)) (.tmp 30), none, []⟩, ⟨5, some 32, .bin .gtr (.tmp 31) (.const (.float .f64 0)), none, []⟩, ⟨6, some 33, .beq false (.tmp 29) (.tmp 32), none, []⟩, ⟨7, some 4, .mv (.tmp 33), none, []⟩]))
  (.ret)) (.skip)))
  (.seq (.keep [0, 1] (.ops [⟨0, some 34, .mv (.tmp 0), none, []⟩, ⟨1, some 35, .mv (.tmp 1), none, []⟩, ⟨2, some 36, .bin .eql (.tmp 34) (.tmp 35), none, []⟩, ⟨3, some 4, .mv (.tmp 36), none, []⟩]))
  (.ret))))
theorem k_w_sameFloat : FnOk Try.prog n_w_sameFloat 2 c_w_sameFloat [.tmp 4] := ⟨by kernel_rfl⟩
def c_s_l03Long : ACode :=
  .seq (.ops [⟨0, some 2, .mv (.const (.bool false)), none, []⟩])
  (.seq (.ops [⟨0, some 3, .mv (.tmp 0), none, []⟩, ⟨1, some 4, .len (.tmp 3), none, []⟩, ⟨2, some 5, .bin .geq (.tmp 4) (.const (.int .i64 1)), none, []⟩, ⟨3, some 6, .mv (.tmp 5), none, []⟩, ⟨4, some 7, .mv (.tmp 0), (some (6, true)), []⟩, ⟨5, some 8, .len (.tmp 7), (some (6, true)), []⟩, ⟨6, some 9, .bin .leq (.tmp 8) (.const (.int .i64 128)), (some (6, true)), []⟩, ⟨7, some 10, .pick (.tmp 6) (.tmp 9) (.const (.bool false)), none, []⟩, ⟨8, some 11, .mv (.tmp 10), none, []⟩, ⟨9, some 12, .mv (.tmp 0), (some (11, true)), []⟩, ⟨10, some 13, .call n_s_l02Finite [.tmp 12], (some (11, true)), []⟩, ⟨11, some 14, .pick (.tmp 11) (.tmp 13) (.const (.bool false)), none, []⟩, ⟨12, some 2, .mv (.tmp 14), none, []⟩])
  (.ret))
theorem k_s_l03Long : FnOk Try.prog n_s_l03Long 1 c_s_l03Long [.tmp 2] := ⟨by kernel_rfl⟩
def c_s_l00In : ACode :=
  .seq (.ops [⟨0, some 6, .mv (.const (.bool false)), none, []⟩])
  (.seq (.ops [⟨0, some 7, .mv (.tmp 0), none, []⟩, ⟨1, some 8, .mv (.tmp 1), none, []⟩, ⟨2, some 9, .bin .geq (.tmp 7) (.tmp 8), none, []⟩, ⟨3, some 10, .mv (.tmp 9), none, []⟩, ⟨4, some 11, .mv (.tmp 0), (some (10, true)), []⟩, ⟨5, some 12, .mv (.tmp 2), (some (10, true)), []⟩, ⟨6, some 13, .bin .leq (.tmp 11) (.tmp 12), (some (10, true)), []⟩, ⟨7, some 14, .pick (.tmp 10) (.tmp 13) (.const (.bool false)), none, []⟩, ⟨8, some 6, .mv (.tmp 14), none, []⟩])
  (.ret))
theorem k_s_l00In : FnOk Try.prog n_s_l00In 3 c_s_l00In [.tmp 6] := ⟨by kernel_rfl⟩
def c_s_l03Mirror : ACode :=
  .seq (.ops [⟨0, some 4, .mv (.const (.int .i64 0)), none, []⟩])
  (.seq (.seq (.ops [⟨0, some 5, .mv (.tmp 1), none, []⟩, ⟨1, some 6, .bin .eql (.tmp 5) (.const (.int .i64 1)), none, []⟩])
  (.cond (.tmp 6) (.seq (.keep [] (.ops [⟨0, some 4, .mv (.const (.int .i64 0)), none, []⟩]))
  (.ret)) (.skip)))
  (.seq (.block 0 (.loop [0, 1] (.seq (.seq (.ops [⟨0, some 7, .mv (.tmp 0), none, []⟩, ⟨1, some 8, .bin .lss (.tmp 7) (.const (.int .i64 0)), none, []⟩, ⟨2, some 9, .mv (.tmp 8), none, []⟩, ⟨3, some 10, .mv (.tmp 0), (some (9, false)), []⟩, ⟨4, some 11, .mv (.tmp 1), (some (9, false)), []⟩, ⟨5, some 12, .bin .geq (.tmp 10) (.tmp 11), (some (9, false)), []⟩, ⟨6, some 13, .pick (.tmp 9) (.const (.bool true)) (.tmp 12), none, []⟩])
  (.cond (.tmp 13) (.skip) (.exit 0)))
  (.block 1 (.seq (.keep [0, 1] (.ops [⟨0, some 14, .mv (.tmp 0), none, []⟩, ⟨1, some 15, .bin .lss (.tmp 14) (.const (.int .i64 0)), none, []⟩]))
  (.cond (.tmp 15) (.ops [⟨0, some 16, .mv (.tmp 0), none, []⟩, ⟨1, some 17, .un .neg (.tmp 16), none, []⟩, ⟨2, some 0, .mv (.tmp 17), none, []⟩]) (.ops [⟨0, some 18, .mv (.tmp 1), none, []⟩, ⟨1, some 19, .bin .mul (.const (.int .i64 2)) (.tmp 18), none, []⟩, ⟨2, some 20, .bin .sub (.tmp 19) (.const (.int .i64 2)), none, []⟩, ⟨3, some 21, .mv (.tmp 0), none, []⟩, ⟨4, some 22, .bin .sub (.tmp 20) (.tmp 21), none, []⟩, ⟨5, some 0, .mv (.tmp 22), none, []⟩])))))))
  (.seq (.keep [0] (.ops [⟨0, some 23, .mv (.tmp 0), none, []⟩, ⟨1, some 4, .mv (.tmp 23), none, []⟩]))
  (.ret))))
theorem k_s_l03Mirror : FnOk Try.prog n_s_l03Mirror 2 c_s_l03Mirror [.tmp 4] := ⟨by kernel_rfl⟩
def c_s_l02Finite : ACode :=
  .seq (.ops [⟨0, some 2, .mv (.const (.bool false)), none, []⟩])
  (.seq (.seq (.ops [⟨0, some 3, .mv (.const (.int .i64 0)), none, []⟩])
  (.block 0 (.loop [0, 3] (.seq (.seq (.ops [⟨0, some 4, .mv (.tmp 3), none, []⟩, ⟨1, some 5, .mv (.tmp 0), none, []⟩, ⟨2, some 6, .len (.tmp 5), none, []⟩, ⟨3, some 7, .bin .lss (.tmp 4) (.tmp 6), none, []⟩])
  (.cond (.tmp 7) (.skip) (.exit 0)))
  (.seq (.block 1 (.seq (.ops [⟨0, some 10, .mv (.tmp 0), none, []⟩, ⟨1, some 11, .mv (.tmp 3), none, []⟩, ⟨2, some 12, .ia (.tmp 10) (.tmp 11), none, []⟩, ⟨3, some 13, .ld (.tmp 12), none, []⟩, ⟨4, some 14, .call n_s_l01Finite [.tmp 13], none, []⟩, ⟨5, some 15, .un .not (.tmp 14), none, []⟩])
  (.cond (.tmp 15) (.seq (.keep [] (.ops [⟨0, some 2, .mv (.const (.bool false)), none, []⟩]))
  (.ret)) (.skip))))
  (.keep [0, 3] (.ops [⟨0, some 8, .mv (.tmp 3), none, []⟩, ⟨1, some 9, .bin .add (.tmp 8) (.const (.int .i64 1)), none, []⟩, ⟨2, some 3, .mv (.tmp 9), none, []⟩])))))))
  (.seq (.keep [] (.ops [⟨0, some 2, .mv (.const (.bool true)), none, []⟩]))
  (.ret)))
theorem k_s_l02Finite : FnOk Try.prog n_s_l02Finite 1 c_s_l02Finite [.tmp 2] := ⟨by kernel_rfl⟩
def c_i_isLong : ACode :=
  .seq (.ops [⟨0, some 2, .mv (.const (.bool false)), none, []⟩])
  (.seq (.ops [⟨0, some 3, .mv (.tmp 0), none, []⟩, ⟨1, some 4, .len (.tmp 3), none, []⟩, ⟨2, some 5, .call n_i_within [.tmp 4, .const (.int .i64 1), .const (.int .i64 128)], none, []⟩, ⟨3, some 6, .mv (.tmp 5), none, []⟩, ⟨4, some 7, .mv (.tmp 0), (some (6, true)), []⟩, ⟨5, some 8, .bsl 22 1 (.slice none 0 0) [(0, .tmp 7)], (some (6, true)), []⟩, ⟨6, some 9, .call n_i_areFinite [.tmp 8], (some (6, true)), []⟩, ⟨7, some 10, .pick (.tmp 6) (.tmp 9) (.const (.bool false)), none, []⟩, ⟨8, some 2, .mv (.tmp 10), none, []⟩])
  (.ret))
theorem k_i_isLong : FnOk Try.prog n_i_isLong 1 c_i_isLong [.tmp 2] := ⟨by kernel_rfl⟩
def c_i_within : ACode :=
  .seq (.ops [⟨0, some 6, .mv (.const (.bool false)), none, []⟩])
  (.seq (.ops [⟨0, some 7, .mv (.tmp 0), none, []⟩, ⟨1, some 8, .mv (.tmp 1), none, []⟩, ⟨2, some 9, .bin .geq (.tmp 7) (.tmp 8), none, []⟩, ⟨3, some 10, .mv (.tmp 9), none, []⟩, ⟨4, some 11, .mv (.tmp 0), (some (10, true)), []⟩, ⟨5, some 12, .mv (.tmp 2), (some (10, true)), []⟩, ⟨6, some 13, .bin .leq (.tmp 11) (.tmp 12), (some (10, true)), []⟩, ⟨7, some 14, .pick (.tmp 10) (.tmp 13) (.const (.bool false)), none, []⟩, ⟨8, some 6, .mv (.tmp 14), none, []⟩])
  (.ret))
theorem k_i_within : FnOk Try.prog n_i_within 3 c_i_within [.tmp 6] := ⟨by kernel_rfl⟩
def c_i_copyOf : ACode :=
  .seq (.ops [⟨0, some 2, .mv (.const (.slice none 0 0)), none, []⟩])
  (.seq (.ops [⟨0, some 3, .bsl 34 0 (.float .f32 0) [], none, []⟩, ⟨1, some 4, .mv (.tmp 0), none, []⟩, ⟨2, some 5, .app 34 4 (.tmp 3) (.tmp 4), none, []⟩, ⟨3, some 2, .mv (.tmp 5), none, []⟩])
  (.ret))
theorem k_i_copyOf : FnOk Try.prog n_i_copyOf 1 c_i_copyOf [.tmp 2] := ⟨by kernel_rfl⟩
def c_i_smoothed : ACode :=
  .seq (.ops [⟨0, some 2, .box 22 (.tmp 0), none, []⟩, ⟨1, some 4, .mv (.const (.slice none 0 0)), none, []⟩])
  (.seq (.ops [⟨0, some 10, .ld (.tmp 2), none, []⟩, ⟨1, some 11, .len (.tmp 10), none, []⟩, ⟨2, some 5, .new 2 [.int .i64 0], none, []⟩, ⟨3, none, .st (.tmp 5) (.tmp 11), none, []⟩])
  (.seq (.ops [⟨0, some 12, .mkf (.func n_i_smoothed_1) [] [.tmp 2, .tmp 5], none, []⟩, ⟨1, some 6, .mv (.tmp 12), none, []⟩])
  (.seq (.keep [1, 5, 6] (.ops [⟨0, some 13, .bsl 34 0 (.float .f32 0) [], none, []⟩, ⟨1, some 7, .mv (.tmp 13), none, []⟩]))
  (.seq (.seq (.ops [⟨0, some 14, .ld (.tmp 5), none, []⟩, ⟨1, some 15, .mv (.const (.int .i64 0)), none, []⟩])
  (.block 0 (.loop [1, 6, 7, 14, 15] (.seq (.ops [⟨0, some 16, .bin .lss (.tmp 15) (.tmp 14), none, []⟩])
  (.seq (.cond (.tmp 16) (.skip) (.exit 0))
  (.seq (.block 1 (.seq (.ops [⟨0, some 17, .mv (.tmp 15), none, []⟩, ⟨1, some 8, .mv (.tmp 17), none, []⟩])
  (.seq (.ops [⟨0, some 9, .mv (.const (.float .f32 0)), none, []⟩])
  (.seq (.ops [⟨0, some 18, .mv (.tmp 9), none, []⟩, ⟨1, some 19, .mv (.tmp 6), none, []⟩, ⟨2, some 20, .mv (.tmp 8), none, []⟩, ⟨3, some 21, .mv (.tmp 1), none, []⟩, ⟨4, some 22, .bin .mul (.const (.int .i64 2)) (.tmp 21), none, []⟩, ⟨5, some 23, .bin .sub (.tmp 20) (.tmp 22), none, []⟩, ⟨6, some 24, .callv (.tmp 19) [.tmp 23], none, []⟩, ⟨7, some 25, .bin .mul (.tmp 24) (.const (.float .f32 1031798784)), none, []⟩, ⟨8, some 26, .bin .add (.tmp 18) (.tmp 25), none, []⟩, ⟨9, some 9, .mv (.tmp 26), none, []⟩])
  (.seq (.keep [1, 6, 7, 8, 9, 14, 15] (.ops [⟨0, some 27, .mv (.tmp 9), none, []⟩, ⟨1, some 28, .mv (.tmp 6), none, []⟩, ⟨2, some 29, .mv (.tmp 8), none, []⟩, ⟨3, some 30, .mv (.tmp 1), none, []⟩, ⟨4, some 31, .bin .sub (.tmp 29) (.tmp 30), none, []⟩, ⟨5, some 32, .callv (.tmp 28) [.tmp 31], none, []⟩, ⟨6, some 33, .bin .mul (.tmp 32) (.const (.float .f32 1048576000)), none, []⟩, ⟨7, some 34, .bin .add (.tmp 27) (.tmp 33), none, []⟩, ⟨8, some 9, .mv (.tmp 34), none, []⟩]))
  (.seq (.keep [1, 6, 7, 8, 9, 14, 15] (.ops [⟨0, some 35, .mv (.tmp 9), none, []⟩, ⟨1, some 36, .mv (.tmp 6), none, []⟩, ⟨2, some 37, .mv (.tmp 8), none, []⟩, ⟨3, some 38, .callv (.tmp 36) [.tmp 37], none, []⟩, ⟨4, some 39, .bin .mul (.tmp 38) (.const (.float .f32 1052770304)), none, []⟩, ⟨5, some 40, .bin .add (.tmp 35) (.tmp 39), none, []⟩, ⟨6, some 9, .mv (.tmp 40), none, []⟩]))
  (.seq (.keep [1, 6, 7, 8, 9, 14, 15] (.ops [⟨0, some 41, .mv (.tmp 9), none, []⟩, ⟨1, some 42, .mv (.tmp 6), none, []⟩, ⟨2, some 43, .mv (.tmp 8), none, []⟩, ⟨3, some 44, .mv (.tmp 1), none, []⟩, ⟨4, some 45, .bin .add (.tmp 43) (.tmp 44), none, []⟩, ⟨5, some 46, .callv (.tmp 42) [.tmp 45], none, []⟩, ⟨6, some 47, .bin .mul (.tmp 46) (.const (.float .f32 1048576000)), none, []⟩, ⟨7, some 48, .bin .add (.tmp 41) (.tmp 47), none, []⟩, ⟨8, some 9, .mv (.tmp 48), none, []⟩]))
  (.seq (.keep [1, 6, 7, 8, 9, 14, 15] (.ops [⟨0, some 49, .mv (.tmp 9), none, []⟩, ⟨1, some 50, .mv (.tmp 6), none, []⟩, ⟨2, some 51, .mv (.tmp 8), none, []⟩, ⟨3, some 52, .mv (.tmp 1), none, []⟩, ⟨4, some 53, .bin .mul (.const (.int .i64 2)) (.tmp 52), none, []⟩, ⟨5, some 54, .bin .add (.tmp 51) (.tmp 53), none, []⟩, ⟨6, some 55, .callv (.tmp 50) [.tmp 54], none, []⟩, ⟨7, some 56, .bin .mul (.tmp 55) (.const (.float .f32 1031798784)), none, []⟩, ⟨8, some 57, .bin .add (.tmp 49) (.tmp 56), none, []⟩, ⟨9, some 9, .mv (.tmp 57), none, []⟩]))
  (.keep [1, 6, 7, 9, 14, 15] (.ops [⟨0, some 58, .mv (.tmp 7), none, []⟩, ⟨1, some 59, .mv (.tmp 9), none, []⟩, ⟨2, some 60, .bsl 34 1 (.float .f32 0) [(0, .tmp 59)], none, []⟩, ⟨3, some 61, .app 34 4 (.tmp 58) (.tmp 60), none, []⟩, ⟨4, some 7, .mv (.tmp 61), none, []⟩]))))))))))
  (.keep [1, 6, 7, 14, 15] (.ops [⟨0, some 62, .bin .add (.tmp 15) (.const (.int .i64 1)), none, []⟩, ⟨1, some 15, .mv (.tmp 62), none, []⟩]))))))))
  (.seq (.keep [7] (.ops [⟨0, some 63, .mv (.tmp 7), none, []⟩, ⟨1, some 4, .mv (.tmp 63), none, []⟩]))
  (.ret))))))
theorem k_i_smoothed : FnOk Try.prog n_i_smoothed 2 c_i_smoothed [.tmp 4] := ⟨by kernel_rfl⟩
def c_i_finiteLists : ACode :=
  .seq (.ops [⟨0, some 2, .mv (.const (.slice none 0 0)), none, []⟩, ⟨1, some 3, .mv (.const (.bool false)), none, []⟩])
  (.seq (.seq (.ops [⟨0, some 4, .mv (.tmp 0), none, []⟩, ⟨1, some 5, .call n_i_areFinite [.tmp 4], none, []⟩, ⟨2, some 6, .un .not (.tmp 5), none, []⟩])
  (.cond (.tmp 6) (.seq (.keep [] (.ops [⟨0, some 2, .mv (.const (.slice none 0 0)), none, []⟩, ⟨1, some 3, .mv (.const (.bool false)), none, []⟩]))
  (.ret)) (.skip)))
  (.seq (.keep [0] (.ops [⟨0, some 7, .mv (.tmp 0), none, []⟩, ⟨1, some 2, .mv (.tmp 7), none, []⟩, ⟨2, some 3, .mv (.const (.bool true)), none, []⟩]))
  (.ret)))
theorem k_i_finiteLists : FnOk Try.prog n_i_finiteLists 1 c_i_finiteLists [.tmp 2, .tmp 3] := ⟨by kernel_rfl⟩
def c_i_areFinite : ACode :=
  .seq (.ops [⟨0, some 2, .mv (.const (.bool false)), none, []⟩])
  (.seq (.seq (.ops [⟨0, some 7, .mv (.tmp 0), none, []⟩, ⟨1, some 8, .len (.tmp 7), none, []⟩, ⟨2, some 9, .mv (.const (.int .i64 0)), none, []⟩])
  (.block 0 (.loop [7, 8, 9] (.seq (.ops [⟨0, some 10, .bin .lss (.tmp 9) (.tmp 8), none, []⟩])
  (.seq (.cond (.tmp 10) (.skip) (.exit 0))
  (.seq (.block 1 (.seq (.ops [⟨0, some 11, .ia (.tmp 7) (.tmp 9), none, []⟩, ⟨1, some 12, .ld (.tmp 11), none, []⟩, ⟨2, some 4, .mv (.tmp 12), none, []⟩])
  (.seq (.ops [⟨0, some 13, .mv (.tmp 4), none, []⟩, ⟨1, some 14, .len (.tmp 13), none, []⟩, ⟨2, some 15, .mv (.const (.int .i64 0)), none, []⟩])
  (.block 2 (.loop [7, 8, 9, 13, 14, 15] (.seq (.ops [⟨0, some 16, .bin .lss (.tmp 15) (.tmp 14), none, []⟩])
  (.seq (.cond (.tmp 16) (.skip) (.exit 2))
  (.seq (.block 3 (.seq (.ops [⟨0, some 17, .ia (.tmp 13) (.tmp 15), none, []⟩, ⟨1, some 18, .ld (.tmp 17), none, []⟩, ⟨2, some 6, .mv (.tmp 18), none, []⟩])
  (.seq (.ops [⟨0, some 19, .mv (.tmp 6), none, []⟩, ⟨1, some 20, .call n_i_IsFinite [.tmp 19], none, []⟩, ⟨2, some 21, .un .not (.tmp 20), none, []⟩])
  (.cond (.tmp 21) (.seq (.keep [] (.ops [⟨0, some 2, .mv (.const (.bool false)), none, []⟩]))
  (.ret)) (.skip)))))
  (.keep [7, 8, 9, 13, 14, 15] (.ops [⟨0, some 22, .bin .add (.tmp 15) (.const (.int .i64 1)), none, []⟩, ⟨1, some 15, .mv (.tmp 22), none, []⟩]))))))))))
  (.ops [⟨0, some 23, .bin .add (.tmp 9) (.const (.int .i64 1)), none, []⟩, ⟨1, some 9, .mv (.tmp 23), none, []⟩])))))))
  (.seq (.ops [⟨0, some 2, .mv (.const (.bool true)), none, []⟩])
  (.ret)))
theorem k_i_areFinite : FnOk Try.prog n_i_areFinite 1 c_i_areFinite [.tmp 2] := ⟨by kernel_rfl⟩
def c_s_l01Finite : ACode :=
  .seq (.ops [⟨0, some 2, .mv (.const (.bool false)), none, []⟩])
  (.seq (.ops [⟨0, some 3, .mv (.tmp 0), none, []⟩, ⟨1, some 4, .mv (.tmp 0), none, []⟩, ⟨2, some 5, .bin .sub (.tmp 3) (.tmp 4), none, []⟩, ⟨3, some 6, .bin .eql (.tmp 5) (.const (.float .f32 0)), none, []⟩, ⟨4, some 2, .mv (.tmp 6), none, []⟩])
  (.ret))
theorem k_s_l01Finite : FnOk Try.prog n_s_l01Finite 1 c_s_l01Finite [.tmp 2] := ⟨by kernel_rfl⟩
def c_i_smoothed_1 : ACode :=
  .seq (.ops [⟨0, some 4, .mv (.const (.float .f32 0)), none, []⟩])
  (.seq (.ops [⟨0, some 5, .ld (.tmp 1), none, []⟩, ⟨1, some 6, .ld (.tmp 2), none, []⟩, ⟨2, some 7, .mv (.tmp 0), none, []⟩, ⟨3, some 8, .call n_i_mirrored [.tmp 6, .tmp 7], none, [(some 5, .ld (.tmp 1), none)]⟩, ⟨4, some 9, .ia (.tmp 5) (.tmp 8), none, []⟩, ⟨5, some 10, .ld (.tmp 9), none, []⟩, ⟨6, some 4, .mv (.tmp 10), none, []⟩])
  (.ret))
theorem k_i_smoothed_1 : FnOk Try.prog n_i_smoothed_1 3 c_i_smoothed_1 [.tmp 4] := ⟨by kernel_rfl⟩
def c_i_mirrored : ACode :=
  .seq (.ops [⟨0, some 4, .mv (.const (.int .i64 0)), none, []⟩])
  (.seq (.seq (.ops [⟨0, some 5, .mv (.tmp 0), none, []⟩, ⟨1, some 6, .bin .eql (.tmp 5) (.const (.int .i64 1)), none, []⟩])
  (.cond (.tmp 6) (.seq (.keep [] (.ops [⟨0, some 4, .mv (.const (.int .i64 0)), none, []⟩]))
  (.ret)) (.skip)))
  (.seq (.block 0 (.loop [0, 1] (.seq (.seq (.ops [⟨0, some 7, .mv (.tmp 1), none, []⟩, ⟨1, some 8, .mv (.tmp 0), none, []⟩, ⟨2, some 9, .bin .sub (.tmp 8) (.const (.int .i64 1)), none, []⟩, ⟨3, some 10, .call n_i_within [.tmp 7, .const (.int .i64 0), .tmp 9], none, []⟩, ⟨4, some 11, .un .not (.tmp 10), none, []⟩])
  (.cond (.tmp 11) (.skip) (.exit 0)))
  (.block 1 (.seq (.keep [0, 1] (.ops [⟨0, some 12, .mv (.tmp 1), none, []⟩, ⟨1, some 13, .bin .lss (.tmp 12) (.const (.int .i64 0)), none, []⟩]))
  (.cond (.tmp 13) (.ops [⟨0, some 14, .mv (.tmp 1), none, []⟩, ⟨1, some 15, .un .neg (.tmp 14), none, []⟩, ⟨2, some 1, .mv (.tmp 15), none, []⟩]) (.ops [⟨0, some 16, .mv (.tmp 0), none, []⟩, ⟨1, some 17, .bin .sub (.tmp 16) (.const (.int .i64 1)), none, []⟩, ⟨2, some 18, .bin .mul (.const (.int .i64 2)) (.tmp 17), none, []⟩, ⟨3, some 19, .mv (.tmp 1), none, []⟩, ⟨4, some 20, .bin .sub (.tmp 18) (.tmp 19), none, []⟩, ⟨5, some 1, .mv (.tmp 20), none, []⟩])))))))
  (.seq (.keep [1] (.ops [⟨0, some 21, .mv (.tmp 1), none, []⟩, ⟨1, some 4, .mv (.tmp 21), none, []⟩]))
  (.ret))))
theorem k_i_mirrored : FnOk Try.prog n_i_mirrored 2 c_i_mirrored [.tmp 4] := ⟨by kernel_rfl⟩
def c_i_IsFinite : ACode :=
  .seq (.ops [⟨0, some 2, .mv (.const (.bool false)), none, []⟩])
  (.seq (.ops [⟨0, some 3, .mv (.tmp 0), none, []⟩, ⟨1, some 4, .mv (.tmp 0), none, []⟩, ⟨2, some 5, .bin .sub (.tmp 3) (.tmp 4), none, []⟩, ⟨3, some 6, .bin .eql (.tmp 5) (.const (.float .f32 0)), none, []⟩, ⟨4, some 2, .mv (.tmp 6), none, []⟩])
  (.ret))
theorem k_i_IsFinite : FnOk Try.prog n_i_IsFinite 1 c_i_IsFinite [.tmp 2] := ⟨by kernel_rfl⟩
end Go.Proofs.Ytkojmlpaamdhoac

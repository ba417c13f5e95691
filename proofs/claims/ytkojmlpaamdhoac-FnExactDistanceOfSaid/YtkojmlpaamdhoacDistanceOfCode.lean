/- The code of functions, for the abstract machine; printed by a program (gen.py). -/
import Derived.Test.YtkojmlpaamdhoacGxFn
import Derived.Test.YtkojmlpaamdhoacProg
namespace Go.Proofs.Ytkojmlpaamdhoac
open Go.Gx
set_option maxRecDepth 100000
abbrev t_int64 : Nat := 2
abbrev t_int : Nat := 3
abbrev t_bool : Nat := 4
abbrev t_uint8 : Nat := 5
abbrev t_sfloat32 : Nat := 22
abbrev t_ssfloat32 : Nat := 23
abbrev t_float32 : Nat := 34
abbrev t_sint64 : Nat := 43
abbrev t_float64 : Nat := 94
abbrev t_sint : Nat := 152
abbrev t_Picture : Nat := 36
abbrev t_Bands : Nat := 58
abbrev t_Pair : Nat := 70
abbrev t_Scheme : Nat := 84
abbrev n_w_FnExactDistanceOf : Nat := 14
abbrev n_w_toFloat32S : Nat := 16
abbrev n_w_eqFloat32S : Nat := 19
abbrev n_w_szPicture : Nat := 23
abbrev n_w_toPicture : Nat := 25
abbrev n_w_eqPicture : Nat := 27
abbrev n_s_DistanceOf : Nat := 67
abbrev n_i_DistanceOf : Nat := 68
abbrev n_w_sameFloat : Nat := 69
abbrev n_s_l00In : Nat := 71
abbrev n_s_l02Finite : Nat := 73
abbrev n_i_within : Nat := 75
abbrev n_w_szFloat32S : Nat := 79
abbrev n_s_l04Is : Nat := 80
abbrev n_s_l02Energy : Nat := 105
abbrev n_i_areFinite : Nat := 110
abbrev n_s_l04Both : Nat := 128
abbrev n_s_l02Number : Nat := 129
abbrev n_s_l04Far : Nat := 130
abbrev n_i_areAlike : Nat := 131
abbrev n_i_finite : Nat := 132
abbrev n_i_RootNumber : Nat := 133
abbrev n_s_l01Finite : Nat := 134
abbrev n_s_l04Sides : Nat := 137
abbrev n_i_IsFinite : Nat := 139
abbrev n_i_ValidPicture : Nat := 140
abbrev n_s_l01Sqrt : Nat := 162
abbrev n_m_Sqrt : Nat := 163
abbrev n_s_l01Narrow : Nat := 169
abbrev n_m_sqrt : Nat := 170
def c_w_FnExactDistanceOf : ACode :=
  .seq (.ops [⟨0, some 2, .box 33 (.tmp 0), none, []⟩, ⟨1, some 3, .box 33 (.tmp 1), none, []⟩, ⟨2, some 4, .mv (.const (.bool false)), none, []⟩])
  (.seq (.ops [⟨0, some 5, .mv (.const (.int .i64 1048576)), none, []⟩])
  (.seq (.ops [⟨0, some 12, .ldn 3 (.tmp 2), none, []⟩, ⟨1, some 13, .mv (.tmp 5), none, []⟩, ⟨2, some 14, .call n_w_szPicture [.tmp 12, .tmp 13], none, []⟩, ⟨3, some 5, .mv (.tmp 14), none, []⟩])
  (.seq (.seq (.keep [2, 3, 5] (.ops [⟨0, some 15, .mv (.tmp 5), none, []⟩, ⟨1, some 16, .bin .lss (.tmp 15) (.const (.int .i64 0)), none, []⟩]))
  (.cond (.tmp 16) (.seq (.keep [] (.ops [⟨0, some 4, .mv (.const (.bool true)), none, []⟩]))
  (.ret)) (.skip)))
  (.seq (.ops [⟨0, some 17, .ldn 3 (.tmp 3), none, []⟩, ⟨1, some 18, .mv (.tmp 5), none, []⟩, ⟨2, some 19, .call n_w_szPicture [.tmp 17, .tmp 18], none, []⟩, ⟨3, some 5, .mv (.tmp 19), none, []⟩])
  (.seq (.seq (.keep [2, 3, 5] (.ops [⟨0, some 20, .mv (.tmp 5), none, []⟩, ⟨1, some 21, .bin .lss (.tmp 20) (.const (.int .i64 0)), none, []⟩]))
  (.cond (.tmp 21) (.seq (.keep [] (.ops [⟨0, some 4, .mv (.const (.bool true)), none, []⟩]))
  (.ret)) (.skip)))
  (.seq (.ops [⟨0, some 23, .ldn 3 (.tmp 2), none, []⟩, ⟨2, some 25, .ldn 3 (.tmp 3), none, []⟩, ⟨1, some 24, .call n_w_toPicture [.tmp 23], none, [(some 25, .ldn 3 (.tmp 3), none)]⟩, ⟨3, some 26, .call n_w_toPicture [.tmp 25], none, []⟩, ⟨4, some 27, .call n_s_DistanceOf [.tmp 24, .tmp 26], none, []⟩, ⟨5, some 22, .mv (.tmp 27), none, []⟩, ⟨6, some 28, .ext (.tmp 22) 0, none, []⟩, ⟨7, some 29, .ext (.tmp 22) 1, none, []⟩, ⟨8, some 6, .mv (.tmp 28), none, []⟩, ⟨9, some 7, .mv (.tmp 29), none, []⟩])
  (.seq (.keep [2, 3, 6, 7] (.ops [⟨0, some 30, .ldn 3 (.tmp 2), none, []⟩, ⟨1, some 31, .call n_w_toPicture [.tmp 30], none, []⟩, ⟨2, some 8, .new 36 [.int .i64 0, .int .i64 0, .slice none 0 0], none, []⟩, ⟨3, none, .stn 3 (.tmp 8) (.tmp 31), none, []⟩]))
  (.seq (.ops [⟨0, some 32, .ldn 3 (.tmp 3), none, []⟩, ⟨1, some 33, .call n_w_toPicture [.tmp 32], none, []⟩, ⟨2, some 9, .new 36 [.int .i64 0, .int .i64 0, .slice none 0 0], none, []⟩, ⟨3, none, .stn 3 (.tmp 9) (.tmp 33), none, []⟩])
  (.seq (.ops [⟨0, some 35, .ldn 3 (.tmp 8), none, []⟩, ⟨1, some 36, .ldn 3 (.tmp 9), none, []⟩, ⟨2, some 37, .call n_i_DistanceOf [.tmp 35, .tmp 36], none, []⟩, ⟨3, some 34, .mv (.tmp 37), none, []⟩, ⟨4, some 38, .ext (.tmp 34) 0, none, []⟩, ⟨5, some 39, .ext (.tmp 34) 1, none, []⟩, ⟨6, some 10, .mv (.tmp 38), none, []⟩, ⟨7, some 11, .mv (.tmp 39), none, []⟩])
  (.seq (.seq (.keep [2, 3, 6, 7, 8, 9, 10, 11] (.ops [⟨0, some 40, .mv (.tmp 10), none, []⟩, ⟨1, some 41, .cv (.f .f64) (.tmp 40), none, []⟩, ⟨2, some 42, .mv (.tmp 6), none, []⟩, ⟨3, some 43, .cv (.f .f64) (.tmp 42), none, []⟩, ⟨4, some 44, .call n_w_sameFloat [.tmp 41, .tmp 43], none, []⟩, ⟨5, some 45, .un .not (.tmp 44), none, []⟩, ⟨6, some 46, .mv (.tmp 45), none, []⟩, ⟨7, some 47, .mv (.tmp 11), (some (46, false)), []⟩, ⟨8, some 48, .mv (.tmp 7), (some (46, false)), []⟩, ⟨9, some 49, .beq true (.tmp 47) (.tmp 48), (some (46, false)), []⟩, ⟨10, some 50, .pick (.tmp 46) (.const (.bool true)) (.tmp 49), none, []⟩]))
  (.cond (.tmp 50) (.seq (.keep [] (.ops [⟨0, some 4, .mv (.const (.bool false)), none, []⟩]))
  (.ret)) (.skip)))
  (.seq (.seq (.keep [2, 3, 8, 9] (.ops [⟨0, some 51, .ldn 3 (.tmp 8), none, []⟩, ⟨1, some 52, .ldn 3 (.tmp 2), none, []⟩, ⟨2, some 53, .call n_w_toPicture [.tmp 52], none, [(some 51, .ldn 3 (.tmp 8), none)]⟩, ⟨3, some 54, .call n_w_eqPicture [.tmp 51, .tmp 53], none, []⟩, ⟨4, some 55, .un .not (.tmp 54), none, []⟩]))
  (.cond (.tmp 55) (.seq (.keep [] (.ops [⟨0, some 4, .mv (.const (.bool false)), none, []⟩]))
  (.ret)) (.skip)))
  (.seq (.seq (.keep [3, 9] (.ops [⟨0, some 56, .ldn 3 (.tmp 9), none, []⟩, ⟨1, some 57, .ldn 3 (.tmp 3), none, []⟩, ⟨2, some 58, .call n_w_toPicture [.tmp 57], none, [(some 56, .ldn 3 (.tmp 9), none)]⟩, ⟨3, some 59, .call n_w_eqPicture [.tmp 56, .tmp 58], none, []⟩, ⟨4, some 60, .un .not (.tmp 59), none, []⟩]))
  (.cond (.tmp 60) (.seq (.keep [] (.ops [⟨0, some 4, .mv (.const (.bool false)), none, []⟩]))
  (.ret)) (.skip)))
  (.seq (.keep [] (.ops [⟨0, some 4, .mv (.const (.bool true)), none, []⟩]))
  (.ret))))))))))))))
theorem k_w_FnExactDistanceOf : FnOk Try.prog n_w_FnExactDistanceOf 2 c_w_FnExactDistanceOf [.tmp 4] := ⟨by kernel_rfl⟩
def c_w_toFloat32S : ACode :=
  .seq (.ops [⟨0, some 2, .mv (.const (.slice none 0 0)), none, []⟩])
  (.seq (.ops [⟨0, some 5, .mv (.tmp 0), none, []⟩, ⟨1, some 6, .len (.tmp 5), none, []⟩, ⟨2, some 7, .mks 34 4 (.float .f32 0) (.tmp 6) (.tmp 6), none, []⟩, ⟨3, some 3, .mv (.tmp 7), none, []⟩])
  (.seq (.seq (.ops [⟨0, some 4, .mv (.const (.int .i64 0)), none, []⟩])
  (.block 0 (.loop [0, 3, 4] (.seq (.seq (.ops [⟨0, some 8, .mv (.tmp 4), none, []⟩, ⟨1, some 9, .mv (.tmp 0), none, []⟩, ⟨2, some 10, .len (.tmp 9), none, []⟩, ⟨3, some 11, .bin .lss (.tmp 8) (.tmp 10), none, []⟩])
  (.cond (.tmp 11) (.skip) (.exit 0)))
  (.seq (.block 1 (.ops [⟨0, some 14, .mv (.tmp 3), none, []⟩, ⟨1, some 15, .mv (.tmp 4), none, []⟩, ⟨2, some 16, .mv (.tmp 0), none, []⟩, ⟨3, some 17, .mv (.tmp 4), none, []⟩, ⟨4, some 18, .ia (.tmp 16) (.tmp 17), none, []⟩, ⟨5, some 19, .ld (.tmp 18), none, []⟩, ⟨6, some 20, .ia (.tmp 14) (.tmp 15), none, []⟩, ⟨7, none, .st (.tmp 20) (.tmp 19), none, []⟩]))
  (.keep [0, 3, 4] (.ops [⟨0, some 12, .mv (.tmp 4), none, []⟩, ⟨1, some 13, .bin .add (.tmp 12) (.const (.int .i64 1)), none, []⟩, ⟨2, some 4, .mv (.tmp 13), none, []⟩])))))))
  (.seq (.keep [3] (.ops [⟨0, some 21, .mv (.tmp 3), none, []⟩, ⟨1, some 2, .mv (.tmp 21), none, []⟩]))
  (.ret))))
theorem k_w_toFloat32S : FnOk Try.prog n_w_toFloat32S 1 c_w_toFloat32S [.tmp 2] := ⟨by kernel_rfl⟩
def c_w_eqFloat32S : ACode :=
  .seq (.ops [⟨0, some 4, .mv (.const (.bool false)), none, []⟩])
  (.seq (.seq (.ops [⟨0, some 6, .mv (.tmp 0), none, []⟩, ⟨1, some 7, .len (.tmp 6), none, []⟩, ⟨2, some 8, .mv (.tmp 1), none, []⟩, ⟨3, some 9, .len (.tmp 8), none, []⟩, ⟨4, some 10, .bin .neq (.tmp 7) (.tmp 9), none, []⟩])
  (.cond (.tmp 10) (.seq (.keep [] (.ops [⟨0, some 4, .mv (.const (.bool false)), none, []⟩]))
  (.ret)) (.skip)))
  (.seq (.seq (.keep [0, 1] (.ops [⟨0, some 5, .mv (.const (.int .i64 0)), none, []⟩]))
  (.block 0 (.loop [0, 1, 5] (.seq (.seq (.ops [⟨0, some 11, .mv (.tmp 5), none, []⟩, ⟨1, some 12, .mv (.tmp 0), none, []⟩, ⟨2, some 13, .len (.tmp 12), none, []⟩, ⟨3, some 14, .bin .lss (.tmp 11) (.tmp 13), none, []⟩])
  (.cond (.tmp 14) (.skip) (.exit 0)))
  (.seq (.block 1 (.seq (.ops [⟨0, some 17, .mv (.tmp 0), none, []⟩, ⟨1, some 18, .mv (.tmp 5), none, []⟩, ⟨2, some 19, .ia (.tmp 17) (.tmp 18), none, []⟩, ⟨3, some 20, .ld (.tmp 19), none, []⟩, ⟨4, some 21, .cv (.f .f64) (.tmp 20), none, []⟩, ⟨5, some 22, .mv (.tmp 1), none, []⟩, ⟨6, some 23, .mv (.tmp 5), none, []⟩, ⟨7, some 24, .ia (.tmp 22) (.tmp 23), none, []⟩, ⟨8, some 25, .ld (.tmp 24), none, []⟩, ⟨9, some 26, .cv (.f .f64) (.tmp 25), none, []⟩, ⟨10, some 27, .call n_w_sameFloat [.tmp 21, .tmp 26], none, []⟩, ⟨11, some 28, .un .not (.tmp 27), none, []⟩])
  (.cond (.tmp 28) (.seq (.keep [] (.ops [⟨0, some 4, .mv (.const (.bool false)), none, []⟩]))
  (.ret)) (.skip))))
  (.keep [0, 1, 5] (.ops [⟨0, some 15, .mv (.tmp 5), none, []⟩, ⟨1, some 16, .bin .add (.tmp 15) (.const (.int .i64 1)), none, []⟩, ⟨2, some 5, .mv (.tmp 16), none, []⟩])))))))
  (.seq (.keep [] (.ops [⟨0, some 4, .mv (.const (.bool true)), none, []⟩]))
  (.ret))))
theorem k_w_eqFloat32S : FnOk Try.prog n_w_eqFloat32S 2 c_w_eqFloat32S [.tmp 4] := ⟨by kernel_rfl⟩
def c_w_szPicture : ACode :=
  .seq (.ops [⟨0, some 2, .box 33 (.tmp 0), none, []⟩, ⟨1, some 4, .mv (.const (.int .i64 0)), none, []⟩])
  (.seq (.ops [⟨0, some 5, .fa 2 (.tmp 2), none, []⟩, ⟨1, some 6, .ld (.tmp 5), none, []⟩, ⟨2, some 7, .mv (.tmp 1), none, []⟩, ⟨3, some 8, .call n_w_szFloat32S [.tmp 6, .tmp 7], none, []⟩, ⟨4, some 1, .mv (.tmp 8), none, []⟩])
  (.seq (.seq (.keep [1] (.ops [⟨0, some 9, .mv (.tmp 1), none, []⟩, ⟨1, some 10, .bin .lss (.tmp 9) (.const (.int .i64 0)), none, []⟩]))
  (.cond (.tmp 10) (.seq (.ops [⟨0, some 4, .mv (.const (.int .i64 (-1))), none, []⟩])
  (.ret)) (.skip)))
  (.seq (.ops [⟨0, some 11, .mv (.tmp 1), none, []⟩, ⟨1, some 4, .mv (.tmp 11), none, []⟩])
  (.ret))))
theorem k_w_szPicture : FnOk Try.prog n_w_szPicture 2 c_w_szPicture [.tmp 4] := ⟨by kernel_rfl⟩
def c_w_toPicture : ACode :=
  .seq (.ops [⟨0, some 1, .box 33 (.tmp 0), none, []⟩, ⟨1, some 2, .new 36 [.int .i64 0, .int .i64 0, .slice none 0 0], none, []⟩])
  (.seq (.ops [⟨0, some 3, .new 36 [.int .i64 0, .int .i64 0, .slice none 0 0], none, []⟩])
  (.seq (.ops [⟨0, some 4, .fa 0 (.tmp 1), none, []⟩, ⟨1, some 5, .ld (.tmp 4), none, []⟩, ⟨2, some 6, .fa 0 (.tmp 3), none, []⟩, ⟨3, none, .st (.tmp 6) (.tmp 5), none, []⟩])
  (.seq (.ops [⟨0, some 7, .fa 1 (.tmp 1), none, []⟩, ⟨1, some 8, .ld (.tmp 7), none, []⟩, ⟨2, some 9, .fa 1 (.tmp 3), none, []⟩, ⟨3, none, .st (.tmp 9) (.tmp 8), none, []⟩])
  (.seq (.keep [1, 2, 3] (.ops [⟨0, some 10, .fa 2 (.tmp 1), none, []⟩, ⟨1, some 11, .ld (.tmp 10), none, []⟩, ⟨2, some 12, .call n_w_toFloat32S [.tmp 11], none, []⟩, ⟨3, some 13, .fa 2 (.tmp 3), none, []⟩, ⟨4, none, .st (.tmp 13) (.tmp 12), none, []⟩]))
  (.seq (.keep [2, 3] (.ops [⟨0, some 14, .ldn 3 (.tmp 3), none, []⟩, ⟨1, none, .stn 3 (.tmp 2) (.tmp 14), none, []⟩]))
  (.ret))))))
theorem k_w_toPicture : FnOk Try.prog n_w_toPicture 1 c_w_toPicture [.celln 2 3] := ⟨by kernel_rfl⟩
def c_w_eqPicture : ACode :=
  .seq (.ops [⟨0, some 2, .box 36 (.tmp 0), none, []⟩, ⟨1, some 3, .box 36 (.tmp 1), none, []⟩, ⟨2, some 4, .mv (.const (.bool false)), none, []⟩])
  (.seq (.seq (.ops [⟨0, some 5, .fa 0 (.tmp 2), none, []⟩, ⟨1, some 6, .ld (.tmp 5), none, []⟩, ⟨2, some 7, .fa 0 (.tmp 3), none, []⟩, ⟨3, some 8, .ld (.tmp 7), none, []⟩, ⟨4, some 9, .bin .neq (.tmp 6) (.tmp 8), none, []⟩])
  (.cond (.tmp 9) (.seq (.keep [] (.ops [⟨0, some 4, .mv (.const (.bool false)), none, []⟩]))
  (.ret)) (.skip)))
  (.seq (.seq (.keep [2, 3] (.ops [⟨0, some 10, .fa 1 (.tmp 2), none, []⟩, ⟨1, some 11, .ld (.tmp 10), none, []⟩, ⟨2, some 12, .fa 1 (.tmp 3), none, []⟩, ⟨3, some 13, .ld (.tmp 12), none, []⟩, ⟨4, some 14, .bin .neq (.tmp 11) (.tmp 13), none, []⟩]))
  (.cond (.tmp 14) (.seq (.keep [] (.ops [⟨0, some 4, .mv (.const (.bool false)), none, []⟩]))
  (.ret)) (.skip)))
  (.seq (.seq (.keep [2, 3] (.ops [⟨0, some 15, .fa 2 (.tmp 2), none, []⟩, ⟨1, some 16, .ld (.tmp 15), none, []⟩, ⟨2, some 17, .fa 2 (.tmp 3), none, []⟩, ⟨3, some 18, .ld (.tmp 17), none, []⟩, ⟨4, some 19, .call n_w_eqFloat32S [.tmp 16, .tmp 18], none, []⟩, ⟨5, some 20, .un .not (.tmp 19), none, []⟩]))
  (.cond (.tmp 20) (.seq (.keep [] (.ops [⟨0, some 4, .mv (.const (.bool false)), none, []⟩]))
  (.ret)) (.skip)))
  (.seq (.keep [] (.ops [⟨0, some 4, .mv (.const (.bool true)), none, []⟩]))
  (.ret)))))
theorem k_w_eqPicture : FnOk Try.prog n_w_eqPicture 2 c_w_eqPicture [.tmp 4] := ⟨by kernel_rfl⟩
def c_s_DistanceOf : ACode :=
  .seq (.ops [⟨0, some 2, .box 36 (.tmp 0), none, []⟩, ⟨1, some 3, .box 36 (.tmp 1), none, []⟩, ⟨2, some 4, .mv (.const (.float .f32 0)), none, []⟩, ⟨3, some 5, .mv (.const (.bool false)), none, []⟩])
  (.seq (.seq (.ops [⟨0, some 6, .call n_s_l04Both [.tmp 2, .tmp 3], none, []⟩, ⟨1, some 7, .un .not (.tmp 6), none, []⟩])
  (.cond (.tmp 7) (.seq (.keep [] (.ops [⟨0, some 4, .mv (.const (.float .f32 0)), none, []⟩, ⟨1, some 5, .mv (.const (.bool false)), none, []⟩]))
  (.ret)) (.skip)))
  (.seq (.keep [2, 3] (.ops [⟨0, some 8, .call n_s_l04Far [.tmp 2, .tmp 3], none, []⟩, ⟨1, some 9, .call n_s_l02Number [.tmp 8], none, []⟩, ⟨2, some 10, .ext (.tmp 9) 0, none, []⟩, ⟨3, some 11, .ext (.tmp 9) 1, none, []⟩, ⟨4, some 4, .mv (.tmp 10), none, []⟩, ⟨5, some 5, .mv (.tmp 11), none, []⟩]))
  (.ret)))
theorem k_s_DistanceOf : FnOk Try.prog n_s_DistanceOf 2 c_s_DistanceOf [.tmp 4, .tmp 5] := ⟨by kernel_rfl⟩
def c_i_DistanceOf : ACode :=
  .seq (.ops [⟨0, some 2, .box 36 (.tmp 0), none, []⟩, ⟨1, some 3, .box 36 (.tmp 1), none, []⟩, ⟨2, some 4, .mv (.const (.float .f32 0)), none, []⟩, ⟨3, some 5, .mv (.const (.bool false)), none, []⟩])
  (.seq (.seq (.ops [⟨0, some 10, .ldn 3 (.tmp 2), none, []⟩, ⟨1, some 11, .ldn 3 (.tmp 3), none, []⟩, ⟨2, some 12, .call n_i_areAlike [.tmp 10, .tmp 11], none, []⟩, ⟨3, some 13, .un .not (.tmp 12), none, []⟩])
  (.cond (.tmp 13) (.seq (.keep [] (.ops [⟨0, some 4, .mv (.const (.float .f32 0)), none, []⟩, ⟨1, some 5, .mv (.const (.bool false)), none, []⟩]))
  (.ret)) (.skip)))
  (.seq (.keep [2, 3] (.ops [⟨0, some 6, .mv (.const (.float .f32 0)), none, []⟩]))
  (.seq (.seq (.ops [⟨0, some 14, .fa 2 (.tmp 2), none, []⟩, ⟨1, some 15, .ld (.tmp 14), none, []⟩, ⟨2, some 16, .len (.tmp 15), none, []⟩, ⟨3, some 17, .mv (.const (.int .i64 0)), none, []⟩])
  (.block 0 (.loop [2, 3, 6, 15, 16, 17] (.seq (.ops [⟨0, some 18, .bin .lss (.tmp 17) (.tmp 16), none, []⟩])
  (.seq (.cond (.tmp 18) (.skip) (.exit 0))
  (.seq (.block 1 (.seq (.ops [⟨0, some 19, .mv (.tmp 17), none, []⟩, ⟨1, some 20, .ia (.tmp 15) (.tmp 17), none, []⟩, ⟨2, some 21, .ld (.tmp 20), none, []⟩, ⟨3, some 7, .mv (.tmp 19), none, []⟩, ⟨4, some 8, .mv (.tmp 21), none, []⟩])
  (.seq (.ops [⟨0, some 22, .mv (.tmp 8), none, []⟩, ⟨1, some 23, .fa 2 (.tmp 3), none, []⟩, ⟨2, some 24, .ld (.tmp 23), none, []⟩, ⟨3, some 25, .mv (.tmp 7), none, []⟩, ⟨4, some 26, .ia (.tmp 24) (.tmp 25), none, []⟩, ⟨5, some 27, .ld (.tmp 26), none, []⟩, ⟨6, some 28, .bin .sub (.tmp 22) (.tmp 27), none, []⟩, ⟨7, some 9, .mv (.tmp 28), none, []⟩])
  (.keep [2, 3, 6, 9, 15, 16, 17] (.ops [⟨0, some 29, .mv (.tmp 6), none, []⟩, ⟨1, some 30, .mv (.tmp 9), none, []⟩, ⟨2, some 31, .mv (.tmp 9), none, []⟩, ⟨3, some 32, .bin .mul (.tmp 30) (.tmp 31), none, []⟩, ⟨4, some 33, .bin .add (.tmp 29) (.tmp 32), none, []⟩, ⟨5, some 6, .mv (.tmp 33), none, []⟩])))))
  (.keep [2, 3, 6, 15, 16, 17] (.ops [⟨0, some 34, .bin .add (.tmp 17) (.const (.int .i64 1)), none, []⟩, ⟨1, some 17, .mv (.tmp 34), none, []⟩]))))))))
  (.seq (.keep [2, 6] (.ops [⟨0, some 35, .mv (.tmp 6), none, []⟩, ⟨1, some 36, .fa 2 (.tmp 2), none, []⟩, ⟨2, some 37, .ld (.tmp 36), none, []⟩, ⟨3, some 38, .len (.tmp 37), none, []⟩, ⟨4, some 39, .cv (.f .f32) (.tmp 38), none, []⟩, ⟨5, some 40, .bin .quo (.tmp 35) (.tmp 39), none, []⟩, ⟨6, some 41, .call n_i_RootNumber [.tmp 40], none, []⟩, ⟨7, some 42, .call n_i_finite [.tmp 41], none, []⟩, ⟨8, some 43, .ext (.tmp 42) 0, none, []⟩, ⟨9, some 44, .ext (.tmp 42) 1, none, []⟩, ⟨10, some 4, .mv (.tmp 43), none, []⟩, ⟨11, some 5, .mv (.tmp 44), none, []⟩]))
  (.ret)))))
theorem k_i_DistanceOf : FnOk Try.prog n_i_DistanceOf 2 c_i_DistanceOf [.tmp 4, .tmp 5] := ⟨by kernel_rfl⟩
def c_w_sameFloat : ACode :=
  .seq (.ops [⟨0, some 4, .mv (.const (.bool false)), none, []⟩])
  (.seq (.seq (.ops [⟨0, some 5, .mv (.tmp 0), none, []⟩, ⟨1, some 6, .mv (.tmp 0), none, []⟩, ⟨2, some 7, .bin .neq (.tmp 5) (.tmp 6), none, []⟩, ⟨3, some 8, .mv (.tmp 7), none, []⟩, ⟨4, some 9, .mv (.tmp 1), (some (8, false)), []⟩, ⟨5, some 10, .mv (.tmp 1), (some (8, false)), []⟩, ⟨6, some 11, .bin .neq (.tmp 9) (.tmp 10), (some (8, false)), []⟩, ⟨7, some 12, .pick (.tmp 8) (.const (.bool true)) (.tmp 11), none, []⟩])
  (.cond (.tmp 12) (.seq (.keep [0, 1] (.ops [⟨0, some 13, .mv (.tmp 0), none, []⟩, ⟨1, some 14, .mv (.tmp 0), none, []⟩, ⟨2, some 15, .bin .neq (.tmp 13) (.tmp 14), none, []⟩, ⟨3, some 16, .mv (.tmp 15), none, []⟩, ⟨4, some 17, .mv (.tmp 1), (some (16, true)), []⟩, ⟨5, some 18, .mv (.tmp 1), (some (16, true)), []⟩, ⟨6, some 19, .bin .neq (.tmp 17) (.tmp 18), (some (16, true)), []⟩, ⟨7, some 20, .pick (.tmp 16) (.tmp 19) (.const (.bool false)), none, []⟩, ⟨8, some 4, .mv (.tmp 20), none, []⟩]))
  (.ret)) (.skip)))
  (.seq (.seq (.keep [0, 1] (.ops [⟨0, some 21, .mv (.tmp 0), none, []⟩, ⟨1, some 22, .bin .eql (.tmp 21) (.const (.float .f64 0)), none, []⟩, ⟨2, some 23, .mv (.tmp 22), none, []⟩, ⟨3, some 24, .mv (.tmp 1), (some (23, true)), []⟩, ⟨4, some 25, .bin .eql (.tmp 24) (.const (.float .f64 0)), (some (23, true)), []⟩, ⟨5, some 26, .pick (.tmp 23) (.tmp 25) (.const (.bool false)), none, []⟩]))
  (.cond (.tmp 26) (.seq (.keep [0, 1] (.ops [⟨0, some 27, .mv (.tmp 0), none, []⟩, ⟨1, some 28, .bin .quo (.const (.float .f64 4607182418800017408)) (.tmp 27), none, []⟩, ⟨2, some 29, .bin .gtr (.tmp 28) (.const (.float .f64 0)), none, []⟩, ⟨3, some 30, .mv (.tmp 1), none, []⟩, ⟨4, some 31, .bin .quo (.const (.float .f64 4607182418800017408)) (.tmp 30), none, []⟩, ⟨5, some 32, .bin .gtr (.tmp 31) (.const (.float .f64 0)), none, []⟩, ⟨6, some 33, .beq false (.tmp 29) (.tmp 32), none, []⟩, ⟨7, some 4, .mv (.tmp 33), none, []⟩]))
  (.ret)) (.skip)))
  (.seq (.keep [0, 1] (.ops [⟨0, some 34, .mv (.tmp 0), none, []⟩, ⟨1, some 35, .mv (.tmp 1), none, []⟩, ⟨2, some 36, .bin .eql (.tmp 34) (.tmp 35), none, []⟩, ⟨3, some 4, .mv (.tmp 36), none, []⟩]))
  (.ret))))
theorem k_w_sameFloat : FnOk Try.prog n_w_sameFloat 2 c_w_sameFloat [.tmp 4] := ⟨by kernel_rfl⟩
def c_s_l00In : ACode :=
  .seq (.ops [⟨0, some 6, .mv (.const (.bool false)), none, []⟩])
  (.seq (.ops [⟨0, some 7, .mv (.tmp 0), none, []⟩, ⟨1, some 8, .mv (.tmp 1), none, []⟩, ⟨2, some 9, .bin .geq (.tmp 7) (.tmp 8), none, []⟩, ⟨3, some 10, .mv (.tmp 9), none, []⟩, ⟨4, some 11, .mv (.tmp 0), (some (10, true)), []⟩, ⟨5, some 12, .mv (.tmp 2), (some (10, true)), []⟩, ⟨6, some 13, .bin .leq (.tmp 11) (.tmp 12), (some (10, true)), []⟩, ⟨7, some 14, .pick (.tmp 10) (.tmp 13) (.const (.bool false)), none, []⟩, ⟨8, some 6, .mv (.tmp 14), none, []⟩])
  (.ret))
theorem k_s_l00In : FnOk Try.prog n_s_l00In 3 c_s_l00In [.tmp 6] := ⟨by kernel_rfl⟩
def c_s_l02Finite : ACode :=
  .seq (.ops [⟨0, some 2, .mv (.const (.bool false)), none, []⟩])
  (.seq (.seq (.ops [⟨0, some 3, .mv (.const (.int .i64 0)), none, []⟩])
  (.block 0 (.loop [0, 3] (.seq (.seq (.ops [⟨0, some 4, .mv (.tmp 3), none, []⟩, ⟨1, some 5, .mv (.tmp 0), none, []⟩, ⟨2, some 6, .len (.tmp 5), none, []⟩, ⟨3, some 7, .bin .lss (.tmp 4) (.tmp 6), none, []⟩])
  (.cond (.tmp 7) (.skip) (.exit 0)))
  (.seq (.block 1 (.seq (.ops [⟨0, some 10, .mv (.tmp 0), none, []⟩, ⟨1, some 11, .mv (.tmp 3), none, []⟩, ⟨2, some 12, .ia (.tmp 10) (.tmp 11), none, []⟩, ⟨3, some 13, .ld (.tmp 12), none, []⟩, ⟨4, some 14, .call n_s_l01Finite [.tmp 13], none, []⟩, ⟨5, some 15, .un .not (.tmp 14), none, []⟩])
  (.cond (.tmp 15) (.seq (.keep [] (.ops [⟨0, some 2, .mv (.const (.bool false)), none, []⟩]))
  (.ret)) (.skip))))
  (.keep [0, 3] (.ops [⟨0, some 8, .mv (.tmp 3), none, []⟩, ⟨1, some 9, .bin .add (.tmp 8) (.const (.int .i64 1)), none, []⟩, ⟨2, some 3, .mv (.tmp 9), none, []⟩])))))))
  (.seq (.keep [] (.ops [⟨0, some 2, .mv (.const (.bool true)), none, []⟩]))
  (.ret)))
theorem k_s_l02Finite : FnOk Try.prog n_s_l02Finite 1 c_s_l02Finite [.tmp 2] := ⟨by kernel_rfl⟩
def c_i_within : ACode :=
  .seq (.ops [⟨0, some 6, .mv (.const (.bool false)), none, []⟩])
  (.seq (.ops [⟨0, some 7, .mv (.tmp 0), none, []⟩, ⟨1, some 8, .mv (.tmp 1), none, []⟩, ⟨2, some 9, .bin .geq (.tmp 7) (.tmp 8), none, []⟩, ⟨3, some 10, .mv (.tmp 9), none, []⟩, ⟨4, some 11, .mv (.tmp 0), (some (10, true)), []⟩, ⟨5, some 12, .mv (.tmp 2), (some (10, true)), []⟩, ⟨6, some 13, .bin .leq (.tmp 11) (.tmp 12), (some (10, true)), []⟩, ⟨7, some 14, .pick (.tmp 10) (.tmp 13) (.const (.bool false)), none, []⟩, ⟨8, some 6, .mv (.tmp 14), none, []⟩])
  (.ret))
theorem k_i_within : FnOk Try.prog n_i_within 3 c_i_within [.tmp 6] := ⟨by kernel_rfl⟩
def c_w_szFloat32S : ACode :=
  .seq (.ops [⟨0, some 4, .mv (.const (.int .i64 0)), none, []⟩])
  (.seq (.ops [⟨0, some 5, .mv (.tmp 1), none, []⟩, ⟨1, some 6, .mv (.tmp 0), none, []⟩, ⟨2, some 7, .len (.tmp 6), none, []⟩, ⟨3, some 8, .bin .sub (.tmp 5) (.tmp 7), none, []⟩, ⟨4, some 1, .mv (.tmp 8), none, []⟩])
  (.seq (.seq (.keep [1] (.ops [⟨0, some 9, .mv (.tmp 1), none, []⟩, ⟨1, some 10, .bin .lss (.tmp 9) (.const (.int .i64 0)), none, []⟩]))
  (.cond (.tmp 10) (.seq (.ops [⟨0, some 4, .mv (.const (.int .i64 (-1))), none, []⟩])
  (.ret)) (.skip)))
  (.seq (.ops [⟨0, some 11, .mv (.tmp 1), none, []⟩, ⟨1, some 4, .mv (.tmp 11), none, []⟩])
  (.ret))))
theorem k_w_szFloat32S : FnOk Try.prog n_w_szFloat32S 2 c_w_szFloat32S [.tmp 4] := ⟨by kernel_rfl⟩
def c_s_l04Is : ACode :=
  .seq (.ops [⟨0, some 2, .mv (.const (.bool false)), none, []⟩])
  (.seq (.ops [⟨0, some 3, .mv (.tmp 0), none, []⟩, ⟨1, some 4, .nc (.tmp 3), none, []⟩, ⟨2, some 5, .fa 0 (.tmp 4), none, []⟩, ⟨3, some 6, .ld (.tmp 5), none, []⟩, ⟨4, some 7, .mv (.tmp 0), none, []⟩, ⟨5, some 8, .nc (.tmp 7), none, []⟩, ⟨6, some 9, .fa 1 (.tmp 8), none, []⟩, ⟨7, some 10, .ld (.tmp 9), none, []⟩, ⟨8, some 11, .call n_s_l04Sides [.tmp 6, .tmp 10], none, []⟩, ⟨9, some 12, .mv (.tmp 11), none, []⟩, ⟨10, some 13, .mv (.tmp 0), (some (12, true)), []⟩, ⟨11, some 14, .nc (.tmp 13), (some (12, true)), []⟩, ⟨12, some 15, .fa 2 (.tmp 14), (some (12, true)), []⟩, ⟨13, some 16, .ld (.tmp 15), (some (12, true)), []⟩, ⟨14, some 17, .len (.tmp 16), (some (12, true)), []⟩, ⟨15, some 18, .mv (.tmp 0), (some (12, true)), []⟩, ⟨16, some 19, .nc (.tmp 18), (some (12, true)), []⟩, ⟨17, some 20, .fa 0 (.tmp 19), (some (12, true)), []⟩, ⟨18, some 21, .ld (.tmp 20), (some (12, true)), []⟩, ⟨19, some 22, .mv (.tmp 0), (some (12, true)), []⟩, ⟨20, some 23, .nc (.tmp 22), (some (12, true)), []⟩, ⟨21, some 24, .fa 1 (.tmp 23), (some (12, true)), []⟩, ⟨22, some 25, .ld (.tmp 24), (some (12, true)), []⟩, ⟨23, some 26, .bin .mul (.tmp 21) (.tmp 25), (some (12, true)), []⟩, ⟨24, some 27, .bin .eql (.tmp 17) (.tmp 26), (some (12, true)), []⟩, ⟨25, some 28, .pick (.tmp 12) (.tmp 27) (.const (.bool false)), none, []⟩, ⟨26, some 29, .mv (.tmp 28), none, []⟩, ⟨27, some 30, .mv (.tmp 0), (some (29, true)), []⟩, ⟨28, some 31, .nc (.tmp 30), (some (29, true)), []⟩, ⟨29, some 32, .fa 2 (.tmp 31), (some (29, true)), []⟩, ⟨30, some 33, .ld (.tmp 32), (some (29, true)), []⟩, ⟨31, some 34, .call n_s_l02Finite [.tmp 33], (some (29, true)), []⟩, ⟨32, some 35, .pick (.tmp 29) (.tmp 34) (.const (.bool false)), none, []⟩, ⟨33, some 2, .mv (.tmp 35), none, []⟩])
  (.ret))
theorem k_s_l04Is : FnOk Try.prog n_s_l04Is 1 c_s_l04Is [.tmp 2] := ⟨by kernel_rfl⟩
def c_s_l02Energy : ACode :=
  .seq (.ops [⟨0, some 2, .mv (.const (.float .f32 0)), none, []⟩])
  (.seq (.ops [⟨0, some 3, .mv (.const (.float .f32 0)), none, []⟩])
  (.seq (.seq (.ops [⟨0, some 4, .mv (.const (.int .i64 0)), none, []⟩])
  (.block 0 (.loop [0, 3, 4] (.seq (.seq (.ops [⟨0, some 5, .mv (.tmp 4), none, []⟩, ⟨1, some 6, .mv (.tmp 0), none, []⟩, ⟨2, some 7, .len (.tmp 6), none, []⟩, ⟨3, some 8, .bin .lss (.tmp 5) (.tmp 7), none, []⟩])
  (.cond (.tmp 8) (.skip) (.exit 0)))
  (.seq (.block 1 (.ops [⟨0, some 11, .mv (.tmp 3), none, []⟩, ⟨1, some 12, .mv (.tmp 0), none, []⟩, ⟨2, some 13, .mv (.tmp 4), none, []⟩, ⟨3, some 14, .ia (.tmp 12) (.tmp 13), none, []⟩, ⟨4, some 15, .ld (.tmp 14), none, []⟩, ⟨5, some 16, .mv (.tmp 0), none, []⟩, ⟨6, some 17, .mv (.tmp 4), none, []⟩, ⟨7, some 18, .ia (.tmp 16) (.tmp 17), none, []⟩, ⟨8, some 19, .ld (.tmp 18), none, []⟩, ⟨9, some 20, .bin .mul (.tmp 15) (.tmp 19), none, []⟩, ⟨10, some 21, .bin .add (.tmp 11) (.tmp 20), none, []⟩, ⟨11, some 3, .mv (.tmp 21), none, []⟩]))
  (.keep [0, 3, 4] (.ops [⟨0, some 9, .mv (.tmp 4), none, []⟩, ⟨1, some 10, .bin .add (.tmp 9) (.const (.int .i64 1)), none, []⟩, ⟨2, some 4, .mv (.tmp 10), none, []⟩])))))))
  (.seq (.keep [3] (.ops [⟨0, some 22, .mv (.tmp 3), none, []⟩, ⟨1, some 2, .mv (.tmp 22), none, []⟩]))
  (.ret))))
theorem k_s_l02Energy : FnOk Try.prog n_s_l02Energy 1 c_s_l02Energy [.tmp 2] := ⟨by kernel_rfl⟩
def c_i_areFinite : ACode :=
  .seq (.ops [⟨0, some 2, .mv (.const (.bool false)), none, []⟩])
  (.seq (.seq (.ops [⟨0, some 7, .mv (.tmp 0), none, []⟩, ⟨1, some 8, .len (.tmp 7), none, []⟩, ⟨2, some 9, .mv (.const (.int .i64 0)), none, []⟩])
  (.block 0 (.loop [7, 8, 9] (.seq (.ops [⟨0, some 10, .bin .lss (.tmp 9) (.tmp 8), none, []⟩])
  (.seq (.cond (.tmp 10) (.skip) (.exit 0))
  (.seq (.block 1 (.seq (.ops [⟨0, some 11, .ia (.tmp 7) (.tmp 9), none, []⟩, ⟨1, some 12, .ld (.tmp 11), none, []⟩, ⟨2, some 4, .mv (.tmp 12), none, []⟩])
  (.seq (.ops [⟨0, some 13, .mv (.tmp 4), none, []⟩, ⟨1, some 14, .len (.tmp 13), none, []⟩, ⟨2, some 15, .mv (.const (.int .i64 0)), none, []⟩])
  (.block 2 (.loop [7, 8, 9, 13, 14, 15] (.seq (.ops [⟨0, some 16, .bin .lss (.tmp 15) (.tmp 14), none, []⟩])
  (.seq (.cond (.tmp 16) (.skip) (.exit 2))
  (.seq (.block 3 (.seq (.ops [⟨0, some 17, .ia (.tmp 13) (.tmp 15), none, []⟩, ⟨1, some 18, .ld (.tmp 17), none, []⟩, ⟨2, some 6, .mv (.tmp 18), none, []⟩])
  (.seq (.ops [⟨0, some 19, .mv (.tmp 6), none, []⟩, ⟨1, some 20, .call n_i_IsFinite [.tmp 19], none, []⟩, ⟨2, some 21, .un .not (.tmp 20), none, []⟩])
  (.cond (.tmp 21) (.seq (.keep [] (.ops [⟨0, some 2, .mv (.const (.bool false)), none, []⟩]))
  (.ret)) (.skip)))))
  (.keep [7, 8, 9, 13, 14, 15] (.ops [⟨0, some 22, .bin .add (.tmp 15) (.const (.int .i64 1)), none, []⟩, ⟨1, some 15, .mv (.tmp 22), none, []⟩]))))))))))
  (.ops [⟨0, some 23, .bin .add (.tmp 9) (.const (.int .i64 1)), none, []⟩, ⟨1, some 9, .mv (.tmp 23), none, []⟩])))))))
  (.seq (.ops [⟨0, some 2, .mv (.const (.bool true)), none, []⟩])
  (.ret)))
theorem k_i_areFinite : FnOk Try.prog n_i_areFinite 1 c_i_areFinite [.tmp 2] := ⟨by kernel_rfl⟩
def c_s_l04Both : ACode :=
  .seq (.ops [⟨0, some 4, .mv (.const (.bool false)), none, []⟩])
  (.seq (.ops [⟨0, some 5, .mv (.tmp 0), none, []⟩, ⟨1, some 6, .call n_s_l04Is [.tmp 5], none, []⟩, ⟨2, some 7, .mv (.tmp 6), none, []⟩, ⟨3, some 8, .mv (.tmp 1), (some (7, true)), []⟩, ⟨4, some 9, .call n_s_l04Is [.tmp 8], (some (7, true)), []⟩, ⟨5, some 10, .pick (.tmp 7) (.tmp 9) (.const (.bool false)), none, []⟩, ⟨6, some 11, .mv (.tmp 10), none, []⟩, ⟨7, some 12, .mv (.tmp 0), (some (11, true)), []⟩, ⟨8, some 13, .nc (.tmp 12), (some (11, true)), []⟩, ⟨9, some 14, .fa 0 (.tmp 13), (some (11, true)), []⟩, ⟨10, some 15, .ld (.tmp 14), (some (11, true)), []⟩, ⟨11, some 16, .mv (.tmp 1), (some (11, true)), []⟩, ⟨12, some 17, .nc (.tmp 16), (some (11, true)), []⟩, ⟨13, some 18, .fa 0 (.tmp 17), (some (11, true)), []⟩, ⟨14, some 19, .ld (.tmp 18), (some (11, true)), []⟩, ⟨15, some 20, .bin .eql (.tmp 15) (.tmp 19), (some (11, true)), []⟩, ⟨16, some 21, .pick (.tmp 11) (.tmp 20) (.const (.bool false)), none, []⟩, ⟨17, some 22, .mv (.tmp 21), none, []⟩, ⟨18, some 23, .mv (.tmp 0), (some (22, true)), []⟩, ⟨19, some 24, .nc (.tmp 23), (some (22, true)), []⟩, ⟨20, some 25, .fa 1 (.tmp 24), (some (22, true)), []⟩, ⟨21, some 26, .ld (.tmp 25), (some (22, true)), []⟩, ⟨22, some 27, .mv (.tmp 1), (some (22, true)), []⟩, ⟨23, some 28, .nc (.tmp 27), (some (22, true)), []⟩, ⟨24, some 29, .fa 1 (.tmp 28), (some (22, true)), []⟩, ⟨25, some 30, .ld (.tmp 29), (some (22, true)), []⟩, ⟨26, some 31, .bin .eql (.tmp 26) (.tmp 30), (some (22, true)), []⟩, ⟨27, some 32, .pick (.tmp 22) (.tmp 31) (.const (.bool false)), none, []⟩, ⟨28, some 4, .mv (.tmp 32), none, []⟩])
  (.ret))
theorem k_s_l04Both : FnOk Try.prog n_s_l04Both 2 c_s_l04Both [.tmp 4] := ⟨by kernel_rfl⟩
def c_s_l02Number : ACode :=
  .seq (.ops [⟨0, some 2, .mv (.const (.float .f32 0)), none, []⟩, ⟨1, some 3, .mv (.const (.bool false)), none, []⟩])
  (.seq (.seq (.ops [⟨0, some 4, .mv (.tmp 0), none, []⟩, ⟨1, some 5, .call n_s_l01Finite [.tmp 4], none, []⟩, ⟨2, some 6, .un .not (.tmp 5), none, []⟩])
  (.cond (.tmp 6) (.seq (.keep [] (.ops [⟨0, some 2, .mv (.const (.float .f32 0)), none, []⟩, ⟨1, some 3, .mv (.const (.bool false)), none, []⟩]))
  (.ret)) (.skip)))
  (.seq (.keep [0] (.ops [⟨0, some 7, .mv (.tmp 0), none, []⟩, ⟨1, some 2, .mv (.tmp 7), none, []⟩, ⟨2, some 3, .mv (.const (.bool true)), none, []⟩]))
  (.ret)))
theorem k_s_l02Number : FnOk Try.prog n_s_l02Number 1 c_s_l02Number [.tmp 2, .tmp 3] := ⟨by kernel_rfl⟩
def c_s_l04Far : ACode :=
  .seq (.ops [⟨0, some 4, .mv (.const (.float .f32 0)), none, []⟩])
  (.seq (.ops [⟨0, some 7, .bsl 34 0 (.float .f32 0) [], none, []⟩, ⟨1, some 5, .mv (.tmp 7), none, []⟩])
  (.seq (.seq (.ops [⟨0, some 6, .mv (.const (.int .i64 0)), none, []⟩])
  (.block 0 (.loop [0, 1, 5, 6] (.seq (.seq (.ops [⟨0, some 8, .mv (.tmp 6), none, []⟩, ⟨1, some 9, .mv (.tmp 0), none, []⟩, ⟨2, some 10, .nc (.tmp 9), none, []⟩, ⟨3, some 11, .fa 2 (.tmp 10), none, []⟩, ⟨4, some 12, .ld (.tmp 11), none, []⟩, ⟨5, some 13, .len (.tmp 12), none, []⟩, ⟨6, some 14, .bin .lss (.tmp 8) (.tmp 13), none, []⟩])
  (.cond (.tmp 14) (.skip) (.exit 0)))
  (.seq (.block 1 (.keep [0, 1, 5, 6] (.ops [⟨0, some 17, .mv (.tmp 5), none, []⟩, ⟨1, some 18, .mv (.tmp 0), none, []⟩, ⟨2, some 19, .nc (.tmp 18), none, []⟩, ⟨3, some 20, .fa 2 (.tmp 19), none, []⟩, ⟨4, some 21, .ld (.tmp 20), none, []⟩, ⟨5, some 22, .mv (.tmp 6), none, []⟩, ⟨6, some 23, .ia (.tmp 21) (.tmp 22), none, []⟩, ⟨7, some 24, .ld (.tmp 23), none, []⟩, ⟨8, some 25, .mv (.tmp 1), none, []⟩, ⟨9, some 26, .nc (.tmp 25), none, []⟩, ⟨10, some 27, .fa 2 (.tmp 26), none, []⟩, ⟨11, some 28, .ld (.tmp 27), none, []⟩, ⟨12, some 29, .mv (.tmp 6), none, []⟩, ⟨13, some 30, .ia (.tmp 28) (.tmp 29), none, []⟩, ⟨14, some 31, .ld (.tmp 30), none, []⟩, ⟨15, some 32, .bin .sub (.tmp 24) (.tmp 31), none, []⟩, ⟨16, some 33, .bsl 34 1 (.float .f32 0) [(0, .tmp 32)], none, []⟩, ⟨17, some 34, .app 34 4 (.tmp 17) (.tmp 33), none, []⟩, ⟨18, some 5, .mv (.tmp 34), none, []⟩])))
  (.keep [0, 1, 5, 6] (.ops [⟨0, some 15, .mv (.tmp 6), none, []⟩, ⟨1, some 16, .bin .add (.tmp 15) (.const (.int .i64 1)), none, []⟩, ⟨2, some 6, .mv (.tmp 16), none, []⟩])))))))
  (.seq (.keep [5] (.ops [⟨0, some 35, .mv (.tmp 5), none, []⟩, ⟨1, some 36, .call n_s_l02Energy [.tmp 35], none, []⟩, ⟨2, some 37, .mv (.tmp 5), none, []⟩, ⟨3, some 38, .len (.tmp 37), none, []⟩, ⟨4, some 39, .cv (.f .f32) (.tmp 38), none, []⟩, ⟨5, some 40, .bin .quo (.tmp 36) (.tmp 39), none, []⟩, ⟨6, some 41, .call n_s_l01Sqrt [.tmp 40], none, []⟩, ⟨7, some 4, .mv (.tmp 41), none, []⟩]))
  (.ret))))
theorem k_s_l04Far : FnOk Try.prog n_s_l04Far 2 c_s_l04Far [.tmp 4] := ⟨by kernel_rfl⟩
def c_i_areAlike : ACode :=
  .seq (.ops [⟨0, some 2, .box 36 (.tmp 0), none, []⟩, ⟨1, some 3, .box 36 (.tmp 1), none, []⟩, ⟨2, some 4, .mv (.const (.bool false)), none, []⟩])
  (.seq (.ops [⟨0, some 5, .ldn 3 (.tmp 2), none, []⟩, ⟨1, some 6, .call n_i_ValidPicture [.tmp 5], none, []⟩, ⟨2, some 7, .mv (.tmp 6), none, []⟩, ⟨3, some 8, .ldn 3 (.tmp 3), (some (7, true)), []⟩, ⟨4, some 9, .call n_i_ValidPicture [.tmp 8], (some (7, true)), []⟩, ⟨5, some 10, .pick (.tmp 7) (.tmp 9) (.const (.bool false)), none, []⟩, ⟨6, some 11, .mv (.tmp 10), none, []⟩, ⟨7, some 12, .fa 0 (.tmp 2), (some (11, true)), []⟩, ⟨8, some 13, .ld (.tmp 12), (some (11, true)), []⟩, ⟨9, some 14, .fa 0 (.tmp 3), (some (11, true)), []⟩, ⟨10, some 15, .ld (.tmp 14), (some (11, true)), []⟩, ⟨11, some 16, .bin .eql (.tmp 13) (.tmp 15), (some (11, true)), []⟩, ⟨12, some 17, .pick (.tmp 11) (.tmp 16) (.const (.bool false)), none, []⟩, ⟨13, some 18, .mv (.tmp 17), none, []⟩, ⟨14, some 19, .fa 1 (.tmp 2), (some (18, true)), []⟩, ⟨15, some 20, .ld (.tmp 19), (some (18, true)), []⟩, ⟨16, some 21, .fa 1 (.tmp 3), (some (18, true)), []⟩, ⟨17, some 22, .ld (.tmp 21), (some (18, true)), []⟩, ⟨18, some 23, .bin .eql (.tmp 20) (.tmp 22), (some (18, true)), []⟩, ⟨19, some 24, .pick (.tmp 18) (.tmp 23) (.const (.bool false)), none, []⟩, ⟨20, some 4, .mv (.tmp 24), none, []⟩])
  (.ret))
theorem k_i_areAlike : FnOk Try.prog n_i_areAlike 2 c_i_areAlike [.tmp 4] := ⟨by kernel_rfl⟩
def c_i_finite : ACode :=
  .seq (.ops [⟨0, some 2, .mv (.const (.float .f32 0)), none, []⟩, ⟨1, some 3, .mv (.const (.bool false)), none, []⟩])
  (.seq (.seq (.ops [⟨0, some 4, .mv (.tmp 0), none, []⟩, ⟨1, some 5, .call n_i_IsFinite [.tmp 4], none, []⟩, ⟨2, some 6, .un .not (.tmp 5), none, []⟩])
  (.cond (.tmp 6) (.seq (.keep [] (.ops [⟨0, some 2, .mv (.const (.float .f32 0)), none, []⟩, ⟨1, some 3, .mv (.const (.bool false)), none, []⟩]))
  (.ret)) (.skip)))
  (.seq (.keep [0] (.ops [⟨0, some 7, .mv (.tmp 0), none, []⟩, ⟨1, some 2, .mv (.tmp 7), none, []⟩, ⟨2, some 3, .mv (.const (.bool true)), none, []⟩]))
  (.ret)))
theorem k_i_finite : FnOk Try.prog n_i_finite 1 c_i_finite [.tmp 2, .tmp 3] := ⟨by kernel_rfl⟩
def c_i_RootNumber : ACode :=
  .seq (.ops [⟨0, some 2, .mv (.const (.float .f32 0)), none, []⟩])
  (.seq (.ops [⟨0, some 3, .mv (.tmp 0), none, []⟩, ⟨1, some 4, .cv (.f .f64) (.tmp 3), none, []⟩, ⟨2, some 5, .call n_m_Sqrt [.tmp 4], none, []⟩, ⟨3, some 6, .cv (.f .f32) (.tmp 5), none, []⟩, ⟨4, some 2, .mv (.tmp 6), none, []⟩])
  (.ret))
theorem k_i_RootNumber : FnOk Try.prog n_i_RootNumber 1 c_i_RootNumber [.tmp 2] := ⟨by kernel_rfl⟩
def c_s_l01Finite : ACode :=
  .seq (.ops [⟨0, some 2, .mv (.const (.bool false)), none, []⟩])
  (.seq (.ops [⟨0, some 3, .mv (.tmp 0), none, []⟩, ⟨1, some 4, .mv (.tmp 0), none, []⟩, ⟨2, some 5, .bin .sub (.tmp 3) (.tmp 4), none, []⟩, ⟨3, some 6, .bin .eql (.tmp 5) (.const (.float .f32 0)), none, []⟩, ⟨4, some 2, .mv (.tmp 6), none, []⟩])
  (.ret))
theorem k_s_l01Finite : FnOk Try.prog n_s_l01Finite 1 c_s_l01Finite [.tmp 2] := ⟨by kernel_rfl⟩
def c_s_l04Sides : ACode :=
  .seq (.ops [⟨0, some 4, .mv (.const (.bool false)), none, []⟩])
  (.seq (.ops [⟨0, some 5, .mv (.tmp 0), none, []⟩, ⟨1, some 6, .call n_s_l00In [.tmp 5, .const (.int .i64 1), .const (.int .i64 16)], none, []⟩, ⟨2, some 7, .mv (.tmp 6), none, []⟩, ⟨3, some 8, .mv (.tmp 1), (some (7, true)), []⟩, ⟨4, some 9, .call n_s_l00In [.tmp 8, .const (.int .i64 1), .const (.int .i64 16)], (some (7, true)), []⟩, ⟨5, some 10, .pick (.tmp 7) (.tmp 9) (.const (.bool false)), none, []⟩, ⟨6, some 4, .mv (.tmp 10), none, []⟩])
  (.ret))
theorem k_s_l04Sides : FnOk Try.prog n_s_l04Sides 2 c_s_l04Sides [.tmp 4] := ⟨by kernel_rfl⟩
def c_i_IsFinite : ACode :=
  .seq (.ops [⟨0, some 2, .mv (.const (.bool false)), none, []⟩])
  (.seq (.ops [⟨0, some 3, .mv (.tmp 0), none, []⟩, ⟨1, some 4, .mv (.tmp 0), none, []⟩, ⟨2, some 5, .bin .sub (.tmp 3) (.tmp 4), none, []⟩, ⟨3, some 6, .bin .eql (.tmp 5) (.const (.float .f32 0)), none, []⟩, ⟨4, some 2, .mv (.tmp 6), none, []⟩])
  (.ret))
theorem k_i_IsFinite : FnOk Try.prog n_i_IsFinite 1 c_i_IsFinite [.tmp 2] := ⟨by kernel_rfl⟩
def c_i_ValidPicture : ACode :=
  .seq (.ops [⟨0, some 1, .box 36 (.tmp 0), none, []⟩, ⟨1, some 2, .mv (.const (.bool false)), none, []⟩])
  (.seq (.ops [⟨0, some 3, .fa 0 (.tmp 1), none, []⟩, ⟨1, some 4, .ld (.tmp 3), none, []⟩, ⟨2, some 5, .call n_i_within [.tmp 4, .const (.int .i64 1), .const (.int .i64 16)], none, []⟩, ⟨3, some 6, .mv (.tmp 5), none, []⟩, ⟨4, some 7, .fa 1 (.tmp 1), (some (6, true)), []⟩, ⟨5, some 8, .ld (.tmp 7), (some (6, true)), []⟩, ⟨6, some 9, .call n_i_within [.tmp 8, .const (.int .i64 1), .const (.int .i64 16)], (some (6, true)), []⟩, ⟨7, some 10, .pick (.tmp 6) (.tmp 9) (.const (.bool false)), none, []⟩, ⟨8, some 11, .mv (.tmp 10), none, []⟩, ⟨9, some 12, .fa 2 (.tmp 1), (some (11, true)), []⟩, ⟨10, some 13, .ld (.tmp 12), (some (11, true)), []⟩, ⟨11, some 14, .len (.tmp 13), (some (11, true)), []⟩, ⟨12, some 15, .fa 0 (.tmp 1), (some (11, true)), []⟩, ⟨13, some 16, .ld (.tmp 15), (some (11, true)), []⟩, ⟨14, some 17, .fa 1 (.tmp 1), (some (11, true)), []⟩, ⟨15, some 18, .ld (.tmp 17), (some (11, true)), []⟩, ⟨16, some 19, .bin .mul (.tmp 16) (.tmp 18), (some (11, true)), []⟩, ⟨17, some 20, .bin .eql (.tmp 14) (.tmp 19), (some (11, true)), []⟩, ⟨18, some 21, .pick (.tmp 11) (.tmp 20) (.const (.bool false)), none, []⟩, ⟨19, some 22, .mv (.tmp 21), none, []⟩, ⟨20, some 23, .fa 2 (.tmp 1), (some (22, true)), []⟩, ⟨21, some 24, .ld (.tmp 23), (some (22, true)), []⟩, ⟨22, some 25, .bsl 22 1 (.slice none 0 0) [(0, .tmp 24)], (some (22, true)), []⟩, ⟨23, some 26, .call n_i_areFinite [.tmp 25], (some (22, true)), []⟩, ⟨24, some 27, .pick (.tmp 22) (.tmp 26) (.const (.bool false)), none, []⟩, ⟨25, some 2, .mv (.tmp 27), none, []⟩])
  (.ret))
theorem k_i_ValidPicture : FnOk Try.prog n_i_ValidPicture 1 c_i_ValidPicture [.tmp 2] := ⟨by kernel_rfl⟩
def c_s_l01Sqrt : ACode :=
  .seq (.ops [⟨0, some 2, .mv (.const (.float .f32 0)), none, []⟩])
  (.seq (.ops [⟨0, some 3, .mv (.tmp 0), none, []⟩, ⟨1, some 4, .cv (.f .f64) (.tmp 3), none, []⟩, ⟨2, some 5, .call n_m_Sqrt [.tmp 4], none, []⟩, ⟨3, some 6, .call n_s_l01Narrow [.tmp 5], none, []⟩, ⟨4, some 2, .mv (.tmp 6), none, []⟩])
  (.ret))
theorem k_s_l01Sqrt : FnOk Try.prog n_s_l01Sqrt 1 c_s_l01Sqrt [.tmp 2] := ⟨by kernel_rfl⟩
def c_m_Sqrt : ACode :=
  .seq (.ops [⟨0, some 2, .mv (.const (.float .f64 0)), none, []⟩])
  (.seq (.ops [⟨0, some 3, .mv (.tmp 0), none, []⟩, ⟨1, some 4, .fsqrt (.tmp 3), none, []⟩, ⟨2, some 2, .mv (.tmp 4), none, []⟩])
  (.ret))
theorem k_m_Sqrt : FnOk Try.prog n_m_Sqrt 1 c_m_Sqrt [.tmp 2] := ⟨by kernel_rfl⟩
def c_s_l01Narrow : ACode :=
  .seq (.ops [⟨0, some 2, .mv (.const (.float .f32 0)), none, []⟩])
  (.seq (.ops [⟨0, some 3, .mv (.tmp 0), none, []⟩, ⟨1, some 4, .cv (.f .f32) (.tmp 3), none, []⟩, ⟨2, some 2, .mv (.tmp 4), none, []⟩])
  (.ret))
theorem k_s_l01Narrow : FnOk Try.prog n_s_l01Narrow 1 c_s_l01Narrow [.tmp 2] := ⟨by kernel_rfl⟩
end Go.Proofs.Ytkojmlpaamdhoac

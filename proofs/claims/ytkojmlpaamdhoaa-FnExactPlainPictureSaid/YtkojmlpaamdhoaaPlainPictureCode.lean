/- The code of functions, for the abstract machine; printed by a program (gen.py). -/
import Derived.Test.YtkojmlpaamdhoaaGxFn
import Derived.Test.YtkojmlpaamdhoaaProg
namespace Go.Proofs.Ytkojmlpaamdhoaa
open Go.Gx
set_option maxRecDepth 100000
abbrev t_int64 : Nat := 2
abbrev t_int : Nat := 3
abbrev t_bool : Nat := 4
abbrev t_uint8 : Nat := 5
abbrev t_sfloat32 : Nat := 22
abbrev t_suint8 : Nat := 47
abbrev t_ssfloat32 : Nat := 52
abbrev t_float64 : Nat := 62
abbrev t_float32 : Nat := 63
abbrev t_sbool : Nat := 66
abbrev t_sint64 : Nat := 77
abbrev t_Pair : Nat := 24
abbrev t_Picture : Nat := 36
abbrev t_Bands : Nat := 54
abbrev n_w_FnExactPlainPicture : Nat := 14
abbrev n_i_ValidPicture : Nat := 27
abbrev n_w_eqPicture : Nat := 28
abbrev n_w_markPicture : Nat := 54
abbrev n_w_heldPicture : Nat := 55
abbrev n_w_sameFloat : Nat := 58
abbrev n_w_eqFloat32S : Nat := 63
abbrev n_w_markFloat32S : Nat := 64
abbrev n_s_PlainPicture : Nat := 67
abbrev n_i_PlainPicture : Nat := 68
abbrev n_w_heldFloat32S : Nat := 69
abbrev n_s_l04Sides : Nat := 70
abbrev n_s_l00In : Nat := 72
abbrev n_i_within : Nat := 74
abbrev n_s_l04Is : Nat := 78
abbrev n_i_areFinite : Nat := 79
abbrev n_s_l01Finite : Nat := 97
abbrev n_s_l04Step : Nat := 98
abbrev n_i_IsFinite : Nat := 99
abbrev n_i_pictureBy : Nat := 100
abbrev n_s_l04Give : Nat := 108
abbrev n_i_PlainPicture_1 : Nat := 109
abbrev n_s_l02Finite : Nat := 111
abbrev n_i_validPicture : Nat := 116
def c_w_FnExactPlainPicture : ACode :=
  .seq (.ops [⟨0, some 6, .mv (.const (.bool false)), none, []⟩])
  (.seq (.ops [⟨0, some 16, .mv (.tmp 0), none, []⟩, ⟨1, some 17, .mv (.tmp 1), none, []⟩, ⟨2, some 18, .mv (.tmp 2), none, []⟩, ⟨3, some 19, .call n_s_PlainPicture [.tmp 16, .tmp 17, .tmp 18], none, []⟩, ⟨4, some 15, .mv (.tmp 19), none, []⟩, ⟨5, some 20, .ext (.tmp 15) 0, none, []⟩, ⟨6, some 21, .ext (.tmp 15) 1, none, []⟩, ⟨7, some 7, .new 36 [.int .i64 0, .int .i64 0, .slice none 0 0], none, []⟩, ⟨8, none, .stn 3 (.tmp 7) (.tmp 20), none, []⟩, ⟨9, some 8, .mv (.tmp 21), none, []⟩])
  (.seq (.keep [0, 1, 2, 7, 8] (.ops [⟨0, some 23, .mv (.tmp 0), none, []⟩, ⟨1, some 24, .mv (.tmp 1), none, []⟩, ⟨2, some 25, .mv (.tmp 2), none, []⟩, ⟨3, some 26, .call n_i_PlainPicture [.tmp 23, .tmp 24, .tmp 25], none, []⟩, ⟨4, some 22, .mv (.tmp 26), none, []⟩, ⟨5, some 27, .ext (.tmp 22) 0, none, []⟩, ⟨6, some 28, .ext (.tmp 22) 1, none, []⟩, ⟨7, some 9, .new 36 [.int .i64 0, .int .i64 0, .slice none 0 0], none, []⟩, ⟨8, none, .stn 3 (.tmp 9) (.tmp 27), none, []⟩, ⟨9, some 10, .mv (.tmp 28), none, []⟩]))
  (.seq (.seq (.keep [0, 1, 2, 7, 8, 9, 10] (.ops [⟨0, some 29, .ldn 3 (.tmp 9), none, []⟩, ⟨1, some 30, .ldn 3 (.tmp 7), none, []⟩, ⟨2, some 31, .call n_w_eqPicture [.tmp 29, .tmp 30], none, []⟩, ⟨3, some 32, .un .not (.tmp 31), none, []⟩, ⟨4, some 33, .mv (.tmp 32), none, []⟩, ⟨5, some 34, .mv (.tmp 10), (some (33, false)), []⟩, ⟨6, some 35, .mv (.tmp 8), (some (33, false)), []⟩, ⟨7, some 36, .beq true (.tmp 34) (.tmp 35), (some (33, false)), []⟩, ⟨8, some 37, .pick (.tmp 33) (.const (.bool true)) (.tmp 36), none, []⟩]))
  (.cond (.tmp 37) (.seq (.keep [] (.ops [⟨0, some 6, .mv (.const (.bool false)), none, []⟩]))
  (.ret)) (.skip)))
  (.seq (.keep [0, 1, 2, 7, 8, 9] (.ops [⟨0, some 11, .mv (.const (.int .i64 1)), none, []⟩]))
  (.seq (.ops [⟨0, some 38, .ldn 3 (.tmp 9), none, []⟩, ⟨1, some 39, .mv (.tmp 11), none, []⟩, ⟨2, some 40, .call n_w_markPicture [.tmp 38, .tmp 39], none, []⟩, ⟨3, some 11, .mv (.tmp 40), none, []⟩])
  (.seq (.ops [⟨0, some 12, .mv (.const (.int .i64 1)), none, []⟩])
  (.seq (.ops [⟨0, some 41, .ldn 3 (.tmp 9), none, []⟩, ⟨1, some 42, .mv (.tmp 12), none, []⟩, ⟨2, some 43, .call n_w_heldPicture [.tmp 41, .tmp 42], none, []⟩, ⟨3, some 12, .mv (.tmp 43), none, []⟩])
  (.seq (.seq (.keep [0, 1, 2, 7, 8, 9, 11, 12] (.ops [⟨0, some 44, .mv (.tmp 12), none, []⟩, ⟨1, some 45, .bin .lss (.tmp 44) (.const (.int .i64 0)), none, []⟩]))
  (.cond (.tmp 45) (.seq (.keep [] (.ops [⟨0, some 6, .mv (.const (.bool false)), none, []⟩]))
  (.ret)) (.skip)))
  (.seq (.seq (.ops [⟨0, some 46, .mv (.tmp 12), none, []⟩, ⟨1, some 47, .mv (.tmp 11), none, []⟩, ⟨2, some 48, .bin .neq (.tmp 46) (.tmp 47), none, []⟩])
  (.cond (.tmp 48) (.seq (.keep [] (.ops [⟨0, some 6, .mv (.const (.bool false)), none, []⟩]))
  (.ret)) (.skip)))
  (.seq (.keep [0, 1, 2, 7, 8, 9, 11] (.ops [⟨0, some 50, .mv (.tmp 0), none, []⟩, ⟨1, some 51, .mv (.tmp 1), none, []⟩, ⟨2, some 52, .mv (.tmp 2), none, []⟩, ⟨3, some 53, .call n_i_PlainPicture [.tmp 50, .tmp 51, .tmp 52], none, []⟩, ⟨4, some 49, .mv (.tmp 53), none, []⟩, ⟨5, some 54, .ext (.tmp 49) 0, none, []⟩, ⟨6, some 55, .ext (.tmp 49) 1, none, []⟩, ⟨7, some 13, .new 36 [.int .i64 0, .int .i64 0, .slice none 0 0], none, []⟩, ⟨8, none, .stn 3 (.tmp 13) (.tmp 54), none, []⟩, ⟨9, some 14, .mv (.tmp 55), none, []⟩]))
  (.seq (.seq (.keep [7, 8, 9, 11, 13, 14] (.ops [⟨0, some 56, .ldn 3 (.tmp 13), none, []⟩, ⟨1, some 57, .ldn 3 (.tmp 7), none, []⟩, ⟨2, some 58, .call n_w_eqPicture [.tmp 56, .tmp 57], none, []⟩, ⟨3, some 59, .un .not (.tmp 58), none, []⟩, ⟨4, some 60, .mv (.tmp 59), none, []⟩, ⟨5, some 61, .mv (.tmp 14), (some (60, false)), []⟩, ⟨6, some 62, .mv (.tmp 8), (some (60, false)), []⟩, ⟨7, some 63, .beq true (.tmp 61) (.tmp 62), (some (60, false)), []⟩, ⟨8, some 64, .pick (.tmp 60) (.const (.bool true)) (.tmp 63), none, []⟩]))
  (.cond (.tmp 64) (.seq (.keep [] (.ops [⟨0, some 6, .mv (.const (.bool false)), none, []⟩]))
  (.ret)) (.skip)))
  (.seq (.keep [9, 11] (.ops [⟨0, some 12, .mv (.const (.int .i64 1)), none, []⟩]))
  (.seq (.ops [⟨0, some 65, .ldn 3 (.tmp 9), none, []⟩, ⟨1, some 66, .mv (.tmp 12), none, []⟩, ⟨2, some 67, .call n_w_heldPicture [.tmp 65, .tmp 66], none, []⟩, ⟨3, some 12, .mv (.tmp 67), none, []⟩])
  (.seq (.seq (.ops [⟨0, some 68, .mv (.tmp 12), none, []⟩, ⟨1, some 69, .bin .lss (.tmp 68) (.const (.int .i64 0)), none, []⟩])
  (.cond (.tmp 69) (.seq (.keep [] (.ops [⟨0, some 6, .mv (.const (.bool false)), none, []⟩]))
  (.ret)) (.skip)))
  (.seq (.seq (.keep [11, 12] (.ops [⟨0, some 70, .mv (.tmp 12), none, []⟩, ⟨1, some 71, .mv (.tmp 11), none, []⟩, ⟨2, some 72, .bin .neq (.tmp 70) (.tmp 71), none, []⟩]))
  (.cond (.tmp 72) (.seq (.keep [] (.ops [⟨0, some 6, .mv (.const (.bool false)), none, []⟩]))
  (.ret)) (.skip)))
  (.seq (.keep [] (.ops [⟨0, some 6, .mv (.const (.bool true)), none, []⟩]))
  (.ret)))))))))))))))))
theorem k_w_FnExactPlainPicture : FnOk Try.prog n_w_FnExactPlainPicture 3 c_w_FnExactPlainPicture [.tmp 6] := ⟨by kernel_rfl⟩
def c_i_ValidPicture : ACode :=
  .seq (.ops [⟨0, some 1, .box 36 (.tmp 0), none, []⟩, ⟨1, some 2, .mv (.const (.bool false)), none, []⟩])
  (.seq (.ops [⟨0, some 3, .fa 0 (.tmp 1), none, []⟩, ⟨1, some 4, .ld (.tmp 3), none, []⟩, ⟨2, some 5, .call n_i_within [.tmp 4, .const (.int .i64 1), .const (.int .i64 16)], none, []⟩, ⟨3, some 6, .mv (.tmp 5), none, []⟩, ⟨4, some 7, .fa 1 (.tmp 1), (some (6, true)), []⟩, ⟨5, some 8, .ld (.tmp 7), (some (6, true)), []⟩, ⟨6, some 9, .call n_i_within [.tmp 8, .const (.int .i64 1), .const (.int .i64 16)], (some (6, true)), []⟩, ⟨7, some 10, .pick (.tmp 6) (.tmp 9) (.const (.bool false)), none, []⟩, ⟨8, some 11, .mv (.tmp 10), none, []⟩, ⟨9, some 12, .fa 2 (.tmp 1), (some (11, true)), []⟩, ⟨10, some 13, .ld (.tmp 12), (some (11, true)), []⟩, ⟨11, some 14, .len (.tmp 13), (some (11, true)), []⟩, ⟨12, some 15, .fa 0 (.tmp 1), (some (11, true)), []⟩, ⟨13, some 16, .ld (.tmp 15), (some (11, true)), []⟩, ⟨14, some 17, .fa 1 (.tmp 1), (some (11, true)), []⟩, ⟨15, some 18, .ld (.tmp 17), (some (11, true)), []⟩, ⟨16, some 19, .bin .mul (.tmp 16) (.tmp 18), (some (11, true)), []⟩, ⟨17, some 20, .bin .eql (.tmp 14) (.tmp 19), (some (11, true)), []⟩, ⟨18, some 21, .pick (.tmp 11) (.tmp 20) (.const (.bool false)), none, []⟩, ⟨19, some 22, .mv (.tmp 21), none, []⟩, ⟨20, some 23, .fa 2 (.tmp 1), (some (22, true)), []⟩, ⟨21, some 24, .ld (.tmp 23), (some (22, true)), []⟩, ⟨22, some 25, .bsl 22 1 (.slice none 0 0) [(0, .tmp 24)], (some (22, true)), []⟩, ⟨23, some 26, .call n_i_areFinite [.tmp 25], (some (22, true)), []⟩, ⟨24, some 27, .pick (.tmp 22) (.tmp 26) (.const (.bool false)), none, []⟩, ⟨25, some 2, .mv (.tmp 27), none, []⟩])
  (.ret))
theorem k_i_ValidPicture : FnOk Try.prog n_i_ValidPicture 1 c_i_ValidPicture [.tmp 2] := ⟨by kernel_rfl⟩
def c_w_eqPicture : ACode :=
  .seq (.ops [⟨0, some 2, .box 36 (.tmp 0), none, []⟩, ⟨1, some 3, .box 36 (.tmp 1), none, []⟩, ⟨2, some 4, .mv (.const (.bool false)), none, []⟩])
  (.seq (.seq (.ops [⟨0, some 5, .fa 0 (.tmp 2), none, []⟩, ⟨1, some 6, .ld (.tmp 5), none, []⟩, ⟨2, some 7, .fa 0 (.tmp 3), none, []⟩, ⟨3, some 8, .ld (.tmp 7), none, []⟩, ⟨4, some 9, .bin .neq (.tmp 6) (.tmp 8), none, []⟩])
  (.cond (.tmp 9) (.seq (.keep [] (.ops [⟨0, some 4, .mv (.const (.bool false)), none, []⟩]))
  (.ret)) (.skip)))
  (.seq (.seq (.keep [2, 3] (.ops [⟨0, some 10, .fa 1 (.tmp 2), none, []⟩, ⟨1, some 11, .ld (.tmp 10), none, []⟩, ⟨2, some 12, .fa 1 (.tmp 3), none, []⟩, ⟨3, some 13, .ld (.tmp 12), none, []⟩, ⟨4, some 14, .bin .neq (.tmp 11) (.tmp 13), none, []⟩]))
  (.cond (.tmp 14) (.seq (.keep [] (.ops [⟨0, some 4, .mv (.const (.bool false)), none, []⟩]))
  (.ret)) (.skip)))
  (.seq (.seq (.keep [2, 3] (.ops [⟨0, some 15, .fa 2 (.tmp 2), none, []⟩, ⟨1, some 16, .ld (.tmp 15), none, []⟩, ⟨2, some 17, .fa 2 (.tmp 3), none, []⟩, ⟨3, some 18, .ld (.tmp 17), none, []⟩, ⟨4, some 19, .call n_w_eqFloat32S [.tmp 16, .tmp 18], none, []⟩, ⟨5, some 20, .un .not (.tmp 19), none, []⟩]))
  (.cond (.tmp 20) (.seq (.keep [] (.ops [⟨0, some 4, .mv (.const (.bool false)), none, []⟩]))
  (.ret)) (.skip)))
  (.seq (.keep [] (.ops [⟨0, some 4, .mv (.const (.bool true)), none, []⟩]))
  (.ret)))))
theorem k_w_eqPicture : FnOk Try.prog n_w_eqPicture 2 c_w_eqPicture [.tmp 4] := ⟨by kernel_rfl⟩
def c_w_markPicture : ACode :=
  .seq (.ops [⟨0, some 2, .box 36 (.tmp 0), none, []⟩, ⟨1, some 4, .mv (.const (.int .i64 0)), none, []⟩])
  (.seq (.ops [⟨0, some 5, .fa 2 (.tmp 2), none, []⟩, ⟨1, some 6, .ld (.tmp 5), none, []⟩, ⟨2, some 7, .mv (.tmp 1), none, []⟩, ⟨3, some 8, .call n_w_markFloat32S [.tmp 6, .tmp 7], none, []⟩, ⟨4, some 1, .mv (.tmp 8), none, []⟩])
  (.seq (.keep [1] (.ops [⟨0, some 9, .mv (.tmp 1), none, []⟩, ⟨1, some 4, .mv (.tmp 9), none, []⟩]))
  (.ret)))
theorem k_w_markPicture : FnOk Try.prog n_w_markPicture 2 c_w_markPicture [.tmp 4] := ⟨by kernel_rfl⟩
def c_w_heldPicture : ACode :=
  .seq (.ops [⟨0, some 2, .box 36 (.tmp 0), none, []⟩, ⟨1, some 4, .mv (.const (.int .i64 0)), none, []⟩])
  (.seq (.ops [⟨0, some 5, .fa 2 (.tmp 2), none, []⟩, ⟨1, some 6, .ld (.tmp 5), none, []⟩, ⟨2, some 7, .mv (.tmp 1), none, []⟩, ⟨3, some 8, .call n_w_heldFloat32S [.tmp 6, .tmp 7], none, []⟩, ⟨4, some 1, .mv (.tmp 8), none, []⟩])
  (.seq (.seq (.keep [1] (.ops [⟨0, some 9, .mv (.tmp 1), none, []⟩, ⟨1, some 10, .bin .lss (.tmp 9) (.const (.int .i64 0)), none, []⟩]))
  (.cond (.tmp 10) (.seq (.ops [⟨0, some 4, .mv (.const (.int .i64 (-1))), none, []⟩])
  (.ret)) (.skip)))
  (.seq (.ops [⟨0, some 11, .mv (.tmp 1), none, []⟩, ⟨1, some 4, .mv (.tmp 11), none, []⟩])
  (.ret))))
theorem k_w_heldPicture : FnOk Try.prog n_w_heldPicture 2 c_w_heldPicture [.tmp 4] := ⟨by kernel_rfl⟩
def c_w_sameFloat : ACode :=
  .seq (.ops [⟨0, some 4, .mv (.const (.bool false)), none, []⟩])
  (.seq (.seq (.ops [⟨0, some 5, .mv (.tmp 0), none, []⟩, ⟨1, some 6, .mv (.tmp 0), none, []⟩, ⟨2, some 7, .bin .neq (.tmp 5) (.tmp 6), none, []⟩, ⟨3, some 8, .mv (.tmp 7), none, []⟩, ⟨4, some 9, .mv (.tmp 1), (some (8, false)), []⟩, ⟨5, some 10, .mv (.tmp 1), (some (8, false)), []⟩, ⟨6, some 11, .bin .neq (.tmp 9) (.tmp 10), (some (8, false)), []⟩, ⟨7, some 12, .pick (.tmp 8) (.const (.bool true)) (.tmp 11), none, []⟩])
  (.cond (.tmp 12) (.seq (.keep [0, 1] (.ops [⟨0, some 13, .mv (.tmp 0), none, []⟩, ⟨1, some 14, .mv (.tmp 0), none, []⟩, ⟨2, some 15, .bin .neq (.tmp 13) (.tmp 14), none, []⟩, ⟨3, some 16, .mv (.tmp 15), none, []⟩, ⟨4, some 17, .mv (.tmp 1), (some (16, true)), []⟩, ⟨5, some 18, .mv (.tmp 1), (some (16, true)), []⟩, ⟨6, some 19, .bin .neq (.tmp 17) (.tmp 18), (some (16, true)), []⟩, ⟨7, some 20, .pick (.tmp 16) (.tmp 19) (.const (.bool false)), none, []⟩, ⟨8, some 4, .mv (.tmp 20), none, []⟩]))
  (.ret)) (.skip)))
  (.seq (.seq (.keep [0, 1] (.ops [⟨0, some 21, .mv (.tmp 0), none, []⟩, ⟨1, some 22, .bin .eql (.tmp 21) (.const (.float .f64 0)), none, []⟩, ⟨2, some 23, .mv (.tmp 22), none, []⟩, ⟨3, some 24, .mv (.tmp 1), (some (23, true)), []⟩, ⟨4, some 25, .bin .eql (.tmp 24) (.const (.float .f64 0)), (some (23, true)), []⟩, ⟨5, some 26, .pick (.tmp 23) (.tmp 25) (.const (.bool false)), none, []⟩]))
  (.cond (.tmp 26) (.seq (.keep [0, 1] (.ops [⟨0, some 27, .mv (.tmp 0), none, []⟩, ⟨1, some 28, .bin .quo (.const (.float .f64 4607182418800017408)) (.tmp 27), none, []⟩, ⟨2, some 29, .bin .gtr (.tmp 28) (.const (.float .f64 0)), none, []⟩, ⟨3, some 30, .mv (.tmp 1), none, []⟩, ⟨4, some 31, .bin .quo (.const (.float .f64 4607182418800017408)) (.tmp 30), none, []⟩, ⟨5, some 32, .bin .gtr (.tmp 31) (.const (.float .f64 0)), none, []⟩, ⟨6, some 33, .beq false (.tmp 29) (.tmp 32), none, []⟩, ⟨7, some 4, .mv (.tmp 33), none, []⟩]))
  (.ret)) (.skip)))
  (.seq (.keep [0, 1] (.ops [⟨0, some 34, .mv (.tmp 0), none, []⟩, ⟨1, some 35, .mv (.tmp 1), none, []⟩, ⟨2, some 36, .bin .eql (.tmp 34) (.tmp 35), none, []⟩, ⟨3, some 4, .mv (.tmp 36), none, []⟩]))
  (.ret))))
theorem k_w_sameFloat : FnOk Try.prog n_w_sameFloat 2 c_w_sameFloat [.tmp 4] := ⟨by kernel_rfl⟩
def c_w_eqFloat32S : ACode :=
  .seq (.ops [⟨0, some 4, .mv (.const (.bool false)), none, []⟩])
  (.seq (.seq (.ops [⟨0, some 6, .mv (.tmp 0), none, []⟩, ⟨1, some 7, .len (.tmp 6), none, []⟩, ⟨2, some 8, .mv (.tmp 1), none, []⟩, ⟨3, some 9, .len (.tmp 8), none, []⟩, ⟨4, some 10, .bin .neq (.tmp 7) (.tmp 9), none, []⟩])
  (.cond (.tmp 10) (.seq (.keep [] (.ops [⟨0, some 4, .mv (.const (.bool false)), none, []⟩]))
  (.ret)) (.skip)))
  (.seq (.seq (.keep [0, 1] (.ops [⟨0, some 5, .mv (.const (.int .i64 0)), none, []⟩]))
  (.block 0 (.loop [0, 1, 5] (.seq (.seq (.ops [⟨0, some 11, .mv (.tmp 5), none, []⟩, ⟨1, some 12, .mv (.tmp 0), none, []⟩, ⟨2, some 13, .len (.tmp 12), none, []⟩, ⟨3, some 14, .bin .lss (.tmp 11) (.tmp 13), none, []⟩])
  (.cond (.tmp 14) (.skip) (.exit 0)))
  (.seq (.block 1 (.seq (.ops [⟨0, some 17, .mv (.tmp 0), none, []⟩, ⟨1, some 18, .mv (.tmp 5), none, []⟩, ⟨2, some 19, .ia (.tmp 17) (.tmp 18), none, []⟩, ⟨3, some 20, .ld (.tmp 19), none, []⟩, ⟨4, some 21, .cv (.f .f64) (.tmp 20), none, []⟩, ⟨5, some 22, .mv (.tmp 1), none, []⟩, ⟨6, some 23, .mv (.tmp 5), none, []⟩, ⟨7, some 24, .ia (.tmp 22) (.tmp 23), none, []⟩, ⟨8, some 25, .ld (.tmp 24), none, []⟩, ⟨9, some 26, .cv (.f .f64) (.tmp 25), none, []⟩, ⟨10, some 27, .call n_w_sameFloat [.tmp 21, .tmp 26], none, []⟩, ⟨11, some 28, .un .not (.tmp 27), none, []⟩])
  (.cond (.tmp 28) (.seq (.keep [] (.ops [⟨0, some 4, .mv (.const (.bool false)), none, []⟩]))
  (.ret)) (.skip))))
  (.keep [0, 1, 5] (.ops [⟨0, some 15, .mv (.tmp 5), none, []⟩, ⟨1, some 16, .bin .add (.tmp 15) (.const (.int .i64 1)), none, []⟩, ⟨2, some 5, .mv (.tmp 16), none, []⟩])))))))
  (.seq (.keep [] (.ops [⟨0, some 4, .mv (.const (.bool true)), none, []⟩]))
  (.ret))))
theorem k_w_eqFloat32S : FnOk Try.prog n_w_eqFloat32S 2 c_w_eqFloat32S [.tmp 4] := ⟨by kernel_rfl⟩
def c_w_markFloat32S : ACode :=
  .seq (.ops [⟨0, some 4, .mv (.const (.int .i64 0)), none, []⟩])
  (.seq (.seq (.ops [⟨0, some 5, .mv (.const (.int .i64 0)), none, []⟩])
  (.block 0 (.loop [0, 1, 5] (.seq (.seq (.ops [⟨0, some 6, .mv (.tmp 5), none, []⟩, ⟨1, some 7, .mv (.tmp 0), none, []⟩, ⟨2, some 8, .len (.tmp 7), none, []⟩, ⟨3, some 9, .bin .lss (.tmp 6) (.tmp 8), none, []⟩])
  (.cond (.tmp 9) (.skip) (.exit 0)))
  (.seq (.block 1 (.seq (.ops [⟨0, some 12, .mv (.tmp 0), none, []⟩, ⟨1, some 13, .mv (.tmp 5), none, []⟩, ⟨2, some 14, .mv (.tmp 1), none, []⟩, ⟨3, some 15, .cv (.f .f32) (.tmp 14), none, []⟩, ⟨4, some 16, .ia (.tmp 12) (.tmp 13), none, []⟩, ⟨5, none, .st (.tmp 16) (.tmp 15), none, []⟩])
  (.keep [0, 1, 5] (.ops [⟨0, some 17, .mv (.tmp 1), none, []⟩, ⟨1, some 18, .bin .add (.tmp 17) (.const (.int .i64 1)), none, []⟩, ⟨2, some 1, .mv (.tmp 18), none, []⟩]))))
  (.ops [⟨0, some 10, .mv (.tmp 5), none, []⟩, ⟨1, some 11, .bin .add (.tmp 10) (.const (.int .i64 1)), none, []⟩, ⟨2, some 5, .mv (.tmp 11), none, []⟩]))))))
  (.seq (.keep [1] (.ops [⟨0, some 19, .mv (.tmp 1), none, []⟩, ⟨1, some 4, .mv (.tmp 19), none, []⟩]))
  (.ret)))
theorem k_w_markFloat32S : FnOk Try.prog n_w_markFloat32S 2 c_w_markFloat32S [.tmp 4] := ⟨by kernel_rfl⟩
def c_s_PlainPicture : ACode :=
  .seq (.ops [⟨0, some 6, .new 36 [.int .i64 0, .int .i64 0, .slice none 0 0], none, []⟩, ⟨1, some 7, .mv (.const (.bool false)), none, []⟩])
  (.seq (.seq (.ops [⟨0, some 8, .mv (.tmp 0), none, []⟩, ⟨1, some 9, .mv (.tmp 1), none, []⟩, ⟨2, some 10, .call n_s_l04Sides [.tmp 8, .tmp 9], none, []⟩, ⟨3, some 11, .un .not (.tmp 10), none, []⟩])
  (.cond (.tmp 11) (.seq (.keep [6] (.ops [⟨0, some 12, .bld [.int .i64 0, .int .i64 0, .slice none 0 0] [], none, []⟩, ⟨1, none, .stn 3 (.tmp 6) (.tmp 12), none, []⟩, ⟨2, some 7, .mv (.const (.bool false)), none, []⟩]))
  (.ret)) (.skip)))
  (.seq (.keep [0, 1, 2, 6] (.ops [⟨0, some 13, .mv (.tmp 0), none, []⟩, ⟨1, some 14, .mv (.tmp 1), none, []⟩, ⟨2, some 15, .mv (.tmp 2), none, []⟩, ⟨3, some 16, .mv (.tmp 2), none, []⟩, ⟨4, some 17, .call n_s_l04Step [.tmp 13, .tmp 14, .const (.int .i64 0), .tmp 15, .tmp 16], none, []⟩, ⟨5, some 18, .call n_s_l04Give [.tmp 17], none, []⟩, ⟨6, some 19, .ext (.tmp 18) 0, none, []⟩, ⟨7, some 20, .ext (.tmp 18) 1, none, []⟩, ⟨8, none, .stn 3 (.tmp 6) (.tmp 19), none, []⟩, ⟨9, some 7, .mv (.tmp 20), none, []⟩]))
  (.ret)))
theorem k_s_PlainPicture : FnOk Try.prog n_s_PlainPicture 3 c_s_PlainPicture [.celln 6 3, .tmp 7] := ⟨by kernel_rfl⟩
def c_i_PlainPicture : ACode :=
  .seq (.ops [⟨0, some 5, .box 63 (.tmp 2), none, []⟩, ⟨1, some 6, .new 36 [.int .i64 0, .int .i64 0, .slice none 0 0], none, []⟩, ⟨2, some 7, .mv (.const (.bool false)), none, []⟩])
  (.seq (.ops [⟨0, some 8, .mv (.tmp 0), none, []⟩, ⟨1, some 9, .mv (.tmp 1), none, []⟩, ⟨2, some 10, .mkf (.func n_i_PlainPicture_1) [] [.tmp 5], none, []⟩, ⟨3, some 11, .call n_i_pictureBy [.tmp 8, .tmp 9, .tmp 10], none, []⟩, ⟨4, some 12, .ext (.tmp 11) 0, none, []⟩, ⟨5, some 13, .ext (.tmp 11) 1, none, []⟩, ⟨6, none, .stn 3 (.tmp 6) (.tmp 12), none, []⟩, ⟨7, some 7, .mv (.tmp 13), none, []⟩])
  (.ret))
theorem k_i_PlainPicture : FnOk Try.prog n_i_PlainPicture 3 c_i_PlainPicture [.celln 6 3, .tmp 7] := ⟨by kernel_rfl⟩
def c_w_heldFloat32S : ACode :=
  .seq (.ops [⟨0, some 4, .mv (.const (.int .i64 0)), none, []⟩])
  (.seq (.seq (.ops [⟨0, some 5, .mv (.const (.int .i64 0)), none, []⟩])
  (.block 0 (.loop [0, 1, 5] (.seq (.seq (.ops [⟨0, some 6, .mv (.tmp 5), none, []⟩, ⟨1, some 7, .mv (.tmp 0), none, []⟩, ⟨2, some 8, .len (.tmp 7), none, []⟩, ⟨3, some 9, .bin .lss (.tmp 6) (.tmp 8), none, []⟩])
  (.cond (.tmp 9) (.skip) (.exit 0)))
  (.seq (.block 1 (.seq (.seq (.ops [⟨0, some 12, .mv (.tmp 0), none, []⟩, ⟨1, some 13, .mv (.tmp 5), none, []⟩, ⟨2, some 14, .ia (.tmp 12) (.tmp 13), none, []⟩, ⟨3, some 15, .ld (.tmp 14), none, []⟩, ⟨4, some 16, .mv (.tmp 1), none, []⟩, ⟨5, some 17, .cv (.f .f32) (.tmp 16), none, []⟩, ⟨6, some 18, .bin .neq (.tmp 15) (.tmp 17), none, []⟩])
  (.cond (.tmp 18) (.seq (.keep [] (.ops [⟨0, some 4, .mv (.const (.int .i64 (-1))), none, []⟩]))
  (.ret)) (.skip)))
  (.keep [0, 1, 5] (.ops [⟨0, some 19, .mv (.tmp 1), none, []⟩, ⟨1, some 20, .bin .add (.tmp 19) (.const (.int .i64 1)), none, []⟩, ⟨2, some 1, .mv (.tmp 20), none, []⟩]))))
  (.ops [⟨0, some 10, .mv (.tmp 5), none, []⟩, ⟨1, some 11, .bin .add (.tmp 10) (.const (.int .i64 1)), none, []⟩, ⟨2, some 5, .mv (.tmp 11), none, []⟩]))))))
  (.seq (.keep [1] (.ops [⟨0, some 21, .mv (.tmp 1), none, []⟩, ⟨1, some 4, .mv (.tmp 21), none, []⟩]))
  (.ret)))
theorem k_w_heldFloat32S : FnOk Try.prog n_w_heldFloat32S 2 c_w_heldFloat32S [.tmp 4] := ⟨by kernel_rfl⟩
def c_s_l04Sides : ACode :=
  .seq (.ops [⟨0, some 4, .mv (.const (.bool false)), none, []⟩])
  (.seq (.ops [⟨0, some 5, .mv (.tmp 0), none, []⟩, ⟨1, some 6, .call n_s_l00In [.tmp 5, .const (.int .i64 1), .const (.int .i64 16)], none, []⟩, ⟨2, some 7, .mv (.tmp 6), none, []⟩, ⟨3, some 8, .mv (.tmp 1), (some (7, true)), []⟩, ⟨4, some 9, .call n_s_l00In [.tmp 8, .const (.int .i64 1), .const (.int .i64 16)], (some (7, true)), []⟩, ⟨5, some 10, .pick (.tmp 7) (.tmp 9) (.const (.bool false)), none, []⟩, ⟨6, some 4, .mv (.tmp 10), none, []⟩])
  (.ret))
theorem k_s_l04Sides : FnOk Try.prog n_s_l04Sides 2 c_s_l04Sides [.tmp 4] := ⟨by kernel_rfl⟩
def c_s_l00In : ACode :=
  .seq (.ops [⟨0, some 6, .mv (.const (.bool false)), none, []⟩])
  (.seq (.ops [⟨0, some 7, .mv (.tmp 0), none, []⟩, ⟨1, some 8, .mv (.tmp 1), none, []⟩, ⟨2, some 9, .bin .geq (.tmp 7) (.tmp 8), none, []⟩, ⟨3, some 10, .mv (.tmp 9), none, []⟩, ⟨4, some 11, .mv (.tmp 0), (some (10, true)), []⟩, ⟨5, some 12, .mv (.tmp 2), (some (10, true)), []⟩, ⟨6, some 13, .bin .leq (.tmp 11) (.tmp 12), (some (10, true)), []⟩, ⟨7, some 14, .pick (.tmp 10) (.tmp 13) (.const (.bool false)), none, []⟩, ⟨8, some 6, .mv (.tmp 14), none, []⟩])
  (.ret))
theorem k_s_l00In : FnOk Try.prog n_s_l00In 3 c_s_l00In [.tmp 6] := ⟨by kernel_rfl⟩
def c_i_within : ACode :=
  .seq (.ops [⟨0, some 6, .mv (.const (.bool false)), none, []⟩])
  (.seq (.ops [⟨0, some 7, .mv (.tmp 0), none, []⟩, ⟨1, some 8, .mv (.tmp 1), none, []⟩, ⟨2, some 9, .bin .geq (.tmp 7) (.tmp 8), none, []⟩, ⟨3, some 10, .mv (.tmp 9), none, []⟩, ⟨4, some 11, .mv (.tmp 0), (some (10, true)), []⟩, ⟨5, some 12, .mv (.tmp 2), (some (10, true)), []⟩, ⟨6, some 13, .bin .leq (.tmp 11) (.tmp 12), (some (10, true)), []⟩, ⟨7, some 14, .pick (.tmp 10) (.tmp 13) (.const (.bool false)), none, []⟩, ⟨8, some 6, .mv (.tmp 14), none, []⟩])
  (.ret))
theorem k_i_within : FnOk Try.prog n_i_within 3 c_i_within [.tmp 6] := ⟨by kernel_rfl⟩
def c_s_l04Is : ACode :=
  .seq (.ops [⟨0, some 2, .mv (.const (.bool false)), none, []⟩])
  (.seq (.ops [⟨0, some 3, .mv (.tmp 0), none, []⟩, ⟨1, some 4, .nc (.tmp 3), none, []⟩, ⟨2, some 5, .fa 0 (.tmp 4), none, []⟩, ⟨3, some 6, .ld (.tmp 5), none, []⟩, ⟨4, some 7, .mv (.tmp 0), none, []⟩, ⟨5, some 8, .nc (.tmp 7), none, []⟩, ⟨6, some 9, .fa 1 (.tmp 8), none, []⟩, ⟨7, some 10, .ld (.tmp 9), none, []⟩, ⟨8, some 11, .call n_s_l04Sides [.tmp 6, .tmp 10], none, []⟩, ⟨9, some 12, .mv (.tmp 11), none, []⟩, ⟨10, some 13, .mv (.tmp 0), (some (12, true)), []⟩, ⟨11, some 14, .nc (.tmp 13), (some (12, true)), []⟩, ⟨12, some 15, .fa 2 (.tmp 14), (some (12, true)), []⟩, ⟨13, some 16, .ld (.tmp 15), (some (12, true)), []⟩, ⟨14, some 17, .len (.tmp 16), (some (12, true)), []⟩, ⟨15, some 18, .mv (.tmp 0), (some (12, true)), []⟩, ⟨16, some 19, .nc (.tmp 18), (some (12, true)), []⟩, ⟨17, some 20, .fa 0 (.tmp 19), (some (12, true)), []⟩, ⟨18, some 21, .ld (.tmp 20), (some (12, true)), []⟩, ⟨19, some 22, .mv (.tmp 0), (some (12, true)), []⟩, ⟨20, some 23, .nc (.tmp 22), (some (12, true)), []⟩, ⟨21, some 24, .fa 1 (.tmp 23), (some (12, true)), []⟩, ⟨22, some 25, .ld (.tmp 24), (some (12, true)), []⟩, ⟨23, some 26, .bin .mul (.tmp 21) (.tmp 25), (some (12, true)), []⟩, ⟨24, some 27, .bin .eql (.tmp 17) (.tmp 26), (some (12, true)), []⟩, ⟨25, some 28, .pick (.tmp 12) (.tmp 27) (.const (.bool false)), none, []⟩, ⟨26, some 29, .mv (.tmp 28), none, []⟩, ⟨27, some 30, .mv (.tmp 0), (some (29, true)), []⟩, ⟨28, some 31, .nc (.tmp 30), (some (29, true)), []⟩, ⟨29, some 32, .fa 2 (.tmp 31), (some (29, true)), []⟩, ⟨30, some 33, .ld (.tmp 32), (some (29, true)), []⟩, ⟨31, some 34, .call n_s_l02Finite [.tmp 33], (some (29, true)), []⟩, ⟨32, some 35, .pick (.tmp 29) (.tmp 34) (.const (.bool false)), none, []⟩, ⟨33, some 2, .mv (.tmp 35), none, []⟩])
  (.ret))
theorem k_s_l04Is : FnOk Try.prog n_s_l04Is 1 c_s_l04Is [.tmp 2] := ⟨by kernel_rfl⟩
def c_i_areFinite : ACode :=
  .seq (.ops [⟨0, some 2, .mv (.const (.bool false)), none, []⟩])
  (.seq (.seq (.ops [⟨0, some 7, .mv (.tmp 0), none, []⟩, ⟨1, some 8, .len (.tmp 7), none, []⟩, ⟨2, some 9, .mv (.const (.int .i64 0)), none, []⟩])
  (.block 0 (.loop [7, 8, 9] (.seq (.ops [⟨0, some 10, .bin .lss (.tmp 9) (.tmp 8), none, []⟩])
  (.seq (.cond (.tmp 10) (.skip) (.exit 0))
  (.seq (.block 1 (.seq (.ops [⟨0, some 11, .ia (.tmp 7) (.tmp 9), none, []⟩, ⟨1, some 12, .ld (.tmp 11), none, []⟩, ⟨2, some 4, .mv (.tmp 12), none, []⟩])
  (.seq (.ops [⟨0, some 13, .mv (.tmp 4), none, []⟩, ⟨1, some 14, .len (.tmp 13), none, []⟩, ⟨2, some 15, .mv (.const (.int .i64 0)), none, []⟩])
  (.block 2 (.loop [7, 8, 9, 13, 14, 15] (.seq (.ops [⟨0, some 16, .bin .lss (.tmp 15) (.tmp 14), none, []⟩])
  (.seq (.cond (.tmp 16) (.skip) (.exit 2))
  (.seq (.block 3 (.seq (.ops [⟨0, some 17, .ia (.tmp 13) (.tmp 15), none, []⟩, ⟨1, some 18, .ld (.tmp 17), none, []⟩, ⟨2, some 6, .mv (.tmp 18), none, []⟩])
  (.seq (.ops [⟨0, some 19, .mv (.tmp 6), none, []⟩, ⟨1, some 20, .call n_i_IsFinite [.tmp 19], none, []⟩, ⟨2, some 21, .un .not (.tmp 20), none, []⟩])
  (.cond (.tmp 21) (.seq (.keep [] (.ops [⟨0, some 2, .mv (.const (.bool false)), none, []⟩]))
  (.ret)) (.skip)))))
  (.keep [7, 8, 9, 13, 14, 15] (.ops [⟨0, some 22, .bin .add (.tmp 15) (.const (.int .i64 1)), none, []⟩, ⟨1, some 15, .mv (.tmp 22), none, []⟩]))))))))))
  (.ops [⟨0, some 23, .bin .add (.tmp 9) (.const (.int .i64 1)), none, []⟩, ⟨1, some 9, .mv (.tmp 23), none, []⟩])))))))
  (.seq (.ops [⟨0, some 2, .mv (.const (.bool true)), none, []⟩])
  (.ret)))
theorem k_i_areFinite : FnOk Try.prog n_i_areFinite 1 c_i_areFinite [.tmp 2] := ⟨by kernel_rfl⟩
def c_s_l01Finite : ACode :=
  .seq (.ops [⟨0, some 2, .mv (.const (.bool false)), none, []⟩])
  (.seq (.ops [⟨0, some 3, .mv (.tmp 0), none, []⟩, ⟨1, some 4, .mv (.tmp 0), none, []⟩, ⟨2, some 5, .bin .sub (.tmp 3) (.tmp 4), none, []⟩, ⟨3, some 6, .bin .eql (.tmp 5) (.const (.float .f32 0)), none, []⟩, ⟨4, some 2, .mv (.tmp 6), none, []⟩])
  (.ret))
theorem k_s_l01Finite : FnOk Try.prog n_s_l01Finite 1 c_s_l01Finite [.tmp 2] := ⟨by kernel_rfl⟩
def c_s_l04Step : ACode :=
  .seq (.ops [⟨0, some 10, .new 36 [.int .i64 0, .int .i64 0, .slice none 0 0], none, []⟩])
  (.seq (.ops [⟨0, some 13, .mv (.tmp 0), none, []⟩, ⟨1, some 14, .mv (.tmp 1), none, []⟩, ⟨2, some 15, .bsl 63 0 (.float .f32 0) [], none, []⟩, ⟨3, some 16, .bld [.int .i64 0, .int .i64 0, .slice none 0 0] [(0, 1, .tmp 13), (1, 1, .tmp 14), (2, 1, .tmp 15)], none, []⟩, ⟨4, some 11, .new 36 [.int .i64 0, .int .i64 0, .slice none 0 0], none, []⟩, ⟨5, none, .stn 3 (.tmp 11) (.tmp 16), none, []⟩])
  (.seq (.seq (.ops [⟨0, some 12, .mv (.const (.int .i64 0)), none, []⟩])
  (.block 0 (.loop [0, 1, 2, 3, 4, 10, 11, 12] (.seq (.seq (.ops [⟨0, some 17, .mv (.tmp 12), none, []⟩, ⟨1, some 18, .mv (.tmp 0), none, []⟩, ⟨2, some 19, .mv (.tmp 1), none, []⟩, ⟨3, some 20, .bin .mul (.tmp 18) (.tmp 19), none, []⟩, ⟨4, some 21, .bin .lss (.tmp 17) (.tmp 20), none, []⟩])
  (.cond (.tmp 21) (.skip) (.exit 0)))
  (.seq (.block 1 (.seq (.keep [0, 1, 2, 3, 4, 10, 11, 12] (.ops [⟨0, some 24, .mv (.tmp 12), none, []⟩, ⟨1, some 25, .mv (.tmp 0), none, []⟩, ⟨2, some 26, .bin .rem (.tmp 24) (.tmp 25), none, []⟩, ⟨3, some 27, .mv (.tmp 2), none, []⟩, ⟨4, some 28, .bin .lss (.tmp 26) (.tmp 27), none, []⟩]))
  (.cond (.tmp 28) (.keep [0, 1, 2, 3, 4, 10, 11, 12] (.ops [⟨0, some 29, .fa 2 (.tmp 11), none, []⟩, ⟨1, some 30, .ld (.tmp 29), none, []⟩, ⟨2, some 31, .mv (.tmp 3), none, []⟩, ⟨3, some 32, .bsl 63 1 (.float .f32 0) [(0, .tmp 31)], none, []⟩, ⟨4, some 33, .app 63 4 (.tmp 30) (.tmp 32), none, []⟩, ⟨5, some 34, .fa 2 (.tmp 11), none, []⟩, ⟨6, none, .st (.tmp 34) (.tmp 33), none, []⟩])) (.keep [0, 1, 2, 3, 4, 10, 11, 12] (.ops [⟨0, some 35, .fa 2 (.tmp 11), none, []⟩, ⟨1, some 36, .ld (.tmp 35), none, []⟩, ⟨2, some 37, .mv (.tmp 4), none, []⟩, ⟨3, some 38, .bsl 63 1 (.float .f32 0) [(0, .tmp 37)], none, []⟩, ⟨4, some 39, .app 63 4 (.tmp 36) (.tmp 38), none, []⟩, ⟨5, some 40, .fa 2 (.tmp 11), none, []⟩, ⟨6, none, .st (.tmp 40) (.tmp 39), none, []⟩])))))
  (.keep [0, 1, 2, 3, 4, 10, 11, 12] (.ops [⟨0, some 22, .mv (.tmp 12), none, []⟩, ⟨1, some 23, .bin .add (.tmp 22) (.const (.int .i64 1)), none, []⟩, ⟨2, some 12, .mv (.tmp 23), none, []⟩])))))))
  (.seq (.keep [10, 11] (.ops [⟨0, some 41, .ldn 3 (.tmp 11), none, []⟩, ⟨1, none, .stn 3 (.tmp 10) (.tmp 41), none, []⟩]))
  (.ret))))
theorem k_s_l04Step : FnOk Try.prog n_s_l04Step 5 c_s_l04Step [.celln 10 3] := ⟨by kernel_rfl⟩
def c_i_IsFinite : ACode :=
  .seq (.ops [⟨0, some 2, .mv (.const (.bool false)), none, []⟩])
  (.seq (.ops [⟨0, some 3, .mv (.tmp 0), none, []⟩, ⟨1, some 4, .mv (.tmp 0), none, []⟩, ⟨2, some 5, .bin .sub (.tmp 3) (.tmp 4), none, []⟩, ⟨3, some 6, .bin .eql (.tmp 5) (.const (.float .f32 0)), none, []⟩, ⟨4, some 2, .mv (.tmp 6), none, []⟩])
  (.ret))
theorem k_i_IsFinite : FnOk Try.prog n_i_IsFinite 1 c_i_IsFinite [.tmp 2] := ⟨by kernel_rfl⟩
def c_i_pictureBy : ACode :=
  .seq (.ops [⟨0, some 6, .new 36 [.int .i64 0, .int .i64 0, .slice none 0 0], none, []⟩, ⟨1, some 7, .mv (.const (.bool false)), none, []⟩])
  (.seq (.seq (.ops [⟨0, some 11, .mv (.tmp 0), none, []⟩, ⟨1, some 12, .call n_i_within [.tmp 11, .const (.int .i64 1), .const (.int .i64 16)], none, []⟩, ⟨2, some 13, .un .not (.tmp 12), none, []⟩, ⟨3, some 14, .mv (.tmp 13), none, []⟩, ⟨4, some 15, .mv (.tmp 1), (some (14, false)), []⟩, ⟨5, some 16, .call n_i_within [.tmp 15, .const (.int .i64 1), .const (.int .i64 16)], (some (14, false)), []⟩, ⟨6, some 17, .un .not (.tmp 16), (some (14, false)), []⟩, ⟨7, some 18, .pick (.tmp 14) (.const (.bool true)) (.tmp 17), none, []⟩])
  (.cond (.tmp 18) (.seq (.keep [6] (.ops [⟨0, some 19, .bld [.int .i64 0, .int .i64 0, .slice none 0 0] [], none, []⟩, ⟨1, none, .stn 3 (.tmp 6) (.tmp 19), none, []⟩, ⟨2, some 7, .mv (.const (.bool false)), none, []⟩]))
  (.ret)) (.skip)))
  (.seq (.keep [0, 1, 2, 6] (.ops [⟨0, some 20, .mv (.tmp 0), none, []⟩, ⟨1, some 21, .mv (.tmp 1), none, []⟩, ⟨2, some 22, .bld [.int .i64 0, .int .i64 0, .slice none 0 0] [(0, 1, .tmp 20), (1, 1, .tmp 21)], none, []⟩, ⟨3, some 8, .new 36 [.int .i64 0, .int .i64 0, .slice none 0 0], none, []⟩, ⟨4, none, .stn 3 (.tmp 8) (.tmp 22), none, []⟩]))
  (.seq (.seq (.ops [⟨0, some 23, .mv (.tmp 1), none, []⟩, ⟨1, some 24, .mv (.const (.int .i64 0)), none, []⟩])
  (.block 0 (.loop [0, 2, 6, 8, 23, 24] (.seq (.ops [⟨0, some 25, .bin .lss (.tmp 24) (.tmp 23), none, []⟩])
  (.seq (.cond (.tmp 25) (.skip) (.exit 0))
  (.seq (.block 1 (.seq (.ops [⟨0, some 26, .mv (.tmp 24), none, []⟩, ⟨1, some 9, .mv (.tmp 26), none, []⟩])
  (.seq (.ops [⟨0, some 27, .mv (.tmp 0), none, []⟩, ⟨1, some 28, .mv (.const (.int .i64 0)), none, []⟩])
  (.block 2 (.loop [0, 2, 6, 8, 9, 23, 24, 27, 28] (.seq (.ops [⟨0, some 29, .bin .lss (.tmp 28) (.tmp 27), none, []⟩])
  (.seq (.cond (.tmp 29) (.skip) (.exit 2))
  (.seq (.block 3 (.seq (.ops [⟨0, some 30, .mv (.tmp 28), none, []⟩, ⟨1, some 10, .mv (.tmp 30), none, []⟩])
  (.ops [⟨0, some 31, .fa 2 (.tmp 8), none, []⟩, ⟨1, some 32, .ld (.tmp 31), none, []⟩, ⟨2, some 33, .mv (.tmp 2), none, []⟩, ⟨3, some 34, .mv (.tmp 10), none, []⟩, ⟨4, some 35, .mv (.tmp 9), none, []⟩, ⟨5, some 36, .callv (.tmp 33) [.tmp 34, .tmp 35], none, [(some 32, .ld (.tmp 31), none)]⟩, ⟨6, some 37, .bsl 63 1 (.float .f32 0) [(0, .tmp 36)], none, [(some 32, .ld (.tmp 31), none)]⟩, ⟨7, some 38, .app 63 4 (.tmp 32) (.tmp 37), none, []⟩, ⟨8, some 39, .fa 2 (.tmp 8), none, []⟩, ⟨9, none, .st (.tmp 39) (.tmp 38), none, []⟩])))
  (.keep [0, 2, 6, 8, 9, 23, 24, 27, 28] (.ops [⟨0, some 40, .bin .add (.tmp 28) (.const (.int .i64 1)), none, []⟩, ⟨1, some 28, .mv (.tmp 40), none, []⟩]))))))))))
  (.ops [⟨0, some 41, .bin .add (.tmp 24) (.const (.int .i64 1)), none, []⟩, ⟨1, some 24, .mv (.tmp 41), none, []⟩])))))))
  (.seq (.keep [6, 8] (.ops [⟨0, some 42, .ldn 3 (.tmp 8), none, []⟩, ⟨1, some 43, .call n_i_validPicture [.tmp 42], none, []⟩, ⟨2, some 44, .ext (.tmp 43) 0, none, []⟩, ⟨3, some 45, .ext (.tmp 43) 1, none, []⟩, ⟨4, none, .stn 3 (.tmp 6) (.tmp 44), none, []⟩, ⟨5, some 7, .mv (.tmp 45), none, []⟩]))
  (.ret)))))
theorem k_i_pictureBy : FnOk Try.prog n_i_pictureBy 3 c_i_pictureBy [.celln 6 3, .tmp 7] := ⟨by kernel_rfl⟩
def c_s_l04Give : ACode :=
  .seq (.ops [⟨0, some 1, .box 36 (.tmp 0), none, []⟩, ⟨1, some 2, .new 36 [.int .i64 0, .int .i64 0, .slice none 0 0], none, []⟩, ⟨2, some 3, .mv (.const (.bool false)), none, []⟩])
  (.seq (.seq (.ops [⟨0, some 4, .call n_s_l04Is [.tmp 1], none, []⟩, ⟨1, some 5, .un .not (.tmp 4), none, []⟩])
  (.cond (.tmp 5) (.seq (.keep [2] (.ops [⟨0, some 6, .bld [.int .i64 0, .int .i64 0, .slice none 0 0] [], none, []⟩, ⟨1, none, .stn 3 (.tmp 2) (.tmp 6), none, []⟩, ⟨2, some 3, .mv (.const (.bool false)), none, []⟩]))
  (.ret)) (.skip)))
  (.seq (.ops [⟨0, some 7, .ldn 3 (.tmp 1), none, []⟩, ⟨1, none, .stn 3 (.tmp 2) (.tmp 7), none, []⟩, ⟨2, some 3, .mv (.const (.bool true)), none, []⟩])
  (.ret)))
theorem k_s_l04Give : FnOk Try.prog n_s_l04Give 1 c_s_l04Give [.celln 2 3, .tmp 3] := ⟨by kernel_rfl⟩
def c_i_PlainPicture_1 : ACode :=
  .seq (.ops [⟨0, some 5, .mv (.const (.float .f32 0)), none, []⟩])
  (.seq (.ops [⟨0, some 6, .ld (.tmp 2), none, []⟩, ⟨1, some 5, .mv (.tmp 6), none, []⟩])
  (.ret))
theorem k_i_PlainPicture_1 : FnOk Try.prog n_i_PlainPicture_1 3 c_i_PlainPicture_1 [.tmp 5] := ⟨by kernel_rfl⟩
def c_s_l02Finite : ACode :=
  .seq (.ops [⟨0, some 2, .mv (.const (.bool false)), none, []⟩])
  (.seq (.seq (.ops [⟨0, some 3, .mv (.const (.int .i64 0)), none, []⟩])
  (.block 0 (.loop [0, 3] (.seq (.seq (.ops [⟨0, some 4, .mv (.tmp 3), none, []⟩, ⟨1, some 5, .mv (.tmp 0), none, []⟩, ⟨2, some 6, .len (.tmp 5), none, []⟩, ⟨3, some 7, .bin .lss (.tmp 4) (.tmp 6), none, []⟩])
  (.cond (.tmp 7) (.skip) (.exit 0)))
  (.seq (.block 1 (.seq (.ops [⟨0, some 10, .mv (.tmp 0), none, []⟩, ⟨1, some 11, .mv (.tmp 3), none, []⟩, ⟨2, some 12, .ia (.tmp 10) (.tmp 11), none, []⟩, ⟨3, some 13, .ld (.tmp 12), none, []⟩, ⟨4, some 14, .call n_s_l01Finite [.tmp 13], none, []⟩, ⟨5, some 15, .un .not (.tmp 14), none, []⟩])
  (.cond (.tmp 15) (.seq (.keep [] (.ops [⟨0, some 2, .mv (.const (.bool false)), none, []⟩]))
  (.ret)) (.skip))))
  (.keep [0, 3] (.ops [⟨0, some 8, .mv (.tmp 3), none, []⟩, ⟨1, some 9, .bin .add (.tmp 8) (.const (.int .i64 1)), none, []⟩, ⟨2, some 3, .mv (.tmp 9), none, []⟩])))))))
  (.seq (.keep [] (.ops [⟨0, some 2, .mv (.const (.bool true)), none, []⟩]))
  (.ret)))
theorem k_s_l02Finite : FnOk Try.prog n_s_l02Finite 1 c_s_l02Finite [.tmp 2] := ⟨by kernel_rfl⟩
def c_i_validPicture : ACode :=
  .seq (.ops [⟨0, some 1, .box 36 (.tmp 0), none, []⟩, ⟨1, some 2, .new 36 [.int .i64 0, .int .i64 0, .slice none 0 0], none, []⟩, ⟨2, some 3, .mv (.const (.bool false)), none, []⟩])
  (.seq (.seq (.ops [⟨0, some 4, .ldn 3 (.tmp 1), none, []⟩, ⟨1, some 5, .call n_i_ValidPicture [.tmp 4], none, []⟩, ⟨2, some 6, .un .not (.tmp 5), none, []⟩])
  (.cond (.tmp 6) (.seq (.keep [2] (.ops [⟨0, some 7, .bld [.int .i64 0, .int .i64 0, .slice none 0 0] [], none, []⟩, ⟨1, none, .stn 3 (.tmp 2) (.tmp 7), none, []⟩, ⟨2, some 3, .mv (.const (.bool false)), none, []⟩]))
  (.ret)) (.skip)))
  (.seq (.keep [1, 2] (.ops [⟨0, some 8, .ldn 3 (.tmp 1), none, []⟩, ⟨1, none, .stn 3 (.tmp 2) (.tmp 8), none, []⟩, ⟨2, some 3, .mv (.const (.bool true)), none, []⟩]))
  (.ret)))
theorem k_i_validPicture : FnOk Try.prog n_i_validPicture 1 c_i_validPicture [.celln 2 3, .tmp 3] := ⟨by kernel_rfl⟩
end Go.Proofs.Ytkojmlpaamdhoaa

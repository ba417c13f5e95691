/- The code of functions, for the abstract machine; printed by a program (gen.py). -/
import Derived.Test.YtkojmlpaamdhoaaGxFn
import Derived.Test.YtkojmlpaamdhoaaProg
namespace Go.Proofs.Ytkojmlpaamdhoaa
open Go.Gx
set_option maxRecDepth 100000
abbrev t_int64 : Nat := 2
abbrev t_int : Nat := 3
abbrev t_bool : Nat := 4
abbrev t_uint8 : Nat := 5
abbrev t_sfloat32 : Nat := 22
abbrev t_suint8 : Nat := 47
abbrev t_ssfloat32 : Nat := 52
abbrev t_float64 : Nat := 62
abbrev t_float32 : Nat := 63
abbrev t_sbool : Nat := 66
abbrev t_sint64 : Nat := 77
abbrev t_Pair : Nat := 24
abbrev t_Picture : Nat := 36
abbrev t_Bands : Nat := 54
abbrev n_w_FnExactSamePicture : Nat := 8
abbrev n_w_szPicture : Nat := 24
abbrev n_w_toPicture : Nat := 26
abbrev n_w_eqPicture : Nat := 28
abbrev n_s_SamePicture : Nat := 33
abbrev n_i_SamePicture : Nat := 34
abbrev n_w_sameFloat : Nat := 58
abbrev n_w_toFloat32S : Nat := 60
abbrev n_w_eqFloat32S : Nat := 63
abbrev n_w_szFloat32S : Nat := 77
abbrev n_s_l01SameAll : Nat := 80
abbrev n_i_sameNumbers : Nat := 81
abbrev n_s_l04Same : Nat := 82
abbrev n_s_l01Same : Nat := 112
abbrev n_i_SameNumber : Nat := 113
abbrev n_s_l01Bits : Nat := 118
abbrev n_m_Signbit : Nat := 119
abbrev n_m_Float32bits : Nat := 120
abbrev n_m_Float64bits : Nat := 121
def c_w_FnExactSamePicture : ACode :=
  .seq (.ops [⟨0, some 2, .box 33 (.tmp 0), none, []⟩, ⟨1, some 3, .box 33 (.tmp 1), none, []⟩, ⟨2, some 4, .mv (.const (.bool false)), none, []⟩])
  (.seq (.ops [⟨0, some 5, .mv (.const (.int .i64 1048576)), none, []⟩])
  (.seq (.ops [⟨0, some 10, .ldn 3 (.tmp 2), none, []⟩, ⟨1, some 11, .mv (.tmp 5), none, []⟩, ⟨2, some 12, .call n_w_szPicture [.tmp 10, .tmp 11], none, []⟩, ⟨3, some 5, .mv (.tmp 12), none, []⟩])
  (.seq (.seq (.keep [2, 3, 5] (.ops [⟨0, some 13, .mv (.tmp 5), none, []⟩, ⟨1, some 14, .bin .lss (.tmp 13) (.const (.int .i64 0)), none, []⟩]))
  (.cond (.tmp 14) (.seq (.keep [] (.ops [⟨0, some 4, .mv (.const (.bool true)), none, []⟩]))
  (.ret)) (.skip)))
  (.seq (.ops [⟨0, some 15, .ldn 3 (.tmp 3), none, []⟩, ⟨1, some 16, .mv (.tmp 5), none, []⟩, ⟨2, some 17, .call n_w_szPicture [.tmp 15, .tmp 16], none, []⟩, ⟨3, some 5, .mv (.tmp 17), none, []⟩])
  (.seq (.seq (.keep [2, 3, 5] (.ops [⟨0, some 18, .mv (.tmp 5), none, []⟩, ⟨1, some 19, .bin .lss (.tmp 18) (.const (.int .i64 0)), none, []⟩]))
  (.cond (.tmp 19) (.seq (.keep [] (.ops [⟨0, some 4, .mv (.const (.bool true)), none, []⟩]))
  (.ret)) (.skip)))
  (.seq (.ops [⟨0, some 20, .ldn 3 (.tmp 2), none, []⟩, ⟨2, some 22, .ldn 3 (.tmp 3), none, []⟩, ⟨1, some 21, .call n_w_toPicture [.tmp 20], none, [(some 22, .ldn 3 (.tmp 3), none)]⟩, ⟨3, some 23, .call n_w_toPicture [.tmp 22], none, []⟩, ⟨4, some 24, .call n_s_SamePicture [.tmp 21, .tmp 23], none, []⟩, ⟨5, some 6, .mv (.tmp 24), none, []⟩])
  (.seq (.keep [2, 3, 6] (.ops [⟨0, some 25, .ldn 3 (.tmp 2), none, []⟩, ⟨1, some 26, .call n_w_toPicture [.tmp 25], none, []⟩, ⟨2, some 7, .new 36 [.int .i64 0, .int .i64 0, .slice none 0 0], none, []⟩, ⟨3, none, .stn 3 (.tmp 7) (.tmp 26), none, []⟩]))
  (.seq (.ops [⟨0, some 27, .ldn 3 (.tmp 3), none, []⟩, ⟨1, some 28, .call n_w_toPicture [.tmp 27], none, []⟩, ⟨2, some 8, .new 36 [.int .i64 0, .int .i64 0, .slice none 0 0], none, []⟩, ⟨3, none, .stn 3 (.tmp 8) (.tmp 28), none, []⟩])
  (.seq (.ops [⟨0, some 29, .ldn 3 (.tmp 7), none, []⟩, ⟨1, some 30, .ldn 3 (.tmp 8), none, []⟩, ⟨2, some 31, .call n_i_SamePicture [.tmp 29, .tmp 30], none, []⟩, ⟨3, some 9, .mv (.tmp 31), none, []⟩])
  (.seq (.seq (.keep [2, 3, 6, 7, 8, 9] (.ops [⟨0, some 32, .mv (.tmp 9), none, []⟩, ⟨1, some 33, .mv (.tmp 6), none, []⟩, ⟨2, some 34, .beq true (.tmp 32) (.tmp 33), none, []⟩]))
  (.cond (.tmp 34) (.seq (.keep [] (.ops [⟨0, some 4, .mv (.const (.bool false)), none, []⟩]))
  (.ret)) (.skip)))
  (.seq (.seq (.keep [2, 3, 7, 8] (.ops [⟨0, some 35, .ldn 3 (.tmp 7), none, []⟩, ⟨1, some 36, .ldn 3 (.tmp 2), none, []⟩, ⟨2, some 37, .call n_w_toPicture [.tmp 36], none, [(some 35, .ldn 3 (.tmp 7), none)]⟩, ⟨3, some 38, .call n_w_eqPicture [.tmp 35, .tmp 37], none, []⟩, ⟨4, some 39, .un .not (.tmp 38), none, []⟩]))
  (.cond (.tmp 39) (.seq (.keep [] (.ops [⟨0, some 4, .mv (.const (.bool false)), none, []⟩]))
  (.ret)) (.skip)))
  (.seq (.seq (.keep [3, 8] (.ops [⟨0, some 40, .ldn 3 (.tmp 8), none, []⟩, ⟨1, some 41, .ldn 3 (.tmp 3), none, []⟩, ⟨2, some 42, .call n_w_toPicture [.tmp 41], none, [(some 40, .ldn 3 (.tmp 8), none)]⟩, ⟨3, some 43, .call n_w_eqPicture [.tmp 40, .tmp 42], none, []⟩, ⟨4, some 44, .un .not (.tmp 43), none, []⟩]))
  (.cond (.tmp 44) (.seq (.keep [] (.ops [⟨0, some 4, .mv (.const (.bool false)), none, []⟩]))
  (.ret)) (.skip)))
  (.seq (.keep [] (.ops [⟨0, some 4, .mv (.const (.bool true)), none, []⟩]))
  (.ret))))))))))))))
theorem k_w_FnExactSamePicture : FnOk Try.prog n_w_FnExactSamePicture 2 c_w_FnExactSamePicture [.tmp 4] := ⟨by kernel_rfl⟩
def c_w_szPicture : ACode :=
  .seq (.ops [⟨0, some 2, .box 33 (.tmp 0), none, []⟩, ⟨1, some 4, .mv (.const (.int .i64 0)), none, []⟩])
  (.seq (.ops [⟨0, some 5, .fa 2 (.tmp 2), none, []⟩, ⟨1, some 6, .ld (.tmp 5), none, []⟩, ⟨2, some 7, .mv (.tmp 1), none, []⟩, ⟨3, some 8, .call n_w_szFloat32S [.tmp 6, .tmp 7], none, []⟩, ⟨4, some 1, .mv (.tmp 8), none, []⟩])
  (.seq (.seq (.keep [1] (.ops [⟨0, some 9, .mv (.tmp 1), none, []⟩, ⟨1, some 10, .bin .lss (.tmp 9) (.const (.int .i64 0)), none, []⟩]))
  (.cond (.tmp 10) (.seq (.ops [⟨0, some 4, .mv (.const (.int .i64 (-1))), none, []⟩])
  (.ret)) (.skip)))
  (.seq (.ops [⟨0, some 11, .mv (.tmp 1), none, []⟩, ⟨1, some 4, .mv (.tmp 11), none, []⟩])
  (.ret))))
theorem k_w_szPicture : FnOk Try.prog n_w_szPicture 2 c_w_szPicture [.tmp 4] := ⟨by kernel_rfl⟩
def c_w_toPicture : ACode :=
  .seq (.ops [⟨0, some 1, .box 33 (.tmp 0), none, []⟩, ⟨1, some 2, .new 36 [.int .i64 0, .int .i64 0, .slice none 0 0], none, []⟩])
  (.seq (.ops [⟨0, some 3, .new 36 [.int .i64 0, .int .i64 0, .slice none 0 0], none, []⟩])
  (.seq (.ops [⟨0, some 4, .fa 0 (.tmp 1), none, []⟩, ⟨1, some 5, .ld (.tmp 4), none, []⟩, ⟨2, some 6, .fa 0 (.tmp 3), none, []⟩, ⟨3, none, .st (.tmp 6) (.tmp 5), none, []⟩])
  (.seq (.ops [⟨0, some 7, .fa 1 (.tmp 1), none, []⟩, ⟨1, some 8, .ld (.tmp 7), none, []⟩, ⟨2, some 9, .fa 1 (.tmp 3), none, []⟩, ⟨3, none, .st (.tmp 9) (.tmp 8), none, []⟩])
  (.seq (.keep [1, 2, 3] (.ops [⟨0, some 10, .fa 2 (.tmp 1), none, []⟩, ⟨1, some 11, .ld (.tmp 10), none, []⟩, ⟨2, some 12, .call n_w_toFloat32S [.tmp 11], none, []⟩, ⟨3, some 13, .fa 2 (.tmp 3), none, []⟩, ⟨4, none, .st (.tmp 13) (.tmp 12), none, []⟩]))
  (.seq (.keep [2, 3] (.ops [⟨0, some 14, .ldn 3 (.tmp 3), none, []⟩, ⟨1, none, .stn 3 (.tmp 2) (.tmp 14), none, []⟩]))
  (.ret))))))
theorem k_w_toPicture : FnOk Try.prog n_w_toPicture 1 c_w_toPicture [.celln 2 3] := ⟨by kernel_rfl⟩
def c_w_eqPicture : ACode :=
  .seq (.ops [⟨0, some 2, .box 36 (.tmp 0), none, []⟩, ⟨1, some 3, .box 36 (.tmp 1), none, []⟩, ⟨2, some 4, .mv (.const (.bool false)), none, []⟩])
  (.seq (.seq (.ops [⟨0, some 5, .fa 0 (.tmp 2), none, []⟩, ⟨1, some 6, .ld (.tmp 5), none, []⟩, ⟨2, some 7, .fa 0 (.tmp 3), none, []⟩, ⟨3, some 8, .ld (.tmp 7), none, []⟩, ⟨4, some 9, .bin .neq (.tmp 6) (.tmp 8), none, []⟩])
  (.cond (.tmp 9) (.seq (.keep [] (.ops [⟨0, some 4, .mv (.const (.bool false)), none, []⟩]))
  (.ret)) (.skip)))
  (.seq (.seq (.keep [2, 3] (.ops [⟨0, some 10, .fa 1 (.tmp 2), none, []⟩, ⟨1, some 11, .ld (.tmp 10), none, []⟩, ⟨2, some 12, .fa 1 (.tmp 3), none, []⟩, ⟨3, some 13, .ld (.tmp 12), none, []⟩, ⟨4, some 14, .bin .neq (.tmp 11) (.tmp 13), none, []⟩]))
  (.cond (.tmp 14) (.seq (.keep [] (.ops [⟨0, some 4, .mv (.const (.bool false)), none, []⟩]))
  (.ret)) (.skip)))
  (.seq (.seq (.keep [2, 3] (.ops [⟨0, some 15, .fa 2 (.tmp 2), none, []⟩, ⟨1, some 16, .ld (.tmp 15), none, []⟩, ⟨2, some 17, .fa 2 (.tmp 3), none, []⟩, ⟨3, some 18, .ld (.tmp 17), none, []⟩, ⟨4, some 19, .call n_w_eqFloat32S [.tmp 16, .tmp 18], none, []⟩, ⟨5, some 20, .un .not (.tmp 19), none, []⟩]))
  (.cond (.tmp 20) (.seq (.keep [] (.ops [⟨0, some 4, .mv (.const (.bool false)), none, []⟩]))
  (.ret)) (.skip)))
  (.seq (.keep [] (.ops [⟨0, some 4, .mv (.const (.bool true)), none, []⟩]))
  (.ret)))))
theorem k_w_eqPicture : FnOk Try.prog n_w_eqPicture 2 c_w_eqPicture [.tmp 4] := ⟨by kernel_rfl⟩
def c_s_SamePicture : ACode :=
  .seq (.ops [⟨0, some 2, .box 36 (.tmp 0), none, []⟩, ⟨1, some 3, .box 36 (.tmp 1), none, []⟩, ⟨2, some 4, .mv (.const (.bool false)), none, []⟩])
  (.seq (.ops [⟨0, some 5, .call n_s_l04Same [.tmp 2, .tmp 3], none, []⟩, ⟨1, some 4, .mv (.tmp 5), none, []⟩])
  (.ret))
theorem k_s_SamePicture : FnOk Try.prog n_s_SamePicture 2 c_s_SamePicture [.tmp 4] := ⟨by kernel_rfl⟩
def c_i_SamePicture : ACode :=
  .seq (.ops [⟨0, some 2, .box 36 (.tmp 0), none, []⟩, ⟨1, some 3, .box 36 (.tmp 1), none, []⟩, ⟨2, some 4, .mv (.const (.bool false)), none, []⟩])
  (.seq (.ops [⟨0, some 5, .fa 0 (.tmp 2), none, []⟩, ⟨1, some 6, .ld (.tmp 5), none, []⟩, ⟨2, some 7, .fa 0 (.tmp 3), none, []⟩, ⟨3, some 8, .ld (.tmp 7), none, []⟩, ⟨4, some 9, .bin .eql (.tmp 6) (.tmp 8), none, []⟩, ⟨5, some 10, .mv (.tmp 9), none, []⟩, ⟨6, some 11, .fa 1 (.tmp 2), (some (10, true)), []⟩, ⟨7, some 12, .ld (.tmp 11), (some (10, true)), []⟩, ⟨8, some 13, .fa 1 (.tmp 3), (some (10, true)), []⟩, ⟨9, some 14, .ld (.tmp 13), (some (10, true)), []⟩, ⟨10, some 15, .bin .eql (.tmp 12) (.tmp 14), (some (10, true)), []⟩, ⟨11, some 16, .pick (.tmp 10) (.tmp 15) (.const (.bool false)), none, []⟩, ⟨12, some 17, .mv (.tmp 16), none, []⟩, ⟨13, some 18, .fa 2 (.tmp 2), (some (17, true)), []⟩, ⟨14, some 19, .ld (.tmp 18), (some (17, true)), []⟩, ⟨15, some 20, .fa 2 (.tmp 3), (some (17, true)), []⟩, ⟨16, some 21, .ld (.tmp 20), (some (17, true)), []⟩, ⟨17, some 22, .call n_i_sameNumbers [.tmp 19, .tmp 21], (some (17, true)), []⟩, ⟨18, some 23, .pick (.tmp 17) (.tmp 22) (.const (.bool false)), none, []⟩, ⟨19, some 4, .mv (.tmp 23), none, []⟩])
  (.ret))
theorem k_i_SamePicture : FnOk Try.prog n_i_SamePicture 2 c_i_SamePicture [.tmp 4] := ⟨by kernel_rfl⟩
def c_w_sameFloat : ACode :=
  .seq (.ops [⟨0, some 4, .mv (.const (.bool false)), none, []⟩])
  (.seq (.seq (.ops [⟨0, some 5, .mv (.tmp 0), none, []⟩, ⟨1, some 6, .mv (.tmp 0), none, []⟩, ⟨2, some 7, .bin .neq (.tmp 5) (.tmp 6), none, []⟩, ⟨3, some 8, .mv (.tmp 7), none, []⟩, ⟨4, some 9, .mv (.tmp 1), (some (8, false)), []⟩, ⟨5, some 10, .mv (.tmp 1), (some (8, false)), []⟩, ⟨6, some 11, .bin .neq (.tmp 9) (.tmp 10), (some (8, false)), []⟩, ⟨7, some 12, .pick (.tmp 8) (.const (.bool true)) (.tmp 11), none, []⟩])
  (.cond (.tmp 12) (.seq (.keep [0, 1] (.ops [⟨0, some 13, .mv (.tmp 0), none, []⟩, ⟨1, some 14, .mv (.tmp 0), none, []⟩, ⟨2, some 15, .bin .neq (.tmp 13) (.tmp 14), none, []⟩, ⟨3, some 16, .mv (.tmp 15), none, []⟩, ⟨4, some 17, .mv (.tmp 1), (some (16, true)), []⟩, ⟨5, some 18, .mv (.tmp 1), (some (16, true)), []⟩, ⟨6, some 19, .bin .neq (.tmp 17) (.tmp 18), (some (16, true)), []⟩, ⟨7, some 20, .pick (.tmp 16) (.tmp 19) (.const (.bool false)), none, []⟩, ⟨8, some 4, .mv (.tmp 20), none, []⟩]))
  (.ret)) (.skip)))
  (.seq (.seq (.keep [0, 1] (.ops [⟨0, some 21, .mv (.tmp 0), none, []⟩, ⟨1, some 22, .bin .eql (.tmp 21) (.const (.float .f64 0)), none, []⟩, ⟨2, some 23, .mv (.tmp 22), none, []⟩, ⟨3, some 24, .mv (.tmp 1), (some (23, true)), []⟩, ⟨4, some 25, .bin .eql (.tmp 24) (.const (.float .f64 0)), (some (23, true)), []⟩, ⟨5, some 26, .pick (.tmp 23) (.tmp 25) (.const (.bool false)), none, []⟩]))
  (.cond (.tmp 26) (.seq (.keep [0, 1] (.ops [⟨0, some 27, .mv (.tmp 0), none, []⟩, ⟨1, some 28, .bin .quo (.const (.float .f64 4607182418800017408)) (.tmp 27), none, []⟩, ⟨2, some 29, .bin .gtr (.tmp 28) (.const (.float .f64 0)), none, []⟩, ⟨3, some 30, .mv (.tmp 1), none, []⟩, ⟨4, some 31, .bin .quo (.const (.float .f64 4607182418800017408)) (.tmp 30), none, []⟩, ⟨5, some 32, .bin .gtr (.tmp 31) (.const (.float .f64 0)), none, []⟩, ⟨6, some 33, .beq false (.tmp 29) (.tmp 32), none, []⟩, ⟨7, some 4, .mv (.tmp 33), none, []⟩]))
  (.ret)) (.skip)))
  (.seq (.keep [0, 1] (.ops [⟨0, some 34, .mv (.tmp 0), none, []⟩, ⟨1, some 35, .mv (.tmp 1), none, []⟩, ⟨2, some 36, .bin .eql (.tmp 34) (.tmp 35), none, []⟩, ⟨3, some 4, .mv (.tmp 36), none, []⟩]))
  (.ret))))
theorem k_w_sameFloat : FnOk Try.prog n_w_sameFloat 2 c_w_sameFloat [.tmp 4] := ⟨by kernel_rfl⟩
def c_w_toFloat32S : ACode :=
  .seq (.ops [⟨0, some 2, .mv (.const (.slice none 0 0)), none, []⟩])
  (.seq (.ops [⟨0, some 5, .mv (.tmp 0), none, []⟩, ⟨1, some 6, .len (.tmp 5), none, []⟩, ⟨2, some 7, .mks 63 4 (.float .f32 0) (.tmp 6) (.tmp 6), none, []⟩, ⟨3, some 3, .mv (.tmp 7), none, []⟩])
  (.seq (.seq (.ops [⟨0, some 4, .mv (.const (.int .i64 0)), none, []⟩])
  (.block 0 (.loop [0, 3, 4] (.seq (.seq (.ops [⟨0, some 8, .mv (.tmp 4), none, []⟩, ⟨1, some 9, .mv (.tmp 0), none, []⟩, ⟨2, some 10, .len (.tmp 9), none, []⟩, ⟨3, some 11, .bin .lss (.tmp 8) (.tmp 10), none, []⟩])
  (.cond (.tmp 11) (.skip) (.exit 0)))
  (.seq (.block 1 (.ops [⟨0, some 14, .mv (.tmp 3), none, []⟩, ⟨1, some 15, .mv (.tmp 4), none, []⟩, ⟨2, some 16, .mv (.tmp 0), none, []⟩, ⟨3, some 17, .mv (.tmp 4), none, []⟩, ⟨4, some 18, .ia (.tmp 16) (.tmp 17), none, []⟩, ⟨5, some 19, .ld (.tmp 18), none, []⟩, ⟨6, some 20, .ia (.tmp 14) (.tmp 15), none, []⟩, ⟨7, none, .st (.tmp 20) (.tmp 19), none, []⟩]))
  (.keep [0, 3, 4] (.ops [⟨0, some 12, .mv (.tmp 4), none, []⟩, ⟨1, some 13, .bin .add (.tmp 12) (.const (.int .i64 1)), none, []⟩, ⟨2, some 4, .mv (.tmp 13), none, []⟩])))))))
  (.seq (.keep [3] (.ops [⟨0, some 21, .mv (.tmp 3), none, []⟩, ⟨1, some 2, .mv (.tmp 21), none, []⟩]))
  (.ret))))
theorem k_w_toFloat32S : FnOk Try.prog n_w_toFloat32S 1 c_w_toFloat32S [.tmp 2] := ⟨by kernel_rfl⟩
def c_w_eqFloat32S : ACode :=
  .seq (.ops [⟨0, some 4, .mv (.const (.bool false)), none, []⟩])
  (.seq (.seq (.ops [⟨0, some 6, .mv (.tmp 0), none, []⟩, ⟨1, some 7, .len (.tmp 6), none, []⟩, ⟨2, some 8, .mv (.tmp 1), none, []⟩, ⟨3, some 9, .len (.tmp 8), none, []⟩, ⟨4, some 10, .bin .neq (.tmp 7) (.tmp 9), none, []⟩])
  (.cond (.tmp 10) (.seq (.keep [] (.ops [⟨0, some 4, .mv (.const (.bool false)), none, []⟩]))
  (.ret)) (.skip)))
  (.seq (.seq (.keep [0, 1] (.ops [⟨0, some 5, .mv (.const (.int .i64 0)), none, []⟩]))
  (.block 0 (.loop [0, 1, 5] (.seq (.seq (.ops [⟨0, some 11, .mv (.tmp 5), none, []⟩, ⟨1, some 12, .mv (.tmp 0), none, []⟩, ⟨2, some 13, .len (.tmp 12), none, []⟩, ⟨3, some 14, .bin .lss (.tmp 11) (.tmp 13), none, []⟩])
  (.cond (.tmp 14) (.skip) (.exit 0)))
  (.seq (.block 1 (.seq (.ops [⟨0, some 17, .mv (.tmp 0), none, []⟩, ⟨1, some 18, .mv (.tmp 5), none, []⟩, ⟨2, some 19, .ia (.tmp 17) (.tmp 18), none, []⟩, ⟨3, some 20, .ld (.tmp 19), none, []⟩, ⟨4, some 21, .cv (.f .f64) (.tmp 20), none, []⟩, ⟨5, some 22, .mv (.tmp 1), none, []⟩, ⟨6, some 23, .mv (.tmp 5), none, []⟩, ⟨7, some 24, .ia (.tmp 22) (.tmp 23), none, []⟩, ⟨8, some 25, .ld (.tmp 24), none, []⟩, ⟨9, some 26, .cv (.f .f64) (.tmp 25), none, []⟩, ⟨10, some 27, .call n_w_sameFloat [.tmp 21, .tmp 26], none, []⟩, ⟨11, some 28, .un .not (.tmp 27), none, []⟩])
  (.cond (.tmp 28) (.seq (.keep [] (.ops [⟨0, some 4, .mv (.const (.bool false)), none, []⟩]))
  (.ret)) (.skip))))
  (.keep [0, 1, 5] (.ops [⟨0, some 15, .mv (.tmp 5), none, []⟩, ⟨1, some 16, .bin .add (.tmp 15) (.const (.int .i64 1)), none, []⟩, ⟨2, some 5, .mv (.tmp 16), none, []⟩])))))))
  (.seq (.keep [] (.ops [⟨0, some 4, .mv (.const (.bool true)), none, []⟩]))
  (.ret))))
theorem k_w_eqFloat32S : FnOk Try.prog n_w_eqFloat32S 2 c_w_eqFloat32S [.tmp 4] := ⟨by kernel_rfl⟩
def c_w_szFloat32S : ACode :=
  .seq (.ops [⟨0, some 4, .mv (.const (.int .i64 0)), none, []⟩])
  (.seq (.ops [⟨0, some 5, .mv (.tmp 1), none, []⟩, ⟨1, some 6, .mv (.tmp 0), none, []⟩, ⟨2, some 7, .len (.tmp 6), none, []⟩, ⟨3, some 8, .bin .sub (.tmp 5) (.tmp 7), none, []⟩, ⟨4, some 1, .mv (.tmp 8), none, []⟩])
  (.seq (.seq (.keep [1] (.ops [⟨0, some 9, .mv (.tmp 1), none, []⟩, ⟨1, some 10, .bin .lss (.tmp 9) (.const (.int .i64 0)), none, []⟩]))
  (.cond (.tmp 10) (.seq (.ops [⟨0, some 4, .mv (.const (.int .i64 (-1))), none, []⟩])
  (.ret)) (.skip)))
  (.seq (.ops [⟨0, some 11, .mv (.tmp 1), none, []⟩, ⟨1, some 4, .mv (.tmp 11), none, []⟩])
  (.ret))))
theorem k_w_szFloat32S : FnOk Try.prog n_w_szFloat32S 2 c_w_szFloat32S [.tmp 4] := ⟨by kernel_rfl⟩
def c_s_l01SameAll : ACode :=
  .seq (.ops [⟨0, some 4, .mv (.const (.bool false)), none, []⟩])
  (.seq (.seq (.ops [⟨0, some 6, .mv (.tmp 0), none, []⟩, ⟨1, some 7, .len (.tmp 6), none, []⟩, ⟨2, some 8, .mv (.tmp 1), none, []⟩, ⟨3, some 9, .len (.tmp 8), none, []⟩, ⟨4, some 10, .bin .neq (.tmp 7) (.tmp 9), none, []⟩])
  (.cond (.tmp 10) (.seq (.keep [] (.ops [⟨0, some 4, .mv (.const (.bool false)), none, []⟩]))
  (.ret)) (.skip)))
  (.seq (.seq (.keep [0, 1] (.ops [⟨0, some 5, .mv (.const (.int .i64 0)), none, []⟩]))
  (.block 0 (.loop [0, 1, 5] (.seq (.seq (.ops [⟨0, some 11, .mv (.tmp 5), none, []⟩, ⟨1, some 12, .mv (.tmp 0), none, []⟩, ⟨2, some 13, .len (.tmp 12), none, []⟩, ⟨3, some 14, .bin .lss (.tmp 11) (.tmp 13), none, []⟩])
  (.cond (.tmp 14) (.skip) (.exit 0)))
  (.seq (.block 1 (.seq (.ops [⟨0, some 17, .mv (.tmp 0), none, []⟩, ⟨1, some 18, .mv (.tmp 5), none, []⟩, ⟨2, some 19, .ia (.tmp 17) (.tmp 18), none, []⟩, ⟨3, some 20, .ld (.tmp 19), none, []⟩, ⟨4, some 21, .mv (.tmp 1), none, []⟩, ⟨5, some 22, .mv (.tmp 5), none, []⟩, ⟨6, some 23, .ia (.tmp 21) (.tmp 22), none, []⟩, ⟨7, some 24, .ld (.tmp 23), none, []⟩, ⟨8, some 25, .call n_s_l01Same [.tmp 20, .tmp 24], none, []⟩, ⟨9, some 26, .un .not (.tmp 25), none, []⟩])
  (.cond (.tmp 26) (.seq (.keep [] (.ops [⟨0, some 4, .mv (.const (.bool false)), none, []⟩]))
  (.ret)) (.skip))))
  (.keep [0, 1, 5] (.ops [⟨0, some 15, .mv (.tmp 5), none, []⟩, ⟨1, some 16, .bin .add (.tmp 15) (.const (.int .i64 1)), none, []⟩, ⟨2, some 5, .mv (.tmp 16), none, []⟩])))))))
  (.seq (.keep [] (.ops [⟨0, some 4, .mv (.const (.bool true)), none, []⟩]))
  (.ret))))
theorem k_s_l01SameAll : FnOk Try.prog n_s_l01SameAll 2 c_s_l01SameAll [.tmp 4] := ⟨by kernel_rfl⟩
def c_i_sameNumbers : ACode :=
  .seq (.ops [⟨0, some 4, .mv (.const (.bool false)), none, []⟩])
  (.seq (.seq (.ops [⟨0, some 6, .mv (.tmp 0), none, []⟩, ⟨1, some 7, .len (.tmp 6), none, []⟩, ⟨2, some 8, .mv (.tmp 1), none, []⟩, ⟨3, some 9, .len (.tmp 8), none, []⟩, ⟨4, some 10, .bin .neq (.tmp 7) (.tmp 9), none, []⟩])
  (.cond (.tmp 10) (.seq (.keep [] (.ops [⟨0, some 4, .mv (.const (.bool false)), none, []⟩]))
  (.ret)) (.skip)))
  (.seq (.seq (.keep [0, 1] (.ops [⟨0, some 11, .mv (.tmp 0), none, []⟩, ⟨1, some 12, .len (.tmp 11), none, []⟩, ⟨2, some 13, .mv (.const (.int .i64 0)), none, []⟩]))
  (.block 0 (.loop [0, 1, 12, 13] (.seq (.ops [⟨0, some 14, .bin .lss (.tmp 13) (.tmp 12), none, []⟩])
  (.seq (.cond (.tmp 14) (.skip) (.exit 0))
  (.seq (.block 1 (.seq (.ops [⟨0, some 15, .mv (.tmp 13), none, []⟩, ⟨1, some 5, .mv (.tmp 15), none, []⟩])
  (.seq (.ops [⟨0, some 16, .mv (.tmp 0), none, []⟩, ⟨1, some 17, .mv (.tmp 5), none, []⟩, ⟨2, some 18, .ia (.tmp 16) (.tmp 17), none, []⟩, ⟨3, some 19, .ld (.tmp 18), none, []⟩, ⟨4, some 20, .mv (.tmp 1), none, []⟩, ⟨5, some 21, .mv (.tmp 5), none, []⟩, ⟨6, some 22, .ia (.tmp 20) (.tmp 21), none, []⟩, ⟨7, some 23, .ld (.tmp 22), none, []⟩, ⟨8, some 24, .call n_i_SameNumber [.tmp 19, .tmp 23], none, []⟩, ⟨9, some 25, .un .not (.tmp 24), none, []⟩])
  (.cond (.tmp 25) (.seq (.keep [] (.ops [⟨0, some 4, .mv (.const (.bool false)), none, []⟩]))
  (.ret)) (.skip)))))
  (.keep [0, 1, 12, 13] (.ops [⟨0, some 26, .bin .add (.tmp 13) (.const (.int .i64 1)), none, []⟩, ⟨1, some 13, .mv (.tmp 26), none, []⟩]))))))))
  (.seq (.keep [] (.ops [⟨0, some 4, .mv (.const (.bool true)), none, []⟩]))
  (.ret))))
theorem k_i_sameNumbers : FnOk Try.prog n_i_sameNumbers 2 c_i_sameNumbers [.tmp 4] := ⟨by kernel_rfl⟩
def c_s_l04Same : ACode :=
  .seq (.ops [⟨0, some 4, .mv (.const (.bool false)), none, []⟩])
  (.seq (.ops [⟨0, some 5, .mv (.tmp 0), none, []⟩, ⟨1, some 6, .nc (.tmp 5), none, []⟩, ⟨2, some 7, .fa 0 (.tmp 6), none, []⟩, ⟨3, some 8, .ld (.tmp 7), none, []⟩, ⟨4, some 9, .mv (.tmp 1), none, []⟩, ⟨5, some 10, .nc (.tmp 9), none, []⟩, ⟨6, some 11, .fa 0 (.tmp 10), none, []⟩, ⟨7, some 12, .ld (.tmp 11), none, []⟩, ⟨8, some 13, .bin .eql (.tmp 8) (.tmp 12), none, []⟩, ⟨9, some 14, .mv (.tmp 13), none, []⟩, ⟨10, some 15, .mv (.tmp 0), (some (14, true)), []⟩, ⟨11, some 16, .nc (.tmp 15), (some (14, true)), []⟩, ⟨12, some 17, .fa 1 (.tmp 16), (some (14, true)), []⟩, ⟨13, some 18, .ld (.tmp 17), (some (14, true)), []⟩, ⟨14, some 19, .mv (.tmp 1), (some (14, true)), []⟩, ⟨15, some 20, .nc (.tmp 19), (some (14, true)), []⟩, ⟨16, some 21, .fa 1 (.tmp 20), (some (14, true)), []⟩, ⟨17, some 22, .ld (.tmp 21), (some (14, true)), []⟩, ⟨18, some 23, .bin .eql (.tmp 18) (.tmp 22), (some (14, true)), []⟩, ⟨19, some 24, .pick (.tmp 14) (.tmp 23) (.const (.bool false)), none, []⟩, ⟨20, some 25, .mv (.tmp 24), none, []⟩, ⟨21, some 26, .mv (.tmp 0), (some (25, true)), []⟩, ⟨22, some 27, .nc (.tmp 26), (some (25, true)), []⟩, ⟨23, some 28, .fa 2 (.tmp 27), (some (25, true)), []⟩, ⟨24, some 29, .ld (.tmp 28), (some (25, true)), []⟩, ⟨25, some 30, .mv (.tmp 1), (some (25, true)), []⟩, ⟨26, some 31, .nc (.tmp 30), (some (25, true)), []⟩, ⟨27, some 32, .fa 2 (.tmp 31), (some (25, true)), []⟩, ⟨28, some 33, .ld (.tmp 32), (some (25, true)), []⟩, ⟨29, some 34, .call n_s_l01SameAll [.tmp 29, .tmp 33], (some (25, true)), []⟩, ⟨30, some 35, .pick (.tmp 25) (.tmp 34) (.const (.bool false)), none, []⟩, ⟨31, some 4, .mv (.tmp 35), none, []⟩])
  (.ret))
theorem k_s_l04Same : FnOk Try.prog n_s_l04Same 2 c_s_l04Same [.tmp 4] := ⟨by kernel_rfl⟩
def c_s_l01Same : ACode :=
  .seq (.ops [⟨0, some 4, .mv (.const (.bool false)), none, []⟩])
  (.seq (.ops [⟨0, some 5, .mv (.tmp 0), none, []⟩, ⟨1, some 6, .call n_s_l01Bits [.tmp 5], none, []⟩, ⟨2, some 7, .mv (.tmp 1), none, []⟩, ⟨3, some 8, .call n_s_l01Bits [.tmp 7], none, []⟩, ⟨4, some 9, .bin .eql (.tmp 6) (.tmp 8), none, []⟩, ⟨5, some 4, .mv (.tmp 9), none, []⟩])
  (.ret))
theorem k_s_l01Same : FnOk Try.prog n_s_l01Same 2 c_s_l01Same [.tmp 4] := ⟨by kernel_rfl⟩
def c_i_SameNumber : ACode :=
  .seq (.ops [⟨0, some 4, .mv (.const (.bool false)), none, []⟩])
  (.seq (.seq (.ops [⟨0, some 5, .mv (.tmp 0), none, []⟩, ⟨1, some 6, .mv (.tmp 0), none, []⟩, ⟨2, some 7, .bin .neq (.tmp 5) (.tmp 6), none, []⟩, ⟨3, some 8, .mv (.tmp 7), none, []⟩, ⟨4, some 9, .mv (.tmp 1), (some (8, false)), []⟩, ⟨5, some 10, .mv (.tmp 1), (some (8, false)), []⟩, ⟨6, some 11, .bin .neq (.tmp 9) (.tmp 10), (some (8, false)), []⟩, ⟨7, some 12, .pick (.tmp 8) (.const (.bool true)) (.tmp 11), none, []⟩])
  (.cond (.tmp 12) (.seq (.keep [0, 1] (.ops [⟨0, some 13, .mv (.tmp 0), none, []⟩, ⟨1, some 14, .mv (.tmp 0), none, []⟩, ⟨2, some 15, .bin .neq (.tmp 13) (.tmp 14), none, []⟩, ⟨3, some 16, .mv (.tmp 15), none, []⟩, ⟨4, some 17, .mv (.tmp 1), (some (16, true)), []⟩, ⟨5, some 18, .mv (.tmp 1), (some (16, true)), []⟩, ⟨6, some 19, .bin .neq (.tmp 17) (.tmp 18), (some (16, true)), []⟩, ⟨7, some 20, .pick (.tmp 16) (.tmp 19) (.const (.bool false)), none, []⟩, ⟨8, some 4, .mv (.tmp 20), none, []⟩]))
  (.ret)) (.skip)))
  (.seq (.keep [0, 1] (.ops [⟨0, some 21, .mv (.tmp 0), none, []⟩, ⟨1, some 22, .mv (.tmp 1), none, []⟩, ⟨2, some 23, .bin .eql (.tmp 21) (.tmp 22), none, []⟩, ⟨3, some 24, .mv (.tmp 23), none, []⟩, ⟨4, some 25, .mv (.tmp 0), (some (24, true)), []⟩, ⟨5, some 26, .cv (.f .f64) (.tmp 25), (some (24, true)), []⟩, ⟨6, some 27, .call n_m_Signbit [.tmp 26], (some (24, true)), []⟩, ⟨7, some 28, .mv (.tmp 1), (some (24, true)), []⟩, ⟨8, some 29, .cv (.f .f64) (.tmp 28), (some (24, true)), []⟩, ⟨9, some 30, .call n_m_Signbit [.tmp 29], (some (24, true)), []⟩, ⟨10, some 31, .beq false (.tmp 27) (.tmp 30), (some (24, true)), []⟩, ⟨11, some 32, .pick (.tmp 24) (.tmp 31) (.const (.bool false)), none, []⟩, ⟨12, some 4, .mv (.tmp 32), none, []⟩]))
  (.ret)))
theorem k_i_SameNumber : FnOk Try.prog n_i_SameNumber 2 c_i_SameNumber [.tmp 4] := ⟨by kernel_rfl⟩
def c_s_l01Bits : ACode :=
  .seq (.ops [⟨0, some 2, .mv (.const (.int .i64 0)), none, []⟩])
  (.seq (.seq (.ops [⟨0, some 3, .mv (.tmp 0), none, []⟩, ⟨1, some 4, .mv (.tmp 0), none, []⟩, ⟨2, some 5, .bin .neq (.tmp 3) (.tmp 4), none, []⟩])
  (.cond (.tmp 5) (.seq (.keep [] (.ops [⟨0, some 2, .mv (.const (.int .i64 2143289344)), none, []⟩]))
  (.ret)) (.skip)))
  (.seq (.ops [⟨0, some 6, .mv (.tmp 0), none, []⟩, ⟨1, some 7, .f32bits (.tmp 6), none, []⟩, ⟨2, some 8, .cv (.i .i64) (.tmp 7), none, []⟩, ⟨3, some 2, .mv (.tmp 8), none, []⟩])
  (.ret)))
theorem k_s_l01Bits : FnOk Try.prog n_s_l01Bits 1 c_s_l01Bits [.tmp 2] := ⟨by kernel_rfl⟩
def c_m_Signbit : ACode :=
  .seq (.ops [⟨0, some 2, .mv (.const (.bool false)), none, []⟩])
  (.seq (.ops [⟨0, some 3, .mv (.tmp 0), none, []⟩, ⟨1, some 4, .f64bits (.tmp 3), none, []⟩, ⟨2, some 5, .cv (.i .i64) (.tmp 4), none, []⟩, ⟨3, some 6, .bin .lss (.tmp 5) (.const (.int .i64 0)), none, []⟩, ⟨4, some 2, .mv (.tmp 6), none, []⟩])
  (.ret))
theorem k_m_Signbit : FnOk Try.prog n_m_Signbit 1 c_m_Signbit [.tmp 2] := ⟨by kernel_rfl⟩
end Go.Proofs.Ytkojmlpaamdhoaa

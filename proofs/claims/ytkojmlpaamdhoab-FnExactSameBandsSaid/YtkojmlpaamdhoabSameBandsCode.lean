/- The code of functions, for the abstract machine; printed by a program (gen.py). -/
import Derived.Test.YtkojmlpaamdhoabGxFn
import Derived.Test.YtkojmlpaamdhoabProg
namespace Go.Proofs.Ytkojmlpaamdhoab
open Go.Gx
set_option maxRecDepth 100000
abbrev t_int64 : Nat := 2
abbrev t_int : Nat := 3
abbrev t_bool : Nat := 4
abbrev t_uint8 : Nat := 5
abbrev t_sfloat32 : Nat := 22
abbrev t_ssfloat32 : Nat := 23
abbrev t_float32 : Nat := 45
abbrev t_float64 : Nat := 49
abbrev t_sint64 : Nat := 72
abbrev t_sint : Nat := 113
abbrev t_Bands : Nat := 28
abbrev t_Picture : Nat := 35
abbrev t_Pair : Nat := 67
abbrev n_w_FnExactSameBands : Nat := 6
abbrev n_w_szBands : Nat := 14
abbrev n_w_toBands : Nat := 16
abbrev n_w_eqBands : Nat := 18
abbrev n_s_SameBands : Nat := 28
abbrev n_i_SameBands : Nat := 29
abbrev n_w_sameFloat : Nat := 32
abbrev n_w_szFloat32SS : Nat := 37
abbrev n_w_toFloat32SS : Nat := 39
abbrev n_w_eqFloat32S : Nat := 41
abbrev n_w_eqFloat32SS : Nat := 42
abbrev n_w_szFloat32S : Nat := 59
abbrev n_w_toFloat32S : Nat := 61
abbrev n_s_l01SameAll : Nat := 74
abbrev n_s_l03SameRows : Nat := 75
abbrev n_i_sameNumbers : Nat := 76
abbrev n_i_sameLists : Nat := 77
abbrev n_s_l01Same : Nat := 105
abbrev n_i_SameNumber : Nat := 106
abbrev n_s_l01Bits : Nat := 115
abbrev n_m_Signbit : Nat := 116
abbrev n_m_Float32bits : Nat := 118
abbrev n_m_Float64bits : Nat := 119
def c_w_FnExactSameBands : ACode :=
  .seq (.ops [⟨0, some 2, .box 25 (.tmp 0), none, []⟩, ⟨1, some 3, .box 25 (.tmp 1), none, []⟩, ⟨2, some 4, .mv (.const (.bool false)), none, []⟩])
  (.seq (.ops [⟨0, some 5, .mv (.const (.int .i64 1048576)), none, []⟩])
  (.seq (.ops [⟨0, some 10, .ldn 2 (.tmp 2), none, []⟩, ⟨1, some 11, .mv (.tmp 5), none, []⟩, ⟨2, some 12, .call n_w_szBands [.tmp 10, .tmp 11], none, []⟩, ⟨3, some 5, .mv (.tmp 12), none, []⟩])
  (.seq (.seq (.keep [2, 3, 5] (.ops [⟨0, some 13, .mv (.tmp 5), none, []⟩, ⟨1, some 14, .bin .lss (.tmp 13) (.const (.int .i64 0)), none, []⟩]))
  (.cond (.tmp 14) (.seq (.keep [] (.ops [⟨0, some 4, .mv (.const (.bool true)), none, []⟩]))
  (.ret)) (.skip)))
  (.seq (.ops [⟨0, some 15, .ldn 2 (.tmp 3), none, []⟩, ⟨1, some 16, .mv (.tmp 5), none, []⟩, ⟨2, some 17, .call n_w_szBands [.tmp 15, .tmp 16], none, []⟩, ⟨3, some 5, .mv (.tmp 17), none, []⟩])
  (.seq (.seq (.keep [2, 3, 5] (.ops [⟨0, some 18, .mv (.tmp 5), none, []⟩, ⟨1, some 19, .bin .lss (.tmp 18) (.const (.int .i64 0)), none, []⟩]))
  (.cond (.tmp 19) (.seq (.keep [] (.ops [⟨0, some 4, .mv (.const (.bool true)), none, []⟩]))
  (.ret)) (.skip)))
  (.seq (.ops [⟨0, some 20, .ldn 2 (.tmp 2), none, []⟩, ⟨2, some 22, .ldn 2 (.tmp 3), none, []⟩, ⟨1, some 21, .call n_w_toBands [.tmp 20], none, [(some 22, .ldn 2 (.tmp 3), none)]⟩, ⟨3, some 23, .call n_w_toBands [.tmp 22], none, []⟩, ⟨4, some 24, .call n_s_SameBands [.tmp 21, .tmp 23], none, []⟩, ⟨5, some 6, .mv (.tmp 24), none, []⟩])
  (.seq (.keep [2, 3, 6] (.ops [⟨0, some 25, .ldn 2 (.tmp 2), none, []⟩, ⟨1, some 26, .call n_w_toBands [.tmp 25], none, []⟩, ⟨2, some 7, .new 28 [.slice none 0 0, .slice none 0 0], none, []⟩, ⟨3, none, .stn 2 (.tmp 7) (.tmp 26), none, []⟩]))
  (.seq (.ops [⟨0, some 27, .ldn 2 (.tmp 3), none, []⟩, ⟨1, some 28, .call n_w_toBands [.tmp 27], none, []⟩, ⟨2, some 8, .new 28 [.slice none 0 0, .slice none 0 0], none, []⟩, ⟨3, none, .stn 2 (.tmp 8) (.tmp 28), none, []⟩])
  (.seq (.ops [⟨0, some 29, .ldn 2 (.tmp 7), none, []⟩, ⟨1, some 30, .ldn 2 (.tmp 8), none, []⟩, ⟨2, some 31, .call n_i_SameBands [.tmp 29, .tmp 30], none, []⟩, ⟨3, some 9, .mv (.tmp 31), none, []⟩])
  (.seq (.seq (.keep [2, 3, 6, 7, 8, 9] (.ops [⟨0, some 32, .mv (.tmp 9), none, []⟩, ⟨1, some 33, .mv (.tmp 6), none, []⟩, ⟨2, some 34, .beq true (.tmp 32) (.tmp 33), none, []⟩]))
  (.cond (.tmp 34) (.seq (.keep [] (.ops [⟨0, some 4, .mv (.const (.bool false)), none, []⟩]))
  (.ret)) (.skip)))
  (.seq (.seq (.keep [2, 3, 7, 8] (.ops [⟨0, some 35, .ldn 2 (.tmp 7), none, []⟩, ⟨1, some 36, .ldn 2 (.tmp 2), none, []⟩, ⟨2, some 37, .call n_w_toBands [.tmp 36], none, [(some 35, .ldn 2 (.tmp 7), none)]⟩, ⟨3, some 38, .call n_w_eqBands [.tmp 35, .tmp 37], none, []⟩, ⟨4, some 39, .un .not (.tmp 38), none, []⟩]))
  (.cond (.tmp 39) (.seq (.keep [] (.ops [⟨0, some 4, .mv (.const (.bool false)), none, []⟩]))
  (.ret)) (.skip)))
  (.seq (.seq (.keep [3, 8] (.ops [⟨0, some 40, .ldn 2 (.tmp 8), none, []⟩, ⟨1, some 41, .ldn 2 (.tmp 3), none, []⟩, ⟨2, some 42, .call n_w_toBands [.tmp 41], none, [(some 40, .ldn 2 (.tmp 8), none)]⟩, ⟨3, some 43, .call n_w_eqBands [.tmp 40, .tmp 42], none, []⟩, ⟨4, some 44, .un .not (.tmp 43), none, []⟩]))
  (.cond (.tmp 44) (.seq (.keep [] (.ops [⟨0, some 4, .mv (.const (.bool false)), none, []⟩]))
  (.ret)) (.skip)))
  (.seq (.keep [] (.ops [⟨0, some 4, .mv (.const (.bool true)), none, []⟩]))
  (.ret))))))))))))))
theorem k_w_FnExactSameBands : FnOk Try.prog n_w_FnExactSameBands 2 c_w_FnExactSameBands [.tmp 4] := ⟨by kernel_rfl⟩
def c_w_szBands : ACode :=
  .seq (.ops [⟨0, some 2, .box 25 (.tmp 0), none, []⟩, ⟨1, some 4, .mv (.const (.int .i64 0)), none, []⟩])
  (.seq (.ops [⟨0, some 5, .fa 0 (.tmp 2), none, []⟩, ⟨1, some 6, .ld (.tmp 5), none, []⟩, ⟨2, some 7, .mv (.tmp 1), none, []⟩, ⟨3, some 8, .call n_w_szFloat32S [.tmp 6, .tmp 7], none, []⟩, ⟨4, some 1, .mv (.tmp 8), none, []⟩])
  (.seq (.seq (.keep [1, 2] (.ops [⟨0, some 9, .mv (.tmp 1), none, []⟩, ⟨1, some 10, .bin .lss (.tmp 9) (.const (.int .i64 0)), none, []⟩]))
  (.cond (.tmp 10) (.seq (.ops [⟨0, some 4, .mv (.const (.int .i64 (-1))), none, []⟩])
  (.ret)) (.skip)))
  (.seq (.ops [⟨0, some 11, .fa 1 (.tmp 2), none, []⟩, ⟨1, some 12, .ld (.tmp 11), none, []⟩, ⟨2, some 13, .mv (.tmp 1), none, []⟩, ⟨3, some 14, .call n_w_szFloat32SS [.tmp 12, .tmp 13], none, []⟩, ⟨4, some 1, .mv (.tmp 14), none, []⟩])
  (.seq (.seq (.keep [1] (.ops [⟨0, some 15, .mv (.tmp 1), none, []⟩, ⟨1, some 16, .bin .lss (.tmp 15) (.const (.int .i64 0)), none, []⟩]))
  (.cond (.tmp 16) (.seq (.ops [⟨0, some 4, .mv (.const (.int .i64 (-1))), none, []⟩])
  (.ret)) (.skip)))
  (.seq (.ops [⟨0, some 17, .mv (.tmp 1), none, []⟩, ⟨1, some 4, .mv (.tmp 17), none, []⟩])
  (.ret))))))
theorem k_w_szBands : FnOk Try.prog n_w_szBands 2 c_w_szBands [.tmp 4] := ⟨by kernel_rfl⟩
def c_w_toBands : ACode :=
  .seq (.ops [⟨0, some 1, .box 25 (.tmp 0), none, []⟩, ⟨1, some 2, .new 28 [.slice none 0 0, .slice none 0 0], none, []⟩])
  (.seq (.ops [⟨0, some 3, .new 28 [.slice none 0 0, .slice none 0 0], none, []⟩])
  (.seq (.ops [⟨0, some 4, .fa 0 (.tmp 1), none, []⟩, ⟨1, some 5, .ld (.tmp 4), none, []⟩, ⟨2, some 6, .call n_w_toFloat32S [.tmp 5], none, []⟩, ⟨3, some 7, .fa 0 (.tmp 3), none, []⟩, ⟨4, none, .st (.tmp 7) (.tmp 6), none, []⟩])
  (.seq (.keep [1, 2, 3] (.ops [⟨0, some 8, .fa 1 (.tmp 1), none, []⟩, ⟨1, some 9, .ld (.tmp 8), none, []⟩, ⟨2, some 10, .call n_w_toFloat32SS [.tmp 9], none, []⟩, ⟨3, some 11, .fa 1 (.tmp 3), none, []⟩, ⟨4, none, .st (.tmp 11) (.tmp 10), none, []⟩]))
  (.seq (.keep [2, 3] (.ops [⟨0, some 12, .ldn 2 (.tmp 3), none, []⟩, ⟨1, none, .stn 2 (.tmp 2) (.tmp 12), none, []⟩]))
  (.ret)))))
theorem k_w_toBands : FnOk Try.prog n_w_toBands 1 c_w_toBands [.celln 2 2] := ⟨by kernel_rfl⟩
def c_w_eqBands : ACode :=
  .seq (.ops [⟨0, some 2, .box 28 (.tmp 0), none, []⟩, ⟨1, some 3, .box 28 (.tmp 1), none, []⟩, ⟨2, some 4, .mv (.const (.bool false)), none, []⟩])
  (.seq (.seq (.ops [⟨0, some 5, .fa 0 (.tmp 2), none, []⟩, ⟨1, some 6, .ld (.tmp 5), none, []⟩, ⟨2, some 7, .fa 0 (.tmp 3), none, []⟩, ⟨3, some 8, .ld (.tmp 7), none, []⟩, ⟨4, some 9, .call n_w_eqFloat32S [.tmp 6, .tmp 8], none, []⟩, ⟨5, some 10, .un .not (.tmp 9), none, []⟩])
  (.cond (.tmp 10) (.seq (.keep [] (.ops [⟨0, some 4, .mv (.const (.bool false)), none, []⟩]))
  (.ret)) (.skip)))
  (.seq (.seq (.keep [2, 3] (.ops [⟨0, some 11, .fa 1 (.tmp 2), none, []⟩, ⟨1, some 12, .ld (.tmp 11), none, []⟩, ⟨2, some 13, .fa 1 (.tmp 3), none, []⟩, ⟨3, some 14, .ld (.tmp 13), none, []⟩, ⟨4, some 15, .call n_w_eqFloat32SS [.tmp 12, .tmp 14], none, []⟩, ⟨5, some 16, .un .not (.tmp 15), none, []⟩]))
  (.cond (.tmp 16) (.seq (.keep [] (.ops [⟨0, some 4, .mv (.const (.bool false)), none, []⟩]))
  (.ret)) (.skip)))
  (.seq (.keep [] (.ops [⟨0, some 4, .mv (.const (.bool true)), none, []⟩]))
  (.ret))))
theorem k_w_eqBands : FnOk Try.prog n_w_eqBands 2 c_w_eqBands [.tmp 4] := ⟨by kernel_rfl⟩
def c_s_SameBands : ACode :=
  .seq (.ops [⟨0, some 2, .box 28 (.tmp 0), none, []⟩, ⟨1, some 3, .box 28 (.tmp 1), none, []⟩, ⟨2, some 4, .mv (.const (.bool false)), none, []⟩])
  (.seq (.ops [⟨0, some 5, .fa 0 (.tmp 2), none, []⟩, ⟨1, some 6, .ld (.tmp 5), none, []⟩, ⟨2, some 7, .fa 0 (.tmp 3), none, []⟩, ⟨3, some 8, .ld (.tmp 7), none, []⟩, ⟨4, some 9, .call n_s_l01SameAll [.tmp 6, .tmp 8], none, []⟩, ⟨5, some 10, .mv (.tmp 9), none, []⟩, ⟨6, some 11, .fa 1 (.tmp 2), (some (10, true)), []⟩, ⟨7, some 12, .ld (.tmp 11), (some (10, true)), []⟩, ⟨8, some 13, .fa 1 (.tmp 3), (some (10, true)), []⟩, ⟨9, some 14, .ld (.tmp 13), (some (10, true)), []⟩, ⟨10, some 15, .call n_s_l03SameRows [.tmp 12, .tmp 14], (some (10, true)), []⟩, ⟨11, some 16, .pick (.tmp 10) (.tmp 15) (.const (.bool false)), none, []⟩, ⟨12, some 4, .mv (.tmp 16), none, []⟩])
  (.ret))
theorem k_s_SameBands : FnOk Try.prog n_s_SameBands 2 c_s_SameBands [.tmp 4] := ⟨by kernel_rfl⟩
def c_i_SameBands : ACode :=
  .seq (.ops [⟨0, some 2, .box 28 (.tmp 0), none, []⟩, ⟨1, some 3, .box 28 (.tmp 1), none, []⟩, ⟨2, some 4, .mv (.const (.bool false)), none, []⟩])
  (.seq (.ops [⟨0, some 5, .fa 0 (.tmp 2), none, []⟩, ⟨1, some 6, .ld (.tmp 5), none, []⟩, ⟨2, some 7, .fa 0 (.tmp 3), none, []⟩, ⟨3, some 8, .ld (.tmp 7), none, []⟩, ⟨4, some 9, .call n_i_sameNumbers [.tmp 6, .tmp 8], none, []⟩, ⟨5, some 10, .mv (.tmp 9), none, []⟩, ⟨6, some 11, .fa 1 (.tmp 2), (some (10, true)), []⟩, ⟨7, some 12, .ld (.tmp 11), (some (10, true)), []⟩, ⟨8, some 13, .fa 1 (.tmp 3), (some (10, true)), []⟩, ⟨9, some 14, .ld (.tmp 13), (some (10, true)), []⟩, ⟨10, some 15, .call n_i_sameLists [.tmp 12, .tmp 14], (some (10, true)), []⟩, ⟨11, some 16, .pick (.tmp 10) (.tmp 15) (.const (.bool false)), none, []⟩, ⟨12, some 4, .mv (.tmp 16), none, []⟩])
  (.ret))
theorem k_i_SameBands : FnOk Try.prog n_i_SameBands 2 c_i_SameBands [.tmp 4] := ⟨by kernel_rfl⟩
def c_w_sameFloat : ACode :=
  .seq (.ops [⟨0, some 4, .mv (.const (.bool false)), none, []⟩])
  (.seq (.seq (.ops [⟨0, some 5, .mv (.tmp 0), none, []⟩, ⟨1, some 6, .mv (.tmp 0), none, []⟩, ⟨2, some 7, .bin .neq (.tmp 5) (.tmp 6), none, []⟩, ⟨3, some 8, .mv (.tmp 7), none, []⟩, ⟨4, some 9, .mv (.tmp 1), (some (8, false)), []⟩, ⟨5, some 10, .mv (.tmp 1), (some (8, false)), []⟩, ⟨6, some 11, .bin .neq (.tmp 9) (.tmp 10), (some (8, false)), []⟩, ⟨7, some 12, .pick (.tmp 8) (.const (.bool true)) (.tmp 11), none, []⟩])
  (.cond (.tmp 12) (.seq (.keep [0, 1] (.ops [⟨0, some 13, .mv (.tmp 0), none, []⟩, ⟨1, some 14, .mv (.tmp 0), none, []⟩, ⟨2, some 15, .bin .neq (.tmp 13) (.tmp 14), none, []⟩, ⟨3, some 16, .mv (.tmp 15), none, []⟩, ⟨4, some 17, .mv (.tmp 1), (some (16, true)), []⟩, ⟨5, some 18, .mv (.tmp 1), (some (16, true)), []⟩, ⟨6, some 19, .bin .neq (.tmp 17) (.tmp 18), (some (16, true)), []⟩, ⟨7, some 20, .pick (.tmp 16) (.tmp 19) (.const (.bool false)), none, []⟩, ⟨8, some 4, .mv (.tmp 20), none, []⟩]))
  (.ret)) (.skip)))
  (.seq (.seq (.keep [0, 1] (.ops [⟨0, some 21, .mv (.tmp 0), none, []⟩, ⟨1, some 22, .bin .eql (.tmp 21) (.const (.float .f64 0)), none, []⟩, ⟨2, some 23, .mv (.tmp 22), none, []⟩, ⟨3, some 24, .mv (.tmp 1), (some (23, true)), []⟩, ⟨4, some 25, .bin .eql (.tmp 24) (.const (.float .f64 0)), (some (23, true)), []⟩, ⟨5, some 26, .pick (.tmp 23) (.tmp 25) (.const (.bool false)), none, []⟩]))
  (.cond (.tmp 26) (.seq (.keep [0, 1] (.ops [⟨0, some 27, .mv (.tmp 0), none, []⟩, ⟨1, some 28, .bin .quo (.const (.float .f64 4607182418800017408)) (.tmp 27), none, []⟩, ⟨2, some 29, .bin .gtr (.tmp 28) (.const (.float .f64 0)), none, []⟩, ⟨3, some 30, .mv (.tmp 1), none, []⟩, ⟨4, some 31, .bin .quo (.const (.float .f64 4607182418800017408)) (.tmp 30), none, []⟩, ⟨5, some 32, .bin .gtr (.tmp 31) (.const (.float .f64 0)), none, []⟩, ⟨6, some 33, .beq false (.tmp 29) (.tmp 32), none, []⟩, ⟨7, some 4, .mv (.tmp 33), none, []⟩]))
  (.ret)) (.skip)))
  (.seq (.keep [0, 1] (.ops [⟨0, some 34, .mv (.tmp 0), none, []⟩, ⟨1, some 35, .mv (.tmp 1), none, []⟩, ⟨2, some 36, .bin .eql (.tmp 34) (.tmp 35), none, []⟩, ⟨3, some 4, .mv (.tmp 36), none, []⟩]))
  (.ret))))
theorem k_w_sameFloat : FnOk Try.prog n_w_sameFloat 2 c_w_sameFloat [.tmp 4] := ⟨by kernel_rfl⟩
def c_w_szFloat32SS : ACode :=
  .seq (.ops [⟨0, some 4, .mv (.const (.int .i64 0)), none, []⟩])
  (.seq (.ops [⟨0, some 6, .mv (.tmp 1), none, []⟩, ⟨1, some 7, .mv (.tmp 0), none, []⟩, ⟨2, some 8, .len (.tmp 7), none, []⟩, ⟨3, some 9, .bin .sub (.tmp 6) (.tmp 8), none, []⟩, ⟨4, some 1, .mv (.tmp 9), none, []⟩])
  (.seq (.seq (.keep [0, 1] (.ops [⟨0, some 10, .mv (.tmp 1), none, []⟩, ⟨1, some 11, .bin .lss (.tmp 10) (.const (.int .i64 0)), none, []⟩]))
  (.cond (.tmp 11) (.seq (.ops [⟨0, some 4, .mv (.const (.int .i64 (-1))), none, []⟩])
  (.ret)) (.skip)))
  (.seq (.seq (.ops [⟨0, some 5, .mv (.const (.int .i64 0)), none, []⟩])
  (.block 0 (.loop [0, 1, 5] (.seq (.seq (.ops [⟨0, some 12, .mv (.tmp 5), none, []⟩, ⟨1, some 13, .mv (.tmp 0), none, []⟩, ⟨2, some 14, .len (.tmp 13), none, []⟩, ⟨3, some 15, .bin .lss (.tmp 12) (.tmp 14), none, []⟩])
  (.cond (.tmp 15) (.skip) (.exit 0)))
  (.seq (.block 1 (.seq (.ops [⟨0, some 18, .mv (.tmp 0), none, []⟩, ⟨1, some 19, .mv (.tmp 5), none, []⟩, ⟨2, some 20, .ia (.tmp 18) (.tmp 19), none, []⟩, ⟨3, some 21, .ld (.tmp 20), none, []⟩, ⟨4, some 22, .mv (.tmp 1), none, []⟩, ⟨5, some 23, .call n_w_szFloat32S [.tmp 21, .tmp 22], none, []⟩, ⟨6, some 1, .mv (.tmp 23), none, []⟩])
  (.seq (.keep [0, 1, 5] (.ops [⟨0, some 24, .mv (.tmp 1), none, []⟩, ⟨1, some 25, .bin .lss (.tmp 24) (.const (.int .i64 0)), none, []⟩]))
  (.cond (.tmp 25) (.seq (.keep [] (.ops [⟨0, some 4, .mv (.const (.int .i64 (-1))), none, []⟩]))
  (.ret)) (.skip)))))
  (.ops [⟨0, some 16, .mv (.tmp 5), none, []⟩, ⟨1, some 17, .bin .add (.tmp 16) (.const (.int .i64 1)), none, []⟩, ⟨2, some 5, .mv (.tmp 17), none, []⟩]))))))
  (.seq (.keep [1] (.ops [⟨0, some 26, .mv (.tmp 1), none, []⟩, ⟨1, some 4, .mv (.tmp 26), none, []⟩]))
  (.ret)))))
theorem k_w_szFloat32SS : FnOk Try.prog n_w_szFloat32SS 2 c_w_szFloat32SS [.tmp 4] := ⟨by kernel_rfl⟩
def c_w_toFloat32SS : ACode :=
  .seq (.ops [⟨0, some 2, .mv (.const (.slice none 0 0)), none, []⟩])
  (.seq (.ops [⟨0, some 5, .mv (.tmp 0), none, []⟩, ⟨1, some 6, .len (.tmp 5), none, []⟩, ⟨2, some 7, .mks 22 24 (.slice none 0 0) (.tmp 6) (.tmp 6), none, []⟩, ⟨3, some 3, .mv (.tmp 7), none, []⟩])
  (.seq (.seq (.ops [⟨0, some 4, .mv (.const (.int .i64 0)), none, []⟩])
  (.block 0 (.loop [0, 3, 4] (.seq (.seq (.ops [⟨0, some 8, .mv (.tmp 4), none, []⟩, ⟨1, some 9, .mv (.tmp 0), none, []⟩, ⟨2, some 10, .len (.tmp 9), none, []⟩, ⟨3, some 11, .bin .lss (.tmp 8) (.tmp 10), none, []⟩])
  (.cond (.tmp 11) (.skip) (.exit 0)))
  (.seq (.block 1 (.ops [⟨0, some 14, .mv (.tmp 3), none, []⟩, ⟨1, some 15, .mv (.tmp 4), none, []⟩, ⟨2, some 16, .mv (.tmp 0), none, []⟩, ⟨3, some 17, .mv (.tmp 4), none, []⟩, ⟨4, some 18, .ia (.tmp 16) (.tmp 17), none, []⟩, ⟨5, some 19, .ld (.tmp 18), none, []⟩, ⟨6, some 20, .call n_w_toFloat32S [.tmp 19], none, []⟩, ⟨7, some 21, .ia (.tmp 14) (.tmp 15), none, []⟩, ⟨8, none, .st (.tmp 21) (.tmp 20), none, []⟩]))
  (.keep [0, 3, 4] (.ops [⟨0, some 12, .mv (.tmp 4), none, []⟩, ⟨1, some 13, .bin .add (.tmp 12) (.const (.int .i64 1)), none, []⟩, ⟨2, some 4, .mv (.tmp 13), none, []⟩])))))))
  (.seq (.keep [3] (.ops [⟨0, some 22, .mv (.tmp 3), none, []⟩, ⟨1, some 2, .mv (.tmp 22), none, []⟩]))
  (.ret))))
theorem k_w_toFloat32SS : FnOk Try.prog n_w_toFloat32SS 1 c_w_toFloat32SS [.tmp 2] := ⟨by kernel_rfl⟩
def c_w_eqFloat32S : ACode :=
  .seq (.ops [⟨0, some 4, .mv (.const (.bool false)), none, []⟩])
  (.seq (.seq (.ops [⟨0, some 6, .mv (.tmp 0), none, []⟩, ⟨1, some 7, .len (.tmp 6), none, []⟩, ⟨2, some 8, .mv (.tmp 1), none, []⟩, ⟨3, some 9, .len (.tmp 8), none, []⟩, ⟨4, some 10, .bin .neq (.tmp 7) (.tmp 9), none, []⟩])
  (.cond (.tmp 10) (.seq (.keep [] (.ops [⟨0, some 4, .mv (.const (.bool false)), none, []⟩]))
  (.ret)) (.skip)))
  (.seq (.seq (.keep [0, 1] (.ops [⟨0, some 5, .mv (.const (.int .i64 0)), none, []⟩]))
  (.block 0 (.loop [0, 1, 5] (.seq (.seq (.ops [⟨0, some 11, .mv (.tmp 5), none, []⟩, ⟨1, some 12, .mv (.tmp 0), none, []⟩, ⟨2, some 13, .len (.tmp 12), none, []⟩, ⟨3, some 14, .bin .lss (.tmp 11) (.tmp 13), none, []⟩])
  (.cond (.tmp 14) (.skip) (.exit 0)))
  (.seq (.block 1 (.seq (.ops [⟨0, some 17, .mv (.tmp 0), none, []⟩, ⟨1, some 18, .mv (.tmp 5), none, []⟩, ⟨2, some 19, .ia (.tmp 17) (.tmp 18), none, []⟩, ⟨3, some 20, .ld (.tmp 19), none, []⟩, ⟨4, some 21, .cv (.f .f64) (.tmp 20), none, []⟩, ⟨5, some 22, .mv (.tmp 1), none, []⟩, ⟨6, some 23, .mv (.tmp 5), none, []⟩, ⟨7, some 24, .ia (.tmp 22) (.tmp 23), none, []⟩, ⟨8, some 25, .ld (.tmp 24), none, []⟩, ⟨9, some 26, .cv (.f .f64) (.tmp 25), none, []⟩, ⟨10, some 27, .call n_w_sameFloat [.tmp 21, .tmp 26], none, []⟩, ⟨11, some 28, .un .not (.tmp 27), none, []⟩])
  (.cond (.tmp 28) (.seq (.keep [] (.ops [⟨0, some 4, .mv (.const (.bool false)), none, []⟩]))
  (.ret)) (.skip))))
  (.keep [0, 1, 5] (.ops [⟨0, some 15, .mv (.tmp 5), none, []⟩, ⟨1, some 16, .bin .add (.tmp 15) (.const (.int .i64 1)), none, []⟩, ⟨2, some 5, .mv (.tmp 16), none, []⟩])))))))
  (.seq (.keep [] (.ops [⟨0, some 4, .mv (.const (.bool true)), none, []⟩]))
  (.ret))))
theorem k_w_eqFloat32S : FnOk Try.prog n_w_eqFloat32S 2 c_w_eqFloat32S [.tmp 4] := ⟨by kernel_rfl⟩
def c_w_eqFloat32SS : ACode :=
  .seq (.ops [⟨0, some 4, .mv (.const (.bool false)), none, []⟩])
  (.seq (.seq (.ops [⟨0, some 6, .mv (.tmp 0), none, []⟩, ⟨1, some 7, .len (.tmp 6), none, []⟩, ⟨2, some 8, .mv (.tmp 1), none, []⟩, ⟨3, some 9, .len (.tmp 8), none, []⟩, ⟨4, some 10, .bin .neq (.tmp 7) (.tmp 9), none, []⟩])
  (.cond (.tmp 10) (.seq (.keep [] (.ops [⟨0, some 4, .mv (.const (.bool false)), none, []⟩]))
  (.ret)) (.skip)))
  (.seq (.seq (.keep [0, 1] (.ops [⟨0, some 5, .mv (.const (.int .i64 0)), none, []⟩]))
  (.block 0 (.loop [0, 1, 5] (.seq (.seq (.ops [⟨0, some 11, .mv (.tmp 5), none, []⟩, ⟨1, some 12, .mv (.tmp 0), none, []⟩, ⟨2, some 13, .len (.tmp 12), none, []⟩, ⟨3, some 14, .bin .lss (.tmp 11) (.tmp 13), none, []⟩])
  (.cond (.tmp 14) (.skip) (.exit 0)))
  (.seq (.block 1 (.seq (.ops [⟨0, some 17, .mv (.tmp 0), none, []⟩, ⟨1, some 18, .mv (.tmp 5), none, []⟩, ⟨2, some 19, .ia (.tmp 17) (.tmp 18), none, []⟩, ⟨3, some 20, .ld (.tmp 19), none, []⟩, ⟨4, some 21, .mv (.tmp 1), none, []⟩, ⟨5, some 22, .mv (.tmp 5), none, []⟩, ⟨6, some 23, .ia (.tmp 21) (.tmp 22), none, []⟩, ⟨7, some 24, .ld (.tmp 23), none, []⟩, ⟨8, some 25, .call n_w_eqFloat32S [.tmp 20, .tmp 24], none, []⟩, ⟨9, some 26, .un .not (.tmp 25), none, []⟩])
  (.cond (.tmp 26) (.seq (.keep [] (.ops [⟨0, some 4, .mv (.const (.bool false)), none, []⟩]))
  (.ret)) (.skip))))
  (.keep [0, 1, 5] (.ops [⟨0, some 15, .mv (.tmp 5), none, []⟩, ⟨1, some 16, .bin .add (.tmp 15) (.const (.int .i64 1)), none, []⟩, ⟨2, some 5, .mv (.tmp 16), none, []⟩])))))))
  (.seq (.keep [] (.ops [⟨0, some 4, .mv (.const (.bool true)), none, []⟩]))
  (.ret))))
theorem k_w_eqFloat32SS : FnOk Try.prog n_w_eqFloat32SS 2 c_w_eqFloat32SS [.tmp 4] := ⟨by kernel_rfl⟩
def c_w_szFloat32S : ACode :=
  .seq (.ops [⟨0, some 4, .mv (.const (.int .i64 0)), none, []⟩])
  (.seq (.ops [⟨0, some 5, .mv (.tmp 1), none, []⟩, ⟨1, some 6, .mv (.tmp 0), none, []⟩, ⟨2, some 7, .len (.tmp 6), none, []⟩, ⟨3, some 8, .bin .sub (.tmp 5) (.tmp 7), none, []⟩, ⟨4, some 1, .mv (.tmp 8), none, []⟩])
  (.seq (.seq (.keep [1] (.ops [⟨0, some 9, .mv (.tmp 1), none, []⟩, ⟨1, some 10, .bin .lss (.tmp 9) (.const (.int .i64 0)), none, []⟩]))
  (.cond (.tmp 10) (.seq (.ops [⟨0, some 4, .mv (.const (.int .i64 (-1))), none, []⟩])
  (.ret)) (.skip)))
  (.seq (.ops [⟨0, some 11, .mv (.tmp 1), none, []⟩, ⟨1, some 4, .mv (.tmp 11), none, []⟩])
  (.ret))))
theorem k_w_szFloat32S : FnOk Try.prog n_w_szFloat32S 2 c_w_szFloat32S [.tmp 4] := ⟨by kernel_rfl⟩
def c_w_toFloat32S : ACode :=
  .seq (.ops [⟨0, some 2, .mv (.const (.slice none 0 0)), none, []⟩])
  (.seq (.ops [⟨0, some 5, .mv (.tmp 0), none, []⟩, ⟨1, some 6, .len (.tmp 5), none, []⟩, ⟨2, some 7, .mks 45 4 (.float .f32 0) (.tmp 6) (.tmp 6), none, []⟩, ⟨3, some 3, .mv (.tmp 7), none, []⟩])
  (.seq (.seq (.ops [⟨0, some 4, .mv (.const (.int .i64 0)), none, []⟩])
  (.block 0 (.loop [0, 3, 4] (.seq (.seq (.ops [⟨0, some 8, .mv (.tmp 4), none, []⟩, ⟨1, some 9, .mv (.tmp 0), none, []⟩, ⟨2, some 10, .len (.tmp 9), none, []⟩, ⟨3, some 11, .bin .lss (.tmp 8) (.tmp 10), none, []⟩])
  (.cond (.tmp 11) (.skip) (.exit 0)))
  (.seq (.block 1 (.ops [⟨0, some 14, .mv (.tmp 3), none, []⟩, ⟨1, some 15, .mv (.tmp 4), none, []⟩, ⟨2, some 16, .mv (.tmp 0), none, []⟩, ⟨3, some 17, .mv (.tmp 4), none, []⟩, ⟨4, some 18, .ia (.tmp 16) (.tmp 17), none, []⟩, ⟨5, some 19, .ld (.tmp 18), none, []⟩, ⟨6, some 20, .ia (.tmp 14) (.tmp 15), none, []⟩, ⟨7, none, .st (.tmp 20) (.tmp 19), none, []⟩]))
  (.keep [0, 3, 4] (.ops [⟨0, some 12, .mv (.tmp 4), none, []⟩, ⟨1, some 13, .bin .add (.tmp 12) (.const (.int .i64 1)), none, []⟩, ⟨2, some 4, .mv (.tmp 13), none, []⟩])))))))
  (.seq (.keep [3] (.ops [⟨0, some 21, .mv (.tmp 3), none, []⟩, ⟨1, some 2, .mv (.tmp 21), none, []⟩]))
  (.ret))))
theorem k_w_toFloat32S : FnOk Try.prog n_w_toFloat32S 1 c_w_toFloat32S [.tmp 2] := ⟨by kernel_rfl⟩
def c_s_l01SameAll : ACode :=
  .seq (.ops [⟨0, some 4, .mv (.const (.bool false)), none, []⟩])
  (.seq (.seq (.ops [⟨0, some 6, .mv (.tmp 0), none, []⟩, ⟨1, some 7, .len (.tmp 6), none, []⟩, ⟨2, some 8, .mv (.tmp 1), none, []⟩, ⟨3, some 9, .len (.tmp 8), none, []⟩, ⟨4, some 10, .bin .neq (.tmp 7) (.tmp 9), none, []⟩])
  (.cond (.tmp 10) (.seq (.keep [] (.ops [⟨0, some 4, .mv (.const (.bool false)), none, []⟩]))
  (.ret)) (.skip)))
  (.seq (.seq (.keep [0, 1] (.ops [⟨0, some 5, .mv (.const (.int .i64 0)), none, []⟩]))
  (.block 0 (.loop [0, 1, 5] (.seq (.seq (.ops [⟨0, some 11, .mv (.tmp 5), none, []⟩, ⟨1, some 12, .mv (.tmp 0), none, []⟩, ⟨2, some 13, .len (.tmp 12), none, []⟩, ⟨3, some 14, .bin .lss (.tmp 11) (.tmp 13), none, []⟩])
  (.cond (.tmp 14) (.skip) (.exit 0)))
  (.seq (.block 1 (.seq (.ops [⟨0, some 17, .mv (.tmp 0), none, []⟩, ⟨1, some 18, .mv (.tmp 5), none, []⟩, ⟨2, some 19, .ia (.tmp 17) (.tmp 18), none, []⟩, ⟨3, some 20, .ld (.tmp 19), none, []⟩, ⟨4, some 21, .mv (.tmp 1), none, []⟩, ⟨5, some 22, .mv (.tmp 5), none, []⟩, ⟨6, some 23, .ia (.tmp 21) (.tmp 22), none, []⟩, ⟨7, some 24, .ld (.tmp 23), none, []⟩, ⟨8, some 25, .call n_s_l01Same [.tmp 20, .tmp 24], none, []⟩, ⟨9, some 26, .un .not (.tmp 25), none, []⟩])
  (.cond (.tmp 26) (.seq (.keep [] (.ops [⟨0, some 4, .mv (.const (.bool false)), none, []⟩]))
  (.ret)) (.skip))))
  (.keep [0, 1, 5] (.ops [⟨0, some 15, .mv (.tmp 5), none, []⟩, ⟨1, some 16, .bin .add (.tmp 15) (.const (.int .i64 1)), none, []⟩, ⟨2, some 5, .mv (.tmp 16), none, []⟩])))))))
  (.seq (.keep [] (.ops [⟨0, some 4, .mv (.const (.bool true)), none, []⟩]))
  (.ret))))
theorem k_s_l01SameAll : FnOk Try.prog n_s_l01SameAll 2 c_s_l01SameAll [.tmp 4] := ⟨by kernel_rfl⟩
def c_s_l03SameRows : ACode :=
  .seq (.ops [⟨0, some 4, .mv (.const (.bool false)), none, []⟩])
  (.seq (.seq (.ops [⟨0, some 6, .mv (.tmp 0), none, []⟩, ⟨1, some 7, .len (.tmp 6), none, []⟩, ⟨2, some 8, .mv (.tmp 1), none, []⟩, ⟨3, some 9, .len (.tmp 8), none, []⟩, ⟨4, some 10, .bin .neq (.tmp 7) (.tmp 9), none, []⟩])
  (.cond (.tmp 10) (.seq (.keep [] (.ops [⟨0, some 4, .mv (.const (.bool false)), none, []⟩]))
  (.ret)) (.skip)))
  (.seq (.seq (.keep [0, 1] (.ops [⟨0, some 11, .mv (.tmp 0), none, []⟩, ⟨1, some 12, .len (.tmp 11), none, []⟩, ⟨2, some 13, .mv (.const (.int .i64 0)), none, []⟩]))
  (.block 0 (.loop [0, 1, 12, 13] (.seq (.ops [⟨0, some 14, .bin .lss (.tmp 13) (.tmp 12), none, []⟩])
  (.seq (.cond (.tmp 14) (.skip) (.exit 0))
  (.seq (.block 1 (.seq (.ops [⟨0, some 15, .mv (.tmp 13), none, []⟩, ⟨1, some 5, .mv (.tmp 15), none, []⟩])
  (.seq (.ops [⟨0, some 16, .mv (.tmp 0), none, []⟩, ⟨1, some 17, .mv (.tmp 5), none, []⟩, ⟨2, some 18, .ia (.tmp 16) (.tmp 17), none, []⟩, ⟨3, some 19, .ld (.tmp 18), none, []⟩, ⟨4, some 20, .mv (.tmp 1), none, []⟩, ⟨5, some 21, .mv (.tmp 5), none, []⟩, ⟨6, some 22, .ia (.tmp 20) (.tmp 21), none, []⟩, ⟨7, some 23, .ld (.tmp 22), none, []⟩, ⟨8, some 24, .call n_s_l01SameAll [.tmp 19, .tmp 23], none, []⟩, ⟨9, some 25, .un .not (.tmp 24), none, []⟩])
  (.cond (.tmp 25) (.seq (.keep [] (.ops [⟨0, some 4, .mv (.const (.bool false)), none, []⟩]))
  (.ret)) (.skip)))))
  (.keep [0, 1, 12, 13] (.ops [⟨0, some 26, .bin .add (.tmp 13) (.const (.int .i64 1)), none, []⟩, ⟨1, some 13, .mv (.tmp 26), none, []⟩]))))))))
  (.seq (.keep [] (.ops [⟨0, some 4, .mv (.const (.bool true)), none, []⟩]))
  (.ret))))
theorem k_s_l03SameRows : FnOk Try.prog n_s_l03SameRows 2 c_s_l03SameRows [.tmp 4] := ⟨by kernel_rfl⟩
def c_i_sameNumbers : ACode :=
  .seq (.ops [⟨0, some 4, .mv (.const (.bool false)), none, []⟩])
  (.seq (.seq (.ops [⟨0, some 6, .mv (.tmp 0), none, []⟩, ⟨1, some 7, .len (.tmp 6), none, []⟩, ⟨2, some 8, .mv (.tmp 1), none, []⟩, ⟨3, some 9, .len (.tmp 8), none, []⟩, ⟨4, some 10, .bin .neq (.tmp 7) (.tmp 9), none, []⟩])
  (.cond (.tmp 10) (.seq (.keep [] (.ops [⟨0, some 4, .mv (.const (.bool false)), none, []⟩]))
  (.ret)) (.skip)))
  (.seq (.seq (.keep [0, 1] (.ops [⟨0, some 11, .mv (.tmp 0), none, []⟩, ⟨1, some 12, .len (.tmp 11), none, []⟩, ⟨2, some 13, .mv (.const (.int .i64 0)), none, []⟩]))
  (.block 0 (.loop [0, 1, 12, 13] (.seq (.ops [⟨0, some 14, .bin .lss (.tmp 13) (.tmp 12), none, []⟩])
  (.seq (.cond (.tmp 14) (.skip) (.exit 0))
  (.seq (.block 1 (.seq (.ops [⟨0, some 15, .mv (.tmp 13), none, []⟩, ⟨1, some 5, .mv (.tmp 15), none, []⟩])
  (.seq (.ops [⟨0, some 16, .mv (.tmp 0), none, []⟩, ⟨1, some 17, .mv (.tmp 5), none, []⟩, ⟨2, some 18, .ia (.tmp 16) (.tmp 17), none, []⟩, ⟨3, some 19, .ld (.tmp 18), none, []⟩, ⟨4, some 20, .mv (.tmp 1), none, []⟩, ⟨5, some 21, .mv (.tmp 5), none, []⟩, ⟨6, some 22, .ia (.tmp 20) (.tmp 21), none, []⟩, ⟨7, some 23, .ld (.tmp 22), none, []⟩, ⟨8, some 24, .call n_i_SameNumber [.tmp 19, .tmp 23], none, []⟩, ⟨9, some 25, .un .not (.tmp 24), none, []⟩])
  (.cond (.tmp 25) (.seq (.keep [] (.ops [⟨0, some 4, .mv (.const (.bool false)), none, []⟩]))
  (.ret)) (.skip)))))
  (.keep [0, 1, 12, 13] (.ops [⟨0, some 26, .bin .add (.tmp 13) (.const (.int .i64 1)), none, []⟩, ⟨1, some 13, .mv (.tmp 26), none, []⟩]))))))))
  (.seq (.keep [] (.ops [⟨0, some 4, .mv (.const (.bool true)), none, []⟩]))
  (.ret))))
theorem k_i_sameNumbers : FnOk Try.prog n_i_sameNumbers 2 c_i_sameNumbers [.tmp 4] := ⟨by kernel_rfl⟩
def c_i_sameLists : ACode :=
  .seq (.ops [⟨0, some 4, .mv (.const (.bool false)), none, []⟩])
  (.seq (.seq (.ops [⟨0, some 6, .mv (.tmp 0), none, []⟩, ⟨1, some 7, .len (.tmp 6), none, []⟩, ⟨2, some 8, .mv (.tmp 1), none, []⟩, ⟨3, some 9, .len (.tmp 8), none, []⟩, ⟨4, some 10, .bin .neq (.tmp 7) (.tmp 9), none, []⟩])
  (.cond (.tmp 10) (.seq (.keep [] (.ops [⟨0, some 4, .mv (.const (.bool false)), none, []⟩]))
  (.ret)) (.skip)))
  (.seq (.seq (.keep [0, 1] (.ops [⟨0, some 11, .mv (.tmp 0), none, []⟩, ⟨1, some 12, .len (.tmp 11), none, []⟩, ⟨2, some 13, .mv (.const (.int .i64 0)), none, []⟩]))
  (.block 0 (.loop [0, 1, 12, 13] (.seq (.ops [⟨0, some 14, .bin .lss (.tmp 13) (.tmp 12), none, []⟩])
  (.seq (.cond (.tmp 14) (.skip) (.exit 0))
  (.seq (.block 1 (.seq (.ops [⟨0, some 15, .mv (.tmp 13), none, []⟩, ⟨1, some 5, .mv (.tmp 15), none, []⟩])
  (.seq (.ops [⟨0, some 16, .mv (.tmp 0), none, []⟩, ⟨1, some 17, .mv (.tmp 5), none, []⟩, ⟨2, some 18, .ia (.tmp 16) (.tmp 17), none, []⟩, ⟨3, some 19, .ld (.tmp 18), none, []⟩, ⟨4, some 20, .mv (.tmp 1), none, []⟩, ⟨5, some 21, .mv (.tmp 5), none, []⟩, ⟨6, some 22, .ia (.tmp 20) (.tmp 21), none, []⟩, ⟨7, some 23, .ld (.tmp 22), none, []⟩, ⟨8, some 24, .call n_i_sameNumbers [.tmp 19, .tmp 23], none, []⟩, ⟨9, some 25, .un .not (.tmp 24), none, []⟩])
  (.cond (.tmp 25) (.seq (.keep [] (.ops [⟨0, some 4, .mv (.const (.bool false)), none, []⟩]))
  (.ret)) (.skip)))))
  (.keep [0, 1, 12, 13] (.ops [⟨0, some 26, .bin .add (.tmp 13) (.const (.int .i64 1)), none, []⟩, ⟨1, some 13, .mv (.tmp 26), none, []⟩]))))))))
  (.seq (.keep [] (.ops [⟨0, some 4, .mv (.const (.bool true)), none, []⟩]))
  (.ret))))
theorem k_i_sameLists : FnOk Try.prog n_i_sameLists 2 c_i_sameLists [.tmp 4] := ⟨by kernel_rfl⟩
def c_s_l01Same : ACode :=
  .seq (.ops [⟨0, some 4, .mv (.const (.bool false)), none, []⟩])
  (.seq (.ops [⟨0, some 5, .mv (.tmp 0), none, []⟩, ⟨1, some 6, .call n_s_l01Bits [.tmp 5], none, []⟩, ⟨2, some 7, .mv (.tmp 1), none, []⟩, ⟨3, some 8, .call n_s_l01Bits [.tmp 7], none, []⟩, ⟨4, some 9, .bin .eql (.tmp 6) (.tmp 8), none, []⟩, ⟨5, some 4, .mv (.tmp 9), none, []⟩])
  (.ret))
theorem k_s_l01Same : FnOk Try.prog n_s_l01Same 2 c_s_l01Same [.tmp 4] := ⟨by kernel_rfl⟩
def c_i_SameNumber : ACode :=
  .seq (.ops [⟨0, some 4, .mv (.const (.bool false)), none, []⟩])
  (.seq (.seq (.ops [⟨0, some 5, .mv (.tmp 0), none, []⟩, ⟨1, some 6, .mv (.tmp 0), none, []⟩, ⟨2, some 7, .bin .neq (.tmp 5) (.tmp 6), none, []⟩, ⟨3, some 8, .mv (.tmp 7), none, []⟩, ⟨4, some 9, .mv (.tmp 1), (some (8, false)), []⟩, ⟨5, some 10, .mv (.tmp 1), (some (8, false)), []⟩, ⟨6, some 11, .bin .neq (.tmp 9) (.tmp 10), (some (8, false)), []⟩, ⟨7, some 12, .pick (.tmp 8) (.const (.bool true)) (.tmp 11), none, []⟩])
  (.cond (.tmp 12) (.seq (.keep [0, 1] (.ops [⟨0, some 13, .mv (.tmp 0), none, []⟩, ⟨1, some 14, .mv (.tmp 0), none, []⟩, ⟨2, some 15, .bin .neq (.tmp 13) (.tmp 14), none, []⟩, ⟨3, some 16, .mv (.tmp 15), none, []⟩, ⟨4, some 17, .mv (.tmp 1), (some (16, true)), []⟩, ⟨5, some 18, .mv (.tmp 1), (some (16, true)), []⟩, ⟨6, some 19, .bin .neq (.tmp 17) (.tmp 18), (some (16, true)), []⟩, ⟨7, some 20, .pick (.tmp 16) (.tmp 19) (.const (.bool false)), none, []⟩, ⟨8, some 4, .mv (.tmp 20), none, []⟩]))
  (.ret)) (.skip)))
  (.seq (.keep [0, 1] (.ops [⟨0, some 21, .mv (.tmp 0), none, []⟩, ⟨1, some 22, .mv (.tmp 1), none, []⟩, ⟨2, some 23, .bin .eql (.tmp 21) (.tmp 22), none, []⟩, ⟨3, some 24, .mv (.tmp 23), none, []⟩, ⟨4, some 25, .mv (.tmp 0), (some (24, true)), []⟩, ⟨5, some 26, .cv (.f .f64) (.tmp 25), (some (24, true)), []⟩, ⟨6, some 27, .call n_m_Signbit [.tmp 26], (some (24, true)), []⟩, ⟨7, some 28, .mv (.tmp 1), (some (24, true)), []⟩, ⟨8, some 29, .cv (.f .f64) (.tmp 28), (some (24, true)), []⟩, ⟨9, some 30, .call n_m_Signbit [.tmp 29], (some (24, true)), []⟩, ⟨10, some 31, .beq false (.tmp 27) (.tmp 30), (some (24, true)), []⟩, ⟨11, some 32, .pick (.tmp 24) (.tmp 31) (.const (.bool false)), none, []⟩, ⟨12, some 4, .mv (.tmp 32), none, []⟩]))
  (.ret)))
theorem k_i_SameNumber : FnOk Try.prog n_i_SameNumber 2 c_i_SameNumber [.tmp 4] := ⟨by kernel_rfl⟩
def c_s_l01Bits : ACode :=
  .seq (.ops [⟨0, some 2, .mv (.const (.int .i64 0)), none, []⟩])
  (.seq (.seq (.ops [⟨0, some 3, .mv (.tmp 0), none, []⟩, ⟨1, some 4, .mv (.tmp 0), none, []⟩, ⟨2, some 5, .bin .neq (.tmp 3) (.tmp 4), none, []⟩])
  (.cond (.tmp 5) (.seq (.keep [] (.ops [⟨0, some 2, .mv (.const (.int .i64 2143289344)), none, []⟩]))
  (.ret)) (.skip)))
  (.seq (.ops [⟨0, some 6, .mv (.tmp 0), none, []⟩, ⟨1, some 7, .f32bits (.tmp 6), none, []⟩, ⟨2, some 8, .cv (.i .i64) (.tmp 7), none, []⟩, ⟨3, some 2, .mv (.tmp 8), none, []⟩])
  (.ret)))
theorem k_s_l01Bits : FnOk Try.prog n_s_l01Bits 1 c_s_l01Bits [.tmp 2] := ⟨by kernel_rfl⟩
def c_m_Signbit : ACode :=
  .seq (.ops [⟨0, some 2, .mv (.const (.bool false)), none, []⟩])
  (.seq (.ops [⟨0, some 3, .mv (.tmp 0), none, []⟩, ⟨1, some 4, .f64bits (.tmp 3), none, []⟩, ⟨2, some 5, .cv (.i .i64) (.tmp 4), none, []⟩, ⟨3, some 6, .bin .lss (.tmp 5) (.const (.int .i64 0)), none, []⟩, ⟨4, some 2, .mv (.tmp 6), none, []⟩])
  (.ret))
theorem k_m_Signbit : FnOk Try.prog n_m_Signbit 1 c_m_Signbit [.tmp 2] := ⟨by kernel_rfl⟩
end Go.Proofs.Ytkojmlpaamdhoab

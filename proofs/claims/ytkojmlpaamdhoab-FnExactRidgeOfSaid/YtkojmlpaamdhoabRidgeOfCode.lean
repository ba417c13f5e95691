/- The code of functions, for the abstract machine; printed by a program (gen.py). -/
import Derived.Test.YtkojmlpaamdhoabGxFn
import Derived.Test.YtkojmlpaamdhoabProg
namespace Go.Proofs.Ytkojmlpaamdhoab
open Go.Gx
set_option maxRecDepth 100000
abbrev t_int64 : Nat := 2
abbrev t_int : Nat := 3
abbrev t_bool : Nat := 4
abbrev t_uint8 : Nat := 5
abbrev t_sfloat32 : Nat := 22
abbrev t_ssfloat32 : Nat := 23
abbrev t_float32 : Nat := 45
abbrev t_float64 : Nat := 49
abbrev t_sint64 : Nat := 72
abbrev t_sint : Nat := 113
abbrev t_Bands : Nat := 28
abbrev t_Picture : Nat := 35
abbrev t_Pair : Nat := 67
abbrev n_w_FnExactRidgeOf : Nat := 13
abbrev n_w_sameFloat : Nat := 32
abbrev n_w_szFloat32SS : Nat := 37
abbrev n_w_toFloat32SS : Nat := 39
abbrev n_w_eqFloat32S : Nat := 41
abbrev n_w_eqFloat32SS : Nat := 42
abbrev n_w_markFloat32SS : Nat := 43
abbrev n_w_markFloat32S : Nat := 44
abbrev n_s_RidgeOf : Nat := 54
abbrev n_i_RidgeOf : Nat := 55
abbrev n_w_eqInt64S : Nat := 56
abbrev n_w_markInt64S : Nat := 57
abbrev n_w_heldInt64S : Nat := 58
abbrev n_w_szFloat32S : Nat := 59
abbrev n_w_toFloat32S : Nat := 61
abbrev n_i_within : Nat := 62
abbrev n_i_areFinite : Nat := 63
abbrev n_s_l03Rows : Nat := 92
abbrev n_s_l02Finite : Nat := 93
abbrev n_i_areRows : Nat := 94
abbrev n_i_IsFinite : Nat := 102
abbrev n_s_l03Long : Nat := 109
abbrev n_s_l01Finite : Nat := 110
def c_w_FnExactRidgeOf : ACode :=
  .seq (.ops [⟨0, some 2, .mv (.const (.bool false)), none, []⟩])
  (.seq (.ops [⟨0, some 3, .mv (.const (.int .i64 1048576)), none, []⟩])
  (.seq (.ops [⟨0, some 14, .mv (.tmp 0), none, []⟩, ⟨1, some 15, .mv (.tmp 3), none, []⟩, ⟨2, some 16, .call n_w_szFloat32SS [.tmp 14, .tmp 15], none, []⟩, ⟨3, some 3, .mv (.tmp 16), none, []⟩])
  (.seq (.seq (.ops [⟨0, some 17, .mv (.tmp 3), none, []⟩, ⟨1, some 18, .bin .lss (.tmp 17) (.const (.int .i64 0)), none, []⟩])
  (.cond (.tmp 18) (.seq (.keep [] (.ops [⟨0, some 2, .mv (.const (.bool true)), none, []⟩]))
  (.ret)) (.skip)))
  (.seq (.keep [0] (.ops [⟨0, some 20, .mv (.tmp 0), none, []⟩, ⟨1, some 21, .call n_w_toFloat32SS [.tmp 20], none, []⟩, ⟨2, some 22, .call n_s_RidgeOf [.tmp 21], none, []⟩, ⟨3, some 19, .mv (.tmp 22), none, []⟩, ⟨4, some 23, .ext (.tmp 19) 0, none, []⟩, ⟨5, some 24, .ext (.tmp 19) 1, none, []⟩, ⟨6, some 4, .mv (.tmp 23), none, []⟩, ⟨7, some 5, .mv (.tmp 24), none, []⟩]))
  (.seq (.keep [0, 4, 5] (.ops [⟨0, some 25, .mv (.tmp 0), none, []⟩, ⟨1, some 26, .call n_w_toFloat32SS [.tmp 25], none, []⟩, ⟨2, some 6, .mv (.tmp 26), none, []⟩]))
  (.seq (.ops [⟨0, some 28, .mv (.tmp 6), none, []⟩, ⟨1, some 29, .call n_i_RidgeOf [.tmp 28], none, []⟩, ⟨2, some 27, .mv (.tmp 29), none, []⟩, ⟨3, some 30, .ext (.tmp 27) 0, none, []⟩, ⟨4, some 31, .ext (.tmp 27) 1, none, []⟩, ⟨5, some 7, .mv (.tmp 30), none, []⟩, ⟨6, some 8, .mv (.tmp 31), none, []⟩])
  (.seq (.seq (.keep [0, 4, 5, 6, 7, 8] (.ops [⟨0, some 32, .mv (.tmp 7), none, []⟩, ⟨1, some 33, .mv (.tmp 4), none, []⟩, ⟨2, some 34, .call n_w_eqInt64S [.tmp 32, .tmp 33], none, []⟩, ⟨3, some 35, .un .not (.tmp 34), none, []⟩, ⟨4, some 36, .mv (.tmp 35), none, []⟩, ⟨5, some 37, .mv (.tmp 8), (some (36, false)), []⟩, ⟨6, some 38, .mv (.tmp 5), (some (36, false)), []⟩, ⟨7, some 39, .beq true (.tmp 37) (.tmp 38), (some (36, false)), []⟩, ⟨8, some 40, .pick (.tmp 36) (.const (.bool true)) (.tmp 39), none, []⟩]))
  (.cond (.tmp 40) (.seq (.keep [] (.ops [⟨0, some 2, .mv (.const (.bool false)), none, []⟩]))
  (.ret)) (.skip)))
  (.seq (.seq (.keep [0, 4, 5, 6, 7, 8] (.ops [⟨0, some 41, .mv (.tmp 6), none, []⟩, ⟨1, some 42, .mv (.tmp 0), none, []⟩, ⟨2, some 43, .call n_w_toFloat32SS [.tmp 42], none, []⟩, ⟨3, some 44, .call n_w_eqFloat32SS [.tmp 41, .tmp 43], none, []⟩, ⟨4, some 45, .un .not (.tmp 44), none, []⟩]))
  (.cond (.tmp 45) (.seq (.keep [] (.ops [⟨0, some 2, .mv (.const (.bool false)), none, []⟩]))
  (.ret)) (.skip)))
  (.seq (.keep [0, 4, 5, 6, 7, 8] (.ops [⟨0, some 9, .mv (.const (.int .i64 1)), none, []⟩]))
  (.seq (.ops [⟨0, some 46, .mv (.tmp 6), none, []⟩, ⟨1, some 47, .mv (.tmp 9), none, []⟩, ⟨2, some 48, .call n_w_markFloat32SS [.tmp 46, .tmp 47], none, []⟩, ⟨3, some 9, .mv (.tmp 48), none, []⟩])
  (.seq (.seq (.ops [⟨0, some 49, .mv (.tmp 9), none, []⟩, ⟨1, some 50, .bin .lss (.tmp 49) (.const (.int .i64 0)), none, []⟩, ⟨2, some 51, .mv (.tmp 50), none, []⟩, ⟨3, some 52, .mv (.tmp 7), (some (51, false)), []⟩, ⟨4, some 53, .mv (.tmp 4), (some (51, false)), []⟩, ⟨5, some 54, .call n_w_eqInt64S [.tmp 52, .tmp 53], (some (51, false)), []⟩, ⟨6, some 55, .un .not (.tmp 54), (some (51, false)), []⟩, ⟨7, some 56, .pick (.tmp 51) (.const (.bool true)) (.tmp 55), none, []⟩, ⟨8, some 57, .mv (.tmp 56), none, []⟩, ⟨9, some 58, .mv (.tmp 8), (some (57, false)), []⟩, ⟨10, some 59, .mv (.tmp 5), (some (57, false)), []⟩, ⟨11, some 60, .beq true (.tmp 58) (.tmp 59), (some (57, false)), []⟩, ⟨12, some 61, .pick (.tmp 57) (.const (.bool true)) (.tmp 60), none, []⟩])
  (.cond (.tmp 61) (.seq (.keep [] (.ops [⟨0, some 2, .mv (.const (.bool false)), none, []⟩]))
  (.ret)) (.skip)))
  (.seq (.keep [0, 4, 5, 7] (.ops [⟨0, some 10, .mv (.const (.int .i64 1)), none, []⟩]))
  (.seq (.ops [⟨0, some 62, .mv (.tmp 7), none, []⟩, ⟨1, some 63, .mv (.tmp 10), none, []⟩, ⟨2, some 64, .call n_w_markInt64S [.tmp 62, .tmp 63], none, []⟩, ⟨3, some 10, .mv (.tmp 64), none, []⟩])
  (.seq (.ops [⟨0, some 11, .mv (.const (.int .i64 1)), none, []⟩])
  (.seq (.ops [⟨0, some 65, .mv (.tmp 7), none, []⟩, ⟨1, some 66, .mv (.tmp 11), none, []⟩, ⟨2, some 67, .call n_w_heldInt64S [.tmp 65, .tmp 66], none, []⟩, ⟨3, some 11, .mv (.tmp 67), none, []⟩])
  (.seq (.seq (.keep [0, 4, 5, 7, 10, 11] (.ops [⟨0, some 68, .mv (.tmp 11), none, []⟩, ⟨1, some 69, .bin .lss (.tmp 68) (.const (.int .i64 0)), none, []⟩]))
  (.cond (.tmp 69) (.seq (.keep [] (.ops [⟨0, some 2, .mv (.const (.bool false)), none, []⟩]))
  (.ret)) (.skip)))
  (.seq (.seq (.ops [⟨0, some 70, .mv (.tmp 11), none, []⟩, ⟨1, some 71, .mv (.tmp 10), none, []⟩, ⟨2, some 72, .bin .neq (.tmp 70) (.tmp 71), none, []⟩])
  (.cond (.tmp 72) (.seq (.keep [] (.ops [⟨0, some 2, .mv (.const (.bool false)), none, []⟩]))
  (.ret)) (.skip)))
  (.seq (.keep [0, 4, 5, 7, 10] (.ops [⟨0, some 74, .mv (.tmp 0), none, []⟩, ⟨1, some 75, .call n_w_toFloat32SS [.tmp 74], none, []⟩, ⟨2, some 76, .call n_i_RidgeOf [.tmp 75], none, []⟩, ⟨3, some 73, .mv (.tmp 76), none, []⟩, ⟨4, some 77, .ext (.tmp 73) 0, none, []⟩, ⟨5, some 78, .ext (.tmp 73) 1, none, []⟩, ⟨6, some 12, .mv (.tmp 77), none, []⟩, ⟨7, some 13, .mv (.tmp 78), none, []⟩]))
  (.seq (.seq (.keep [4, 5, 7, 10, 12, 13] (.ops [⟨0, some 79, .mv (.tmp 12), none, []⟩, ⟨1, some 80, .mv (.tmp 4), none, []⟩, ⟨2, some 81, .call n_w_eqInt64S [.tmp 79, .tmp 80], none, []⟩, ⟨3, some 82, .un .not (.tmp 81), none, []⟩, ⟨4, some 83, .mv (.tmp 82), none, []⟩, ⟨5, some 84, .mv (.tmp 13), (some (83, false)), []⟩, ⟨6, some 85, .mv (.tmp 5), (some (83, false)), []⟩, ⟨7, some 86, .beq true (.tmp 84) (.tmp 85), (some (83, false)), []⟩, ⟨8, some 87, .pick (.tmp 83) (.const (.bool true)) (.tmp 86), none, []⟩]))
  (.cond (.tmp 87) (.seq (.keep [] (.ops [⟨0, some 2, .mv (.const (.bool false)), none, []⟩]))
  (.ret)) (.skip)))
  (.seq (.keep [7, 10] (.ops [⟨0, some 11, .mv (.const (.int .i64 1)), none, []⟩]))
  (.seq (.ops [⟨0, some 88, .mv (.tmp 7), none, []⟩, ⟨1, some 89, .mv (.tmp 11), none, []⟩, ⟨2, some 90, .call n_w_heldInt64S [.tmp 88, .tmp 89], none, []⟩, ⟨3, some 11, .mv (.tmp 90), none, []⟩])
  (.seq (.seq (.ops [⟨0, some 91, .mv (.tmp 11), none, []⟩, ⟨1, some 92, .bin .lss (.tmp 91) (.const (.int .i64 0)), none, []⟩])
  (.cond (.tmp 92) (.seq (.keep [] (.ops [⟨0, some 2, .mv (.const (.bool false)), none, []⟩]))
  (.ret)) (.skip)))
  (.seq (.seq (.keep [10, 11] (.ops [⟨0, some 93, .mv (.tmp 11), none, []⟩, ⟨1, some 94, .mv (.tmp 10), none, []⟩, ⟨2, some 95, .bin .neq (.tmp 93) (.tmp 94), none, []⟩]))
  (.cond (.tmp 95) (.seq (.keep [] (.ops [⟨0, some 2, .mv (.const (.bool false)), none, []⟩]))
  (.ret)) (.skip)))
  (.seq (.keep [] (.ops [⟨0, some 2, .mv (.const (.bool true)), none, []⟩]))
  (.ret)))))))))))))))))))))))))
theorem k_w_FnExactRidgeOf : FnOk Try.prog n_w_FnExactRidgeOf 1 c_w_FnExactRidgeOf [.tmp 2] := ⟨by kernel_rfl⟩
def c_w_sameFloat : ACode :=
  .seq (.ops [⟨0, some 4, .mv (.const (.bool false)), none, []⟩])
  (.seq (.seq (.ops [⟨0, some 5, .mv (.tmp 0), none, []⟩, ⟨1, some 6, .mv (.tmp 0), none, []⟩, ⟨2, some 7, .bin .neq (.tmp 5) (.tmp 6), none, []⟩, ⟨3, some 8, .mv (.tmp 7), none, []⟩, ⟨4, some 9, .mv (.tmp 1), (some (8, false)), []⟩, ⟨5, some 10, .mv (.tmp 1), (some (8, false)), []⟩, ⟨6, some 11, .bin .neq (.tmp 9) (.tmp 10), (some (8, false)), []⟩, ⟨7, some 12, .pick (.tmp 8) (.const (.bool true)) (.tmp 11), none, []⟩])
  (.cond (.tmp 12) (.seq (.keep [0, 1] (.ops [⟨0, some 13, .mv (.tmp 0), none, []⟩, ⟨1, some 14, .mv (.tmp 0), none, []⟩, ⟨2, some 15, .bin .neq (.tmp 13) (.tmp 14), none, []⟩, ⟨3, some 16, .mv (.tmp 15), none, []⟩, ⟨4, some 17, .mv (.tmp 1), (some (16, true)), []⟩, ⟨5, some 18, .mv (.tmp 1), (some (16, true)), []⟩, ⟨6, some 19, .bin .neq (.tmp 17) (.tmp 18), (some (16, true)), []⟩, ⟨7, some 20, .pick (.tmp 16) (.tmp 19) (.const (.bool false)), none, []⟩, ⟨8, some 4, .mv (.tmp 20), none, []⟩]))
  (.ret)) (.skip)))
  (.seq (.seq (.keep [0, 1] (.ops [⟨0, some 21, .mv (.tmp 0), none, []⟩, ⟨1, some 22, .bin .eql (.tmp 21) (.const (.float .f64 0)), none, []⟩, ⟨2, some 23, .mv (.tmp 22), none, []⟩, ⟨3, some 24, .mv (.tmp 1), (some (23, true)), []⟩, ⟨4, some 25, .bin .eql (.tmp 24) (.const (.float .f64 0)), (some (23, true)), []⟩, ⟨5, some 26, .pick (.tmp 23) (.tmp 25) (.const (.bool false)), none, []⟩]))
  (.cond (.tmp 26) (.seq (.keep [0, 1] (.ops [⟨0, some 27, .mv (.tmp 0), none, []⟩, ⟨1, some 28, .bin .quo (.const (.float .f64 4607182418800017408)) (.tmp 27), none, []⟩, ⟨2, some 29, .bin .gtr (.tmp 28) (.const (.float .f64 0)), none, []⟩, ⟨3, some 30, .mv (.tmp 1), none, []⟩, ⟨4, some 31, .bin .quo (.const (.float .f64 4607182418800017408)) (.tmp 30), none, []⟩, ⟨5, some 32, .bin .gtr (.tmp 31) (.const (.float .f64 0)), none, []⟩, ⟨6, some 33, .beq false (.tmp 29) (.tmp 32), none, []⟩, ⟨7, some 4, .mv (.tmp 33), none, []⟩]))
  (.ret)) (.skip)))
  (.seq (.keep [0, 1] (.ops [⟨0, some 34, .mv (.tmp 0), none, []⟩, ⟨1, some 35, .mv (.tmp 1), none, []⟩, ⟨2, some 36, .bin .eql (.tmp 34) (.tmp 35), none, []⟩, ⟨3, some 4, .mv (.tmp 36), none, []⟩]))
  (.ret))))
theorem k_w_sameFloat : FnOk Try.prog n_w_sameFloat 2 c_w_sameFloat [.tmp 4] := ⟨by kernel_rfl⟩
def c_w_szFloat32SS : ACode :=
  .seq (.ops [⟨0, some 4, .mv (.const (.int .i64 0)), none, []⟩])
  (.seq (.ops [⟨0, some 6, .mv (.tmp 1), none, []⟩, ⟨1, some 7, .mv (.tmp 0), none, []⟩, ⟨2, some 8, .len (.tmp 7), none, []⟩, ⟨3, some 9, .bin .sub (.tmp 6) (.tmp 8), none, []⟩, ⟨4, some 1, .mv (.tmp 9), none, []⟩])
  (.seq (.seq (.keep [0, 1] (.ops [⟨0, some 10, .mv (.tmp 1), none, []⟩, ⟨1, some 11, .bin .lss (.tmp 10) (.const (.int .i64 0)), none, []⟩]))
  (.cond (.tmp 11) (.seq (.ops [⟨0, some 4, .mv (.const (.int .i64 (-1))), none, []⟩])
  (.ret)) (.skip)))
  (.seq (.seq (.ops [⟨0, some 5, .mv (.const (.int .i64 0)), none, []⟩])
  (.block 0 (.loop [0, 1, 5] (.seq (.seq (.ops [⟨0, some 12, .mv (.tmp 5), none, []⟩, ⟨1, some 13, .mv (.tmp 0), none, []⟩, ⟨2, some 14, .len (.tmp 13), none, []⟩, ⟨3, some 15, .bin .lss (.tmp 12) (.tmp 14), none, []⟩])
  (.cond (.tmp 15) (.skip) (.exit 0)))
  (.seq (.block 1 (.seq (.ops [⟨0, some 18, .mv (.tmp 0), none, []⟩, ⟨1, some 19, .mv (.tmp 5), none, []⟩, ⟨2, some 20, .ia (.tmp 18) (.tmp 19), none, []⟩, ⟨3, some 21, .ld (.tmp 20), none, []⟩, ⟨4, some 22, .mv (.tmp 1), none, []⟩, ⟨5, some 23, .call n_w_szFloat32S [.tmp 21, .tmp 22], none, []⟩, ⟨6, some 1, .mv (.tmp 23), none, []⟩])
  (.seq (.keep [0, 1, 5] (.ops [⟨0, some 24, .mv (.tmp 1), none, []⟩, ⟨1, some 25, .bin .lss (.tmp 24) (.const (.int .i64 0)), none, []⟩]))
  (.cond (.tmp 25) (.seq (.keep [] (.ops [⟨0, some 4, .mv (.const (.int .i64 (-1))), none, []⟩]))
  (.ret)) (.skip)))))
  (.ops [⟨0, some 16, .mv (.tmp 5), none, []⟩, ⟨1, some 17, .bin .add (.tmp 16) (.const (.int .i64 1)), none, []⟩, ⟨2, some 5, .mv (.tmp 17), none, []⟩]))))))
  (.seq (.keep [1] (.ops [⟨0, some 26, .mv (.tmp 1), none, []⟩, ⟨1, some 4, .mv (.tmp 26), none, []⟩]))
  (.ret)))))
theorem k_w_szFloat32SS : FnOk Try.prog n_w_szFloat32SS 2 c_w_szFloat32SS [.tmp 4] := ⟨by kernel_rfl⟩
def c_w_toFloat32SS : ACode :=
  .seq (.ops [⟨0, some 2, .mv (.const (.slice none 0 0)), none, []⟩])
  (.seq (.ops [⟨0, some 5, .mv (.tmp 0), none, []⟩, ⟨1, some 6, .len (.tmp 5), none, []⟩, ⟨2, some 7, .mks 22 24 (.slice none 0 0) (.tmp 6) (.tmp 6), none, []⟩, ⟨3, some 3, .mv (.tmp 7), none, []⟩])
  (.seq (.seq (.ops [⟨0, some 4, .mv (.const (.int .i64 0)), none, []⟩])
  (.block 0 (.loop [0, 3, 4] (.seq (.seq (.ops [⟨0, some 8, .mv (.tmp 4), none, []⟩, ⟨1, some 9, .mv (.tmp 0), none, []⟩, ⟨2, some 10, .len (.tmp 9), none, []⟩, ⟨3, some 11, .bin .lss (.tmp 8) (.tmp 10), none, []⟩])
  (.cond (.tmp 11) (.skip) (.exit 0)))
  (.seq (.block 1 (.ops [⟨0, some 14, .mv (.tmp 3), none, []⟩, ⟨1, some 15, .mv (.tmp 4), none, []⟩, ⟨2, some 16, .mv (.tmp 0), none, []⟩, ⟨3, some 17, .mv (.tmp 4), none, []⟩, ⟨4, some 18, .ia (.tmp 16) (.tmp 17), none, []⟩, ⟨5, some 19, .ld (.tmp 18), none, []⟩, ⟨6, some 20, .call n_w_toFloat32S [.tmp 19], none, []⟩, ⟨7, some 21, .ia (.tmp 14) (.tmp 15), none, []⟩, ⟨8, none, .st (.tmp 21) (.tmp 20), none, []⟩]))
  (.keep [0, 3, 4] (.ops [⟨0, some 12, .mv (.tmp 4), none, []⟩, ⟨1, some 13, .bin .add (.tmp 12) (.const (.int .i64 1)), none, []⟩, ⟨2, some 4, .mv (.tmp 13), none, []⟩])))))))
  (.seq (.keep [3] (.ops [⟨0, some 22, .mv (.tmp 3), none, []⟩, ⟨1, some 2, .mv (.tmp 22), none, []⟩]))
  (.ret))))
theorem k_w_toFloat32SS : FnOk Try.prog n_w_toFloat32SS 1 c_w_toFloat32SS [.tmp 2] := ⟨by kernel_rfl⟩
def c_w_eqFloat32S : ACode :=
  .seq (.ops [⟨0, some 4, .mv (.const (.bool false)), none, []⟩])
  (.seq (.seq (.ops [⟨0, some 6, .mv (.tmp 0), none, []⟩, ⟨1, some 7, .len (.tmp 6), none, []⟩, ⟨2, some 8, .mv (.tmp 1), none, []⟩, ⟨3, some 9, .len (.tmp 8), none, []⟩, ⟨4, some 10, .bin .neq (.tmp 7) (.tmp 9), none, []⟩])
  (.cond (.tmp 10) (.seq (.keep [] (.ops [⟨0, some 4, .mv (.const (.bool false)), none, []⟩]))
  (.ret)) (.skip)))
  (.seq (.seq (.keep [0, 1] (.ops [⟨0, some 5, .mv (.const (.int .i64 0)), none, []⟩]))
  (.block 0 (.loop [0, 1, 5] (.seq (.seq (.ops [⟨0, some 11, .mv (.tmp 5), none, []⟩, ⟨1, some 12, .mv (.tmp 0), none, []⟩, ⟨2, some 13, .len (.tmp 12), none, []⟩, ⟨3, some 14, .bin .lss (.tmp 11) (.tmp 13), none, []⟩])
  (.cond (.tmp 14) (.skip) (.exit 0)))
  (.seq (.block 1 (.seq (.ops [⟨0, some 17, .mv (.tmp 0), none, []⟩, ⟨1, some 18, .mv (.tmp 5), none, []⟩, ⟨2, some 19, .ia (.tmp 17) (.tmp 18), none, []⟩, ⟨3, some 20, .ld (.tmp 19), none, []⟩, ⟨4, some 21, .cv (.f .f64) (.tmp 20), none, []⟩, ⟨5, some 22, .mv (.tmp 1), none, []⟩, ⟨6, some 23, .mv (.tmp 5), none, []⟩, ⟨7, some 24, .ia (.tmp 22) (.tmp 23), none, []⟩, ⟨8, some 25, .ld (.tmp 24), none, []⟩, ⟨9, some 26, .cv (.f .f64) (.tmp 25), none, []⟩, ⟨10, some 27, .call n_w_sameFloat [.tmp 21, .tmp 26], none, []⟩, ⟨11, some 28, .un .not (.tmp 27), none, []⟩])
  (.cond (.tmp 28) (.seq (.keep [] (.ops [⟨0, some 4, .mv (.const (.bool false)), none, []⟩]))
  (.ret)) (.skip))))
  (.keep [0, 1, 5] (.ops [⟨0, some 15, .mv (.tmp 5), none, []⟩, ⟨1, some 16, .bin .add (.tmp 15) (.const (.int .i64 1)), none, []⟩, ⟨2, some 5, .mv (.tmp 16), none, []⟩])))))))
  (.seq (.keep [] (.ops [⟨0, some 4, .mv (.const (.bool true)), none, []⟩]))
  (.ret))))
theorem k_w_eqFloat32S : FnOk Try.prog n_w_eqFloat32S 2 c_w_eqFloat32S [.tmp 4] := ⟨by kernel_rfl⟩
def c_w_eqFloat32SS : ACode :=
  .seq (.ops [⟨0, some 4, .mv (.const (.bool false)), none, []⟩])
  (.seq (.seq (.ops [⟨0, some 6, .mv (.tmp 0), none, []⟩, ⟨1, some 7, .len (.tmp 6), none, []⟩, ⟨2, some 8, .mv (.tmp 1), none, []⟩, ⟨3, some 9, .len (.tmp 8), none, []⟩, ⟨4, some 10, .bin .neq (.tmp 7) (.tmp 9), none, []⟩])
  (.cond (.tmp 10) (.seq (.keep [] (.ops [⟨0, some 4, .mv (.const (.bool false)), none, []⟩]))
  (.ret)) (.skip)))
  (.seq (.seq (.keep [0, 1] (.ops [⟨0, some 5, .mv (.const (.int .i64 0)), none, []⟩]))
  (.block 0 (.loop [0, 1, 5] (.seq (.seq (.ops [⟨0, some 11, .mv (.tmp 5), none, []⟩, ⟨1, some 12, .mv (.tmp 0), none, []⟩, ⟨2, some 13, .len (.tmp 12), none, []⟩, ⟨3, some 14, .bin .lss (.tmp 11) (.tmp 13), none, []⟩])
  (.cond (.tmp 14) (.skip) (.exit 0)))
  (.seq (.block 1 (.seq (.ops [⟨0, some 17, .mv (.tmp 0), none, []⟩, ⟨1, some 18, .mv (.tmp 5), none, []⟩, ⟨2, some 19, .ia (.tmp 17) (.tmp 18), none, []⟩, ⟨3, some 20, .ld (.tmp 19), none, []⟩, ⟨4, some 21, .mv (.tmp 1), none, []⟩, ⟨5, some 22, .mv (.tmp 5), none, []⟩, ⟨6, some 23, .ia (.tmp 21) (.tmp 22), none, []⟩, ⟨7, some 24, .ld (.tmp 23), none, []⟩, ⟨8, some 25, .call n_w_eqFloat32S [.tmp 20, .tmp 24], none, []⟩, ⟨9, some 26, .un .not (.tmp 25), none, []⟩])
  (.cond (.tmp 26) (.seq (.keep [] (.ops [⟨0, some 4, .mv (.const (.bool false)), none, []⟩]))
  (.ret)) (.skip))))
  (.keep [0, 1, 5] (.ops [⟨0, some 15, .mv (.tmp 5), none, []⟩, ⟨1, some 16, .bin .add (.tmp 15) (.const (.int .i64 1)), none, []⟩, ⟨2, some 5, .mv (.tmp 16), none, []⟩])))))))
  (.seq (.keep [] (.ops [⟨0, some 4, .mv (.const (.bool true)), none, []⟩]))
  (.ret))))
theorem k_w_eqFloat32SS : FnOk Try.prog n_w_eqFloat32SS 2 c_w_eqFloat32SS [.tmp 4] := ⟨by kernel_rfl⟩
def c_w_markFloat32SS : ACode :=
  .seq (.ops [⟨0, some 4, .mv (.const (.int .i64 0)), none, []⟩])
  (.seq (.seq (.ops [⟨0, some 5, .mv (.const (.int .i64 0)), none, []⟩])
  (.block 0 (.loop [0, 1, 5] (.seq (.seq (.ops [⟨0, some 6, .mv (.tmp 5), none, []⟩, ⟨1, some 7, .mv (.tmp 0), none, []⟩, ⟨2, some 8, .len (.tmp 7), none, []⟩, ⟨3, some 9, .bin .lss (.tmp 6) (.tmp 8), none, []⟩])
  (.cond (.tmp 9) (.skip) (.exit 0)))
  (.seq (.block 1 (.ops [⟨0, some 12, .mv (.tmp 0), none, []⟩, ⟨1, some 13, .mv (.tmp 5), none, []⟩, ⟨2, some 14, .ia (.tmp 12) (.tmp 13), none, []⟩, ⟨3, some 15, .ld (.tmp 14), none, []⟩, ⟨4, some 16, .mv (.tmp 1), none, []⟩, ⟨5, some 17, .call n_w_markFloat32S [.tmp 15, .tmp 16], none, []⟩, ⟨6, some 1, .mv (.tmp 17), none, []⟩]))
  (.keep [0, 1, 5] (.ops [⟨0, some 10, .mv (.tmp 5), none, []⟩, ⟨1, some 11, .bin .add (.tmp 10) (.const (.int .i64 1)), none, []⟩, ⟨2, some 5, .mv (.tmp 11), none, []⟩])))))))
  (.seq (.keep [1] (.ops [⟨0, some 18, .mv (.tmp 1), none, []⟩, ⟨1, some 4, .mv (.tmp 18), none, []⟩]))
  (.ret)))
theorem k_w_markFloat32SS : FnOk Try.prog n_w_markFloat32SS 2 c_w_markFloat32SS [.tmp 4] := ⟨by kernel_rfl⟩
def c_w_markFloat32S : ACode :=
  .seq (.ops [⟨0, some 4, .mv (.const (.int .i64 0)), none, []⟩])
  (.seq (.seq (.ops [⟨0, some 5, .mv (.const (.int .i64 0)), none, []⟩])
  (.block 0 (.loop [0, 1, 5] (.seq (.seq (.ops [⟨0, some 6, .mv (.tmp 5), none, []⟩, ⟨1, some 7, .mv (.tmp 0), none, []⟩, ⟨2, some 8, .len (.tmp 7), none, []⟩, ⟨3, some 9, .bin .lss (.tmp 6) (.tmp 8), none, []⟩])
  (.cond (.tmp 9) (.skip) (.exit 0)))
  (.seq (.block 1 (.seq (.ops [⟨0, some 12, .mv (.tmp 0), none, []⟩, ⟨1, some 13, .mv (.tmp 5), none, []⟩, ⟨2, some 14, .mv (.tmp 1), none, []⟩, ⟨3, some 15, .cv (.f .f32) (.tmp 14), none, []⟩, ⟨4, some 16, .ia (.tmp 12) (.tmp 13), none, []⟩, ⟨5, none, .st (.tmp 16) (.tmp 15), none, []⟩])
  (.keep [0, 1, 5] (.ops [⟨0, some 17, .mv (.tmp 1), none, []⟩, ⟨1, some 18, .bin .add (.tmp 17) (.const (.int .i64 1)), none, []⟩, ⟨2, some 1, .mv (.tmp 18), none, []⟩]))))
  (.ops [⟨0, some 10, .mv (.tmp 5), none, []⟩, ⟨1, some 11, .bin .add (.tmp 10) (.const (.int .i64 1)), none, []⟩, ⟨2, some 5, .mv (.tmp 11), none, []⟩]))))))
  (.seq (.keep [1] (.ops [⟨0, some 19, .mv (.tmp 1), none, []⟩, ⟨1, some 4, .mv (.tmp 19), none, []⟩]))
  (.ret)))
theorem k_w_markFloat32S : FnOk Try.prog n_w_markFloat32S 2 c_w_markFloat32S [.tmp 4] := ⟨by kernel_rfl⟩
def c_s_RidgeOf : ACode :=
  .seq (.ops [⟨0, some 2, .mv (.const (.slice none 0 0)), none, []⟩, ⟨1, some 3, .mv (.const (.bool false)), none, []⟩])
  (.seq (.seq (.ops [⟨0, some 8, .mv (.tmp 0), none, []⟩, ⟨1, some 9, .call n_s_l03Rows [.tmp 8, .const (.int .i64 12)], none, []⟩, ⟨2, some 10, .un .not (.tmp 9), none, []⟩])
  (.cond (.tmp 10) (.seq (.keep [] (.ops [⟨0, some 2, .mv (.const (.slice none 0 0)), none, []⟩, ⟨1, some 3, .mv (.const (.bool false)), none, []⟩]))
  (.ret)) (.skip)))
  (.seq (.keep [0] (.ops [⟨0, some 11, .bsl 2 0 (.int .i64 0) [], none, []⟩, ⟨1, some 4, .mv (.tmp 11), none, []⟩]))
  (.seq (.seq (.ops [⟨0, some 12, .mv (.tmp 0), none, []⟩, ⟨1, some 13, .ia (.tmp 12) (.const (.int .i64 0)), none, []⟩, ⟨2, some 14, .ld (.tmp 13), none, []⟩, ⟨3, some 15, .len (.tmp 14), none, []⟩, ⟨4, some 16, .mv (.const (.int .i64 0)), none, []⟩])
  (.block 0 (.loop [0, 4, 15, 16] (.seq (.ops [⟨0, some 17, .bin .lss (.tmp 16) (.tmp 15), none, []⟩])
  (.seq (.cond (.tmp 17) (.skip) (.exit 0))
  (.seq (.block 1 (.seq (.ops [⟨0, some 18, .mv (.tmp 16), none, []⟩, ⟨1, some 5, .mv (.tmp 18), none, []⟩])
  (.seq (.ops [⟨0, some 6, .mv (.const (.int .i64 0)), none, []⟩])
  (.seq (.seq (.ops [⟨0, some 19, .mv (.tmp 0), none, []⟩, ⟨1, some 20, .len (.tmp 19), none, []⟩, ⟨2, some 21, .mv (.const (.int .i64 0)), none, []⟩])
  (.block 2 (.loop [0, 4, 5, 6, 15, 16, 20, 21] (.seq (.ops [⟨0, some 22, .bin .lss (.tmp 21) (.tmp 20), none, []⟩])
  (.seq (.cond (.tmp 22) (.skip) (.exit 2))
  (.seq (.block 3 (.seq (.ops [⟨0, some 23, .mv (.tmp 21), none, []⟩, ⟨1, some 7, .mv (.tmp 23), none, []⟩])
  (.seq (.ops [⟨0, some 24, .mv (.tmp 0), none, []⟩, ⟨1, some 25, .mv (.tmp 7), none, []⟩, ⟨2, some 26, .ia (.tmp 24) (.tmp 25), none, []⟩, ⟨3, some 27, .ld (.tmp 26), none, []⟩, ⟨4, some 28, .mv (.tmp 5), none, []⟩, ⟨5, some 29, .ia (.tmp 27) (.tmp 28), none, []⟩, ⟨6, some 30, .ld (.tmp 29), none, []⟩, ⟨7, some 31, .mv (.tmp 0), none, []⟩, ⟨8, some 32, .mv (.tmp 6), none, []⟩, ⟨9, some 33, .ia (.tmp 31) (.tmp 32), none, []⟩, ⟨10, some 34, .ld (.tmp 33), none, []⟩, ⟨11, some 35, .mv (.tmp 5), none, []⟩, ⟨12, some 36, .ia (.tmp 34) (.tmp 35), none, []⟩, ⟨13, some 37, .ld (.tmp 36), none, []⟩, ⟨14, some 38, .bin .gtr (.tmp 30) (.tmp 37), none, []⟩])
  (.cond (.tmp 38) (.keep [0, 4, 5, 7, 15, 16, 20, 21] (.ops [⟨0, some 39, .mv (.tmp 7), none, []⟩, ⟨1, some 6, .mv (.tmp 39), none, []⟩])) (.skip)))))
  (.keep [0, 4, 5, 6, 15, 16, 20, 21] (.ops [⟨0, some 40, .bin .add (.tmp 21) (.const (.int .i64 1)), none, []⟩, ⟨1, some 21, .mv (.tmp 40), none, []⟩]))))))))
  (.ops [⟨0, some 41, .mv (.tmp 4), none, []⟩, ⟨1, some 42, .mv (.tmp 6), none, []⟩, ⟨2, some 43, .bsl 2 1 (.int .i64 0) [(0, .tmp 42)], none, []⟩, ⟨3, some 44, .app 2 8 (.tmp 41) (.tmp 43), none, []⟩, ⟨4, some 4, .mv (.tmp 44), none, []⟩])))))
  (.keep [0, 4, 15, 16] (.ops [⟨0, some 45, .bin .add (.tmp 16) (.const (.int .i64 1)), none, []⟩, ⟨1, some 16, .mv (.tmp 45), none, []⟩]))))))))
  (.seq (.ops [⟨0, some 46, .mv (.tmp 4), none, []⟩, ⟨1, some 2, .mv (.tmp 46), none, []⟩, ⟨2, some 3, .mv (.const (.bool true)), none, []⟩])
  (.ret)))))
theorem k_s_RidgeOf : FnOk Try.prog n_s_RidgeOf 1 c_s_RidgeOf [.tmp 2, .tmp 3] := ⟨by kernel_rfl⟩
def c_i_RidgeOf : ACode :=
  .seq (.ops [⟨0, some 2, .mv (.const (.slice none 0 0)), none, []⟩, ⟨1, some 3, .mv (.const (.bool false)), none, []⟩])
  (.seq (.seq (.ops [⟨0, some 9, .mv (.tmp 0), none, []⟩, ⟨1, some 10, .call n_i_areRows [.tmp 9, .const (.int .i64 12)], none, []⟩, ⟨2, some 11, .un .not (.tmp 10), none, []⟩])
  (.cond (.tmp 11) (.seq (.keep [] (.ops [⟨0, some 2, .mv (.const (.slice none 0 0)), none, []⟩, ⟨1, some 3, .mv (.const (.bool false)), none, []⟩]))
  (.ret)) (.skip)))
  (.seq (.keep [0] (.ops [⟨0, some 12, .bsl 2 0 (.int .i64 0) [], none, []⟩, ⟨1, some 4, .mv (.tmp 12), none, []⟩]))
  (.seq (.seq (.ops [⟨0, some 13, .mv (.tmp 0), none, []⟩, ⟨1, some 14, .ia (.tmp 13) (.const (.int .i64 0)), none, []⟩, ⟨2, some 15, .ld (.tmp 14), none, []⟩, ⟨3, some 16, .len (.tmp 15), none, []⟩, ⟨4, some 17, .mv (.const (.int .i64 0)), none, []⟩])
  (.block 0 (.loop [0, 4, 16, 17] (.seq (.ops [⟨0, some 18, .bin .lss (.tmp 17) (.tmp 16), none, []⟩])
  (.seq (.cond (.tmp 18) (.skip) (.exit 0))
  (.seq (.block 1 (.seq (.ops [⟨0, some 19, .mv (.tmp 17), none, []⟩, ⟨1, some 5, .mv (.tmp 19), none, []⟩])
  (.seq (.ops [⟨0, some 6, .mv (.const (.int .i64 0)), none, []⟩])
  (.seq (.seq (.ops [⟨0, some 20, .mv (.tmp 0), none, []⟩, ⟨1, some 21, .len (.tmp 20), none, []⟩, ⟨2, some 22, .mv (.const (.int .i64 0)), none, []⟩])
  (.block 2 (.loop [0, 4, 5, 6, 16, 17, 20, 21, 22] (.seq (.ops [⟨0, some 23, .bin .lss (.tmp 22) (.tmp 21), none, []⟩])
  (.seq (.cond (.tmp 23) (.skip) (.exit 2))
  (.seq (.block 3 (.seq (.ops [⟨0, some 24, .mv (.tmp 22), none, []⟩, ⟨1, some 25, .ia (.tmp 20) (.tmp 22), none, []⟩, ⟨2, some 26, .ld (.tmp 25), none, []⟩, ⟨3, some 7, .mv (.tmp 24), none, []⟩, ⟨4, some 8, .mv (.tmp 26), none, []⟩])
  (.seq (.ops [⟨0, some 27, .mv (.tmp 8), none, []⟩, ⟨1, some 28, .mv (.tmp 5), none, []⟩, ⟨2, some 29, .ia (.tmp 27) (.tmp 28), none, []⟩, ⟨3, some 30, .ld (.tmp 29), none, []⟩, ⟨4, some 31, .mv (.tmp 0), none, []⟩, ⟨5, some 32, .mv (.tmp 6), none, []⟩, ⟨6, some 33, .ia (.tmp 31) (.tmp 32), none, []⟩, ⟨7, some 34, .ld (.tmp 33), none, []⟩, ⟨8, some 35, .mv (.tmp 5), none, []⟩, ⟨9, some 36, .ia (.tmp 34) (.tmp 35), none, []⟩, ⟨10, some 37, .ld (.tmp 36), none, []⟩, ⟨11, some 38, .bin .gtr (.tmp 30) (.tmp 37), none, []⟩])
  (.cond (.tmp 38) (.keep [0, 4, 5, 7, 16, 17, 20, 21, 22] (.ops [⟨0, some 39, .mv (.tmp 7), none, []⟩, ⟨1, some 6, .mv (.tmp 39), none, []⟩])) (.skip)))))
  (.keep [0, 4, 5, 6, 16, 17, 20, 21, 22] (.ops [⟨0, some 40, .bin .add (.tmp 22) (.const (.int .i64 1)), none, []⟩, ⟨1, some 22, .mv (.tmp 40), none, []⟩]))))))))
  (.keep [0, 4, 6, 16, 17] (.ops [⟨0, some 41, .mv (.tmp 4), none, []⟩, ⟨1, some 42, .mv (.tmp 6), none, []⟩, ⟨2, some 43, .bsl 2 1 (.int .i64 0) [(0, .tmp 42)], none, []⟩, ⟨3, some 44, .app 2 8 (.tmp 41) (.tmp 43), none, []⟩, ⟨4, some 4, .mv (.tmp 44), none, []⟩]))))))
  (.keep [0, 4, 16, 17] (.ops [⟨0, some 45, .bin .add (.tmp 17) (.const (.int .i64 1)), none, []⟩, ⟨1, some 17, .mv (.tmp 45), none, []⟩]))))))))
  (.seq (.ops [⟨0, some 46, .mv (.tmp 4), none, []⟩, ⟨1, some 2, .mv (.tmp 46), none, []⟩, ⟨2, some 3, .mv (.const (.bool true)), none, []⟩])
  (.ret)))))
theorem k_i_RidgeOf : FnOk Try.prog n_i_RidgeOf 1 c_i_RidgeOf [.tmp 2, .tmp 3] := ⟨by kernel_rfl⟩
def c_w_eqInt64S : ACode :=
  .seq (.ops [⟨0, some 4, .mv (.const (.bool false)), none, []⟩])
  (.seq (.seq (.ops [⟨0, some 6, .mv (.tmp 0), none, []⟩, ⟨1, some 7, .len (.tmp 6), none, []⟩, ⟨2, some 8, .mv (.tmp 1), none, []⟩, ⟨3, some 9, .len (.tmp 8), none, []⟩, ⟨4, some 10, .bin .neq (.tmp 7) (.tmp 9), none, []⟩])
  (.cond (.tmp 10) (.seq (.keep [] (.ops [⟨0, some 4, .mv (.const (.bool false)), none, []⟩]))
  (.ret)) (.skip)))
  (.seq (.seq (.keep [0, 1] (.ops [⟨0, some 5, .mv (.const (.int .i64 0)), none, []⟩]))
  (.block 0 (.loop [0, 1, 5] (.seq (.seq (.ops [⟨0, some 11, .mv (.tmp 5), none, []⟩, ⟨1, some 12, .mv (.tmp 0), none, []⟩, ⟨2, some 13, .len (.tmp 12), none, []⟩, ⟨3, some 14, .bin .lss (.tmp 11) (.tmp 13), none, []⟩])
  (.cond (.tmp 14) (.skip) (.exit 0)))
  (.seq (.block 1 (.seq (.ops [⟨0, some 17, .mv (.tmp 0), none, []⟩, ⟨1, some 18, .mv (.tmp 5), none, []⟩, ⟨2, some 19, .ia (.tmp 17) (.tmp 18), none, []⟩, ⟨3, some 20, .ld (.tmp 19), none, []⟩, ⟨4, some 21, .mv (.tmp 1), none, []⟩, ⟨5, some 22, .mv (.tmp 5), none, []⟩, ⟨6, some 23, .ia (.tmp 21) (.tmp 22), none, []⟩, ⟨7, some 24, .ld (.tmp 23), none, []⟩, ⟨8, some 25, .bin .neq (.tmp 20) (.tmp 24), none, []⟩])
  (.cond (.tmp 25) (.seq (.keep [] (.ops [⟨0, some 4, .mv (.const (.bool false)), none, []⟩]))
  (.ret)) (.skip))))
  (.keep [0, 1, 5] (.ops [⟨0, some 15, .mv (.tmp 5), none, []⟩, ⟨1, some 16, .bin .add (.tmp 15) (.const (.int .i64 1)), none, []⟩, ⟨2, some 5, .mv (.tmp 16), none, []⟩])))))))
  (.seq (.keep [] (.ops [⟨0, some 4, .mv (.const (.bool true)), none, []⟩]))
  (.ret))))
theorem k_w_eqInt64S : FnOk Try.prog n_w_eqInt64S 2 c_w_eqInt64S [.tmp 4] := ⟨by kernel_rfl⟩
def c_w_markInt64S : ACode :=
  .seq (.ops [⟨0, some 4, .mv (.const (.int .i64 0)), none, []⟩])
  (.seq (.seq (.ops [⟨0, some 5, .mv (.const (.int .i64 0)), none, []⟩])
  (.block 0 (.loop [0, 1, 5] (.seq (.seq (.ops [⟨0, some 6, .mv (.tmp 5), none, []⟩, ⟨1, some 7, .mv (.tmp 0), none, []⟩, ⟨2, some 8, .len (.tmp 7), none, []⟩, ⟨3, some 9, .bin .lss (.tmp 6) (.tmp 8), none, []⟩])
  (.cond (.tmp 9) (.skip) (.exit 0)))
  (.seq (.block 1 (.seq (.ops [⟨0, some 12, .mv (.tmp 0), none, []⟩, ⟨1, some 13, .mv (.tmp 5), none, []⟩, ⟨2, some 14, .mv (.tmp 1), none, []⟩, ⟨3, some 15, .ia (.tmp 12) (.tmp 13), none, []⟩, ⟨4, none, .st (.tmp 15) (.tmp 14), none, []⟩])
  (.keep [0, 1, 5] (.ops [⟨0, some 16, .mv (.tmp 1), none, []⟩, ⟨1, some 17, .bin .add (.tmp 16) (.const (.int .i64 1)), none, []⟩, ⟨2, some 1, .mv (.tmp 17), none, []⟩]))))
  (.ops [⟨0, some 10, .mv (.tmp 5), none, []⟩, ⟨1, some 11, .bin .add (.tmp 10) (.const (.int .i64 1)), none, []⟩, ⟨2, some 5, .mv (.tmp 11), none, []⟩]))))))
  (.seq (.keep [1] (.ops [⟨0, some 18, .mv (.tmp 1), none, []⟩, ⟨1, some 4, .mv (.tmp 18), none, []⟩]))
  (.ret)))
theorem k_w_markInt64S : FnOk Try.prog n_w_markInt64S 2 c_w_markInt64S [.tmp 4] := ⟨by kernel_rfl⟩
def c_w_heldInt64S : ACode :=
  .seq (.ops [⟨0, some 4, .mv (.const (.int .i64 0)), none, []⟩])
  (.seq (.seq (.ops [⟨0, some 5, .mv (.const (.int .i64 0)), none, []⟩])
  (.block 0 (.loop [0, 1, 5] (.seq (.seq (.ops [⟨0, some 6, .mv (.tmp 5), none, []⟩, ⟨1, some 7, .mv (.tmp 0), none, []⟩, ⟨2, some 8, .len (.tmp 7), none, []⟩, ⟨3, some 9, .bin .lss (.tmp 6) (.tmp 8), none, []⟩])
  (.cond (.tmp 9) (.skip) (.exit 0)))
  (.seq (.block 1 (.seq (.seq (.ops [⟨0, some 12, .mv (.tmp 0), none, []⟩, ⟨1, some 13, .mv (.tmp 5), none, []⟩, ⟨2, some 14, .ia (.tmp 12) (.tmp 13), none, []⟩, ⟨3, some 15, .ld (.tmp 14), none, []⟩, ⟨4, some 16, .mv (.tmp 1), none, []⟩, ⟨5, some 17, .bin .neq (.tmp 15) (.tmp 16), none, []⟩])
  (.cond (.tmp 17) (.seq (.keep [] (.ops [⟨0, some 4, .mv (.const (.int .i64 (-1))), none, []⟩]))
  (.ret)) (.skip)))
  (.keep [0, 1, 5] (.ops [⟨0, some 18, .mv (.tmp 1), none, []⟩, ⟨1, some 19, .bin .add (.tmp 18) (.const (.int .i64 1)), none, []⟩, ⟨2, some 1, .mv (.tmp 19), none, []⟩]))))
  (.ops [⟨0, some 10, .mv (.tmp 5), none, []⟩, ⟨1, some 11, .bin .add (.tmp 10) (.const (.int .i64 1)), none, []⟩, ⟨2, some 5, .mv (.tmp 11), none, []⟩]))))))
  (.seq (.keep [1] (.ops [⟨0, some 20, .mv (.tmp 1), none, []⟩, ⟨1, some 4, .mv (.tmp 20), none, []⟩]))
  (.ret)))
theorem k_w_heldInt64S : FnOk Try.prog n_w_heldInt64S 2 c_w_heldInt64S [.tmp 4] := ⟨by kernel_rfl⟩
def c_w_szFloat32S : ACode :=
  .seq (.ops [⟨0, some 4, .mv (.const (.int .i64 0)), none, []⟩])
  (.seq (.ops [⟨0, some 5, .mv (.tmp 1), none, []⟩, ⟨1, some 6, .mv (.tmp 0), none, []⟩, ⟨2, some 7, .len (.tmp 6), none, []⟩, ⟨3, some 8, .bin .sub (.tmp 5) (.tmp 7), none, []⟩, ⟨4, some 1, .mv (.tmp 8), none, []⟩])
  (.seq (.seq (.keep [1] (.ops [⟨0, some 9, .mv (.tmp 1), none, []⟩, ⟨1, some 10, .bin .lss (.tmp 9) (.const (.int .i64 0)), none, []⟩]))
  (.cond (.tmp 10) (.seq (.ops [⟨0, some 4, .mv (.const (.int .i64 (-1))), none, []⟩])
  (.ret)) (.skip)))
  (.seq (.ops [⟨0, some 11, .mv (.tmp 1), none, []⟩, ⟨1, some 4, .mv (.tmp 11), none, []⟩])
  (.ret))))
theorem k_w_szFloat32S : FnOk Try.prog n_w_szFloat32S 2 c_w_szFloat32S [.tmp 4] := ⟨by kernel_rfl⟩
def c_w_toFloat32S : ACode :=
  .seq (.ops [⟨0, some 2, .mv (.const (.slice none 0 0)), none, []⟩])
  (.seq (.ops [⟨0, some 5, .mv (.tmp 0), none, []⟩, ⟨1, some 6, .len (.tmp 5), none, []⟩, ⟨2, some 7, .mks 45 4 (.float .f32 0) (.tmp 6) (.tmp 6), none, []⟩, ⟨3, some 3, .mv (.tmp 7), none, []⟩])
  (.seq (.seq (.ops [⟨0, some 4, .mv (.const (.int .i64 0)), none, []⟩])
  (.block 0 (.loop [0, 3, 4] (.seq (.seq (.ops [⟨0, some 8, .mv (.tmp 4), none, []⟩, ⟨1, some 9, .mv (.tmp 0), none, []⟩, ⟨2, some 10, .len (.tmp 9), none, []⟩, ⟨3, some 11, .bin .lss (.tmp 8) (.tmp 10), none, []⟩])
  (.cond (.tmp 11) (.skip) (.exit 0)))
  (.seq (.block 1 (.ops [⟨0, some 14, .mv (.tmp 3), none, []⟩, ⟨1, some 15, .mv (.tmp 4), none, []⟩, ⟨2, some 16, .mv (.tmp 0), none, []⟩, ⟨3, some 17, .mv (.tmp 4), none, []⟩, ⟨4, some 18, .ia (.tmp 16) (.tmp 17), none, []⟩, ⟨5, some 19, .ld (.tmp 18), none, []⟩, ⟨6, some 20, .ia (.tmp 14) (.tmp 15), none, []⟩, ⟨7, none, .st (.tmp 20) (.tmp 19), none, []⟩]))
  (.keep [0, 3, 4] (.ops [⟨0, some 12, .mv (.tmp 4), none, []⟩, ⟨1, some 13, .bin .add (.tmp 12) (.const (.int .i64 1)), none, []⟩, ⟨2, some 4, .mv (.tmp 13), none, []⟩])))))))
  (.seq (.keep [3] (.ops [⟨0, some 21, .mv (.tmp 3), none, []⟩, ⟨1, some 2, .mv (.tmp 21), none, []⟩]))
  (.ret))))
theorem k_w_toFloat32S : FnOk Try.prog n_w_toFloat32S 1 c_w_toFloat32S [.tmp 2] := ⟨by kernel_rfl⟩
def c_i_within : ACode :=
  .seq (.ops [⟨0, some 6, .mv (.const (.bool false)), none, []⟩])
  (.seq (.ops [⟨0, some 7, .mv (.tmp 0), none, []⟩, ⟨1, some 8, .mv (.tmp 1), none, []⟩, ⟨2, some 9, .bin .geq (.tmp 7) (.tmp 8), none, []⟩, ⟨3, some 10, .mv (.tmp 9), none, []⟩, ⟨4, some 11, .mv (.tmp 0), (some (10, true)), []⟩, ⟨5, some 12, .mv (.tmp 2), (some (10, true)), []⟩, ⟨6, some 13, .bin .leq (.tmp 11) (.tmp 12), (some (10, true)), []⟩, ⟨7, some 14, .pick (.tmp 10) (.tmp 13) (.const (.bool false)), none, []⟩, ⟨8, some 6, .mv (.tmp 14), none, []⟩])
  (.ret))
theorem k_i_within : FnOk Try.prog n_i_within 3 c_i_within [.tmp 6] := ⟨by kernel_rfl⟩
def c_i_areFinite : ACode :=
  .seq (.ops [⟨0, some 2, .mv (.const (.bool false)), none, []⟩])
  (.seq (.seq (.ops [⟨0, some 7, .mv (.tmp 0), none, []⟩, ⟨1, some 8, .len (.tmp 7), none, []⟩, ⟨2, some 9, .mv (.const (.int .i64 0)), none, []⟩])
  (.block 0 (.loop [7, 8, 9] (.seq (.ops [⟨0, some 10, .bin .lss (.tmp 9) (.tmp 8), none, []⟩])
  (.seq (.cond (.tmp 10) (.skip) (.exit 0))
  (.seq (.block 1 (.seq (.ops [⟨0, some 11, .ia (.tmp 7) (.tmp 9), none, []⟩, ⟨1, some 12, .ld (.tmp 11), none, []⟩, ⟨2, some 4, .mv (.tmp 12), none, []⟩])
  (.seq (.ops [⟨0, some 13, .mv (.tmp 4), none, []⟩, ⟨1, some 14, .len (.tmp 13), none, []⟩, ⟨2, some 15, .mv (.const (.int .i64 0)), none, []⟩])
  (.block 2 (.loop [7, 8, 9, 13, 14, 15] (.seq (.ops [⟨0, some 16, .bin .lss (.tmp 15) (.tmp 14), none, []⟩])
  (.seq (.cond (.tmp 16) (.skip) (.exit 2))
  (.seq (.block 3 (.seq (.ops [⟨0, some 17, .ia (.tmp 13) (.tmp 15), none, []⟩, ⟨1, some 18, .ld (.tmp 17), none, []⟩, ⟨2, some 6, .mv (.tmp 18), none, []⟩])
  (.seq (.ops [⟨0, some 19, .mv (.tmp 6), none, []⟩, ⟨1, some 20, .call n_i_IsFinite [.tmp 19], none, []⟩, ⟨2, some 21, .un .not (.tmp 20), none, []⟩])
  (.cond (.tmp 21) (.seq (.keep [] (.ops [⟨0, some 2, .mv (.const (.bool false)), none, []⟩]))
  (.ret)) (.skip)))))
  (.keep [7, 8, 9, 13, 14, 15] (.ops [⟨0, some 22, .bin .add (.tmp 15) (.const (.int .i64 1)), none, []⟩, ⟨1, some 15, .mv (.tmp 22), none, []⟩]))))))))))
  (.ops [⟨0, some 23, .bin .add (.tmp 9) (.const (.int .i64 1)), none, []⟩, ⟨1, some 9, .mv (.tmp 23), none, []⟩])))))))
  (.seq (.ops [⟨0, some 2, .mv (.const (.bool true)), none, []⟩])
  (.ret)))
theorem k_i_areFinite : FnOk Try.prog n_i_areFinite 1 c_i_areFinite [.tmp 2] := ⟨by kernel_rfl⟩
def c_s_l03Rows : ACode :=
  .seq (.ops [⟨0, some 4, .mv (.const (.bool false)), none, []⟩])
  (.seq (.seq (.ops [⟨0, some 6, .mv (.tmp 0), none, []⟩, ⟨1, some 7, .len (.tmp 6), none, []⟩, ⟨2, some 8, .bin .lss (.tmp 7) (.const (.int .i64 1)), none, []⟩, ⟨3, some 9, .mv (.tmp 8), none, []⟩, ⟨4, some 10, .mv (.tmp 0), (some (9, false)), []⟩, ⟨5, some 11, .len (.tmp 10), (some (9, false)), []⟩, ⟨6, some 12, .mv (.tmp 1), (some (9, false)), []⟩, ⟨7, some 13, .bin .gtr (.tmp 11) (.tmp 12), (some (9, false)), []⟩, ⟨8, some 14, .pick (.tmp 9) (.const (.bool true)) (.tmp 13), none, []⟩])
  (.cond (.tmp 14) (.seq (.keep [] (.ops [⟨0, some 4, .mv (.const (.bool false)), none, []⟩]))
  (.ret)) (.skip)))
  (.seq (.seq (.keep [0] (.ops [⟨0, some 15, .mv (.tmp 0), none, []⟩, ⟨1, some 16, .len (.tmp 15), none, []⟩, ⟨2, some 17, .mv (.const (.int .i64 0)), none, []⟩]))
  (.block 0 (.loop [0, 16, 17] (.seq (.ops [⟨0, some 18, .bin .lss (.tmp 17) (.tmp 16), none, []⟩])
  (.seq (.cond (.tmp 18) (.skip) (.exit 0))
  (.seq (.block 1 (.seq (.ops [⟨0, some 19, .mv (.tmp 17), none, []⟩, ⟨1, some 5, .mv (.tmp 19), none, []⟩])
  (.seq (.ops [⟨0, some 20, .mv (.tmp 0), none, []⟩, ⟨1, some 21, .mv (.tmp 5), none, []⟩, ⟨2, some 22, .ia (.tmp 20) (.tmp 21), none, []⟩, ⟨3, some 23, .ld (.tmp 22), none, []⟩, ⟨4, some 24, .call n_s_l03Long [.tmp 23], none, []⟩, ⟨5, some 25, .un .not (.tmp 24), none, []⟩, ⟨6, some 26, .mv (.tmp 25), none, []⟩, ⟨7, some 27, .mv (.tmp 0), (some (26, false)), []⟩, ⟨8, some 28, .mv (.tmp 5), (some (26, false)), []⟩, ⟨9, some 29, .ia (.tmp 27) (.tmp 28), (some (26, false)), []⟩, ⟨10, some 30, .ld (.tmp 29), (some (26, false)), []⟩, ⟨11, some 31, .len (.tmp 30), (some (26, false)), []⟩, ⟨12, some 32, .mv (.tmp 0), (some (26, false)), []⟩, ⟨13, some 33, .ia (.tmp 32) (.const (.int .i64 0)), (some (26, false)), []⟩, ⟨14, some 34, .ld (.tmp 33), (some (26, false)), []⟩, ⟨15, some 35, .len (.tmp 34), (some (26, false)), []⟩, ⟨16, some 36, .bin .neq (.tmp 31) (.tmp 35), (some (26, false)), []⟩, ⟨17, some 37, .pick (.tmp 26) (.const (.bool true)) (.tmp 36), none, []⟩])
  (.cond (.tmp 37) (.seq (.keep [] (.ops [⟨0, some 4, .mv (.const (.bool false)), none, []⟩]))
  (.ret)) (.skip)))))
  (.keep [0, 16, 17] (.ops [⟨0, some 38, .bin .add (.tmp 17) (.const (.int .i64 1)), none, []⟩, ⟨1, some 17, .mv (.tmp 38), none, []⟩]))))))))
  (.seq (.ops [⟨0, some 4, .mv (.const (.bool true)), none, []⟩])
  (.ret))))
theorem k_s_l03Rows : FnOk Try.prog n_s_l03Rows 2 c_s_l03Rows [.tmp 4] := ⟨by kernel_rfl⟩
def c_s_l02Finite : ACode :=
  .seq (.ops [⟨0, some 2, .mv (.const (.bool false)), none, []⟩])
  (.seq (.seq (.ops [⟨0, some 3, .mv (.const (.int .i64 0)), none, []⟩])
  (.block 0 (.loop [0, 3] (.seq (.seq (.ops [⟨0, some 4, .mv (.tmp 3), none, []⟩, ⟨1, some 5, .mv (.tmp 0), none, []⟩, ⟨2, some 6, .len (.tmp 5), none, []⟩, ⟨3, some 7, .bin .lss (.tmp 4) (.tmp 6), none, []⟩])
  (.cond (.tmp 7) (.skip) (.exit 0)))
  (.seq (.block 1 (.seq (.ops [⟨0, some 10, .mv (.tmp 0), none, []⟩, ⟨1, some 11, .mv (.tmp 3), none, []⟩, ⟨2, some 12, .ia (.tmp 10) (.tmp 11), none, []⟩, ⟨3, some 13, .ld (.tmp 12), none, []⟩, ⟨4, some 14, .call n_s_l01Finite [.tmp 13], none, []⟩, ⟨5, some 15, .un .not (.tmp 14), none, []⟩])
  (.cond (.tmp 15) (.seq (.keep [] (.ops [⟨0, some 2, .mv (.const (.bool false)), none, []⟩]))
  (.ret)) (.skip))))
  (.keep [0, 3] (.ops [⟨0, some 8, .mv (.tmp 3), none, []⟩, ⟨1, some 9, .bin .add (.tmp 8) (.const (.int .i64 1)), none, []⟩, ⟨2, some 3, .mv (.tmp 9), none, []⟩])))))))
  (.seq (.keep [] (.ops [⟨0, some 2, .mv (.const (.bool true)), none, []⟩]))
  (.ret)))
theorem k_s_l02Finite : FnOk Try.prog n_s_l02Finite 1 c_s_l02Finite [.tmp 2] := ⟨by kernel_rfl⟩
def c_i_areRows : ACode :=
  .seq (.ops [⟨0, some 4, .mv (.const (.bool false)), none, []⟩])
  (.seq (.seq (.ops [⟨0, some 7, .mv (.tmp 0), none, []⟩, ⟨1, some 8, .len (.tmp 7), none, []⟩, ⟨2, some 9, .mv (.tmp 1), none, []⟩, ⟨3, some 10, .call n_i_within [.tmp 8, .const (.int .i64 1), .tmp 9], none, []⟩, ⟨4, some 11, .un .not (.tmp 10), none, []⟩, ⟨5, some 12, .mv (.tmp 11), none, []⟩, ⟨6, some 13, .mv (.tmp 0), (some (12, false)), []⟩, ⟨7, some 14, .call n_i_areFinite [.tmp 13], (some (12, false)), []⟩, ⟨8, some 15, .un .not (.tmp 14), (some (12, false)), []⟩, ⟨9, some 16, .pick (.tmp 12) (.const (.bool true)) (.tmp 15), none, []⟩])
  (.cond (.tmp 16) (.seq (.keep [] (.ops [⟨0, some 4, .mv (.const (.bool false)), none, []⟩]))
  (.ret)) (.skip)))
  (.seq (.seq (.keep [0] (.ops [⟨0, some 17, .mv (.tmp 0), none, []⟩, ⟨1, some 18, .len (.tmp 17), none, []⟩, ⟨2, some 19, .mv (.const (.int .i64 0)), none, []⟩]))
  (.block 0 (.loop [0, 17, 18, 19] (.seq (.ops [⟨0, some 20, .bin .lss (.tmp 19) (.tmp 18), none, []⟩])
  (.seq (.cond (.tmp 20) (.skip) (.exit 0))
  (.seq (.block 1 (.seq (.ops [⟨0, some 21, .ia (.tmp 17) (.tmp 19), none, []⟩, ⟨1, some 22, .ld (.tmp 21), none, []⟩, ⟨2, some 6, .mv (.tmp 22), none, []⟩])
  (.seq (.ops [⟨0, some 23, .mv (.tmp 6), none, []⟩, ⟨1, some 24, .len (.tmp 23), none, []⟩, ⟨2, some 25, .mv (.tmp 0), none, []⟩, ⟨3, some 26, .ia (.tmp 25) (.const (.int .i64 0)), none, []⟩, ⟨4, some 27, .ld (.tmp 26), none, []⟩, ⟨5, some 28, .len (.tmp 27), none, []⟩, ⟨6, some 29, .bin .neq (.tmp 24) (.tmp 28), none, []⟩, ⟨7, some 30, .mv (.tmp 29), none, []⟩, ⟨8, some 31, .mv (.tmp 6), (some (30, false)), []⟩, ⟨9, some 32, .len (.tmp 31), (some (30, false)), []⟩, ⟨10, some 33, .call n_i_within [.tmp 32, .const (.int .i64 1), .const (.int .i64 128)], (some (30, false)), []⟩, ⟨11, some 34, .un .not (.tmp 33), (some (30, false)), []⟩, ⟨12, some 35, .pick (.tmp 30) (.const (.bool true)) (.tmp 34), none, []⟩])
  (.cond (.tmp 35) (.seq (.keep [] (.ops [⟨0, some 4, .mv (.const (.bool false)), none, []⟩]))
  (.ret)) (.skip)))))
  (.keep [0, 17, 18, 19] (.ops [⟨0, some 36, .bin .add (.tmp 19) (.const (.int .i64 1)), none, []⟩, ⟨1, some 19, .mv (.tmp 36), none, []⟩]))))))))
  (.seq (.keep [] (.ops [⟨0, some 4, .mv (.const (.bool true)), none, []⟩]))
  (.ret))))
theorem k_i_areRows : FnOk Try.prog n_i_areRows 2 c_i_areRows [.tmp 4] := ⟨by kernel_rfl⟩
def c_i_IsFinite : ACode :=
  .seq (.ops [⟨0, some 2, .mv (.const (.bool false)), none, []⟩])
  (.seq (.ops [⟨0, some 3, .mv (.tmp 0), none, []⟩, ⟨1, some 4, .mv (.tmp 0), none, []⟩, ⟨2, some 5, .bin .sub (.tmp 3) (.tmp 4), none, []⟩, ⟨3, some 6, .bin .eql (.tmp 5) (.const (.float .f32 0)), none, []⟩, ⟨4, some 2, .mv (.tmp 6), none, []⟩])
  (.ret))
theorem k_i_IsFinite : FnOk Try.prog n_i_IsFinite 1 c_i_IsFinite [.tmp 2] := ⟨by kernel_rfl⟩
def c_s_l03Long : ACode :=
  .seq (.ops [⟨0, some 2, .mv (.const (.bool false)), none, []⟩])
  (.seq (.ops [⟨0, some 3, .mv (.tmp 0), none, []⟩, ⟨1, some 4, .len (.tmp 3), none, []⟩, ⟨2, some 5, .bin .geq (.tmp 4) (.const (.int .i64 1)), none, []⟩, ⟨3, some 6, .mv (.tmp 5), none, []⟩, ⟨4, some 7, .mv (.tmp 0), (some (6, true)), []⟩, ⟨5, some 8, .len (.tmp 7), (some (6, true)), []⟩, ⟨6, some 9, .bin .leq (.tmp 8) (.const (.int .i64 128)), (some (6, true)), []⟩, ⟨7, some 10, .pick (.tmp 6) (.tmp 9) (.const (.bool false)), none, []⟩, ⟨8, some 11, .mv (.tmp 10), none, []⟩, ⟨9, some 12, .mv (.tmp 0), (some (11, true)), []⟩, ⟨10, some 13, .call n_s_l02Finite [.tmp 12], (some (11, true)), []⟩, ⟨11, some 14, .pick (.tmp 11) (.tmp 13) (.const (.bool false)), none, []⟩, ⟨12, some 2, .mv (.tmp 14), none, []⟩])
  (.ret))
theorem k_s_l03Long : FnOk Try.prog n_s_l03Long 1 c_s_l03Long [.tmp 2] := ⟨by kernel_rfl⟩
def c_s_l01Finite : ACode :=
  .seq (.ops [⟨0, some 2, .mv (.const (.bool false)), none, []⟩])
  (.seq (.ops [⟨0, some 3, .mv (.tmp 0), none, []⟩, ⟨1, some 4, .mv (.tmp 0), none, []⟩, ⟨2, some 5, .bin .sub (.tmp 3) (.tmp 4), none, []⟩, ⟨3, some 6, .bin .eql (.tmp 5) (.const (.float .f32 0)), none, []⟩, ⟨4, some 2, .mv (.tmp 6), none, []⟩])
  (.ret))
theorem k_s_l01Finite : FnOk Try.prog n_s_l01Finite 1 c_s_l01Finite [.tmp 2] := ⟨by kernel_rfl⟩
end Go.Proofs.Ytkojmlpaamdhoab

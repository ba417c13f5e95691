/- The code of functions, for the abstract machine; printed by a program (gen.py). -/
import Derived.Test.YtkojmlpaamdhoaeGxFn
import Derived.Test.YtkojmlpaamdhoaeProg
namespace Go.Proofs.Ytkojmlpaamdhoae
open Go.Gx
set_option maxRecDepth 100000
abbrev t_int64 : Nat := 2
abbrev t_int : Nat := 3
abbrev t_bool : Nat := 4
abbrev t_uint8 : Nat := 5
abbrev t_ssint64 : Nat := 22
abbrev t_sint64 : Nat := 24
abbrev t_sfloat32 : Nat := 32
abbrev t_ssfloat32 : Nat := 33
abbrev t_float32 : Nat := 37
abbrev t_float64 : Nat := 43
abbrev t_scomplex64 : Nat := 71
abbrev t_suint8 : Nat := 84
abbrev t_sbool : Nat := 90
abbrev t_sint : Nat := 95
abbrev t_complex64 : Nat := 126
abbrev t_Bands : Nat := 40
abbrev t_Pair : Nat := 51
abbrev t_Scheme : Nat := 64
abbrev n_w_FnExactBandAlone : Nat := 8
abbrev n_w_szBands : Nat := 21
abbrev n_w_toBands : Nat := 23
abbrev n_w_sameFloat : Nat := 25
abbrev n_w_eqBands : Nat := 26
abbrev n_w_szPair : Nat := 27
abbrev n_w_toPair : Nat := 29
abbrev n_i_JoinLevels : Nat := 30
abbrev n_w_eqFloat32S : Nat := 31
abbrev n_w_eqPair : Nat := 32
abbrev n_w_markBands : Nat := 33
abbrev n_w_markPair : Nat := 34
abbrev n_w_markFloat32S : Nat := 35
abbrev n_w_heldFloat32S : Nat := 36
abbrev n_w_szFloat32SS : Nat := 38
abbrev n_w_toFloat32SS : Nat := 41
abbrev n_w_eqFloat32SS : Nat := 44
abbrev n_w_markFloat32SS : Nat := 46
abbrev n_s_BandAlone : Nat := 52
abbrev n_i_BandAlone : Nat := 53
abbrev n_w_toFloat32S : Nat := 55
abbrev n_i_within : Nat := 75
abbrev n_w_szFloat32S : Nat := 80
abbrev n_s_l03Bands : Nat := 87
abbrev n_s_l03Pair : Nat := 88
abbrev n_s_l03Levels : Nat := 89
abbrev n_i_ValidBands : Nat := 90
abbrev n_i_ValidPair : Nat := 91
abbrev n_i_JoinRing : Nat := 92
abbrev n_i_copyOf : Nat := 98
abbrev n_s_l00In : Nat := 106
abbrev n_s_l03Keep : Nat := 107
abbrev n_i_KeepBands : Nat := 108
abbrev n_s_l02Finite : Nat := 139
abbrev n_s_l01Finite : Nat := 142
abbrev n_i_squares : Nat := 143
abbrev n_i_finiteList : Nat := 144
abbrev n_i_IsFinite : Nat := 147
abbrev n_s_l03Join : Nat := 149
abbrev n_i_areFinite : Nat := 150
abbrev n_i_size : Nat := 151
abbrev n_i_highOf : Nat := 152
abbrev n_i_kept : Nat := 166
abbrev n_s_l03High : Nat := 177
def c_w_FnExactBandAlone : ACode :=
  .seq (.ops [⟨0, some 3, .box 35 (.tmp 0), none, []⟩, ⟨1, some 4, .box 47 (.tmp 1), none, []⟩, ⟨2, some 6, .mv (.const (.bool false)), none, []⟩])
  (.seq (.ops [⟨0, some 7, .mv (.const (.int .i64 1048576)), none, []⟩])
  (.seq (.ops [⟨0, some 19, .ldn 2 (.tmp 3), none, []⟩, ⟨1, some 20, .mv (.tmp 7), none, []⟩, ⟨2, some 21, .call n_w_szBands [.tmp 19, .tmp 20], none, []⟩, ⟨3, some 7, .mv (.tmp 21), none, []⟩])
  (.seq (.seq (.keep [2, 3, 4, 7] (.ops [⟨0, some 22, .mv (.tmp 7), none, []⟩, ⟨1, some 23, .bin .lss (.tmp 22) (.const (.int .i64 0)), none, []⟩]))
  (.cond (.tmp 23) (.seq (.keep [] (.ops [⟨0, some 6, .mv (.const (.bool true)), none, []⟩]))
  (.ret)) (.skip)))
  (.seq (.ops [⟨0, some 24, .ldn 1 (.tmp 4), none, []⟩, ⟨1, some 25, .mv (.tmp 7), none, []⟩, ⟨2, some 26, .call n_w_szPair [.tmp 24, .tmp 25], none, []⟩, ⟨3, some 7, .mv (.tmp 26), none, []⟩])
  (.seq (.seq (.keep [2, 3, 4, 7] (.ops [⟨0, some 27, .mv (.tmp 7), none, []⟩, ⟨1, some 28, .bin .lss (.tmp 27) (.const (.int .i64 0)), none, []⟩]))
  (.cond (.tmp 28) (.seq (.keep [] (.ops [⟨0, some 6, .mv (.const (.bool true)), none, []⟩]))
  (.ret)) (.skip)))
  (.seq (.ops [⟨0, some 30, .ldn 2 (.tmp 3), none, []⟩, ⟨2, some 32, .ldn 1 (.tmp 4), none, []⟩, ⟨4, some 34, .mv (.tmp 2), none, []⟩, ⟨1, some 31, .call n_w_toBands [.tmp 30], none, [(some 32, .ldn 1 (.tmp 4), none)]⟩, ⟨3, some 33, .call n_w_toPair [.tmp 32], none, []⟩, ⟨5, some 35, .call n_s_BandAlone [.tmp 31, .tmp 33, .tmp 34], none, []⟩, ⟨6, some 29, .mv (.tmp 35), none, []⟩, ⟨7, some 36, .ext (.tmp 29) 0, none, []⟩, ⟨8, some 37, .ext (.tmp 29) 1, none, []⟩, ⟨9, some 8, .mv (.tmp 36), none, []⟩, ⟨10, some 9, .mv (.tmp 37), none, []⟩])
  (.seq (.keep [2, 3, 4, 8, 9] (.ops [⟨0, some 38, .ldn 2 (.tmp 3), none, []⟩, ⟨1, some 39, .call n_w_toBands [.tmp 38], none, []⟩, ⟨2, some 10, .new 40 [.slice none 0 0, .slice none 0 0], none, []⟩, ⟨3, none, .stn 2 (.tmp 10) (.tmp 39), none, []⟩]))
  (.seq (.ops [⟨0, some 40, .ldn 1 (.tmp 4), none, []⟩, ⟨1, some 41, .call n_w_toPair [.tmp 40], none, []⟩, ⟨2, some 11, .new 51 [.slice none 0 0], none, []⟩, ⟨3, none, .stn 1 (.tmp 11) (.tmp 41), none, []⟩])
  (.seq (.ops [⟨0, some 43, .ldn 2 (.tmp 10), none, []⟩, ⟨1, some 44, .ldn 1 (.tmp 11), none, []⟩, ⟨2, some 45, .mv (.tmp 2), none, []⟩, ⟨3, some 46, .call n_i_BandAlone [.tmp 43, .tmp 44, .tmp 45], none, []⟩, ⟨4, some 42, .mv (.tmp 46), none, []⟩, ⟨5, some 47, .ext (.tmp 42) 0, none, []⟩, ⟨6, some 48, .ext (.tmp 42) 1, none, []⟩, ⟨7, some 12, .mv (.tmp 47), none, []⟩, ⟨8, some 13, .mv (.tmp 48), none, []⟩])
  (.seq (.seq (.keep [2, 3, 4, 8, 9, 10, 11, 12, 13] (.ops [⟨0, some 49, .mv (.tmp 12), none, []⟩, ⟨1, some 50, .mv (.tmp 8), none, []⟩, ⟨2, some 51, .call n_w_eqFloat32S [.tmp 49, .tmp 50], none, []⟩, ⟨3, some 52, .un .not (.tmp 51), none, []⟩, ⟨4, some 53, .mv (.tmp 52), none, []⟩, ⟨5, some 54, .mv (.tmp 13), (some (53, false)), []⟩, ⟨6, some 55, .mv (.tmp 9), (some (53, false)), []⟩, ⟨7, some 56, .beq true (.tmp 54) (.tmp 55), (some (53, false)), []⟩, ⟨8, some 57, .pick (.tmp 53) (.const (.bool true)) (.tmp 56), none, []⟩]))
  (.cond (.tmp 57) (.seq (.keep [] (.ops [⟨0, some 6, .mv (.const (.bool false)), none, []⟩]))
  (.ret)) (.skip)))
  (.seq (.seq (.keep [2, 3, 4, 8, 9, 10, 11, 12, 13] (.ops [⟨0, some 58, .ldn 2 (.tmp 10), none, []⟩, ⟨1, some 59, .ldn 2 (.tmp 3), none, []⟩, ⟨2, some 60, .call n_w_toBands [.tmp 59], none, [(some 58, .ldn 2 (.tmp 10), none)]⟩, ⟨3, some 61, .call n_w_eqBands [.tmp 58, .tmp 60], none, []⟩, ⟨4, some 62, .un .not (.tmp 61), none, []⟩]))
  (.cond (.tmp 62) (.seq (.keep [] (.ops [⟨0, some 6, .mv (.const (.bool false)), none, []⟩]))
  (.ret)) (.skip)))
  (.seq (.seq (.keep [2, 3, 4, 8, 9, 10, 11, 12, 13] (.ops [⟨0, some 63, .ldn 1 (.tmp 11), none, []⟩, ⟨1, some 64, .ldn 1 (.tmp 4), none, []⟩, ⟨2, some 65, .call n_w_toPair [.tmp 64], none, [(some 63, .ldn 1 (.tmp 11), none)]⟩, ⟨3, some 66, .call n_w_eqPair [.tmp 63, .tmp 65], none, []⟩, ⟨4, some 67, .un .not (.tmp 66), none, []⟩]))
  (.cond (.tmp 67) (.seq (.keep [] (.ops [⟨0, some 6, .mv (.const (.bool false)), none, []⟩]))
  (.ret)) (.skip)))
  (.seq (.keep [2, 3, 4, 8, 9, 10, 11, 12, 13] (.ops [⟨0, some 14, .mv (.const (.int .i64 1)), none, []⟩]))
  (.seq (.ops [⟨0, some 68, .ldn 2 (.tmp 10), none, []⟩, ⟨1, some 69, .mv (.tmp 14), none, []⟩, ⟨2, some 70, .call n_w_markBands [.tmp 68, .tmp 69], none, []⟩, ⟨3, some 14, .mv (.tmp 70), none, []⟩])
  (.seq (.ops [⟨0, some 71, .ldn 1 (.tmp 11), none, []⟩, ⟨1, some 72, .mv (.tmp 14), none, []⟩, ⟨2, some 73, .call n_w_markPair [.tmp 71, .tmp 72], none, []⟩, ⟨3, some 14, .mv (.tmp 73), none, []⟩])
  (.seq (.seq (.keep [2, 3, 4, 8, 9, 12, 13, 14] (.ops [⟨0, some 74, .mv (.tmp 14), none, []⟩, ⟨1, some 75, .bin .lss (.tmp 74) (.const (.int .i64 0)), none, []⟩, ⟨2, some 76, .mv (.tmp 75), none, []⟩, ⟨3, some 77, .mv (.tmp 12), (some (76, false)), []⟩, ⟨4, some 78, .mv (.tmp 8), (some (76, false)), []⟩, ⟨5, some 79, .call n_w_eqFloat32S [.tmp 77, .tmp 78], (some (76, false)), []⟩, ⟨6, some 80, .un .not (.tmp 79), (some (76, false)), []⟩, ⟨7, some 81, .pick (.tmp 76) (.const (.bool true)) (.tmp 80), none, []⟩, ⟨8, some 82, .mv (.tmp 81), none, []⟩, ⟨9, some 83, .mv (.tmp 13), (some (82, false)), []⟩, ⟨10, some 84, .mv (.tmp 9), (some (82, false)), []⟩, ⟨11, some 85, .beq true (.tmp 83) (.tmp 84), (some (82, false)), []⟩, ⟨12, some 86, .pick (.tmp 82) (.const (.bool true)) (.tmp 85), none, []⟩]))
  (.cond (.tmp 86) (.seq (.keep [] (.ops [⟨0, some 6, .mv (.const (.bool false)), none, []⟩]))
  (.ret)) (.skip)))
  (.seq (.keep [2, 3, 4, 8, 9, 12] (.ops [⟨0, some 15, .mv (.const (.int .i64 1)), none, []⟩]))
  (.seq (.ops [⟨0, some 87, .mv (.tmp 12), none, []⟩, ⟨1, some 88, .mv (.tmp 15), none, []⟩, ⟨2, some 89, .call n_w_markFloat32S [.tmp 87, .tmp 88], none, []⟩, ⟨3, some 15, .mv (.tmp 89), none, []⟩])
  (.seq (.ops [⟨0, some 16, .mv (.const (.int .i64 1)), none, []⟩])
  (.seq (.ops [⟨0, some 90, .mv (.tmp 12), none, []⟩, ⟨1, some 91, .mv (.tmp 16), none, []⟩, ⟨2, some 92, .call n_w_heldFloat32S [.tmp 90, .tmp 91], none, []⟩, ⟨3, some 16, .mv (.tmp 92), none, []⟩])
  (.seq (.seq (.keep [2, 3, 4, 8, 9, 12, 15, 16] (.ops [⟨0, some 93, .mv (.tmp 16), none, []⟩, ⟨1, some 94, .bin .lss (.tmp 93) (.const (.int .i64 0)), none, []⟩]))
  (.cond (.tmp 94) (.seq (.keep [] (.ops [⟨0, some 6, .mv (.const (.bool false)), none, []⟩]))
  (.ret)) (.skip)))
  (.seq (.seq (.ops [⟨0, some 95, .mv (.tmp 16), none, []⟩, ⟨1, some 96, .mv (.tmp 15), none, []⟩, ⟨2, some 97, .bin .neq (.tmp 95) (.tmp 96), none, []⟩])
  (.cond (.tmp 97) (.seq (.keep [] (.ops [⟨0, some 6, .mv (.const (.bool false)), none, []⟩]))
  (.ret)) (.skip)))
  (.seq (.keep [2, 3, 4, 8, 9, 12, 15] (.ops [⟨0, some 99, .ldn 2 (.tmp 3), none, []⟩, ⟨2, some 101, .ldn 1 (.tmp 4), none, []⟩, ⟨4, some 103, .mv (.tmp 2), none, []⟩, ⟨1, some 100, .call n_w_toBands [.tmp 99], none, [(some 101, .ldn 1 (.tmp 4), none)]⟩, ⟨3, some 102, .call n_w_toPair [.tmp 101], none, []⟩, ⟨5, some 104, .call n_i_BandAlone [.tmp 100, .tmp 102, .tmp 103], none, []⟩, ⟨6, some 98, .mv (.tmp 104), none, []⟩, ⟨7, some 105, .ext (.tmp 98) 0, none, []⟩, ⟨8, some 106, .ext (.tmp 98) 1, none, []⟩, ⟨9, some 17, .mv (.tmp 105), none, []⟩, ⟨10, some 18, .mv (.tmp 106), none, []⟩]))
  (.seq (.seq (.keep [8, 9, 12, 15, 17, 18] (.ops [⟨0, some 107, .mv (.tmp 17), none, []⟩, ⟨1, some 108, .mv (.tmp 8), none, []⟩, ⟨2, some 109, .call n_w_eqFloat32S [.tmp 107, .tmp 108], none, []⟩, ⟨3, some 110, .un .not (.tmp 109), none, []⟩, ⟨4, some 111, .mv (.tmp 110), none, []⟩, ⟨5, some 112, .mv (.tmp 18), (some (111, false)), []⟩, ⟨6, some 113, .mv (.tmp 9), (some (111, false)), []⟩, ⟨7, some 114, .beq true (.tmp 112) (.tmp 113), (some (111, false)), []⟩, ⟨8, some 115, .pick (.tmp 111) (.const (.bool true)) (.tmp 114), none, []⟩]))
  (.cond (.tmp 115) (.seq (.keep [] (.ops [⟨0, some 6, .mv (.const (.bool false)), none, []⟩]))
  (.ret)) (.skip)))
  (.seq (.keep [12, 15] (.ops [⟨0, some 16, .mv (.const (.int .i64 1)), none, []⟩]))
  (.seq (.ops [⟨0, some 116, .mv (.tmp 12), none, []⟩, ⟨1, some 117, .mv (.tmp 16), none, []⟩, ⟨2, some 118, .call n_w_heldFloat32S [.tmp 116, .tmp 117], none, []⟩, ⟨3, some 16, .mv (.tmp 118), none, []⟩])
  (.seq (.seq (.ops [⟨0, some 119, .mv (.tmp 16), none, []⟩, ⟨1, some 120, .bin .lss (.tmp 119) (.const (.int .i64 0)), none, []⟩])
  (.cond (.tmp 120) (.seq (.keep [] (.ops [⟨0, some 6, .mv (.const (.bool false)), none, []⟩]))
  (.ret)) (.skip)))
  (.seq (.seq (.keep [15, 16] (.ops [⟨0, some 121, .mv (.tmp 16), none, []⟩, ⟨1, some 122, .mv (.tmp 15), none, []⟩, ⟨2, some 123, .bin .neq (.tmp 121) (.tmp 122), none, []⟩]))
  (.cond (.tmp 123) (.seq (.keep [] (.ops [⟨0, some 6, .mv (.const (.bool false)), none, []⟩]))
  (.ret)) (.skip)))
  (.seq (.keep [] (.ops [⟨0, some 6, .mv (.const (.bool true)), none, []⟩]))
  (.ret))))))))))))))))))))))))))))))
theorem k_w_FnExactBandAlone : FnOk Try.prog n_w_FnExactBandAlone 3 c_w_FnExactBandAlone [.tmp 6] := ⟨by kernel_rfl⟩
def c_w_szBands : ACode :=
  .seq (.ops [⟨0, some 2, .box 35 (.tmp 0), none, []⟩, ⟨1, some 4, .mv (.const (.int .i64 0)), none, []⟩])
  (.seq (.ops [⟨0, some 5, .fa 0 (.tmp 2), none, []⟩, ⟨1, some 6, .ld (.tmp 5), none, []⟩, ⟨2, some 7, .mv (.tmp 1), none, []⟩, ⟨3, some 8, .call n_w_szFloat32S [.tmp 6, .tmp 7], none, []⟩, ⟨4, some 1, .mv (.tmp 8), none, []⟩])
  (.seq (.seq (.keep [1, 2] (.ops [⟨0, some 9, .mv (.tmp 1), none, []⟩, ⟨1, some 10, .bin .lss (.tmp 9) (.const (.int .i64 0)), none, []⟩]))
  (.cond (.tmp 10) (.seq (.ops [⟨0, some 4, .mv (.const (.int .i64 (-1))), none, []⟩])
  (.ret)) (.skip)))
  (.seq (.ops [⟨0, some 11, .fa 1 (.tmp 2), none, []⟩, ⟨1, some 12, .ld (.tmp 11), none, []⟩, ⟨2, some 13, .mv (.tmp 1), none, []⟩, ⟨3, some 14, .call n_w_szFloat32SS [.tmp 12, .tmp 13], none, []⟩, ⟨4, some 1, .mv (.tmp 14), none, []⟩])
  (.seq (.seq (.keep [1] (.ops [⟨0, some 15, .mv (.tmp 1), none, []⟩, ⟨1, some 16, .bin .lss (.tmp 15) (.const (.int .i64 0)), none, []⟩]))
  (.cond (.tmp 16) (.seq (.ops [⟨0, some 4, .mv (.const (.int .i64 (-1))), none, []⟩])
  (.ret)) (.skip)))
  (.seq (.ops [⟨0, some 17, .mv (.tmp 1), none, []⟩, ⟨1, some 4, .mv (.tmp 17), none, []⟩])
  (.ret))))))
theorem k_w_szBands : FnOk Try.prog n_w_szBands 2 c_w_szBands [.tmp 4] := ⟨by kernel_rfl⟩
def c_w_toBands : ACode :=
  .seq (.ops [⟨0, some 1, .box 35 (.tmp 0), none, []⟩, ⟨1, some 2, .new 40 [.slice none 0 0, .slice none 0 0], none, []⟩])
  (.seq (.ops [⟨0, some 3, .new 40 [.slice none 0 0, .slice none 0 0], none, []⟩])
  (.seq (.ops [⟨0, some 4, .fa 0 (.tmp 1), none, []⟩, ⟨1, some 5, .ld (.tmp 4), none, []⟩, ⟨2, some 6, .call n_w_toFloat32S [.tmp 5], none, []⟩, ⟨3, some 7, .fa 0 (.tmp 3), none, []⟩, ⟨4, none, .st (.tmp 7) (.tmp 6), none, []⟩])
  (.seq (.keep [1, 2, 3] (.ops [⟨0, some 8, .fa 1 (.tmp 1), none, []⟩, ⟨1, some 9, .ld (.tmp 8), none, []⟩, ⟨2, some 10, .call n_w_toFloat32SS [.tmp 9], none, []⟩, ⟨3, some 11, .fa 1 (.tmp 3), none, []⟩, ⟨4, none, .st (.tmp 11) (.tmp 10), none, []⟩]))
  (.seq (.keep [2, 3] (.ops [⟨0, some 12, .ldn 2 (.tmp 3), none, []⟩, ⟨1, none, .stn 2 (.tmp 2) (.tmp 12), none, []⟩]))
  (.ret)))))
theorem k_w_toBands : FnOk Try.prog n_w_toBands 1 c_w_toBands [.celln 2 2] := ⟨by kernel_rfl⟩
def c_w_sameFloat : ACode :=
  .seq (.ops [⟨0, some 4, .mv (.const (.bool false)), none, []⟩])
  (.seq (.seq (.ops [⟨0, some 5, .mv (.tmp 0), none, []⟩, ⟨1, some 6, .mv (.tmp 0), none, []⟩, ⟨2, some 7, .bin .neq (.tmp 5) (.tmp 6), none, []⟩, ⟨3, some 8, .mv (.tmp 7), none, []⟩, ⟨4, some 9, .mv (.tmp 1), (some (8, false)), []⟩, ⟨5, some 10, .mv (.tmp 1), (some (8, false)), []⟩, ⟨6, some 11, .bin .neq (.tmp 9) (.tmp 10), (some (8, false)), []⟩, ⟨7, some 12, .pick (.tmp 8) (.const (.bool true)) (.tmp 11), none, []⟩])
  (.cond (.tmp 12) (.seq (.keep [0, 1] (.ops [⟨0, some 13, .mv (.tmp 0), none, []⟩, ⟨1, some 14, .mv (.tmp 0), none, []⟩, ⟨2, some 15, .bin .neq (.tmp 13) (.tmp 14), none, []⟩, ⟨3, some 16, .mv (.tmp 15), none, []⟩, ⟨4, some 17, .mv (.tmp 1), (some (16, true)), []⟩, ⟨5, some 18, .mv (.tmp 1), (some (16, true)), []⟩, ⟨6, some 19, .bin .neq (.tmp 17) (.tmp 18), (some (16, true)), []⟩, ⟨7, some 20, .pick (.tmp 16) (.tmp 19) (.const (.bool false)), none, []⟩, ⟨8, some 4, .mv (.tmp 20), none, []⟩]))
  (.ret)) (.skip)))
  (.seq (.seq (.keep [0, 1] (.ops [⟨0, some 21, .mv (.tmp 0), none, []⟩, ⟨1, some 22, .bin .eql (.tmp 21) (.const (.float .f64 0)), none, []⟩, ⟨2, some 23, .mv (.tmp 22), none, []⟩, ⟨3, some 24, .mv (.tmp 1), (some (23, true)), []⟩, ⟨4, some 25, .bin .eql (.tmp 24) (.const (.float .f64 0)), (some (23, true)), []⟩, ⟨5, some 26, .pick (.tmp 23) (.tmp 25) (.const (.bool false)), none, []⟩]))
  (.cond (.tmp 26) (.seq (.keep [0, 1] (.ops [⟨0, some 27, .mv (.tmp 0), none, []⟩, ⟨1, some 28, .bin .quo (.const (.float .f64 4607182418800017408)) (.tmp 27), none, []⟩, ⟨2, some 29, .bin .gtr (.tmp 28) (.const (.float .f64 0)), none, []⟩, ⟨3, some 30, .mv (.tmp 1), none, []⟩, ⟨4, some 31, .bin .quo (.const (.float .f64 4607182418800017408)) (.tmp 30), none, []⟩, ⟨5, some 32, .bin .gtr (.tmp 31) (.const (.float .f64 0)), none, []⟩, ⟨6, some 33, .beq false (.tmp 29) (.tmp 32), none, []⟩, ⟨7, some 4, .mv (.tmp 33), none, []⟩]))
  (.ret)) (.skip)))
  (.seq (.keep [0, 1] (.ops [⟨0, some 34, .mv (.tmp 0), none, []⟩, ⟨1, some 35, .mv (.tmp 1), none, []⟩, ⟨2, some 36, .bin .eql (.tmp 34) (.tmp 35), none, []⟩, ⟨3, some 4, .mv (.tmp 36), none, []⟩]))
  (.ret))))
theorem k_w_sameFloat : FnOk Try.prog n_w_sameFloat 2 c_w_sameFloat [.tmp 4] := ⟨by kernel_rfl⟩
def c_w_eqBands : ACode :=
  .seq (.ops [⟨0, some 2, .box 40 (.tmp 0), none, []⟩, ⟨1, some 3, .box 40 (.tmp 1), none, []⟩, ⟨2, some 4, .mv (.const (.bool false)), none, []⟩])
  (.seq (.seq (.ops [⟨0, some 5, .fa 0 (.tmp 2), none, []⟩, ⟨1, some 6, .ld (.tmp 5), none, []⟩, ⟨2, some 7, .fa 0 (.tmp 3), none, []⟩, ⟨3, some 8, .ld (.tmp 7), none, []⟩, ⟨4, some 9, .call n_w_eqFloat32S [.tmp 6, .tmp 8], none, []⟩, ⟨5, some 10, .un .not (.tmp 9), none, []⟩])
  (.cond (.tmp 10) (.seq (.keep [] (.ops [⟨0, some 4, .mv (.const (.bool false)), none, []⟩]))
  (.ret)) (.skip)))
  (.seq (.seq (.keep [2, 3] (.ops [⟨0, some 11, .fa 1 (.tmp 2), none, []⟩, ⟨1, some 12, .ld (.tmp 11), none, []⟩, ⟨2, some 13, .fa 1 (.tmp 3), none, []⟩, ⟨3, some 14, .ld (.tmp 13), none, []⟩, ⟨4, some 15, .call n_w_eqFloat32SS [.tmp 12, .tmp 14], none, []⟩, ⟨5, some 16, .un .not (.tmp 15), none, []⟩]))
  (.cond (.tmp 16) (.seq (.keep [] (.ops [⟨0, some 4, .mv (.const (.bool false)), none, []⟩]))
  (.ret)) (.skip)))
  (.seq (.keep [] (.ops [⟨0, some 4, .mv (.const (.bool true)), none, []⟩]))
  (.ret))))
theorem k_w_eqBands : FnOk Try.prog n_w_eqBands 2 c_w_eqBands [.tmp 4] := ⟨by kernel_rfl⟩
def c_w_szPair : ACode :=
  .seq (.ops [⟨0, some 2, .box 47 (.tmp 0), none, []⟩, ⟨1, some 4, .mv (.const (.int .i64 0)), none, []⟩])
  (.seq (.ops [⟨0, some 5, .fa 0 (.tmp 2), none, []⟩, ⟨1, some 6, .ld (.tmp 5), none, []⟩, ⟨2, some 7, .mv (.tmp 1), none, []⟩, ⟨3, some 8, .call n_w_szFloat32S [.tmp 6, .tmp 7], none, []⟩, ⟨4, some 1, .mv (.tmp 8), none, []⟩])
  (.seq (.seq (.keep [1] (.ops [⟨0, some 9, .mv (.tmp 1), none, []⟩, ⟨1, some 10, .bin .lss (.tmp 9) (.const (.int .i64 0)), none, []⟩]))
  (.cond (.tmp 10) (.seq (.ops [⟨0, some 4, .mv (.const (.int .i64 (-1))), none, []⟩])
  (.ret)) (.skip)))
  (.seq (.ops [⟨0, some 11, .mv (.tmp 1), none, []⟩, ⟨1, some 4, .mv (.tmp 11), none, []⟩])
  (.ret))))
theorem k_w_szPair : FnOk Try.prog n_w_szPair 2 c_w_szPair [.tmp 4] := ⟨by kernel_rfl⟩
def c_w_toPair : ACode :=
  .seq (.ops [⟨0, some 1, .box 47 (.tmp 0), none, []⟩, ⟨1, some 2, .new 51 [.slice none 0 0], none, []⟩])
  (.seq (.ops [⟨0, some 3, .new 51 [.slice none 0 0], none, []⟩])
  (.seq (.ops [⟨0, some 4, .fa 0 (.tmp 1), none, []⟩, ⟨1, some 5, .ld (.tmp 4), none, []⟩, ⟨2, some 6, .call n_w_toFloat32S [.tmp 5], none, []⟩, ⟨3, some 7, .fa 0 (.tmp 3), none, []⟩, ⟨4, none, .st (.tmp 7) (.tmp 6), none, []⟩])
  (.seq (.keep [2, 3] (.ops [⟨0, some 8, .ldn 1 (.tmp 3), none, []⟩, ⟨1, none, .stn 1 (.tmp 2) (.tmp 8), none, []⟩]))
  (.ret))))
theorem k_w_toPair : FnOk Try.prog n_w_toPair 1 c_w_toPair [.celln 2 1] := ⟨by kernel_rfl⟩
def c_i_JoinLevels : ACode :=
  .seq (.ops [⟨0, some 2, .box 40 (.tmp 0), none, []⟩, ⟨1, some 3, .box 51 (.tmp 1), none, []⟩, ⟨2, some 4, .mv (.const (.slice none 0 0)), none, []⟩, ⟨3, some 5, .mv (.const (.bool false)), none, []⟩])
  (.seq (.seq (.ops [⟨0, some 10, .ldn 2 (.tmp 2), none, []⟩, ⟨1, some 11, .call n_i_ValidBands [.tmp 10], none, []⟩, ⟨2, some 12, .un .not (.tmp 11), none, []⟩, ⟨3, some 13, .mv (.tmp 12), none, []⟩, ⟨4, some 14, .ldn 1 (.tmp 3), (some (13, false)), []⟩, ⟨5, some 15, .call n_i_ValidPair [.tmp 14], (some (13, false)), []⟩, ⟨6, some 16, .un .not (.tmp 15), (some (13, false)), []⟩, ⟨7, some 17, .pick (.tmp 13) (.const (.bool true)) (.tmp 16), none, []⟩])
  (.cond (.tmp 17) (.seq (.keep [] (.ops [⟨0, some 4, .mv (.const (.slice none 0 0)), none, []⟩, ⟨1, some 5, .mv (.const (.bool false)), none, []⟩]))
  (.ret)) (.skip)))
  (.seq (.keep [2, 3] (.ops [⟨0, some 18, .fa 0 (.tmp 2), none, []⟩, ⟨1, some 19, .ld (.tmp 18), none, []⟩, ⟨2, some 6, .mv (.tmp 19), none, []⟩]))
  (.seq (.seq (.ops [⟨0, some 20, .fa 1 (.tmp 2), none, []⟩, ⟨1, some 21, .ld (.tmp 20), none, []⟩, ⟨2, some 22, .len (.tmp 21), none, []⟩, ⟨3, some 23, .bin .sub (.tmp 22) (.const (.int .i64 1)), none, []⟩, ⟨4, some 7, .mv (.tmp 23), none, []⟩])
  (.block 0 (.loop [2, 3, 6, 7] (.seq (.seq (.ops [⟨0, some 24, .mv (.tmp 7), none, []⟩, ⟨1, some 25, .bin .geq (.tmp 24) (.const (.int .i64 0)), none, []⟩])
  (.cond (.tmp 25) (.skip) (.exit 0)))
  (.seq (.block 1 (.seq (.ops [⟨0, some 29, .mv (.tmp 6), none, []⟩, ⟨1, some 30, .fa 1 (.tmp 2), none, []⟩, ⟨2, some 31, .ld (.tmp 30), none, []⟩, ⟨3, some 32, .mv (.tmp 7), none, []⟩, ⟨4, some 33, .ia (.tmp 31) (.tmp 32), none, []⟩, ⟨5, some 34, .ld (.tmp 33), none, []⟩, ⟨6, some 35, .ldn 1 (.tmp 3), none, []⟩, ⟨7, some 36, .call n_i_JoinRing [.tmp 29, .tmp 34, .tmp 35], none, []⟩, ⟨8, some 28, .mv (.tmp 36), none, []⟩, ⟨9, some 37, .ext (.tmp 28) 0, none, []⟩, ⟨10, some 38, .ext (.tmp 28) 1, none, []⟩, ⟨11, some 8, .mv (.tmp 37), none, []⟩, ⟨12, some 9, .mv (.tmp 38), none, []⟩])
  (.seq (.seq (.keep [2, 3, 7, 8, 9] (.ops [⟨0, some 39, .mv (.tmp 9), none, []⟩, ⟨1, some 40, .un .not (.tmp 39), none, []⟩]))
  (.cond (.tmp 40) (.seq (.keep [] (.ops [⟨0, some 4, .mv (.const (.slice none 0 0)), none, []⟩, ⟨1, some 5, .mv (.const (.bool false)), none, []⟩]))
  (.ret)) (.skip)))
  (.ops [⟨0, some 41, .mv (.tmp 8), none, []⟩, ⟨1, some 6, .mv (.tmp 41), none, []⟩]))))
  (.keep [2, 3, 6, 7] (.ops [⟨0, some 26, .mv (.tmp 7), none, []⟩, ⟨1, some 27, .bin .sub (.tmp 26) (.const (.int .i64 1)), none, []⟩, ⟨2, some 7, .mv (.tmp 27), none, []⟩])))))))
  (.seq (.keep [6] (.ops [⟨0, some 42, .mv (.tmp 6), none, []⟩, ⟨1, some 4, .mv (.tmp 42), none, []⟩, ⟨2, some 5, .mv (.const (.bool true)), none, []⟩]))
  (.ret)))))
theorem k_i_JoinLevels : FnOk Try.prog n_i_JoinLevels 2 c_i_JoinLevels [.tmp 4, .tmp 5] := ⟨by kernel_rfl⟩
def c_w_eqFloat32S : ACode :=
  .seq (.ops [⟨0, some 4, .mv (.const (.bool false)), none, []⟩])
  (.seq (.seq (.ops [⟨0, some 6, .mv (.tmp 0), none, []⟩, ⟨1, some 7, .len (.tmp 6), none, []⟩, ⟨2, some 8, .mv (.tmp 1), none, []⟩, ⟨3, some 9, .len (.tmp 8), none, []⟩, ⟨4, some 10, .bin .neq (.tmp 7) (.tmp 9), none, []⟩])
  (.cond (.tmp 10) (.seq (.keep [] (.ops [⟨0, some 4, .mv (.const (.bool false)), none, []⟩]))
  (.ret)) (.skip)))
  (.seq (.seq (.keep [0, 1] (.ops [⟨0, some 5, .mv (.const (.int .i64 0)), none, []⟩]))
  (.block 0 (.loop [0, 1, 5] (.seq (.seq (.ops [⟨0, some 11, .mv (.tmp 5), none, []⟩, ⟨1, some 12, .mv (.tmp 0), none, []⟩, ⟨2, some 13, .len (.tmp 12), none, []⟩, ⟨3, some 14, .bin .lss (.tmp 11) (.tmp 13), none, []⟩])
  (.cond (.tmp 14) (.skip) (.exit 0)))
  (.seq (.block 1 (.seq (.ops [⟨0, some 17, .mv (.tmp 0), none, []⟩, ⟨1, some 18, .mv (.tmp 5), none, []⟩, ⟨2, some 19, .ia (.tmp 17) (.tmp 18), none, []⟩, ⟨3, some 20, .ld (.tmp 19), none, []⟩, ⟨4, some 21, .cv (.f .f64) (.tmp 20), none, []⟩, ⟨5, some 22, .mv (.tmp 1), none, []⟩, ⟨6, some 23, .mv (.tmp 5), none, []⟩, ⟨7, some 24, .ia (.tmp 22) (.tmp 23), none, []⟩, ⟨8, some 25, .ld (.tmp 24), none, []⟩, ⟨9, some 26, .cv (.f .f64) (.tmp 25), none, []⟩, ⟨10, some 27, .call n_w_sameFloat [.tmp 21, .tmp 26], none, []⟩, ⟨11, some 28, .un .not (.tmp 27), none, []⟩])
  (.cond (.tmp 28) (.seq (.keep [] (.ops [⟨0, some 4, .mv (.const (.bool false)), none, []⟩]))
  (.ret)) (.skip))))
  (.keep [0, 1, 5] (.ops [⟨0, some 15, .mv (.tmp 5), none, []⟩, ⟨1, some 16, .bin .add (.tmp 15) (.const (.int .i64 1)), none, []⟩, ⟨2, some 5, .mv (.tmp 16), none, []⟩])))))))
  (.seq (.keep [] (.ops [⟨0, some 4, .mv (.const (.bool true)), none, []⟩]))
  (.ret))))
theorem k_w_eqFloat32S : FnOk Try.prog n_w_eqFloat32S 2 c_w_eqFloat32S [.tmp 4] := ⟨by kernel_rfl⟩
def c_w_eqPair : ACode :=
  .seq (.ops [⟨0, some 2, .box 51 (.tmp 0), none, []⟩, ⟨1, some 3, .box 51 (.tmp 1), none, []⟩, ⟨2, some 4, .mv (.const (.bool false)), none, []⟩])
  (.seq (.seq (.ops [⟨0, some 5, .fa 0 (.tmp 2), none, []⟩, ⟨1, some 6, .ld (.tmp 5), none, []⟩, ⟨2, some 7, .fa 0 (.tmp 3), none, []⟩, ⟨3, some 8, .ld (.tmp 7), none, []⟩, ⟨4, some 9, .call n_w_eqFloat32S [.tmp 6, .tmp 8], none, []⟩, ⟨5, some 10, .un .not (.tmp 9), none, []⟩])
  (.cond (.tmp 10) (.seq (.keep [] (.ops [⟨0, some 4, .mv (.const (.bool false)), none, []⟩]))
  (.ret)) (.skip)))
  (.seq (.keep [] (.ops [⟨0, some 4, .mv (.const (.bool true)), none, []⟩]))
  (.ret)))
theorem k_w_eqPair : FnOk Try.prog n_w_eqPair 2 c_w_eqPair [.tmp 4] := ⟨by kernel_rfl⟩
def c_w_markBands : ACode :=
  .seq (.ops [⟨0, some 2, .box 40 (.tmp 0), none, []⟩, ⟨1, some 4, .mv (.const (.int .i64 0)), none, []⟩])
  (.seq (.ops [⟨0, some 5, .fa 0 (.tmp 2), none, []⟩, ⟨1, some 6, .ld (.tmp 5), none, []⟩, ⟨2, some 7, .mv (.tmp 1), none, []⟩, ⟨3, some 8, .call n_w_markFloat32S [.tmp 6, .tmp 7], none, []⟩, ⟨4, some 1, .mv (.tmp 8), none, []⟩])
  (.seq (.keep [1, 2] (.ops [⟨0, some 9, .fa 1 (.tmp 2), none, []⟩, ⟨1, some 10, .ld (.tmp 9), none, []⟩, ⟨2, some 11, .mv (.tmp 1), none, []⟩, ⟨3, some 12, .call n_w_markFloat32SS [.tmp 10, .tmp 11], none, []⟩, ⟨4, some 1, .mv (.tmp 12), none, []⟩]))
  (.seq (.keep [1] (.ops [⟨0, some 13, .mv (.tmp 1), none, []⟩, ⟨1, some 4, .mv (.tmp 13), none, []⟩]))
  (.ret))))
theorem k_w_markBands : FnOk Try.prog n_w_markBands 2 c_w_markBands [.tmp 4] := ⟨by kernel_rfl⟩
def c_w_markPair : ACode :=
  .seq (.ops [⟨0, some 2, .box 51 (.tmp 0), none, []⟩, ⟨1, some 4, .mv (.const (.int .i64 0)), none, []⟩])
  (.seq (.ops [⟨0, some 5, .fa 0 (.tmp 2), none, []⟩, ⟨1, some 6, .ld (.tmp 5), none, []⟩, ⟨2, some 7, .mv (.tmp 1), none, []⟩, ⟨3, some 8, .call n_w_markFloat32S [.tmp 6, .tmp 7], none, []⟩, ⟨4, some 1, .mv (.tmp 8), none, []⟩])
  (.seq (.keep [1] (.ops [⟨0, some 9, .mv (.tmp 1), none, []⟩, ⟨1, some 4, .mv (.tmp 9), none, []⟩]))
  (.ret)))
theorem k_w_markPair : FnOk Try.prog n_w_markPair 2 c_w_markPair [.tmp 4] := ⟨by kernel_rfl⟩
def c_w_markFloat32S : ACode :=
  .seq (.ops [⟨0, some 4, .mv (.const (.int .i64 0)), none, []⟩])
  (.seq (.seq (.ops [⟨0, some 5, .mv (.const (.int .i64 0)), none, []⟩])
  (.block 0 (.loop [0, 1, 5] (.seq (.seq (.ops [⟨0, some 6, .mv (.tmp 5), none, []⟩, ⟨1, some 7, .mv (.tmp 0), none, []⟩, ⟨2, some 8, .len (.tmp 7), none, []⟩, ⟨3, some 9, .bin .lss (.tmp 6) (.tmp 8), none, []⟩])
  (.cond (.tmp 9) (.skip) (.exit 0)))
  (.seq (.block 1 (.seq (.ops [⟨0, some 12, .mv (.tmp 0), none, []⟩, ⟨1, some 13, .mv (.tmp 5), none, []⟩, ⟨2, some 14, .mv (.tmp 1), none, []⟩, ⟨3, some 15, .cv (.f .f32) (.tmp 14), none, []⟩, ⟨4, some 16, .ia (.tmp 12) (.tmp 13), none, []⟩, ⟨5, none, .st (.tmp 16) (.tmp 15), none, []⟩])
  (.keep [0, 1, 5] (.ops [⟨0, some 17, .mv (.tmp 1), none, []⟩, ⟨1, some 18, .bin .add (.tmp 17) (.const (.int .i64 1)), none, []⟩, ⟨2, some 1, .mv (.tmp 18), none, []⟩]))))
  (.ops [⟨0, some 10, .mv (.tmp 5), none, []⟩, ⟨1, some 11, .bin .add (.tmp 10) (.const (.int .i64 1)), none, []⟩, ⟨2, some 5, .mv (.tmp 11), none, []⟩]))))))
  (.seq (.keep [1] (.ops [⟨0, some 19, .mv (.tmp 1), none, []⟩, ⟨1, some 4, .mv (.tmp 19), none, []⟩]))
  (.ret)))
theorem k_w_markFloat32S : FnOk Try.prog n_w_markFloat32S 2 c_w_markFloat32S [.tmp 4] := ⟨by kernel_rfl⟩
def c_w_heldFloat32S : ACode :=
  .seq (.ops [⟨0, some 4, .mv (.const (.int .i64 0)), none, []⟩])
  (.seq (.seq (.ops [⟨0, some 5, .mv (.const (.int .i64 0)), none, []⟩])
  (.block 0 (.loop [0, 1, 5] (.seq (.seq (.ops [⟨0, some 6, .mv (.tmp 5), none, []⟩, ⟨1, some 7, .mv (.tmp 0), none, []⟩, ⟨2, some 8, .len (.tmp 7), none, []⟩, ⟨3, some 9, .bin .lss (.tmp 6) (.tmp 8), none, []⟩])
  (.cond (.tmp 9) (.skip) (.exit 0)))
  (.seq (.block 1 (.seq (.seq (.ops [⟨0, some 12, .mv (.tmp 0), none, []⟩, ⟨1, some 13, .mv (.tmp 5), none, []⟩, ⟨2, some 14, .ia (.tmp 12) (.tmp 13), none, []⟩, ⟨3, some 15, .ld (.tmp 14), none, []⟩, ⟨4, some 16, .mv (.tmp 1), none, []⟩, ⟨5, some 17, .cv (.f .f32) (.tmp 16), none, []⟩, ⟨6, some 18, .bin .neq (.tmp 15) (.tmp 17), none, []⟩])
  (.cond (.tmp 18) (.seq (.keep [] (.ops [⟨0, some 4, .mv (.const (.int .i64 (-1))), none, []⟩]))
  (.ret)) (.skip)))
  (.keep [0, 1, 5] (.ops [⟨0, some 19, .mv (.tmp 1), none, []⟩, ⟨1, some 20, .bin .add (.tmp 19) (.const (.int .i64 1)), none, []⟩, ⟨2, some 1, .mv (.tmp 20), none, []⟩]))))
  (.ops [⟨0, some 10, .mv (.tmp 5), none, []⟩, ⟨1, some 11, .bin .add (.tmp 10) (.const (.int .i64 1)), none, []⟩, ⟨2, some 5, .mv (.tmp 11), none, []⟩]))))))
  (.seq (.keep [1] (.ops [⟨0, some 21, .mv (.tmp 1), none, []⟩, ⟨1, some 4, .mv (.tmp 21), none, []⟩]))
  (.ret)))
theorem k_w_heldFloat32S : FnOk Try.prog n_w_heldFloat32S 2 c_w_heldFloat32S [.tmp 4] := ⟨by kernel_rfl⟩
def c_w_szFloat32SS : ACode :=
  .seq (.ops [⟨0, some 4, .mv (.const (.int .i64 0)), none, []⟩])
  (.seq (.ops [⟨0, some 6, .mv (.tmp 1), none, []⟩, ⟨1, some 7, .mv (.tmp 0), none, []⟩, ⟨2, some 8, .len (.tmp 7), none, []⟩, ⟨3, some 9, .bin .sub (.tmp 6) (.tmp 8), none, []⟩, ⟨4, some 1, .mv (.tmp 9), none, []⟩])
  (.seq (.seq (.keep [0, 1] (.ops [⟨0, some 10, .mv (.tmp 1), none, []⟩, ⟨1, some 11, .bin .lss (.tmp 10) (.const (.int .i64 0)), none, []⟩]))
  (.cond (.tmp 11) (.seq (.ops [⟨0, some 4, .mv (.const (.int .i64 (-1))), none, []⟩])
  (.ret)) (.skip)))
  (.seq (.seq (.ops [⟨0, some 5, .mv (.const (.int .i64 0)), none, []⟩])
  (.block 0 (.loop [0, 1, 5] (.seq (.seq (.ops [⟨0, some 12, .mv (.tmp 5), none, []⟩, ⟨1, some 13, .mv (.tmp 0), none, []⟩, ⟨2, some 14, .len (.tmp 13), none, []⟩, ⟨3, some 15, .bin .lss (.tmp 12) (.tmp 14), none, []⟩])
  (.cond (.tmp 15) (.skip) (.exit 0)))
  (.seq (.block 1 (.seq (.ops [⟨0, some 18, .mv (.tmp 0), none, []⟩, ⟨1, some 19, .mv (.tmp 5), none, []⟩, ⟨2, some 20, .ia (.tmp 18) (.tmp 19), none, []⟩, ⟨3, some 21, .ld (.tmp 20), none, []⟩, ⟨4, some 22, .mv (.tmp 1), none, []⟩, ⟨5, some 23, .call n_w_szFloat32S [.tmp 21, .tmp 22], none, []⟩, ⟨6, some 1, .mv (.tmp 23), none, []⟩])
  (.seq (.keep [0, 1, 5] (.ops [⟨0, some 24, .mv (.tmp 1), none, []⟩, ⟨1, some 25, .bin .lss (.tmp 24) (.const (.int .i64 0)), none, []⟩]))
  (.cond (.tmp 25) (.seq (.keep [] (.ops [⟨0, some 4, .mv (.const (.int .i64 (-1))), none, []⟩]))
  (.ret)) (.skip)))))
  (.ops [⟨0, some 16, .mv (.tmp 5), none, []⟩, ⟨1, some 17, .bin .add (.tmp 16) (.const (.int .i64 1)), none, []⟩, ⟨2, some 5, .mv (.tmp 17), none, []⟩]))))))
  (.seq (.keep [1] (.ops [⟨0, some 26, .mv (.tmp 1), none, []⟩, ⟨1, some 4, .mv (.tmp 26), none, []⟩]))
  (.ret)))))
theorem k_w_szFloat32SS : FnOk Try.prog n_w_szFloat32SS 2 c_w_szFloat32SS [.tmp 4] := ⟨by kernel_rfl⟩
def c_w_toFloat32SS : ACode :=
  .seq (.ops [⟨0, some 2, .mv (.const (.slice none 0 0)), none, []⟩])
  (.seq (.ops [⟨0, some 5, .mv (.tmp 0), none, []⟩, ⟨1, some 6, .len (.tmp 5), none, []⟩, ⟨2, some 7, .mks 32 24 (.slice none 0 0) (.tmp 6) (.tmp 6), none, []⟩, ⟨3, some 3, .mv (.tmp 7), none, []⟩])
  (.seq (.seq (.ops [⟨0, some 4, .mv (.const (.int .i64 0)), none, []⟩])
  (.block 0 (.loop [0, 3, 4] (.seq (.seq (.ops [⟨0, some 8, .mv (.tmp 4), none, []⟩, ⟨1, some 9, .mv (.tmp 0), none, []⟩, ⟨2, some 10, .len (.tmp 9), none, []⟩, ⟨3, some 11, .bin .lss (.tmp 8) (.tmp 10), none, []⟩])
  (.cond (.tmp 11) (.skip) (.exit 0)))
  (.seq (.block 1 (.ops [⟨0, some 14, .mv (.tmp 3), none, []⟩, ⟨1, some 15, .mv (.tmp 4), none, []⟩, ⟨2, some 16, .mv (.tmp 0), none, []⟩, ⟨3, some 17, .mv (.tmp 4), none, []⟩, ⟨4, some 18, .ia (.tmp 16) (.tmp 17), none, []⟩, ⟨5, some 19, .ld (.tmp 18), none, []⟩, ⟨6, some 20, .call n_w_toFloat32S [.tmp 19], none, []⟩, ⟨7, some 21, .ia (.tmp 14) (.tmp 15), none, []⟩, ⟨8, none, .st (.tmp 21) (.tmp 20), none, []⟩]))
  (.keep [0, 3, 4] (.ops [⟨0, some 12, .mv (.tmp 4), none, []⟩, ⟨1, some 13, .bin .add (.tmp 12) (.const (.int .i64 1)), none, []⟩, ⟨2, some 4, .mv (.tmp 13), none, []⟩])))))))
  (.seq (.keep [3] (.ops [⟨0, some 22, .mv (.tmp 3), none, []⟩, ⟨1, some 2, .mv (.tmp 22), none, []⟩]))
  (.ret))))
theorem k_w_toFloat32SS : FnOk Try.prog n_w_toFloat32SS 1 c_w_toFloat32SS [.tmp 2] := ⟨by kernel_rfl⟩
def c_w_eqFloat32SS : ACode :=
  .seq (.ops [⟨0, some 4, .mv (.const (.bool false)), none, []⟩])
  (.seq (.seq (.ops [⟨0, some 6, .mv (.tmp 0), none, []⟩, ⟨1, some 7, .len (.tmp 6), none, []⟩, ⟨2, some 8, .mv (.tmp 1), none, []⟩, ⟨3, some 9, .len (.tmp 8), none, []⟩, ⟨4, some 10, .bin .neq (.tmp 7) (.tmp 9), none, []⟩])
  (.cond (.tmp 10) (.seq (.keep [] (.ops [⟨0, some 4, .mv (.const (.bool false)), none, []⟩]))
  (.ret)) (.skip)))
  (.seq (.seq (.keep [0, 1] (.ops [⟨0, some 5, .mv (.const (.int .i64 0)), none, []⟩]))
  (.block 0 (.loop [0, 1, 5] (.seq (.seq (.ops [⟨0, some 11, .mv (.tmp 5), none, []⟩, ⟨1, some 12, .mv (.tmp 0), none, []⟩, ⟨2, some 13, .len (.tmp 12), none, []⟩, ⟨3, some 14, .bin .lss (.tmp 11) (.tmp 13), none, []⟩])
  (.cond (.tmp 14) (.skip) (.exit 0)))
  (.seq (.block 1 (.seq (.ops [⟨0, some 17, .mv (.tmp 0), none, []⟩, ⟨1, some 18, .mv (.tmp 5), none, []⟩, ⟨2, some 19, .ia (.tmp 17) (.tmp 18), none, []⟩, ⟨3, some 20, .ld (.tmp 19), none, []⟩, ⟨4, some 21, .mv (.tmp 1), none, []⟩, ⟨5, some 22, .mv (.tmp 5), none, []⟩, ⟨6, some 23, .ia (.tmp 21) (.tmp 22), none, []⟩, ⟨7, some 24, .ld (.tmp 23), none, []⟩, ⟨8, some 25, .call n_w_eqFloat32S [.tmp 20, .tmp 24], none, []⟩, ⟨9, some 26, .un .not (.tmp 25), none, []⟩])
  (.cond (.tmp 26) (.seq (.keep [] (.ops [⟨0, some 4, .mv (.const (.bool false)), none, []⟩]))
  (.ret)) (.skip))))
  (.keep [0, 1, 5] (.ops [⟨0, some 15, .mv (.tmp 5), none, []⟩, ⟨1, some 16, .bin .add (.tmp 15) (.const (.int .i64 1)), none, []⟩, ⟨2, some 5, .mv (.tmp 16), none, []⟩])))))))
  (.seq (.keep [] (.ops [⟨0, some 4, .mv (.const (.bool true)), none, []⟩]))
  (.ret))))
theorem k_w_eqFloat32SS : FnOk Try.prog n_w_eqFloat32SS 2 c_w_eqFloat32SS [.tmp 4] := ⟨by kernel_rfl⟩
def c_w_markFloat32SS : ACode :=
  .seq (.ops [⟨0, some 4, .mv (.const (.int .i64 0)), none, []⟩])
  (.seq (.seq (.ops [⟨0, some 5, .mv (.const (.int .i64 0)), none, []⟩])
  (.block 0 (.loop [0, 1, 5] (.seq (.seq (.ops [⟨0, some 6, .mv (.tmp 5), none, []⟩, ⟨1, some 7, .mv (.tmp 0), none, []⟩, ⟨2, some 8, .len (.tmp 7), none, []⟩, ⟨3, some 9, .bin .lss (.tmp 6) (.tmp 8), none, []⟩])
  (.cond (.tmp 9) (.skip) (.exit 0)))
  (.seq (.block 1 (.ops [⟨0, some 12, .mv (.tmp 0), none, []⟩, ⟨1, some 13, .mv (.tmp 5), none, []⟩, ⟨2, some 14, .ia (.tmp 12) (.tmp 13), none, []⟩, ⟨3, some 15, .ld (.tmp 14), none, []⟩, ⟨4, some 16, .mv (.tmp 1), none, []⟩, ⟨5, some 17, .call n_w_markFloat32S [.tmp 15, .tmp 16], none, []⟩, ⟨6, some 1, .mv (.tmp 17), none, []⟩]))
  (.keep [0, 1, 5] (.ops [⟨0, some 10, .mv (.tmp 5), none, []⟩, ⟨1, some 11, .bin .add (.tmp 10) (.const (.int .i64 1)), none, []⟩, ⟨2, some 5, .mv (.tmp 11), none, []⟩])))))))
  (.seq (.keep [1] (.ops [⟨0, some 18, .mv (.tmp 1), none, []⟩, ⟨1, some 4, .mv (.tmp 18), none, []⟩]))
  (.ret)))
theorem k_w_markFloat32SS : FnOk Try.prog n_w_markFloat32SS 2 c_w_markFloat32SS [.tmp 4] := ⟨by kernel_rfl⟩
def c_s_BandAlone : ACode :=
  .seq (.ops [⟨0, some 3, .box 40 (.tmp 0), none, []⟩, ⟨1, some 4, .box 51 (.tmp 1), none, []⟩, ⟨2, some 6, .mv (.const (.slice none 0 0)), none, []⟩, ⟨3, some 7, .mv (.const (.bool false)), none, []⟩])
  (.seq (.seq (.ops [⟨0, some 10, .call n_s_l03Bands [.tmp 3], none, []⟩, ⟨1, some 11, .un .not (.tmp 10), none, []⟩, ⟨2, some 12, .mv (.tmp 11), none, []⟩, ⟨3, some 13, .call n_s_l03Pair [.tmp 4], (some (12, false)), []⟩, ⟨4, some 14, .un .not (.tmp 13), (some (12, false)), []⟩, ⟨5, some 15, .pick (.tmp 12) (.const (.bool true)) (.tmp 14), none, []⟩, ⟨6, some 16, .mv (.tmp 15), none, []⟩, ⟨7, some 17, .mv (.tmp 2), (some (16, false)), []⟩, ⟨8, some 18, .fa 1 (.tmp 3), (some (16, false)), []⟩, ⟨9, some 19, .ld (.tmp 18), (some (16, false)), []⟩, ⟨10, some 20, .len (.tmp 19), (some (16, false)), []⟩, ⟨11, some 21, .call n_s_l00In [.tmp 17, .const (.int .i64 0), .tmp 20], (some (16, false)), []⟩, ⟨12, some 22, .un .not (.tmp 21), (some (16, false)), []⟩, ⟨13, some 23, .pick (.tmp 16) (.const (.bool true)) (.tmp 22), none, []⟩])
  (.cond (.tmp 23) (.seq (.keep [] (.ops [⟨0, some 6, .mv (.const (.slice none 0 0)), none, []⟩, ⟨1, some 7, .mv (.const (.bool false)), none, []⟩]))
  (.ret)) (.skip)))
  (.seq (.keep [2, 3, 4] (.ops [⟨0, some 24, .fa 1 (.tmp 3), none, []⟩, ⟨1, some 25, .ld (.tmp 24), none, []⟩, ⟨2, some 26, .len (.tmp 25), none, []⟩, ⟨3, some 27, .bin .add (.tmp 26) (.const (.int .i64 1)), none, []⟩, ⟨4, some 28, .mks 4 1 (.bool false) (.tmp 27) (.tmp 27), none, []⟩, ⟨5, some 8, .mv (.tmp 28), none, []⟩]))
  (.seq (.keep [2, 3, 4, 8] (.ops [⟨0, some 29, .mv (.tmp 8), none, []⟩, ⟨1, some 30, .mv (.tmp 2), none, []⟩, ⟨2, some 31, .ia (.tmp 29) (.tmp 30), none, []⟩, ⟨3, none, .st (.tmp 31) (.const (.bool true)), none, []⟩]))
  (.seq (.both 11 12 (.ops [⟨0, some 32, .mv (.tmp 8), none, []⟩, ⟨1, some 33, .fa 1 (.tmp 3), none, []⟩, ⟨2, some 34, .ld (.tmp 33), none, []⟩, ⟨3, some 35, .len (.tmp 34), none, []⟩, ⟨4, some 36, .ia (.tmp 32) (.tmp 35), none, []⟩, ⟨5, some 37, .ld (.tmp 36), none, []⟩, ⟨6, some 38, .mv (.tmp 8), none, []⟩, ⟨7, some 39, .fa 1 (.tmp 3), none, []⟩, ⟨8, some 40, .ld (.tmp 39), none, []⟩, ⟨9, some 41, .len (.tmp 40), none, []⟩, ⟨10, some 42, .slc (.tmp 38) none (some (.tmp 41)), none, []⟩, ⟨11, some 43, .call n_s_l03Keep [.tmp 3, .tmp 37, .tmp 42], none, []⟩, ⟨12, some 9, .new 40 [.slice none 0 0, .slice none 0 0], none, []⟩, ⟨13, none, .stn 2 (.tmp 9) (.tmp 43), none, []⟩]) (.ops [⟨0, some 32, .mv (.tmp 8), none, []⟩, ⟨1, some 33, .fa 1 (.tmp 3), none, []⟩, ⟨2, some 34, .ld (.tmp 33), none, []⟩, ⟨3, some 35, .len (.tmp 34), none, []⟩, ⟨4, some 36, .ia (.tmp 32) (.tmp 35), none, []⟩, ⟨5, some 37, .ld (.tmp 36), none, []⟩, ⟨6, some 38, .mv (.tmp 8), none, []⟩, ⟨7, some 39, .fa 1 (.tmp 3), none, []⟩, ⟨8, some 40, .ld (.tmp 39), none, []⟩, ⟨9, some 41, .len (.tmp 40), none, []⟩, ⟨10, some 42, .slc (.tmp 38) none (some (.tmp 41)), none, []⟩, ⟨12, some 9, .new 40 [.slice none 0 0, .slice none 0 0], none, [(some 34, .ld (.tmp 33), none), (some 36, .ia (.tmp 32) (.tmp 35), none), (some 37, .ld (.tmp 36), none), (some 40, .ld (.tmp 39), none)]⟩, ⟨11, some 43, .call n_s_l03Keep [.tmp 3, .tmp 37, .tmp 42], none, []⟩, ⟨13, none, .stn 2 (.tmp 9) (.tmp 43), none, []⟩]))
  (.keep [4, 9] (.seq (.ops [⟨0, some 44, .call n_s_l03Levels [.tmp 9, .tmp 4], none, []⟩, ⟨1, some 45, .ext (.tmp 44) 0, none, []⟩, ⟨2, some 46, .ext (.tmp 44) 1, none, []⟩, ⟨3, some 6, .mv (.tmp 45), none, []⟩, ⟨4, some 7, .mv (.tmp 46), none, []⟩])
  (.ret)))))))
theorem k_s_BandAlone : FnOk Try.prog n_s_BandAlone 3 c_s_BandAlone [.tmp 6, .tmp 7] := ⟨by kernel_rfl⟩
def c_i_BandAlone : ACode :=
  .seq (.ops [⟨0, some 3, .box 40 (.tmp 0), none, []⟩, ⟨1, some 4, .box 51 (.tmp 1), none, []⟩, ⟨2, some 6, .mv (.const (.slice none 0 0)), none, []⟩, ⟨3, some 7, .mv (.const (.bool false)), none, []⟩])
  (.seq (.ops [⟨0, some 12, .fa 1 (.tmp 3), none, []⟩, ⟨1, some 13, .ld (.tmp 12), none, []⟩, ⟨2, some 14, .len (.tmp 13), none, []⟩, ⟨3, some 8, .mv (.tmp 14), none, []⟩])
  (.seq (.seq (.keep [2, 3, 4, 8] (.ops [⟨0, some 15, .mv (.tmp 2), none, []⟩, ⟨1, some 16, .mv (.tmp 8), none, []⟩, ⟨2, some 17, .call n_i_within [.tmp 15, .const (.int .i64 0), .tmp 16], none, []⟩, ⟨3, some 18, .un .not (.tmp 17), none, []⟩]))
  (.cond (.tmp 18) (.seq (.keep [] (.ops [⟨0, some 6, .mv (.const (.slice none 0 0)), none, []⟩, ⟨1, some 7, .mv (.const (.bool false)), none, []⟩]))
  (.ret)) (.skip)))
  (.seq (.ops [⟨0, some 19, .mv (.tmp 8), none, []⟩, ⟨1, some 20, .mks 4 1 (.bool false) (.tmp 19) (.tmp 19), none, []⟩, ⟨2, some 9, .mv (.tmp 20), none, []⟩])
  (.seq (.seq (.keep [2, 3, 4, 8, 9] (.ops [⟨0, some 21, .mv (.tmp 2), none, []⟩, ⟨1, some 22, .mv (.tmp 8), none, []⟩, ⟨2, some 23, .bin .lss (.tmp 21) (.tmp 22), none, []⟩]))
  (.cond (.tmp 23) (.ops [⟨0, some 24, .mv (.tmp 9), none, []⟩, ⟨1, some 25, .mv (.tmp 2), none, []⟩, ⟨2, some 26, .ia (.tmp 24) (.tmp 25), none, []⟩, ⟨3, none, .st (.tmp 26) (.const (.bool true)), none, []⟩]) (.skip)))
  (.seq (.keep [2, 3, 4, 8, 9] (.ops [⟨0, some 28, .ldn 2 (.tmp 3), none, []⟩, ⟨1, some 29, .mv (.tmp 2), none, []⟩, ⟨2, some 30, .mv (.tmp 8), none, []⟩, ⟨3, some 31, .bin .eql (.tmp 29) (.tmp 30), none, []⟩, ⟨4, some 32, .mv (.tmp 9), none, []⟩, ⟨5, some 33, .call n_i_KeepBands [.tmp 28, .tmp 31, .tmp 32], none, []⟩, ⟨6, some 27, .mv (.tmp 33), none, []⟩, ⟨7, some 34, .ext (.tmp 27) 0, none, []⟩, ⟨8, some 35, .ext (.tmp 27) 1, none, []⟩, ⟨9, some 10, .new 40 [.slice none 0 0, .slice none 0 0], none, []⟩, ⟨10, none, .stn 2 (.tmp 10) (.tmp 34), none, []⟩, ⟨11, some 11, .mv (.tmp 35), none, []⟩]))
  (.seq (.seq (.keep [4, 10, 11] (.ops [⟨0, some 36, .mv (.tmp 11), none, []⟩, ⟨1, some 37, .un .not (.tmp 36), none, []⟩]))
  (.cond (.tmp 37) (.seq (.keep [] (.ops [⟨0, some 6, .mv (.const (.slice none 0 0)), none, []⟩, ⟨1, some 7, .mv (.const (.bool false)), none, []⟩]))
  (.ret)) (.skip)))
  (.seq (.ops [⟨0, some 38, .ldn 2 (.tmp 10), none, []⟩, ⟨1, some 39, .ldn 1 (.tmp 4), none, []⟩, ⟨2, some 40, .call n_i_JoinLevels [.tmp 38, .tmp 39], none, []⟩, ⟨3, some 41, .ext (.tmp 40) 0, none, []⟩, ⟨4, some 42, .ext (.tmp 40) 1, none, []⟩, ⟨5, some 6, .mv (.tmp 41), none, []⟩, ⟨6, some 7, .mv (.tmp 42), none, []⟩])
  (.ret))))))))
theorem k_i_BandAlone : FnOk Try.prog n_i_BandAlone 3 c_i_BandAlone [.tmp 6, .tmp 7] := ⟨by kernel_rfl⟩
def c_w_toFloat32S : ACode :=
  .seq (.ops [⟨0, some 2, .mv (.const (.slice none 0 0)), none, []⟩])
  (.seq (.ops [⟨0, some 5, .mv (.tmp 0), none, []⟩, ⟨1, some 6, .len (.tmp 5), none, []⟩, ⟨2, some 7, .mks 37 4 (.float .f32 0) (.tmp 6) (.tmp 6), none, []⟩, ⟨3, some 3, .mv (.tmp 7), none, []⟩])
  (.seq (.seq (.ops [⟨0, some 4, .mv (.const (.int .i64 0)), none, []⟩])
  (.block 0 (.loop [0, 3, 4] (.seq (.seq (.ops [⟨0, some 8, .mv (.tmp 4), none, []⟩, ⟨1, some 9, .mv (.tmp 0), none, []⟩, ⟨2, some 10, .len (.tmp 9), none, []⟩, ⟨3, some 11, .bin .lss (.tmp 8) (.tmp 10), none, []⟩])
  (.cond (.tmp 11) (.skip) (.exit 0)))
  (.seq (.block 1 (.ops [⟨0, some 14, .mv (.tmp 3), none, []⟩, ⟨1, some 15, .mv (.tmp 4), none, []⟩, ⟨2, some 16, .mv (.tmp 0), none, []⟩, ⟨3, some 17, .mv (.tmp 4), none, []⟩, ⟨4, some 18, .ia (.tmp 16) (.tmp 17), none, []⟩, ⟨5, some 19, .ld (.tmp 18), none, []⟩, ⟨6, some 20, .ia (.tmp 14) (.tmp 15), none, []⟩, ⟨7, none, .st (.tmp 20) (.tmp 19), none, []⟩]))
  (.keep [0, 3, 4] (.ops [⟨0, some 12, .mv (.tmp 4), none, []⟩, ⟨1, some 13, .bin .add (.tmp 12) (.const (.int .i64 1)), none, []⟩, ⟨2, some 4, .mv (.tmp 13), none, []⟩])))))))
  (.seq (.keep [3] (.ops [⟨0, some 21, .mv (.tmp 3), none, []⟩, ⟨1, some 2, .mv (.tmp 21), none, []⟩]))
  (.ret))))
theorem k_w_toFloat32S : FnOk Try.prog n_w_toFloat32S 1 c_w_toFloat32S [.tmp 2] := ⟨by kernel_rfl⟩
def c_i_within : ACode :=
  .seq (.ops [⟨0, some 6, .mv (.const (.bool false)), none, []⟩])
  (.seq (.ops [⟨0, some 7, .mv (.tmp 0), none, []⟩, ⟨1, some 8, .mv (.tmp 1), none, []⟩, ⟨2, some 9, .bin .geq (.tmp 7) (.tmp 8), none, []⟩, ⟨3, some 10, .mv (.tmp 9), none, []⟩, ⟨4, some 11, .mv (.tmp 0), (some (10, true)), []⟩, ⟨5, some 12, .mv (.tmp 2), (some (10, true)), []⟩, ⟨6, some 13, .bin .leq (.tmp 11) (.tmp 12), (some (10, true)), []⟩, ⟨7, some 14, .pick (.tmp 10) (.tmp 13) (.const (.bool false)), none, []⟩, ⟨8, some 6, .mv (.tmp 14), none, []⟩])
  (.ret))
theorem k_i_within : FnOk Try.prog n_i_within 3 c_i_within [.tmp 6] := ⟨by kernel_rfl⟩
def c_w_szFloat32S : ACode :=
  .seq (.ops [⟨0, some 4, .mv (.const (.int .i64 0)), none, []⟩])
  (.seq (.ops [⟨0, some 5, .mv (.tmp 1), none, []⟩, ⟨1, some 6, .mv (.tmp 0), none, []⟩, ⟨2, some 7, .len (.tmp 6), none, []⟩, ⟨3, some 8, .bin .sub (.tmp 5) (.tmp 7), none, []⟩, ⟨4, some 1, .mv (.tmp 8), none, []⟩])
  (.seq (.seq (.keep [1] (.ops [⟨0, some 9, .mv (.tmp 1), none, []⟩, ⟨1, some 10, .bin .lss (.tmp 9) (.const (.int .i64 0)), none, []⟩]))
  (.cond (.tmp 10) (.seq (.ops [⟨0, some 4, .mv (.const (.int .i64 (-1))), none, []⟩])
  (.ret)) (.skip)))
  (.seq (.ops [⟨0, some 11, .mv (.tmp 1), none, []⟩, ⟨1, some 4, .mv (.tmp 11), none, []⟩])
  (.ret))))
theorem k_w_szFloat32S : FnOk Try.prog n_w_szFloat32S 2 c_w_szFloat32S [.tmp 4] := ⟨by kernel_rfl⟩
def c_s_l03Bands : ACode :=
  .seq (.ops [⟨0, some 2, .mv (.const (.bool false)), none, []⟩])
  (.seq (.ops [⟨0, some 5, .mv (.tmp 0), none, []⟩, ⟨1, some 6, .nc (.tmp 5), none, []⟩, ⟨2, some 7, .fa 1 (.tmp 6), none, []⟩, ⟨3, some 8, .ld (.tmp 7), none, []⟩, ⟨4, some 9, .len (.tmp 8), none, []⟩, ⟨5, some 3, .mv (.tmp 9), none, []⟩])
  (.seq (.seq (.keep [0, 3] (.ops [⟨0, some 10, .mv (.tmp 3), none, []⟩, ⟨1, some 11, .bin .lss (.tmp 10) (.const (.int .i64 1)), none, []⟩, ⟨2, some 12, .mv (.tmp 11), none, []⟩, ⟨3, some 13, .mv (.tmp 3), (some (12, false)), []⟩, ⟨4, some 14, .bin .gtr (.tmp 13) (.const (.int .i64 6)), (some (12, false)), []⟩, ⟨5, some 15, .pick (.tmp 12) (.const (.bool true)) (.tmp 14), none, []⟩, ⟨6, some 16, .mv (.tmp 15), none, []⟩, ⟨7, some 17, .mv (.tmp 0), (some (16, false)), []⟩, ⟨8, some 18, .nc (.tmp 17), (some (16, false)), []⟩, ⟨9, some 19, .fa 1 (.tmp 18), (some (16, false)), []⟩, ⟨10, some 20, .ld (.tmp 19), (some (16, false)), []⟩, ⟨11, some 21, .ia (.tmp 20) (.const (.int .i64 0)), (some (16, false)), []⟩, ⟨12, some 22, .ld (.tmp 21), (some (16, false)), []⟩, ⟨13, some 23, .len (.tmp 22), (some (16, false)), []⟩, ⟨14, some 24, .bin .gtr (.tmp 23) (.const (.int .i64 64)), (some (16, false)), []⟩, ⟨15, some 25, .pick (.tmp 16) (.const (.bool true)) (.tmp 24), none, []⟩, ⟨16, some 26, .mv (.tmp 25), none, []⟩, ⟨17, some 27, .mv (.tmp 0), (some (26, false)), []⟩, ⟨18, some 28, .nc (.tmp 27), (some (26, false)), []⟩, ⟨19, some 29, .fa 0 (.tmp 28), (some (26, false)), []⟩, ⟨20, some 30, .ld (.tmp 29), (some (26, false)), []⟩, ⟨21, some 31, .call n_s_l02Finite [.tmp 30], (some (26, false)), []⟩, ⟨22, some 32, .un .not (.tmp 31), (some (26, false)), []⟩, ⟨23, some 33, .pick (.tmp 26) (.const (.bool true)) (.tmp 32), none, []⟩]))
  (.cond (.tmp 33) (.seq (.keep [] (.ops [⟨0, some 2, .mv (.const (.bool false)), none, []⟩]))
  (.ret)) (.skip)))
  (.seq (.seq (.keep [0, 3] (.ops [⟨0, some 34, .mv (.tmp 0), none, []⟩, ⟨1, some 35, .nc (.tmp 34), none, []⟩, ⟨2, some 36, .fa 1 (.tmp 35), none, []⟩, ⟨3, some 37, .ld (.tmp 36), none, []⟩, ⟨4, some 38, .len (.tmp 37), none, []⟩, ⟨5, some 39, .mv (.const (.int .i64 0)), none, []⟩]))
  (.block 0 (.loop [0, 3, 38, 39] (.seq (.ops [⟨0, some 40, .bin .lss (.tmp 39) (.tmp 38), none, []⟩])
  (.seq (.cond (.tmp 40) (.skip) (.exit 0))
  (.seq (.block 1 (.seq (.ops [⟨0, some 41, .mv (.tmp 39), none, []⟩, ⟨1, some 4, .mv (.tmp 41), none, []⟩])
  (.seq (.ops [⟨0, some 42, .mv (.tmp 0), none, []⟩, ⟨1, some 43, .nc (.tmp 42), none, []⟩, ⟨2, some 44, .fa 1 (.tmp 43), none, []⟩, ⟨3, some 45, .ld (.tmp 44), none, []⟩, ⟨4, some 46, .mv (.tmp 4), none, []⟩, ⟨5, some 47, .ia (.tmp 45) (.tmp 46), none, []⟩, ⟨6, some 48, .ld (.tmp 47), none, []⟩, ⟨7, some 49, .len (.tmp 48), none, []⟩, ⟨8, some 50, .bin .lss (.tmp 49) (.const (.int .i64 1)), none, []⟩, ⟨9, some 51, .mv (.tmp 50), none, []⟩, ⟨10, some 52, .mv (.tmp 0), (some (51, false)), []⟩, ⟨11, some 53, .nc (.tmp 52), (some (51, false)), []⟩, ⟨12, some 54, .fa 1 (.tmp 53), (some (51, false)), []⟩, ⟨13, some 55, .ld (.tmp 54), (some (51, false)), []⟩, ⟨14, some 56, .mv (.tmp 4), (some (51, false)), []⟩, ⟨15, some 57, .ia (.tmp 55) (.tmp 56), (some (51, false)), []⟩, ⟨16, some 58, .ld (.tmp 57), (some (51, false)), []⟩, ⟨17, some 59, .call n_s_l02Finite [.tmp 58], (some (51, false)), []⟩, ⟨18, some 60, .un .not (.tmp 59), (some (51, false)), []⟩, ⟨19, some 61, .pick (.tmp 51) (.const (.bool true)) (.tmp 60), none, []⟩, ⟨20, some 62, .mv (.tmp 61), none, []⟩, ⟨21, some 63, .mv (.tmp 4), (some (62, false)), []⟩, ⟨22, some 64, .bin .gtr (.tmp 63) (.const (.int .i64 0)), (some (62, false)), []⟩, ⟨23, some 65, .mv (.tmp 64), (some (62, false)), []⟩, ⟨24, some 66, .mv (.tmp 0), (some (65, true)), []⟩, ⟨25, some 67, .nc (.tmp 66), (some (65, true)), []⟩, ⟨26, some 68, .fa 1 (.tmp 67), (some (65, true)), []⟩, ⟨27, some 69, .ld (.tmp 68), (some (65, true)), []⟩, ⟨28, some 70, .mv (.tmp 4), (some (65, true)), []⟩, ⟨29, some 71, .bin .sub (.tmp 70) (.const (.int .i64 1)), (some (65, true)), []⟩, ⟨30, some 72, .ia (.tmp 69) (.tmp 71), (some (65, true)), []⟩, ⟨31, some 73, .ld (.tmp 72), (some (65, true)), []⟩, ⟨32, some 74, .len (.tmp 73), (some (65, true)), []⟩, ⟨33, some 75, .mv (.tmp 0), (some (65, true)), []⟩, ⟨34, some 76, .nc (.tmp 75), (some (65, true)), []⟩, ⟨35, some 77, .fa 1 (.tmp 76), (some (65, true)), []⟩, ⟨36, some 78, .ld (.tmp 77), (some (65, true)), []⟩, ⟨37, some 79, .mv (.tmp 4), (some (65, true)), []⟩, ⟨38, some 80, .ia (.tmp 78) (.tmp 79), (some (65, true)), []⟩, ⟨39, some 81, .ld (.tmp 80), (some (65, true)), []⟩, ⟨40, some 82, .len (.tmp 81), (some (65, true)), []⟩, ⟨41, some 83, .bin .mul (.const (.int .i64 2)) (.tmp 82), (some (65, true)), []⟩, ⟨42, some 84, .bin .neq (.tmp 74) (.tmp 83), (some (65, true)), []⟩, ⟨43, some 85, .pick (.tmp 65) (.tmp 84) (.const (.bool false)), (some (62, false)), []⟩, ⟨44, some 86, .pick (.tmp 62) (.const (.bool true)) (.tmp 85), none, []⟩])
  (.cond (.tmp 86) (.seq (.keep [] (.ops [⟨0, some 2, .mv (.const (.bool false)), none, []⟩]))
  (.ret)) (.skip)))))
  (.keep [0, 3, 38, 39] (.ops [⟨0, some 87, .bin .add (.tmp 39) (.const (.int .i64 1)), none, []⟩, ⟨1, some 39, .mv (.tmp 87), none, []⟩]))))))))
  (.seq (.ops [⟨0, some 88, .mv (.tmp 0), none, []⟩, ⟨1, some 89, .nc (.tmp 88), none, []⟩, ⟨2, some 90, .fa 0 (.tmp 89), none, []⟩, ⟨3, some 91, .ld (.tmp 90), none, []⟩, ⟨4, some 92, .len (.tmp 91), none, []⟩, ⟨5, some 93, .mv (.tmp 0), none, []⟩, ⟨6, some 94, .nc (.tmp 93), none, []⟩, ⟨7, some 95, .fa 1 (.tmp 94), none, []⟩, ⟨8, some 96, .ld (.tmp 95), none, []⟩, ⟨9, some 97, .mv (.tmp 3), none, []⟩, ⟨10, some 98, .bin .sub (.tmp 97) (.const (.int .i64 1)), none, []⟩, ⟨11, some 99, .ia (.tmp 96) (.tmp 98), none, []⟩, ⟨12, some 100, .ld (.tmp 99), none, []⟩, ⟨13, some 101, .len (.tmp 100), none, []⟩, ⟨14, some 102, .bin .eql (.tmp 92) (.tmp 101), none, []⟩, ⟨15, some 2, .mv (.tmp 102), none, []⟩])
  (.ret)))))
theorem k_s_l03Bands : FnOk Try.prog n_s_l03Bands 1 c_s_l03Bands [.tmp 2] := ⟨by kernel_rfl⟩
def c_s_l03Pair : ACode :=
  .seq (.ops [⟨0, some 2, .mv (.const (.bool false)), none, []⟩])
  (.seq (.ops [⟨0, some 7, .mv (.tmp 0), none, []⟩, ⟨1, some 8, .nc (.tmp 7), none, []⟩, ⟨2, some 9, .fa 0 (.tmp 8), none, []⟩, ⟨3, some 10, .ld (.tmp 9), none, []⟩, ⟨4, some 11, .len (.tmp 10), none, []⟩, ⟨5, some 3, .mv (.tmp 11), none, []⟩])
  (.seq (.seq (.keep [0, 3] (.ops [⟨0, some 12, .mv (.tmp 3), none, []⟩, ⟨1, some 13, .bin .lss (.tmp 12) (.const (.int .i64 2)), none, []⟩, ⟨2, some 14, .mv (.tmp 13), none, []⟩, ⟨3, some 15, .mv (.tmp 3), (some (14, false)), []⟩, ⟨4, some 16, .bin .gtr (.tmp 15) (.const (.int .i64 8)), (some (14, false)), []⟩, ⟨5, some 17, .pick (.tmp 14) (.const (.bool true)) (.tmp 16), none, []⟩, ⟨6, some 18, .mv (.tmp 17), none, []⟩, ⟨7, some 19, .mv (.tmp 3), (some (18, false)), []⟩, ⟨8, some 20, .bin .rem (.tmp 19) (.const (.int .i64 2)), (some (18, false)), []⟩, ⟨9, some 21, .bin .neq (.tmp 20) (.const (.int .i64 0)), (some (18, false)), []⟩, ⟨10, some 22, .pick (.tmp 18) (.const (.bool true)) (.tmp 21), none, []⟩, ⟨11, some 23, .mv (.tmp 22), none, []⟩, ⟨12, some 24, .mv (.tmp 0), (some (23, false)), []⟩, ⟨13, some 25, .nc (.tmp 24), (some (23, false)), []⟩, ⟨14, some 26, .fa 0 (.tmp 25), (some (23, false)), []⟩, ⟨15, some 27, .ld (.tmp 26), (some (23, false)), []⟩, ⟨16, some 28, .call n_s_l02Finite [.tmp 27], (some (23, false)), []⟩, ⟨17, some 29, .un .not (.tmp 28), (some (23, false)), []⟩, ⟨18, some 30, .pick (.tmp 23) (.const (.bool true)) (.tmp 29), none, []⟩]))
  (.cond (.tmp 30) (.seq (.keep [] (.ops [⟨0, some 2, .mv (.const (.bool false)), none, []⟩]))
  (.ret)) (.skip)))
  (.seq (.seq (.keep [0, 3] (.ops [⟨0, some 4, .mv (.const (.int .i64 0)), none, []⟩]))
  (.block 0 (.loop [0, 3, 4] (.seq (.seq (.ops [⟨0, some 31, .mv (.tmp 4), none, []⟩, ⟨1, some 32, .mv (.tmp 3), none, []⟩, ⟨2, some 33, .bin .lss (.tmp 31) (.tmp 32), none, []⟩])
  (.cond (.tmp 33) (.skip) (.exit 0)))
  (.seq (.block 1 (.seq (.ops [⟨0, some 5, .mv (.const (.float .f32 0)), none, []⟩])
  (.seq (.seq (.ops [⟨0, some 6, .mv (.const (.int .i64 0)), none, []⟩])
  (.block 2 (.loop [0, 3, 4, 5, 6] (.seq (.seq (.ops [⟨0, some 36, .mv (.tmp 6), none, []⟩, ⟨1, some 37, .mv (.tmp 4), none, []⟩, ⟨2, some 38, .bin .add (.tmp 36) (.tmp 37), none, []⟩, ⟨3, some 39, .mv (.tmp 3), none, []⟩, ⟨4, some 40, .bin .lss (.tmp 38) (.tmp 39), none, []⟩])
  (.cond (.tmp 40) (.skip) (.exit 2)))
  (.seq (.block 3 (.keep [0, 3, 4, 5, 6] (.ops [⟨0, some 43, .mv (.tmp 5), none, []⟩, ⟨1, some 44, .mv (.tmp 0), none, []⟩, ⟨2, some 45, .nc (.tmp 44), none, []⟩, ⟨3, some 46, .fa 0 (.tmp 45), none, []⟩, ⟨4, some 47, .ld (.tmp 46), none, []⟩, ⟨5, some 48, .mv (.tmp 6), none, []⟩, ⟨6, some 49, .ia (.tmp 47) (.tmp 48), none, []⟩, ⟨7, some 50, .ld (.tmp 49), none, []⟩, ⟨8, some 51, .mv (.tmp 0), none, []⟩, ⟨9, some 52, .nc (.tmp 51), none, []⟩, ⟨10, some 53, .fa 0 (.tmp 52), none, []⟩, ⟨11, some 54, .ld (.tmp 53), none, []⟩, ⟨12, some 55, .mv (.tmp 6), none, []⟩, ⟨13, some 56, .mv (.tmp 4), none, []⟩, ⟨14, some 57, .bin .add (.tmp 55) (.tmp 56), none, []⟩, ⟨15, some 58, .ia (.tmp 54) (.tmp 57), none, []⟩, ⟨16, some 59, .ld (.tmp 58), none, []⟩, ⟨17, some 60, .bin .mul (.tmp 50) (.tmp 59), none, []⟩, ⟨18, some 61, .bin .add (.tmp 43) (.tmp 60), none, []⟩, ⟨19, some 5, .mv (.tmp 61), none, []⟩])))
  (.keep [0, 3, 4, 5, 6] (.ops [⟨0, some 41, .mv (.tmp 6), none, []⟩, ⟨1, some 42, .bin .add (.tmp 41) (.const (.int .i64 1)), none, []⟩, ⟨2, some 6, .mv (.tmp 42), none, []⟩])))))))
  (.seq (.seq (.keep [0, 3, 4, 5] (.ops [⟨0, some 62, .mv (.tmp 4), none, []⟩, ⟨1, some 63, .bin .eql (.tmp 62) (.const (.int .i64 0)), none, []⟩]))
  (.cond (.tmp 63) (.ops [⟨0, some 64, .mv (.tmp 5), none, []⟩, ⟨1, some 65, .bin .sub (.tmp 64) (.const (.float .f32 1065353216)), none, []⟩, ⟨2, some 5, .mv (.tmp 65), none, []⟩]) (.skip)))
  (.seq (.ops [⟨0, some 66, .mv (.tmp 5), none, []⟩, ⟨1, some 67, .bin .leq (.tmp 66) (.const (.float .f32 981668463)), none, []⟩, ⟨2, some 68, .mv (.tmp 67), none, []⟩, ⟨3, some 69, .mv (.tmp 5), (some (68, true)), []⟩, ⟨4, some 70, .bin .geq (.tmp 69) (.const (.float .f32 3129152111)), (some (68, true)), []⟩, ⟨5, some 71, .pick (.tmp 68) (.tmp 70) (.const (.bool false)), none, []⟩, ⟨6, some 72, .un .not (.tmp 71), none, []⟩])
  (.cond (.tmp 72) (.seq (.keep [] (.ops [⟨0, some 2, .mv (.const (.bool false)), none, []⟩]))
  (.ret)) (.skip)))))))
  (.keep [0, 3, 4] (.ops [⟨0, some 34, .mv (.tmp 4), none, []⟩, ⟨1, some 35, .bin .add (.tmp 34) (.const (.int .i64 2)), none, []⟩, ⟨2, some 4, .mv (.tmp 35), none, []⟩])))))))
  (.seq (.keep [] (.ops [⟨0, some 2, .mv (.const (.bool true)), none, []⟩]))
  (.ret)))))
theorem k_s_l03Pair : FnOk Try.prog n_s_l03Pair 1 c_s_l03Pair [.tmp 2] := ⟨by kernel_rfl⟩
def c_s_l03Levels : ACode :=
  .seq (.ops [⟨0, some 4, .mv (.const (.slice none 0 0)), none, []⟩, ⟨1, some 5, .mv (.const (.bool false)), none, []⟩])
  (.seq (.ops [⟨0, some 8, .bsl 37 0 (.float .f32 0) [], none, []⟩, ⟨1, some 9, .mv (.tmp 0), none, []⟩, ⟨2, some 10, .nc (.tmp 9), none, []⟩, ⟨3, some 11, .fa 0 (.tmp 10), none, []⟩, ⟨4, some 12, .ld (.tmp 11), none, []⟩, ⟨5, some 13, .app 37 4 (.tmp 8) (.tmp 12), none, []⟩, ⟨6, some 6, .mv (.tmp 13), none, []⟩])
  (.seq (.seq (.keep [0, 1, 6] (.ops [⟨0, some 14, .mv (.tmp 0), none, []⟩, ⟨1, some 15, .nc (.tmp 14), none, []⟩, ⟨2, some 16, .fa 1 (.tmp 15), none, []⟩, ⟨3, some 17, .ld (.tmp 16), none, []⟩, ⟨4, some 18, .len (.tmp 17), none, []⟩, ⟨5, some 19, .bin .sub (.tmp 18) (.const (.int .i64 1)), none, []⟩, ⟨6, some 7, .mv (.tmp 19), none, []⟩]))
  (.block 0 (.loop [0, 1, 6, 7] (.seq (.seq (.ops [⟨0, some 20, .mv (.tmp 7), none, []⟩, ⟨1, some 21, .bin .geq (.tmp 20) (.const (.int .i64 0)), none, []⟩])
  (.cond (.tmp 21) (.skip) (.exit 0)))
  (.seq (.block 1 (.seq (.ops [⟨0, some 24, .mv (.tmp 6), none, []⟩, ⟨1, some 25, .mv (.tmp 0), none, []⟩, ⟨2, some 26, .nc (.tmp 25), none, []⟩, ⟨3, some 27, .fa 1 (.tmp 26), none, []⟩, ⟨4, some 28, .ld (.tmp 27), none, []⟩, ⟨5, some 29, .mv (.tmp 7), none, []⟩, ⟨6, some 30, .ia (.tmp 28) (.tmp 29), none, []⟩, ⟨7, some 31, .ld (.tmp 30), none, []⟩, ⟨8, some 32, .mv (.tmp 1), none, []⟩, ⟨9, some 33, .call n_s_l03Join [.tmp 24, .tmp 31, .tmp 32], none, []⟩, ⟨10, some 6, .mv (.tmp 33), none, []⟩])
  (.seq (.keep [0, 1, 6, 7] (.ops [⟨0, some 34, .mv (.tmp 6), none, []⟩, ⟨1, some 35, .call n_s_l02Finite [.tmp 34], none, []⟩, ⟨2, some 36, .un .not (.tmp 35), none, []⟩]))
  (.cond (.tmp 36) (.seq (.keep [] (.ops [⟨0, some 4, .mv (.const (.slice none 0 0)), none, []⟩, ⟨1, some 5, .mv (.const (.bool false)), none, []⟩]))
  (.ret)) (.skip)))))
  (.ops [⟨0, some 22, .mv (.tmp 7), none, []⟩, ⟨1, some 23, .bin .sub (.tmp 22) (.const (.int .i64 1)), none, []⟩, ⟨2, some 7, .mv (.tmp 23), none, []⟩]))))))
  (.seq (.keep [6] (.ops [⟨0, some 37, .mv (.tmp 6), none, []⟩, ⟨1, some 4, .mv (.tmp 37), none, []⟩, ⟨2, some 5, .mv (.const (.bool true)), none, []⟩]))
  (.ret))))
theorem k_s_l03Levels : FnOk Try.prog n_s_l03Levels 2 c_s_l03Levels [.tmp 4, .tmp 5] := ⟨by kernel_rfl⟩
def c_i_ValidBands : ACode :=
  .seq (.ops [⟨0, some 1, .box 40 (.tmp 0), none, []⟩, ⟨1, some 2, .mv (.const (.bool false)), none, []⟩])
  (.seq (.ops [⟨0, some 6, .fa 1 (.tmp 1), none, []⟩, ⟨1, some 7, .ld (.tmp 6), none, []⟩, ⟨2, some 8, .len (.tmp 7), none, []⟩, ⟨3, some 3, .mv (.tmp 8), none, []⟩])
  (.seq (.seq (.keep [1, 3] (.ops [⟨0, some 9, .mv (.tmp 3), none, []⟩, ⟨1, some 10, .call n_i_within [.tmp 9, .const (.int .i64 1), .const (.int .i64 6)], none, []⟩, ⟨2, some 11, .un .not (.tmp 10), none, []⟩, ⟨3, some 12, .mv (.tmp 11), none, []⟩, ⟨4, some 13, .fa 1 (.tmp 1), (some (12, false)), []⟩, ⟨5, some 14, .ld (.tmp 13), (some (12, false)), []⟩, ⟨6, some 15, .ia (.tmp 14) (.const (.int .i64 0)), (some (12, false)), []⟩, ⟨7, some 16, .ld (.tmp 15), (some (12, false)), []⟩, ⟨8, some 17, .len (.tmp 16), (some (12, false)), []⟩, ⟨9, some 18, .bin .gtr (.tmp 17) (.const (.int .i64 64)), (some (12, false)), []⟩, ⟨10, some 19, .pick (.tmp 12) (.const (.bool true)) (.tmp 18), none, []⟩, ⟨11, some 20, .mv (.tmp 19), none, []⟩, ⟨12, some 21, .fa 1 (.tmp 1), (some (20, false)), []⟩, ⟨13, some 22, .ld (.tmp 21), (some (20, false)), []⟩, ⟨14, some 23, .call n_i_areFinite [.tmp 22], (some (20, false)), []⟩, ⟨15, some 24, .un .not (.tmp 23), (some (20, false)), []⟩, ⟨16, some 25, .pick (.tmp 20) (.const (.bool true)) (.tmp 24), none, []⟩, ⟨17, some 26, .mv (.tmp 25), none, []⟩, ⟨18, some 27, .fa 0 (.tmp 1), (some (26, false)), []⟩, ⟨19, some 28, .ld (.tmp 27), (some (26, false)), []⟩, ⟨20, some 29, .bsl 32 1 (.slice none 0 0) [(0, .tmp 28)], (some (26, false)), []⟩, ⟨21, some 30, .call n_i_areFinite [.tmp 29], (some (26, false)), []⟩, ⟨22, some 31, .un .not (.tmp 30), (some (26, false)), []⟩, ⟨23, some 32, .pick (.tmp 26) (.const (.bool true)) (.tmp 31), none, []⟩]))
  (.cond (.tmp 32) (.seq (.keep [] (.ops [⟨0, some 2, .mv (.const (.bool false)), none, []⟩]))
  (.ret)) (.skip)))
  (.seq (.seq (.keep [1, 3] (.ops [⟨0, some 33, .fa 1 (.tmp 1), none, []⟩, ⟨1, some 34, .ld (.tmp 33), none, []⟩, ⟨2, some 35, .len (.tmp 34), none, []⟩, ⟨3, some 36, .mv (.const (.int .i64 0)), none, []⟩]))
  (.block 0 (.loop [1, 3, 34, 35, 36] (.seq (.ops [⟨0, some 37, .bin .lss (.tmp 36) (.tmp 35), none, []⟩])
  (.seq (.cond (.tmp 37) (.skip) (.exit 0))
  (.seq (.block 1 (.seq (.ops [⟨0, some 38, .mv (.tmp 36), none, []⟩, ⟨1, some 39, .ia (.tmp 34) (.tmp 36), none, []⟩, ⟨2, some 40, .ld (.tmp 39), none, []⟩, ⟨3, some 4, .mv (.tmp 38), none, []⟩, ⟨4, some 5, .mv (.tmp 40), none, []⟩])
  (.seq (.ops [⟨0, some 41, .mv (.tmp 5), none, []⟩, ⟨1, some 42, .len (.tmp 41), none, []⟩, ⟨2, some 43, .bin .eql (.tmp 42) (.const (.int .i64 0)), none, []⟩, ⟨3, some 44, .mv (.tmp 43), none, []⟩, ⟨4, some 45, .mv (.tmp 4), (some (44, false)), []⟩, ⟨5, some 46, .bin .gtr (.tmp 45) (.const (.int .i64 0)), (some (44, false)), []⟩, ⟨6, some 47, .mv (.tmp 46), (some (44, false)), []⟩, ⟨7, some 48, .mv (.tmp 5), (some (47, true)), []⟩, ⟨8, some 49, .len (.tmp 48), (some (47, true)), []⟩, ⟨9, some 50, .bin .mul (.const (.int .i64 2)) (.tmp 49), (some (47, true)), []⟩, ⟨10, some 51, .fa 1 (.tmp 1), (some (47, true)), []⟩, ⟨11, some 52, .ld (.tmp 51), (some (47, true)), []⟩, ⟨12, some 53, .mv (.tmp 4), (some (47, true)), []⟩, ⟨13, some 54, .bin .sub (.tmp 53) (.const (.int .i64 1)), (some (47, true)), []⟩, ⟨14, some 55, .ia (.tmp 52) (.tmp 54), (some (47, true)), []⟩, ⟨15, some 56, .ld (.tmp 55), (some (47, true)), []⟩, ⟨16, some 57, .len (.tmp 56), (some (47, true)), []⟩, ⟨17, some 58, .bin .neq (.tmp 50) (.tmp 57), (some (47, true)), []⟩, ⟨18, some 59, .pick (.tmp 47) (.tmp 58) (.const (.bool false)), (some (44, false)), []⟩, ⟨19, some 60, .pick (.tmp 44) (.const (.bool true)) (.tmp 59), none, []⟩])
  (.cond (.tmp 60) (.seq (.keep [] (.ops [⟨0, some 2, .mv (.const (.bool false)), none, []⟩]))
  (.ret)) (.skip)))))
  (.keep [1, 3, 34, 35, 36] (.ops [⟨0, some 61, .bin .add (.tmp 36) (.const (.int .i64 1)), none, []⟩, ⟨1, some 36, .mv (.tmp 61), none, []⟩]))))))))
  (.seq (.ops [⟨0, some 62, .fa 0 (.tmp 1), none, []⟩, ⟨1, some 63, .ld (.tmp 62), none, []⟩, ⟨2, some 64, .len (.tmp 63), none, []⟩, ⟨3, some 65, .fa 1 (.tmp 1), none, []⟩, ⟨4, some 66, .ld (.tmp 65), none, []⟩, ⟨5, some 67, .mv (.tmp 3), none, []⟩, ⟨6, some 68, .bin .sub (.tmp 67) (.const (.int .i64 1)), none, []⟩, ⟨7, some 69, .ia (.tmp 66) (.tmp 68), none, []⟩, ⟨8, some 70, .ld (.tmp 69), none, []⟩, ⟨9, some 71, .len (.tmp 70), none, []⟩, ⟨10, some 72, .bin .eql (.tmp 64) (.tmp 71), none, []⟩, ⟨11, some 2, .mv (.tmp 72), none, []⟩])
  (.ret)))))
theorem k_i_ValidBands : FnOk Try.prog n_i_ValidBands 1 c_i_ValidBands [.tmp 2] := ⟨by kernel_rfl⟩
def c_i_ValidPair : ACode :=
  .seq (.ops [⟨0, some 1, .box 51 (.tmp 0), none, []⟩, ⟨1, some 2, .mv (.const (.bool false)), none, []⟩])
  (.seq (.ops [⟨0, some 7, .fa 0 (.tmp 1), none, []⟩, ⟨1, some 8, .ld (.tmp 7), none, []⟩, ⟨2, some 9, .len (.tmp 8), none, []⟩, ⟨3, some 3, .mv (.tmp 9), none, []⟩])
  (.seq (.seq (.keep [1, 3] (.ops [⟨0, some 10, .mv (.tmp 3), none, []⟩, ⟨1, some 11, .call n_i_within [.tmp 10, .const (.int .i64 2), .const (.int .i64 8)], none, []⟩, ⟨2, some 12, .un .not (.tmp 11), none, []⟩, ⟨3, some 13, .mv (.tmp 12), none, []⟩, ⟨4, some 14, .mv (.tmp 3), (some (13, false)), []⟩, ⟨5, some 15, .bin .rem (.tmp 14) (.const (.int .i64 2)), (some (13, false)), []⟩, ⟨6, some 16, .bin .eql (.tmp 15) (.const (.int .i64 1)), (some (13, false)), []⟩, ⟨7, some 17, .pick (.tmp 13) (.const (.bool true)) (.tmp 16), none, []⟩, ⟨8, some 18, .mv (.tmp 17), none, []⟩, ⟨9, some 19, .fa 0 (.tmp 1), (some (18, false)), []⟩, ⟨10, some 20, .ld (.tmp 19), (some (18, false)), []⟩, ⟨11, some 21, .bsl 32 1 (.slice none 0 0) [(0, .tmp 20)], (some (18, false)), []⟩, ⟨12, some 22, .call n_i_areFinite [.tmp 21], (some (18, false)), []⟩, ⟨13, some 23, .un .not (.tmp 22), (some (18, false)), []⟩, ⟨14, some 24, .pick (.tmp 18) (.const (.bool true)) (.tmp 23), none, []⟩, ⟨15, some 25, .mv (.tmp 24), none, []⟩, ⟨16, some 26, .fa 0 (.tmp 1), (some (25, false)), []⟩, ⟨17, some 27, .ld (.tmp 26), (some (25, false)), []⟩, ⟨18, some 28, .call n_i_squares [.tmp 27], (some (25, false)), []⟩, ⟨19, some 29, .bin .sub (.tmp 28) (.const (.float .f32 1065353216)), (some (25, false)), []⟩, ⟨20, some 30, .call n_i_size [.tmp 29], (some (25, false)), []⟩, ⟨21, some 31, .bin .leq (.tmp 30) (.const (.float .f32 981668463)), (some (25, false)), []⟩, ⟨22, some 32, .un .not (.tmp 31), (some (25, false)), []⟩, ⟨23, some 33, .pick (.tmp 25) (.const (.bool true)) (.tmp 32), none, []⟩]))
  (.cond (.tmp 33) (.seq (.keep [] (.ops [⟨0, some 2, .mv (.const (.bool false)), none, []⟩]))
  (.ret)) (.skip)))
  (.seq (.seq (.keep [1, 3] (.ops [⟨0, some 4, .mv (.const (.int .i64 2)), none, []⟩]))
  (.block 0 (.loop [1, 3, 4] (.seq (.seq (.ops [⟨0, some 34, .mv (.tmp 4), none, []⟩, ⟨1, some 35, .mv (.tmp 3), none, []⟩, ⟨2, some 36, .bin .lss (.tmp 34) (.tmp 35), none, []⟩])
  (.cond (.tmp 36) (.skip) (.exit 0)))
  (.seq (.block 1 (.seq (.ops [⟨0, some 5, .mv (.const (.float .f32 0)), none, []⟩])
  (.seq (.seq (.ops [⟨0, some 6, .mv (.const (.int .i64 0)), none, []⟩])
  (.block 2 (.loop [1, 3, 4, 5, 6] (.seq (.seq (.ops [⟨0, some 39, .mv (.tmp 6), none, []⟩, ⟨1, some 40, .mv (.tmp 4), none, []⟩, ⟨2, some 41, .bin .add (.tmp 39) (.tmp 40), none, []⟩, ⟨3, some 42, .mv (.tmp 3), none, []⟩, ⟨4, some 43, .bin .lss (.tmp 41) (.tmp 42), none, []⟩])
  (.cond (.tmp 43) (.skip) (.exit 2)))
  (.seq (.block 3 (.keep [1, 3, 4, 5, 6] (.ops [⟨0, some 46, .mv (.tmp 5), none, []⟩, ⟨1, some 47, .fa 0 (.tmp 1), none, []⟩, ⟨2, some 48, .ld (.tmp 47), none, []⟩, ⟨3, some 49, .mv (.tmp 6), none, []⟩, ⟨4, some 50, .ia (.tmp 48) (.tmp 49), none, []⟩, ⟨5, some 51, .ld (.tmp 50), none, []⟩, ⟨6, some 52, .fa 0 (.tmp 1), none, []⟩, ⟨7, some 53, .ld (.tmp 52), none, []⟩, ⟨8, some 54, .mv (.tmp 6), none, []⟩, ⟨9, some 55, .mv (.tmp 4), none, []⟩, ⟨10, some 56, .bin .add (.tmp 54) (.tmp 55), none, []⟩, ⟨11, some 57, .ia (.tmp 53) (.tmp 56), none, []⟩, ⟨12, some 58, .ld (.tmp 57), none, []⟩, ⟨13, some 59, .bin .mul (.tmp 51) (.tmp 58), none, []⟩, ⟨14, some 60, .bin .add (.tmp 46) (.tmp 59), none, []⟩, ⟨15, some 5, .mv (.tmp 60), none, []⟩])))
  (.keep [1, 3, 4, 5, 6] (.ops [⟨0, some 44, .mv (.tmp 6), none, []⟩, ⟨1, some 45, .bin .add (.tmp 44) (.const (.int .i64 1)), none, []⟩, ⟨2, some 6, .mv (.tmp 45), none, []⟩])))))))
  (.seq (.keep [1, 3, 4, 5] (.ops [⟨0, some 61, .mv (.tmp 5), none, []⟩, ⟨1, some 62, .call n_i_size [.tmp 61], none, []⟩, ⟨2, some 63, .bin .leq (.tmp 62) (.const (.float .f32 981668463)), none, []⟩, ⟨3, some 64, .un .not (.tmp 63), none, []⟩]))
  (.cond (.tmp 64) (.seq (.keep [] (.ops [⟨0, some 2, .mv (.const (.bool false)), none, []⟩]))
  (.ret)) (.skip))))))
  (.keep [1, 3, 4] (.ops [⟨0, some 37, .mv (.tmp 4), none, []⟩, ⟨1, some 38, .bin .add (.tmp 37) (.const (.int .i64 2)), none, []⟩, ⟨2, some 4, .mv (.tmp 38), none, []⟩])))))))
  (.seq (.keep [] (.ops [⟨0, some 2, .mv (.const (.bool true)), none, []⟩]))
  (.ret)))))
theorem k_i_ValidPair : FnOk Try.prog n_i_ValidPair 1 c_i_ValidPair [.tmp 2] := ⟨by kernel_rfl⟩
def c_i_JoinRing : ACode :=
  .seq (.ops [⟨0, some 5, .box 51 (.tmp 2), none, []⟩, ⟨1, some 6, .mv (.const (.slice none 0 0)), none, []⟩, ⟨2, some 7, .mv (.const (.bool false)), none, []⟩])
  (.seq (.seq (.ops [⟨0, some 14, .mv (.tmp 0), none, []⟩, ⟨1, some 15, .len (.tmp 14), none, []⟩, ⟨2, some 16, .call n_i_within [.tmp 15, .const (.int .i64 1), .const (.int .i64 64)], none, []⟩, ⟨3, some 17, .un .not (.tmp 16), none, []⟩, ⟨4, some 18, .mv (.tmp 17), none, []⟩, ⟨5, some 19, .mv (.tmp 1), (some (18, false)), []⟩, ⟨6, some 20, .len (.tmp 19), (some (18, false)), []⟩, ⟨7, some 21, .mv (.tmp 0), (some (18, false)), []⟩, ⟨8, some 22, .len (.tmp 21), (some (18, false)), []⟩, ⟨9, some 23, .bin .neq (.tmp 20) (.tmp 22), (some (18, false)), []⟩, ⟨10, some 24, .pick (.tmp 18) (.const (.bool true)) (.tmp 23), none, []⟩, ⟨11, some 25, .mv (.tmp 24), none, []⟩, ⟨12, some 26, .mv (.tmp 0), (some (25, false)), []⟩, ⟨13, some 27, .mv (.tmp 1), (some (25, false)), []⟩, ⟨14, some 28, .bsl 32 2 (.slice none 0 0) [(0, .tmp 26), (1, .tmp 27)], (some (25, false)), []⟩, ⟨15, some 29, .call n_i_areFinite [.tmp 28], (some (25, false)), []⟩, ⟨16, some 30, .un .not (.tmp 29), (some (25, false)), []⟩, ⟨17, some 31, .pick (.tmp 25) (.const (.bool true)) (.tmp 30), none, []⟩, ⟨18, some 32, .mv (.tmp 31), none, []⟩, ⟨19, some 33, .ldn 1 (.tmp 5), (some (32, false)), []⟩, ⟨20, some 34, .call n_i_ValidPair [.tmp 33], (some (32, false)), []⟩, ⟨21, some 35, .un .not (.tmp 34), (some (32, false)), []⟩, ⟨22, some 36, .pick (.tmp 32) (.const (.bool true)) (.tmp 35), none, []⟩])
  (.cond (.tmp 36) (.seq (.keep [] (.ops [⟨0, some 6, .mv (.const (.slice none 0 0)), none, []⟩, ⟨1, some 7, .mv (.const (.bool false)), none, []⟩]))
  (.ret)) (.skip)))
  (.seq (.keep [0, 1, 5] (.ops [⟨0, some 37, .ldn 1 (.tmp 5), none, []⟩, ⟨1, some 38, .call n_i_highOf [.tmp 37], none, []⟩, ⟨2, some 8, .mv (.tmp 38), none, []⟩]))
  (.seq (.ops [⟨0, some 39, .mv (.tmp 0), none, []⟩, ⟨1, some 40, .len (.tmp 39), none, []⟩, ⟨2, some 41, .bin .mul (.const (.int .i64 2)) (.tmp 40), none, []⟩, ⟨3, some 9, .mv (.tmp 41), none, []⟩])
  (.seq (.keep [0, 1, 5, 8, 9] (.ops [⟨0, some 42, .mv (.tmp 9), none, []⟩, ⟨1, some 43, .mks 37 4 (.float .f32 0) (.tmp 42) (.tmp 42), none, []⟩, ⟨2, some 10, .mv (.tmp 43), none, []⟩]))
  (.seq (.seq (.ops [⟨0, some 44, .mv (.tmp 0), none, []⟩, ⟨1, some 45, .len (.tmp 44), none, []⟩, ⟨2, some 46, .mv (.const (.int .i64 0)), none, []⟩])
  (.block 0 (.loop [0, 1, 5, 8, 9, 10, 45, 46] (.seq (.ops [⟨0, some 47, .bin .lss (.tmp 46) (.tmp 45), none, []⟩])
  (.seq (.cond (.tmp 47) (.skip) (.exit 0))
  (.seq (.block 1 (.seq (.ops [⟨0, some 48, .mv (.tmp 46), none, []⟩, ⟨1, some 11, .mv (.tmp 48), none, []⟩])
  (.seq (.ops [⟨0, some 49, .fa 0 (.tmp 5), none, []⟩, ⟨1, some 50, .ld (.tmp 49), none, []⟩, ⟨2, some 51, .len (.tmp 50), none, []⟩, ⟨3, some 52, .mv (.const (.int .i64 0)), none, []⟩])
  (.block 2 (.loop [0, 1, 5, 8, 9, 10, 11, 45, 46, 50, 51, 52] (.seq (.ops [⟨0, some 53, .bin .lss (.tmp 52) (.tmp 51), none, []⟩])
  (.seq (.cond (.tmp 53) (.skip) (.exit 2))
  (.seq (.block 3 (.seq (.ops [⟨0, some 54, .mv (.tmp 52), none, []⟩, ⟨1, some 55, .ia (.tmp 50) (.tmp 52), none, []⟩, ⟨2, some 56, .ld (.tmp 55), none, []⟩, ⟨3, some 12, .mv (.tmp 54), none, []⟩, ⟨4, some 13, .mv (.tmp 56), none, []⟩])
  (.ops [⟨0, some 57, .mv (.tmp 10), none, []⟩, ⟨1, some 58, .mv (.tmp 11), none, []⟩, ⟨2, some 59, .bin .mul (.const (.int .i64 2)) (.tmp 58), none, []⟩, ⟨3, some 60, .mv (.tmp 12), none, []⟩, ⟨4, some 61, .bin .add (.tmp 59) (.tmp 60), none, []⟩, ⟨5, some 62, .mv (.tmp 9), none, []⟩, ⟨6, some 63, .bin .rem (.tmp 61) (.tmp 62), none, []⟩, ⟨7, some 64, .ia (.tmp 57) (.tmp 63), none, []⟩, ⟨8, some 65, .ld (.tmp 64), none, []⟩, ⟨9, some 66, .mv (.tmp 13), none, []⟩, ⟨10, some 67, .mv (.tmp 0), none, []⟩, ⟨11, some 68, .mv (.tmp 11), none, []⟩, ⟨12, some 69, .ia (.tmp 67) (.tmp 68), none, []⟩, ⟨13, some 70, .ld (.tmp 69), none, []⟩, ⟨14, some 71, .bin .mul (.tmp 66) (.tmp 70), none, []⟩, ⟨15, some 72, .mv (.tmp 8), none, []⟩, ⟨16, some 73, .mv (.tmp 12), none, []⟩, ⟨17, some 74, .ia (.tmp 72) (.tmp 73), none, []⟩, ⟨18, some 75, .ld (.tmp 74), none, []⟩, ⟨19, some 76, .mv (.tmp 1), none, []⟩, ⟨20, some 77, .mv (.tmp 11), none, []⟩, ⟨21, some 78, .ia (.tmp 76) (.tmp 77), none, []⟩, ⟨22, some 79, .ld (.tmp 78), none, []⟩, ⟨23, some 80, .bin .mul (.tmp 75) (.tmp 79), none, []⟩, ⟨24, some 81, .bin .add (.tmp 71) (.tmp 80), none, []⟩, ⟨25, some 82, .bin .add (.tmp 65) (.tmp 81), none, []⟩, ⟨26, some 83, .ia (.tmp 57) (.tmp 63), none, []⟩, ⟨27, none, .st (.tmp 83) (.tmp 82), none, []⟩])))
  (.keep [0, 1, 5, 8, 9, 10, 11, 45, 46, 50, 51, 52] (.ops [⟨0, some 84, .bin .add (.tmp 52) (.const (.int .i64 1)), none, []⟩, ⟨1, some 52, .mv (.tmp 84), none, []⟩]))))))))))
  (.keep [0, 1, 5, 8, 9, 10, 45, 46] (.ops [⟨0, some 85, .bin .add (.tmp 46) (.const (.int .i64 1)), none, []⟩, ⟨1, some 46, .mv (.tmp 85), none, []⟩]))))))))
  (.seq (.keep [10] (.ops [⟨0, some 86, .mv (.tmp 10), none, []⟩, ⟨1, some 87, .call n_i_finiteList [.tmp 86], none, []⟩, ⟨2, some 88, .ext (.tmp 87) 0, none, []⟩, ⟨3, some 89, .ext (.tmp 87) 1, none, []⟩, ⟨4, some 6, .mv (.tmp 88), none, []⟩, ⟨5, some 7, .mv (.tmp 89), none, []⟩]))
  (.ret)))))))
theorem k_i_JoinRing : FnOk Try.prog n_i_JoinRing 3 c_i_JoinRing [.tmp 6, .tmp 7] := ⟨by kernel_rfl⟩
def c_i_copyOf : ACode :=
  .seq (.ops [⟨0, some 2, .mv (.const (.slice none 0 0)), none, []⟩])
  (.seq (.ops [⟨0, some 3, .bsl 37 0 (.float .f32 0) [], none, []⟩, ⟨1, some 4, .mv (.tmp 0), none, []⟩, ⟨2, some 5, .app 37 4 (.tmp 3) (.tmp 4), none, []⟩, ⟨3, some 2, .mv (.tmp 5), none, []⟩])
  (.ret))
theorem k_i_copyOf : FnOk Try.prog n_i_copyOf 1 c_i_copyOf [.tmp 2] := ⟨by kernel_rfl⟩
def c_s_l00In : ACode :=
  .seq (.ops [⟨0, some 6, .mv (.const (.bool false)), none, []⟩])
  (.seq (.ops [⟨0, some 7, .mv (.tmp 0), none, []⟩, ⟨1, some 8, .mv (.tmp 1), none, []⟩, ⟨2, some 9, .bin .geq (.tmp 7) (.tmp 8), none, []⟩, ⟨3, some 10, .mv (.tmp 9), none, []⟩, ⟨4, some 11, .mv (.tmp 0), (some (10, true)), []⟩, ⟨5, some 12, .mv (.tmp 2), (some (10, true)), []⟩, ⟨6, some 13, .bin .leq (.tmp 11) (.tmp 12), (some (10, true)), []⟩, ⟨7, some 14, .pick (.tmp 10) (.tmp 13) (.const (.bool false)), none, []⟩, ⟨8, some 6, .mv (.tmp 14), none, []⟩])
  (.ret))
theorem k_s_l00In : FnOk Try.prog n_s_l00In 3 c_s_l00In [.tmp 6] := ⟨by kernel_rfl⟩
def c_s_l03Keep : ACode :=
  .seq (.ops [⟨0, some 6, .new 40 [.slice none 0 0, .slice none 0 0], none, []⟩])
  (.seq (.ops [⟨0, some 10, .mv (.tmp 0), none, []⟩, ⟨1, some 11, .nc (.tmp 10), none, []⟩, ⟨2, some 12, .fa 0 (.tmp 11), none, []⟩, ⟨3, some 13, .ld (.tmp 12), none, []⟩, ⟨4, some 14, .len (.tmp 13), none, []⟩, ⟨5, some 15, .mks 37 4 (.float .f32 0) (.tmp 14) (.tmp 14), none, []⟩, ⟨6, some 16, .bld [.slice none 0 0, .slice none 0 0] [(0, 1, .tmp 15)], none, []⟩, ⟨7, some 7, .new 40 [.slice none 0 0, .slice none 0 0], none, []⟩, ⟨8, none, .stn 2 (.tmp 7) (.tmp 16), none, []⟩])
  (.seq (.seq (.keep [0, 1, 2, 6, 7] (.ops [⟨0, some 17, .mv (.tmp 1), none, []⟩]))
  (.cond (.tmp 17) (.ops [⟨0, some 18, .fa 0 (.tmp 7), none, []⟩, ⟨1, some 19, .ld (.tmp 18), none, []⟩, ⟨2, some 20, .mv (.tmp 0), none, []⟩, ⟨3, some 21, .nc (.tmp 20), none, []⟩, ⟨4, some 22, .fa 0 (.tmp 21), none, []⟩, ⟨5, some 23, .ld (.tmp 22), none, []⟩, ⟨6, some 24, .cpy (.tmp 19) (.tmp 23), none, []⟩]) (.skip)))
  (.seq (.seq (.keep [0, 2, 6, 7] (.ops [⟨0, some 25, .mv (.tmp 0), none, []⟩, ⟨1, some 26, .nc (.tmp 25), none, []⟩, ⟨2, some 27, .fa 1 (.tmp 26), none, []⟩, ⟨3, some 28, .ld (.tmp 27), none, []⟩, ⟨4, some 29, .len (.tmp 28), none, []⟩, ⟨5, some 30, .mv (.const (.int .i64 0)), none, []⟩]))
  (.block 0 (.loop [0, 2, 6, 7, 29, 30] (.seq (.ops [⟨0, some 31, .bin .lss (.tmp 30) (.tmp 29), none, []⟩])
  (.seq (.cond (.tmp 31) (.skip) (.exit 0))
  (.seq (.block 1 (.seq (.ops [⟨0, some 32, .mv (.tmp 30), none, []⟩, ⟨1, some 8, .mv (.tmp 32), none, []⟩])
  (.seq (.ops [⟨0, some 33, .mv (.tmp 0), none, []⟩, ⟨1, some 34, .nc (.tmp 33), none, []⟩, ⟨2, some 35, .fa 1 (.tmp 34), none, []⟩, ⟨3, some 36, .ld (.tmp 35), none, []⟩, ⟨4, some 37, .mv (.tmp 8), none, []⟩, ⟨5, some 38, .ia (.tmp 36) (.tmp 37), none, []⟩, ⟨6, some 39, .ld (.tmp 38), none, []⟩, ⟨7, some 40, .len (.tmp 39), none, []⟩, ⟨8, some 41, .mks 37 4 (.float .f32 0) (.tmp 40) (.tmp 40), none, []⟩, ⟨9, some 9, .mv (.tmp 41), none, []⟩])
  (.seq (.seq (.keep [0, 2, 6, 7, 8, 9, 29, 30] (.ops [⟨0, some 42, .mv (.tmp 2), none, []⟩, ⟨1, some 43, .mv (.tmp 8), none, []⟩, ⟨2, some 44, .ia (.tmp 42) (.tmp 43), none, []⟩, ⟨3, some 45, .ld (.tmp 44), none, []⟩]))
  (.cond (.tmp 45) (.ops [⟨0, some 46, .mv (.tmp 9), none, []⟩, ⟨1, some 47, .mv (.tmp 0), none, []⟩, ⟨2, some 48, .nc (.tmp 47), none, []⟩, ⟨3, some 49, .fa 1 (.tmp 48), none, []⟩, ⟨4, some 50, .ld (.tmp 49), none, []⟩, ⟨5, some 51, .mv (.tmp 8), none, []⟩, ⟨6, some 52, .ia (.tmp 50) (.tmp 51), none, []⟩, ⟨7, some 53, .ld (.tmp 52), none, []⟩, ⟨8, some 54, .cpy (.tmp 46) (.tmp 53), none, []⟩]) (.skip)))
  (.keep [0, 2, 6, 7, 9, 29, 30] (.ops [⟨0, some 55, .fa 1 (.tmp 7), none, []⟩, ⟨1, some 56, .ld (.tmp 55), none, []⟩, ⟨2, some 57, .mv (.tmp 9), none, []⟩, ⟨3, some 58, .bsl 32 1 (.slice none 0 0) [(0, .tmp 57)], none, []⟩, ⟨4, some 59, .app 32 24 (.tmp 56) (.tmp 58), none, []⟩, ⟨5, some 60, .fa 1 (.tmp 7), none, []⟩, ⟨6, none, .st (.tmp 60) (.tmp 59), none, []⟩]))))))
  (.keep [0, 2, 6, 7, 29, 30] (.ops [⟨0, some 61, .bin .add (.tmp 30) (.const (.int .i64 1)), none, []⟩, ⟨1, some 30, .mv (.tmp 61), none, []⟩]))))))))
  (.seq (.keep [6, 7] (.ops [⟨0, some 62, .ldn 2 (.tmp 7), none, []⟩, ⟨1, none, .stn 2 (.tmp 6) (.tmp 62), none, []⟩]))
  (.ret)))))
theorem k_s_l03Keep : FnOk Try.prog n_s_l03Keep 3 c_s_l03Keep [.celln 6 2] := ⟨by kernel_rfl⟩
def c_i_KeepBands : ACode :=
  .seq (.ops [⟨0, some 3, .box 40 (.tmp 0), none, []⟩, ⟨1, some 6, .new 40 [.slice none 0 0, .slice none 0 0], none, []⟩, ⟨2, some 7, .mv (.const (.bool false)), none, []⟩])
  (.seq (.seq (.ops [⟨0, some 11, .ldn 2 (.tmp 3), none, []⟩, ⟨1, some 12, .call n_i_ValidBands [.tmp 11], none, []⟩, ⟨2, some 13, .un .not (.tmp 12), none, []⟩, ⟨3, some 14, .mv (.tmp 13), none, []⟩, ⟨4, some 15, .mv (.tmp 2), (some (14, false)), []⟩, ⟨5, some 16, .len (.tmp 15), (some (14, false)), []⟩, ⟨6, some 17, .fa 1 (.tmp 3), (some (14, false)), []⟩, ⟨7, some 18, .ld (.tmp 17), (some (14, false)), []⟩, ⟨8, some 19, .len (.tmp 18), (some (14, false)), []⟩, ⟨9, some 20, .bin .neq (.tmp 16) (.tmp 19), (some (14, false)), []⟩, ⟨10, some 21, .pick (.tmp 14) (.const (.bool true)) (.tmp 20), none, []⟩])
  (.cond (.tmp 21) (.seq (.keep [6] (.ops [⟨0, some 22, .bld [.slice none 0 0, .slice none 0 0] [], none, []⟩, ⟨1, none, .stn 2 (.tmp 6) (.tmp 22), none, []⟩, ⟨2, some 7, .mv (.const (.bool false)), none, []⟩]))
  (.ret)) (.skip)))
  (.seq (.keep [1, 2, 3, 6] (.ops [⟨0, some 23, .fa 0 (.tmp 3), none, []⟩, ⟨1, some 24, .ld (.tmp 23), none, []⟩, ⟨2, some 25, .mv (.tmp 1), none, []⟩, ⟨3, some 26, .call n_i_kept [.tmp 24, .tmp 25], none, []⟩, ⟨4, some 27, .bld [.slice none 0 0, .slice none 0 0] [(0, 1, .tmp 26)], none, []⟩, ⟨5, some 8, .new 40 [.slice none 0 0, .slice none 0 0], none, []⟩, ⟨6, none, .stn 2 (.tmp 8) (.tmp 27), none, []⟩]))
  (.seq (.seq (.keep [2, 3, 6, 8] (.ops [⟨0, some 28, .fa 1 (.tmp 3), none, []⟩, ⟨1, some 29, .ld (.tmp 28), none, []⟩, ⟨2, some 30, .len (.tmp 29), none, []⟩, ⟨3, some 31, .mv (.const (.int .i64 0)), none, []⟩]))
  (.block 0 (.loop [2, 6, 8, 29, 30, 31] (.seq (.ops [⟨0, some 32, .bin .lss (.tmp 31) (.tmp 30), none, []⟩])
  (.seq (.cond (.tmp 32) (.skip) (.exit 0))
  (.seq (.block 1 (.seq (.ops [⟨0, some 33, .mv (.tmp 31), none, []⟩, ⟨1, some 34, .ia (.tmp 29) (.tmp 31), none, []⟩, ⟨2, some 35, .ld (.tmp 34), none, []⟩, ⟨3, some 9, .mv (.tmp 33), none, []⟩, ⟨4, some 10, .mv (.tmp 35), none, []⟩])
  (.ops [⟨0, some 36, .fa 1 (.tmp 8), none, []⟩, ⟨1, some 37, .ld (.tmp 36), none, []⟩, ⟨2, some 38, .mv (.tmp 10), none, []⟩, ⟨3, some 39, .mv (.tmp 2), none, []⟩, ⟨4, some 40, .mv (.tmp 9), none, []⟩, ⟨5, some 41, .ia (.tmp 39) (.tmp 40), none, []⟩, ⟨6, some 42, .ld (.tmp 41), none, []⟩, ⟨7, some 43, .call n_i_kept [.tmp 38, .tmp 42], none, [(some 37, .ld (.tmp 36), none)]⟩, ⟨8, some 44, .bsl 32 1 (.slice none 0 0) [(0, .tmp 43)], none, [(some 37, .ld (.tmp 36), none)]⟩, ⟨9, some 45, .app 32 24 (.tmp 37) (.tmp 44), none, []⟩, ⟨10, some 46, .fa 1 (.tmp 8), none, []⟩, ⟨11, none, .st (.tmp 46) (.tmp 45), none, []⟩])))
  (.keep [2, 6, 8, 29, 30, 31] (.ops [⟨0, some 47, .bin .add (.tmp 31) (.const (.int .i64 1)), none, []⟩, ⟨1, some 31, .mv (.tmp 47), none, []⟩]))))))))
  (.seq (.keep [6, 8] (.ops [⟨0, some 48, .ldn 2 (.tmp 8), none, []⟩, ⟨1, none, .stn 2 (.tmp 6) (.tmp 48), none, []⟩, ⟨2, some 7, .mv (.const (.bool true)), none, []⟩]))
  (.ret)))))
theorem k_i_KeepBands : FnOk Try.prog n_i_KeepBands 3 c_i_KeepBands [.celln 6 2, .tmp 7] := ⟨by kernel_rfl⟩
def c_s_l02Finite : ACode :=
  .seq (.ops [⟨0, some 2, .mv (.const (.bool false)), none, []⟩])
  (.seq (.seq (.ops [⟨0, some 3, .mv (.const (.int .i64 0)), none, []⟩])
  (.block 0 (.loop [0, 3] (.seq (.seq (.ops [⟨0, some 4, .mv (.tmp 3), none, []⟩, ⟨1, some 5, .mv (.tmp 0), none, []⟩, ⟨2, some 6, .len (.tmp 5), none, []⟩, ⟨3, some 7, .bin .lss (.tmp 4) (.tmp 6), none, []⟩])
  (.cond (.tmp 7) (.skip) (.exit 0)))
  (.seq (.block 1 (.seq (.ops [⟨0, some 10, .mv (.tmp 0), none, []⟩, ⟨1, some 11, .mv (.tmp 3), none, []⟩, ⟨2, some 12, .ia (.tmp 10) (.tmp 11), none, []⟩, ⟨3, some 13, .ld (.tmp 12), none, []⟩, ⟨4, some 14, .call n_s_l01Finite [.tmp 13], none, []⟩, ⟨5, some 15, .un .not (.tmp 14), none, []⟩])
  (.cond (.tmp 15) (.seq (.keep [] (.ops [⟨0, some 2, .mv (.const (.bool false)), none, []⟩]))
  (.ret)) (.skip))))
  (.keep [0, 3] (.ops [⟨0, some 8, .mv (.tmp 3), none, []⟩, ⟨1, some 9, .bin .add (.tmp 8) (.const (.int .i64 1)), none, []⟩, ⟨2, some 3, .mv (.tmp 9), none, []⟩])))))))
  (.seq (.keep [] (.ops [⟨0, some 2, .mv (.const (.bool true)), none, []⟩]))
  (.ret)))
theorem k_s_l02Finite : FnOk Try.prog n_s_l02Finite 1 c_s_l02Finite [.tmp 2] := ⟨by kernel_rfl⟩
def c_s_l01Finite : ACode :=
  .seq (.ops [⟨0, some 2, .mv (.const (.bool false)), none, []⟩])
  (.seq (.ops [⟨0, some 3, .mv (.tmp 0), none, []⟩, ⟨1, some 4, .mv (.tmp 0), none, []⟩, ⟨2, some 5, .bin .sub (.tmp 3) (.tmp 4), none, []⟩, ⟨3, some 6, .bin .eql (.tmp 5) (.const (.float .f32 0)), none, []⟩, ⟨4, some 2, .mv (.tmp 6), none, []⟩])
  (.ret))
theorem k_s_l01Finite : FnOk Try.prog n_s_l01Finite 1 c_s_l01Finite [.tmp 2] := ⟨by kernel_rfl⟩
def c_i_squares : ACode :=
  .seq (.ops [⟨0, some 2, .mv (.const (.float .f32 0)), none, []⟩])
  (.seq (.ops [⟨0, some 3, .mv (.const (.float .f32 0)), none, []⟩])
  (.seq (.seq (.ops [⟨0, some 6, .mv (.tmp 0), none, []⟩, ⟨1, some 7, .len (.tmp 6), none, []⟩, ⟨2, some 8, .mv (.const (.int .i64 0)), none, []⟩])
  (.block 0 (.loop [3, 6, 7, 8] (.seq (.ops [⟨0, some 9, .bin .lss (.tmp 8) (.tmp 7), none, []⟩])
  (.seq (.cond (.tmp 9) (.skip) (.exit 0))
  (.seq (.block 1 (.seq (.ops [⟨0, some 10, .ia (.tmp 6) (.tmp 8), none, []⟩, ⟨1, some 11, .ld (.tmp 10), none, []⟩, ⟨2, some 5, .mv (.tmp 11), none, []⟩])
  (.ops [⟨0, some 12, .mv (.tmp 3), none, []⟩, ⟨1, some 13, .mv (.tmp 5), none, []⟩, ⟨2, some 14, .mv (.tmp 5), none, []⟩, ⟨3, some 15, .bin .mul (.tmp 13) (.tmp 14), none, []⟩, ⟨4, some 16, .bin .add (.tmp 12) (.tmp 15), none, []⟩, ⟨5, some 3, .mv (.tmp 16), none, []⟩])))
  (.keep [3, 6, 7, 8] (.ops [⟨0, some 17, .bin .add (.tmp 8) (.const (.int .i64 1)), none, []⟩, ⟨1, some 8, .mv (.tmp 17), none, []⟩]))))))))
  (.seq (.ops [⟨0, some 18, .mv (.tmp 3), none, []⟩, ⟨1, some 2, .mv (.tmp 18), none, []⟩])
  (.ret))))
theorem k_i_squares : FnOk Try.prog n_i_squares 1 c_i_squares [.tmp 2] := ⟨by kernel_rfl⟩
def c_i_finiteList : ACode :=
  .seq (.ops [⟨0, some 2, .mv (.const (.slice none 0 0)), none, []⟩, ⟨1, some 3, .mv (.const (.bool false)), none, []⟩])
  (.seq (.seq (.ops [⟨0, some 4, .mv (.tmp 0), none, []⟩, ⟨1, some 5, .bsl 32 1 (.slice none 0 0) [(0, .tmp 4)], none, []⟩, ⟨2, some 6, .call n_i_areFinite [.tmp 5], none, []⟩, ⟨3, some 7, .un .not (.tmp 6), none, []⟩])
  (.cond (.tmp 7) (.seq (.keep [] (.ops [⟨0, some 2, .mv (.const (.slice none 0 0)), none, []⟩, ⟨1, some 3, .mv (.const (.bool false)), none, []⟩]))
  (.ret)) (.skip)))
  (.seq (.keep [0] (.ops [⟨0, some 8, .mv (.tmp 0), none, []⟩, ⟨1, some 2, .mv (.tmp 8), none, []⟩, ⟨2, some 3, .mv (.const (.bool true)), none, []⟩]))
  (.ret)))
theorem k_i_finiteList : FnOk Try.prog n_i_finiteList 1 c_i_finiteList [.tmp 2, .tmp 3] := ⟨by kernel_rfl⟩
def c_i_IsFinite : ACode :=
  .seq (.ops [⟨0, some 2, .mv (.const (.bool false)), none, []⟩])
  (.seq (.ops [⟨0, some 3, .mv (.tmp 0), none, []⟩, ⟨1, some 4, .mv (.tmp 0), none, []⟩, ⟨2, some 5, .bin .sub (.tmp 3) (.tmp 4), none, []⟩, ⟨3, some 6, .bin .eql (.tmp 5) (.const (.float .f32 0)), none, []⟩, ⟨4, some 2, .mv (.tmp 6), none, []⟩])
  (.ret))
theorem k_i_IsFinite : FnOk Try.prog n_i_IsFinite 1 c_i_IsFinite [.tmp 2] := ⟨by kernel_rfl⟩
def c_s_l03Join : ACode :=
  .seq (.ops [⟨0, some 6, .mv (.const (.slice none 0 0)), none, []⟩])
  (.seq (.ops [⟨0, some 13, .mv (.tmp 0), none, []⟩, ⟨1, some 14, .len (.tmp 13), none, []⟩, ⟨2, some 15, .bin .mul (.const (.int .i64 2)) (.tmp 14), none, []⟩, ⟨3, some 7, .mv (.tmp 15), none, []⟩])
  (.seq (.ops [⟨0, some 16, .mv (.tmp 2), none, []⟩, ⟨1, some 17, .call n_s_l03High [.tmp 16], none, []⟩, ⟨2, some 8, .mv (.tmp 17), none, []⟩])
  (.seq (.keep [0, 1, 2, 7, 8] (.ops [⟨0, some 18, .mv (.tmp 7), none, []⟩, ⟨1, some 19, .mks 37 4 (.float .f32 0) (.tmp 18) (.tmp 18), none, []⟩, ⟨2, some 9, .mv (.tmp 19), none, []⟩]))
  (.seq (.seq (.ops [⟨0, some 20, .mv (.tmp 0), none, []⟩, ⟨1, some 21, .len (.tmp 20), none, []⟩, ⟨2, some 22, .mv (.const (.int .i64 0)), none, []⟩])
  (.block 0 (.loop [0, 1, 2, 7, 8, 9, 21, 22] (.seq (.ops [⟨0, some 23, .bin .lss (.tmp 22) (.tmp 21), none, []⟩])
  (.seq (.cond (.tmp 23) (.skip) (.exit 0))
  (.seq (.block 1 (.seq (.ops [⟨0, some 24, .mv (.tmp 22), none, []⟩, ⟨1, some 10, .mv (.tmp 24), none, []⟩])
  (.seq (.ops [⟨0, some 25, .mv (.tmp 2), none, []⟩, ⟨1, some 26, .nc (.tmp 25), none, []⟩, ⟨2, some 27, .fa 0 (.tmp 26), none, []⟩, ⟨3, some 28, .ld (.tmp 27), none, []⟩, ⟨4, some 29, .len (.tmp 28), none, []⟩, ⟨5, some 30, .mv (.const (.int .i64 0)), none, []⟩])
  (.block 2 (.loop [0, 1, 2, 7, 8, 9, 10, 21, 22, 29, 30] (.seq (.ops [⟨0, some 31, .bin .lss (.tmp 30) (.tmp 29), none, []⟩])
  (.seq (.cond (.tmp 31) (.skip) (.exit 2))
  (.seq (.block 3 (.seq (.ops [⟨0, some 32, .mv (.tmp 30), none, []⟩, ⟨1, some 11, .mv (.tmp 32), none, []⟩])
  (.seq (.ops [⟨0, some 33, .mv (.tmp 10), none, []⟩, ⟨1, some 34, .bin .mul (.const (.int .i64 2)) (.tmp 33), none, []⟩, ⟨2, some 35, .mv (.tmp 11), none, []⟩, ⟨3, some 36, .bin .add (.tmp 34) (.tmp 35), none, []⟩, ⟨4, some 37, .mv (.tmp 7), none, []⟩, ⟨5, some 38, .bin .rem (.tmp 36) (.tmp 37), none, []⟩, ⟨6, some 12, .mv (.tmp 38), none, []⟩])
  (.keep [0, 1, 2, 7, 8, 9, 10, 11, 12, 21, 22, 29, 30] (.ops [⟨0, some 39, .mv (.tmp 9), none, []⟩, ⟨1, some 40, .mv (.tmp 12), none, []⟩, ⟨2, some 41, .mv (.tmp 9), none, []⟩, ⟨3, some 42, .mv (.tmp 12), none, []⟩, ⟨4, some 43, .ia (.tmp 41) (.tmp 42), none, []⟩, ⟨5, some 44, .ld (.tmp 43), none, []⟩, ⟨6, some 45, .mv (.tmp 2), none, []⟩, ⟨7, some 46, .nc (.tmp 45), none, []⟩, ⟨8, some 47, .fa 0 (.tmp 46), none, []⟩, ⟨9, some 48, .ld (.tmp 47), none, []⟩, ⟨10, some 49, .mv (.tmp 11), none, []⟩, ⟨11, some 50, .ia (.tmp 48) (.tmp 49), none, []⟩, ⟨12, some 51, .ld (.tmp 50), none, []⟩, ⟨13, some 52, .mv (.tmp 0), none, []⟩, ⟨14, some 53, .mv (.tmp 10), none, []⟩, ⟨15, some 54, .ia (.tmp 52) (.tmp 53), none, []⟩, ⟨16, some 55, .ld (.tmp 54), none, []⟩, ⟨17, some 56, .bin .mul (.tmp 51) (.tmp 55), none, []⟩, ⟨18, some 57, .mv (.tmp 8), none, []⟩, ⟨19, some 58, .mv (.tmp 11), none, []⟩, ⟨20, some 59, .ia (.tmp 57) (.tmp 58), none, []⟩, ⟨21, some 60, .ld (.tmp 59), none, []⟩, ⟨22, some 61, .mv (.tmp 1), none, []⟩, ⟨23, some 62, .mv (.tmp 10), none, []⟩, ⟨24, some 63, .ia (.tmp 61) (.tmp 62), none, []⟩, ⟨25, some 64, .ld (.tmp 63), none, []⟩, ⟨26, some 65, .bin .mul (.tmp 60) (.tmp 64), none, []⟩, ⟨27, some 66, .bin .add (.tmp 56) (.tmp 65), none, []⟩, ⟨28, some 67, .bin .add (.tmp 44) (.tmp 66), none, []⟩, ⟨29, some 68, .ia (.tmp 39) (.tmp 40), none, []⟩, ⟨30, none, .st (.tmp 68) (.tmp 67), none, []⟩])))))
  (.keep [0, 1, 2, 7, 8, 9, 10, 21, 22, 29, 30] (.ops [⟨0, some 69, .bin .add (.tmp 30) (.const (.int .i64 1)), none, []⟩, ⟨1, some 30, .mv (.tmp 69), none, []⟩]))))))))))
  (.ops [⟨0, some 70, .bin .add (.tmp 22) (.const (.int .i64 1)), none, []⟩, ⟨1, some 22, .mv (.tmp 70), none, []⟩])))))))
  (.seq (.keep [9] (.ops [⟨0, some 71, .mv (.tmp 9), none, []⟩, ⟨1, some 6, .mv (.tmp 71), none, []⟩]))
  (.ret))))))
theorem k_s_l03Join : FnOk Try.prog n_s_l03Join 3 c_s_l03Join [.tmp 6] := ⟨by kernel_rfl⟩
def c_i_areFinite : ACode :=
  .seq (.ops [⟨0, some 2, .mv (.const (.bool false)), none, []⟩])
  (.seq (.seq (.ops [⟨0, some 7, .mv (.tmp 0), none, []⟩, ⟨1, some 8, .len (.tmp 7), none, []⟩, ⟨2, some 9, .mv (.const (.int .i64 0)), none, []⟩])
  (.block 0 (.loop [7, 8, 9] (.seq (.ops [⟨0, some 10, .bin .lss (.tmp 9) (.tmp 8), none, []⟩])
  (.seq (.cond (.tmp 10) (.skip) (.exit 0))
  (.seq (.block 1 (.seq (.ops [⟨0, some 11, .ia (.tmp 7) (.tmp 9), none, []⟩, ⟨1, some 12, .ld (.tmp 11), none, []⟩, ⟨2, some 4, .mv (.tmp 12), none, []⟩])
  (.seq (.ops [⟨0, some 13, .mv (.tmp 4), none, []⟩, ⟨1, some 14, .len (.tmp 13), none, []⟩, ⟨2, some 15, .mv (.const (.int .i64 0)), none, []⟩])
  (.block 2 (.loop [7, 8, 9, 13, 14, 15] (.seq (.ops [⟨0, some 16, .bin .lss (.tmp 15) (.tmp 14), none, []⟩])
  (.seq (.cond (.tmp 16) (.skip) (.exit 2))
  (.seq (.block 3 (.seq (.ops [⟨0, some 17, .ia (.tmp 13) (.tmp 15), none, []⟩, ⟨1, some 18, .ld (.tmp 17), none, []⟩, ⟨2, some 6, .mv (.tmp 18), none, []⟩])
  (.seq (.ops [⟨0, some 19, .mv (.tmp 6), none, []⟩, ⟨1, some 20, .call n_i_IsFinite [.tmp 19], none, []⟩, ⟨2, some 21, .un .not (.tmp 20), none, []⟩])
  (.cond (.tmp 21) (.seq (.keep [] (.ops [⟨0, some 2, .mv (.const (.bool false)), none, []⟩]))
  (.ret)) (.skip)))))
  (.keep [7, 8, 9, 13, 14, 15] (.ops [⟨0, some 22, .bin .add (.tmp 15) (.const (.int .i64 1)), none, []⟩, ⟨1, some 15, .mv (.tmp 22), none, []⟩]))))))))))
  (.ops [⟨0, some 23, .bin .add (.tmp 9) (.const (.int .i64 1)), none, []⟩, ⟨1, some 9, .mv (.tmp 23), none, []⟩])))))))
  (.seq (.ops [⟨0, some 2, .mv (.const (.bool true)), none, []⟩])
  (.ret)))
theorem k_i_areFinite : FnOk Try.prog n_i_areFinite 1 c_i_areFinite [.tmp 2] := ⟨by kernel_rfl⟩
def c_i_size : ACode :=
  .seq (.ops [⟨0, some 2, .mv (.const (.float .f32 0)), none, []⟩])
  (.seq (.seq (.ops [⟨0, some 3, .mv (.tmp 0), none, []⟩, ⟨1, some 4, .bin .lss (.tmp 3) (.const (.float .f32 0)), none, []⟩])
  (.cond (.tmp 4) (.seq (.ops [⟨0, some 5, .mv (.tmp 0), none, []⟩, ⟨1, some 6, .un .neg (.tmp 5), none, []⟩, ⟨2, some 2, .mv (.tmp 6), none, []⟩])
  (.ret)) (.skip)))
  (.seq (.seq (.ops [⟨0, some 7, .mv (.tmp 0), none, []⟩, ⟨1, some 8, .bin .eql (.tmp 7) (.const (.float .f32 0)), none, []⟩])
  (.cond (.tmp 8) (.seq (.keep [] (.ops [⟨0, some 2, .mv (.const (.float .f32 0)), none, []⟩]))
  (.ret)) (.skip)))
  (.seq (.keep [0] (.ops [⟨0, some 9, .mv (.tmp 0), none, []⟩, ⟨1, some 2, .mv (.tmp 9), none, []⟩]))
  (.ret))))
theorem k_i_size : FnOk Try.prog n_i_size 1 c_i_size [.tmp 2] := ⟨by kernel_rfl⟩
def c_i_highOf : ACode :=
  .seq (.ops [⟨0, some 1, .box 51 (.tmp 0), none, []⟩, ⟨1, some 2, .mv (.const (.slice none 0 0)), none, []⟩])
  (.seq (.ops [⟨0, some 6, .bsl 37 0 (.float .f32 0) [], none, []⟩, ⟨1, some 3, .mv (.tmp 6), none, []⟩])
  (.seq (.seq (.ops [⟨0, some 7, .fa 0 (.tmp 1), none, []⟩, ⟨1, some 8, .ld (.tmp 7), none, []⟩, ⟨2, some 9, .len (.tmp 8), none, []⟩, ⟨3, some 10, .mv (.const (.int .i64 0)), none, []⟩])
  (.block 0 (.loop [1, 3, 9, 10] (.seq (.ops [⟨0, some 11, .bin .lss (.tmp 10) (.tmp 9), none, []⟩])
  (.seq (.cond (.tmp 11) (.skip) (.exit 0))
  (.seq (.block 1 (.seq (.ops [⟨0, some 12, .mv (.tmp 10), none, []⟩, ⟨1, some 4, .mv (.tmp 12), none, []⟩])
  (.seq (.ops [⟨0, some 13, .fa 0 (.tmp 1), none, []⟩, ⟨1, some 14, .ld (.tmp 13), none, []⟩, ⟨2, some 15, .fa 0 (.tmp 1), none, []⟩, ⟨3, some 16, .ld (.tmp 15), none, []⟩, ⟨4, some 17, .len (.tmp 16), none, []⟩, ⟨5, some 18, .bin .sub (.tmp 17) (.const (.int .i64 1)), none, []⟩, ⟨6, some 19, .mv (.tmp 4), none, []⟩, ⟨7, some 20, .bin .sub (.tmp 18) (.tmp 19), none, []⟩, ⟨8, some 21, .ia (.tmp 14) (.tmp 20), none, []⟩, ⟨9, some 22, .ld (.tmp 21), none, []⟩, ⟨10, some 5, .mv (.tmp 22), none, []⟩])
  (.seq (.seq (.keep [1, 3, 4, 5, 9, 10] (.ops [⟨0, some 23, .mv (.tmp 4), none, []⟩, ⟨1, some 24, .bin .rem (.tmp 23) (.const (.int .i64 2)), none, []⟩, ⟨2, some 25, .bin .eql (.tmp 24) (.const (.int .i64 1)), none, []⟩]))
  (.cond (.tmp 25) (.ops [⟨0, some 26, .mv (.tmp 5), none, []⟩, ⟨1, some 27, .un .neg (.tmp 26), none, []⟩, ⟨2, some 5, .mv (.tmp 27), none, []⟩]) (.skip)))
  (.keep [1, 3, 5, 9, 10] (.ops [⟨0, some 28, .mv (.tmp 3), none, []⟩, ⟨1, some 29, .mv (.tmp 5), none, []⟩, ⟨2, some 30, .bsl 37 1 (.float .f32 0) [(0, .tmp 29)], none, []⟩, ⟨3, some 31, .app 37 4 (.tmp 28) (.tmp 30), none, []⟩, ⟨4, some 3, .mv (.tmp 31), none, []⟩]))))))
  (.keep [1, 3, 9, 10] (.ops [⟨0, some 32, .bin .add (.tmp 10) (.const (.int .i64 1)), none, []⟩, ⟨1, some 10, .mv (.tmp 32), none, []⟩]))))))))
  (.seq (.ops [⟨0, some 33, .mv (.tmp 3), none, []⟩, ⟨1, some 2, .mv (.tmp 33), none, []⟩])
  (.ret))))
theorem k_i_highOf : FnOk Try.prog n_i_highOf 1 c_i_highOf [.tmp 2] := ⟨by kernel_rfl⟩
def c_i_kept : ACode :=
  .seq (.ops [⟨0, some 4, .mv (.const (.slice none 0 0)), none, []⟩])
  (.seq (.seq (.ops [⟨0, some 5, .mv (.tmp 1), none, []⟩])
  (.cond (.tmp 5) (.seq (.ops [⟨0, some 6, .mv (.tmp 0), none, []⟩, ⟨1, some 7, .call n_i_copyOf [.tmp 6], none, []⟩, ⟨2, some 4, .mv (.tmp 7), none, []⟩])
  (.ret)) (.skip)))
  (.seq (.ops [⟨0, some 8, .mv (.tmp 0), none, []⟩, ⟨1, some 9, .len (.tmp 8), none, []⟩, ⟨2, some 10, .mks 37 4 (.float .f32 0) (.tmp 9) (.tmp 9), none, []⟩, ⟨3, some 4, .mv (.tmp 10), none, []⟩])
  (.ret)))
theorem k_i_kept : FnOk Try.prog n_i_kept 2 c_i_kept [.tmp 4] := ⟨by kernel_rfl⟩
def c_s_l03High : ACode :=
  .seq (.ops [⟨0, some 2, .mv (.const (.slice none 0 0)), none, []⟩])
  (.seq (.ops [⟨0, some 7, .bsl 37 0 (.float .f32 0) [], none, []⟩, ⟨1, some 3, .mv (.tmp 7), none, []⟩])
  (.seq (.ops [⟨0, some 8, .mv (.tmp 0), none, []⟩, ⟨1, some 9, .nc (.tmp 8), none, []⟩, ⟨2, some 10, .fa 0 (.tmp 9), none, []⟩, ⟨3, some 11, .ld (.tmp 10), none, []⟩, ⟨4, some 12, .len (.tmp 11), none, []⟩, ⟨5, some 4, .mv (.tmp 12), none, []⟩])
  (.seq (.seq (.keep [0, 3, 4] (.ops [⟨0, some 5, .mv (.const (.int .i64 0)), none, []⟩]))
  (.block 0 (.loop [0, 3, 4, 5] (.seq (.seq (.ops [⟨0, some 13, .mv (.tmp 5), none, []⟩, ⟨1, some 14, .mv (.tmp 4), none, []⟩, ⟨2, some 15, .bin .lss (.tmp 13) (.tmp 14), none, []⟩])
  (.cond (.tmp 15) (.skip) (.exit 0)))
  (.seq (.block 1 (.seq (.ops [⟨0, some 18, .mv (.tmp 0), none, []⟩, ⟨1, some 19, .nc (.tmp 18), none, []⟩, ⟨2, some 20, .fa 0 (.tmp 19), none, []⟩, ⟨3, some 21, .ld (.tmp 20), none, []⟩, ⟨4, some 22, .mv (.tmp 4), none, []⟩, ⟨5, some 23, .bin .sub (.tmp 22) (.const (.int .i64 1)), none, []⟩, ⟨6, some 24, .mv (.tmp 5), none, []⟩, ⟨7, some 25, .bin .sub (.tmp 23) (.tmp 24), none, []⟩, ⟨8, some 26, .ia (.tmp 21) (.tmp 25), none, []⟩, ⟨9, some 27, .ld (.tmp 26), none, []⟩, ⟨10, some 6, .mv (.tmp 27), none, []⟩])
  (.seq (.seq (.keep [0, 3, 4, 5, 6] (.ops [⟨0, some 28, .mv (.tmp 5), none, []⟩, ⟨1, some 29, .bin .rem (.tmp 28) (.const (.int .i64 2)), none, []⟩, ⟨2, some 30, .bin .eql (.tmp 29) (.const (.int .i64 1)), none, []⟩]))
  (.cond (.tmp 30) (.ops [⟨0, some 31, .mv (.tmp 6), none, []⟩, ⟨1, some 32, .un .neg (.tmp 31), none, []⟩, ⟨2, some 6, .mv (.tmp 32), none, []⟩]) (.skip)))
  (.keep [0, 3, 4, 5, 6] (.ops [⟨0, some 33, .mv (.tmp 3), none, []⟩, ⟨1, some 34, .mv (.tmp 6), none, []⟩, ⟨2, some 35, .bsl 37 1 (.float .f32 0) [(0, .tmp 34)], none, []⟩, ⟨3, some 36, .app 37 4 (.tmp 33) (.tmp 35), none, []⟩, ⟨4, some 3, .mv (.tmp 36), none, []⟩])))))
  (.keep [0, 3, 4, 5] (.ops [⟨0, some 16, .mv (.tmp 5), none, []⟩, ⟨1, some 17, .bin .add (.tmp 16) (.const (.int .i64 1)), none, []⟩, ⟨2, some 5, .mv (.tmp 17), none, []⟩])))))))
  (.seq (.keep [3] (.ops [⟨0, some 37, .mv (.tmp 3), none, []⟩, ⟨1, some 2, .mv (.tmp 37), none, []⟩]))
  (.ret)))))
theorem k_s_l03High : FnOk Try.prog n_s_l03High 1 c_s_l03High [.tmp 2] := ⟨by kernel_rfl⟩
end Go.Proofs.Ytkojmlpaamdhoae

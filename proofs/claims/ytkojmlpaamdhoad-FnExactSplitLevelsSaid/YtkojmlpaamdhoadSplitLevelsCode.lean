/- The code of functions, for the abstract machine; printed by a program (gen.py). -/
import Derived.Test.YtkojmlpaamdhoadGxFn
import Derived.Test.YtkojmlpaamdhoadProg
namespace Go.Proofs.Ytkojmlpaamdhoad
open Go.Gx
set_option maxRecDepth 100000
abbrev t_int64 : Nat := 2
abbrev t_int : Nat := 3
abbrev t_bool : Nat := 4
abbrev t_uint8 : Nat := 5
abbrev t_sfloat32 : Nat := 22
abbrev t_ssfloat32 : Nat := 33
abbrev t_float32 : Nat := 34
abbrev t_suint8 : Nat := 41
abbrev t_float64 : Nat := 53
abbrev t_sint64 : Nat := 72
abbrev t_ssint64 : Nat := 79
abbrev t_sbool : Nat := 96
abbrev t_sint : Nat := 114
abbrev t_Picture : Nat := 26
abbrev t_Pair : Nat := 44
abbrev t_Scheme : Nat := 64
abbrev t_Bands : Nat := 98
abbrev n_w_FnExactSplitLevels : Nat := 14
abbrev n_w_eqFloat32SS : Nat := 26
abbrev n_w_markFloat32SS : Nat := 27
abbrev n_w_heldFloat32SS : Nat := 28
abbrev n_i_SplitRing : Nat := 33
abbrev n_i_ValidPair : Nat := 37
abbrev n_w_toFloat32S : Nat := 49
abbrev n_w_eqFloat32S : Nat := 51
abbrev n_w_markFloat32S : Nat := 54
abbrev n_w_heldFloat32S : Nat := 55
abbrev n_w_eqBands : Nat := 81
abbrev n_w_markBands : Nat := 83
abbrev n_w_heldBands : Nat := 85
abbrev n_w_szPair : Nat := 103
abbrev n_s_SplitLevels : Nat := 104
abbrev n_w_toPair : Nat := 105
abbrev n_i_SplitLevels : Nat := 106
abbrev n_w_eqPair : Nat := 107
abbrev n_w_markPair : Nat := 108
abbrev n_w_szFloat32S : Nat := 109
abbrev n_s_l00In : Nat := 112
abbrev n_i_copyOf : Nat := 121
abbrev n_i_size : Nat := 122
abbrev n_i_isLong : Nat := 126
abbrev n_i_highOf : Nat := 127
abbrev n_i_areFinite : Nat := 128
abbrev n_i_within : Nat := 129
abbrev n_i_squares : Nat := 131
abbrev n_w_sameFloat : Nat := 137
abbrev n_s_l03Long : Nat := 171
abbrev n_s_l03Pair : Nat := 172
abbrev n_s_SplitRing : Nat := 173
abbrev n_s_l02Finite : Nat := 175
abbrev n_s_l01Finite : Nat := 184
abbrev n_i_IsFinite : Nat := 185
abbrev n_s_l03Taps : Nat := 208
abbrev n_s_l03High : Nat := 209
def c_w_FnExactSplitLevels : ACode :=
  .seq (.ops [⟨0, some 4, .box 127 (.tmp 1), none, []⟩, ⟨1, some 6, .mv (.const (.bool false)), none, []⟩])
  (.seq (.seq (.ops [⟨0, some 19, .mv (.tmp 0), none, []⟩, ⟨1, some 20, .len (.tmp 19), none, []⟩, ⟨2, some 21, .bin .gtr (.tmp 20) (.const (.int .i64 1048576)), none, []⟩])
  (.cond (.tmp 21) (.seq (.keep [] (.ops [⟨0, some 6, .mv (.const (.bool true)), none, []⟩]))
  (.ret)) (.skip)))
  (.seq (.keep [0, 2, 4] (.ops [⟨0, some 7, .mv (.const (.int .i64 1048576)), none, []⟩]))
  (.seq (.ops [⟨0, some 22, .ldn 1 (.tmp 4), none, []⟩, ⟨1, some 23, .mv (.tmp 7), none, []⟩, ⟨2, some 24, .call n_w_szPair [.tmp 22, .tmp 23], none, []⟩, ⟨3, some 7, .mv (.tmp 24), none, []⟩])
  (.seq (.seq (.ops [⟨0, some 25, .mv (.tmp 7), none, []⟩, ⟨1, some 26, .bin .lss (.tmp 25) (.const (.int .i64 0)), none, []⟩])
  (.cond (.tmp 26) (.seq (.keep [] (.ops [⟨0, some 6, .mv (.const (.bool true)), none, []⟩]))
  (.ret)) (.skip)))
  (.seq (.keep [0, 2, 4] (.both 1 9 (.both 3 9 (.both 5 9 (.ops [⟨0, some 28, .mv (.tmp 0), none, []⟩, ⟨2, some 30, .ldn 1 (.tmp 4), none, []⟩, ⟨4, some 32, .mv (.tmp 2), none, []⟩, ⟨1, some 29, .call n_w_toFloat32S [.tmp 28], none, [(some 30, .ldn 1 (.tmp 4), none)]⟩, ⟨3, some 31, .call n_w_toPair [.tmp 30], none, []⟩, ⟨5, some 33, .call n_s_SplitLevels [.tmp 29, .tmp 31, .tmp 32], none, []⟩, ⟨6, some 27, .mv (.tmp 33), none, []⟩, ⟨7, some 34, .ext (.tmp 27) 0, none, []⟩, ⟨8, some 35, .ext (.tmp 27) 1, none, []⟩, ⟨9, some 8, .new 98 [.slice none 0 0, .slice none 0 0], none, []⟩, ⟨10, none, .stn 2 (.tmp 8) (.tmp 34), none, []⟩, ⟨11, some 9, .mv (.tmp 35), none, []⟩]) (.ops [⟨0, some 28, .mv (.tmp 0), none, []⟩, ⟨2, some 30, .ldn 1 (.tmp 4), none, []⟩, ⟨4, some 32, .mv (.tmp 2), none, []⟩, ⟨1, some 29, .call n_w_toFloat32S [.tmp 28], none, [(some 30, .ldn 1 (.tmp 4), none)]⟩, ⟨3, some 31, .call n_w_toPair [.tmp 30], none, []⟩, ⟨9, some 8, .new 98 [.slice none 0 0, .slice none 0 0], none, []⟩, ⟨5, some 33, .call n_s_SplitLevels [.tmp 29, .tmp 31, .tmp 32], none, []⟩, ⟨6, some 27, .mv (.tmp 33), none, []⟩, ⟨7, some 34, .ext (.tmp 27) 0, none, []⟩, ⟨8, some 35, .ext (.tmp 27) 1, none, []⟩, ⟨10, none, .stn 2 (.tmp 8) (.tmp 34), none, []⟩, ⟨11, some 9, .mv (.tmp 35), none, []⟩])) (.ops [⟨0, some 28, .mv (.tmp 0), none, []⟩, ⟨2, some 30, .ldn 1 (.tmp 4), none, []⟩, ⟨4, some 32, .mv (.tmp 2), none, []⟩, ⟨1, some 29, .call n_w_toFloat32S [.tmp 28], none, [(some 30, .ldn 1 (.tmp 4), none)]⟩, ⟨9, some 8, .new 98 [.slice none 0 0, .slice none 0 0], none, [(some 30, .ldn 1 (.tmp 4), none)]⟩, ⟨3, some 31, .call n_w_toPair [.tmp 30], none, []⟩, ⟨5, some 33, .call n_s_SplitLevels [.tmp 29, .tmp 31, .tmp 32], none, []⟩, ⟨6, some 27, .mv (.tmp 33), none, []⟩, ⟨7, some 34, .ext (.tmp 27) 0, none, []⟩, ⟨8, some 35, .ext (.tmp 27) 1, none, []⟩, ⟨10, none, .stn 2 (.tmp 8) (.tmp 34), none, []⟩, ⟨11, some 9, .mv (.tmp 35), none, []⟩])) (.ops [⟨0, some 28, .mv (.tmp 0), none, []⟩, ⟨2, some 30, .ldn 1 (.tmp 4), none, []⟩, ⟨4, some 32, .mv (.tmp 2), none, []⟩, ⟨9, some 8, .new 98 [.slice none 0 0, .slice none 0 0], none, [(some 30, .ldn 1 (.tmp 4), none)]⟩, ⟨1, some 29, .call n_w_toFloat32S [.tmp 28], none, [(some 30, .ldn 1 (.tmp 4), none)]⟩, ⟨3, some 31, .call n_w_toPair [.tmp 30], none, []⟩, ⟨5, some 33, .call n_s_SplitLevels [.tmp 29, .tmp 31, .tmp 32], none, []⟩, ⟨6, some 27, .mv (.tmp 33), none, []⟩, ⟨7, some 34, .ext (.tmp 27) 0, none, []⟩, ⟨8, some 35, .ext (.tmp 27) 1, none, []⟩, ⟨10, none, .stn 2 (.tmp 8) (.tmp 34), none, []⟩, ⟨11, some 9, .mv (.tmp 35), none, []⟩])))
  (.keep [0, 2, 4, 8, 9] (.seq (.ops [⟨0, some 36, .mv (.tmp 0), none, []⟩, ⟨1, some 37, .call n_w_toFloat32S [.tmp 36], none, []⟩, ⟨2, some 10, .mv (.tmp 37), none, []⟩])
  (.seq (.ops [⟨0, some 38, .ldn 1 (.tmp 4), none, []⟩, ⟨1, some 39, .call n_w_toPair [.tmp 38], none, []⟩, ⟨2, some 11, .new 44 [.slice none 0 0], none, []⟩, ⟨3, none, .stn 1 (.tmp 11) (.tmp 39), none, []⟩])
  (.seq (.ops [⟨0, some 41, .mv (.tmp 10), none, []⟩, ⟨1, some 42, .ldn 1 (.tmp 11), none, []⟩, ⟨2, some 43, .mv (.tmp 2), none, []⟩, ⟨3, some 44, .call n_i_SplitLevels [.tmp 41, .tmp 42, .tmp 43], none, []⟩, ⟨4, some 40, .mv (.tmp 44), none, []⟩, ⟨5, some 45, .ext (.tmp 40) 0, none, []⟩, ⟨6, some 46, .ext (.tmp 40) 1, none, []⟩, ⟨7, some 12, .new 98 [.slice none 0 0, .slice none 0 0], none, []⟩, ⟨8, none, .stn 2 (.tmp 12) (.tmp 45), none, []⟩, ⟨9, some 13, .mv (.tmp 46), none, []⟩])
  (.seq (.seq (.keep [0, 2, 4, 8, 9, 10, 11, 12, 13] (.ops [⟨0, some 47, .ldn 2 (.tmp 12), none, []⟩, ⟨1, some 48, .ldn 2 (.tmp 8), none, []⟩, ⟨2, some 49, .call n_w_eqBands [.tmp 47, .tmp 48], none, []⟩, ⟨3, some 50, .un .not (.tmp 49), none, []⟩, ⟨4, some 51, .mv (.tmp 50), none, []⟩, ⟨5, some 52, .mv (.tmp 13), (some (51, false)), []⟩, ⟨6, some 53, .mv (.tmp 9), (some (51, false)), []⟩, ⟨7, some 54, .beq true (.tmp 52) (.tmp 53), (some (51, false)), []⟩, ⟨8, some 55, .pick (.tmp 51) (.const (.bool true)) (.tmp 54), none, []⟩]))
  (.cond (.tmp 55) (.seq (.keep [] (.ops [⟨0, some 6, .mv (.const (.bool false)), none, []⟩]))
  (.ret)) (.skip)))
  (.seq (.seq (.keep [0, 2, 4, 8, 9, 10, 11, 12, 13] (.ops [⟨0, some 56, .mv (.tmp 10), none, []⟩, ⟨1, some 57, .mv (.tmp 0), none, []⟩, ⟨2, some 58, .call n_w_toFloat32S [.tmp 57], none, []⟩, ⟨3, some 59, .call n_w_eqFloat32S [.tmp 56, .tmp 58], none, []⟩, ⟨4, some 60, .un .not (.tmp 59), none, []⟩]))
  (.cond (.tmp 60) (.seq (.keep [] (.ops [⟨0, some 6, .mv (.const (.bool false)), none, []⟩]))
  (.ret)) (.skip)))
  (.seq (.seq (.keep [0, 2, 4, 8, 9, 10, 11, 12, 13] (.ops [⟨0, some 61, .ldn 1 (.tmp 11), none, []⟩, ⟨1, some 62, .ldn 1 (.tmp 4), none, []⟩, ⟨2, some 63, .call n_w_toPair [.tmp 62], none, [(some 61, .ldn 1 (.tmp 11), none)]⟩, ⟨3, some 64, .call n_w_eqPair [.tmp 61, .tmp 63], none, []⟩, ⟨4, some 65, .un .not (.tmp 64), none, []⟩]))
  (.cond (.tmp 65) (.seq (.keep [] (.ops [⟨0, some 6, .mv (.const (.bool false)), none, []⟩]))
  (.ret)) (.skip)))
  (.seq (.keep [0, 2, 4, 8, 9, 10, 11, 12, 13] (.ops [⟨0, some 14, .mv (.const (.int .i64 1)), none, []⟩]))
  (.seq (.ops [⟨0, some 66, .mv (.tmp 10), none, []⟩, ⟨1, some 67, .mv (.tmp 14), none, []⟩, ⟨2, some 68, .call n_w_markFloat32S [.tmp 66, .tmp 67], none, []⟩, ⟨3, some 14, .mv (.tmp 68), none, []⟩])
  (.seq (.ops [⟨0, some 69, .ldn 1 (.tmp 11), none, []⟩, ⟨1, some 70, .mv (.tmp 14), none, []⟩, ⟨2, some 71, .call n_w_markPair [.tmp 69, .tmp 70], none, []⟩, ⟨3, some 14, .mv (.tmp 71), none, []⟩])
  (.seq (.seq (.keep [0, 2, 4, 8, 9, 12, 13, 14] (.ops [⟨0, some 72, .mv (.tmp 14), none, []⟩, ⟨1, some 73, .bin .lss (.tmp 72) (.const (.int .i64 0)), none, []⟩, ⟨2, some 74, .mv (.tmp 73), none, []⟩, ⟨3, some 75, .ldn 2 (.tmp 12), (some (74, false)), []⟩, ⟨4, some 76, .ldn 2 (.tmp 8), (some (74, false)), []⟩, ⟨5, some 77, .call n_w_eqBands [.tmp 75, .tmp 76], (some (74, false)), []⟩, ⟨6, some 78, .un .not (.tmp 77), (some (74, false)), []⟩, ⟨7, some 79, .pick (.tmp 74) (.const (.bool true)) (.tmp 78), none, []⟩, ⟨8, some 80, .mv (.tmp 79), none, []⟩, ⟨9, some 81, .mv (.tmp 13), (some (80, false)), []⟩, ⟨10, some 82, .mv (.tmp 9), (some (80, false)), []⟩, ⟨11, some 83, .beq true (.tmp 81) (.tmp 82), (some (80, false)), []⟩, ⟨12, some 84, .pick (.tmp 80) (.const (.bool true)) (.tmp 83), none, []⟩]))
  (.cond (.tmp 84) (.seq (.keep [] (.ops [⟨0, some 6, .mv (.const (.bool false)), none, []⟩]))
  (.ret)) (.skip)))
  (.seq (.keep [0, 2, 4, 8, 9, 12] (.ops [⟨0, some 15, .mv (.const (.int .i64 1)), none, []⟩]))
  (.seq (.ops [⟨0, some 85, .ldn 2 (.tmp 12), none, []⟩, ⟨1, some 86, .mv (.tmp 15), none, []⟩, ⟨2, some 87, .call n_w_markBands [.tmp 85, .tmp 86], none, []⟩, ⟨3, some 15, .mv (.tmp 87), none, []⟩])
  (.seq (.ops [⟨0, some 16, .mv (.const (.int .i64 1)), none, []⟩])
  (.seq (.ops [⟨0, some 88, .ldn 2 (.tmp 12), none, []⟩, ⟨1, some 89, .mv (.tmp 16), none, []⟩, ⟨2, some 90, .call n_w_heldBands [.tmp 88, .tmp 89], none, []⟩, ⟨3, some 16, .mv (.tmp 90), none, []⟩])
  (.seq (.seq (.keep [0, 2, 4, 8, 9, 12, 15, 16] (.ops [⟨0, some 91, .mv (.tmp 16), none, []⟩, ⟨1, some 92, .bin .lss (.tmp 91) (.const (.int .i64 0)), none, []⟩]))
  (.cond (.tmp 92) (.seq (.keep [] (.ops [⟨0, some 6, .mv (.const (.bool false)), none, []⟩]))
  (.ret)) (.skip)))
  (.seq (.seq (.ops [⟨0, some 93, .mv (.tmp 16), none, []⟩, ⟨1, some 94, .mv (.tmp 15), none, []⟩, ⟨2, some 95, .bin .neq (.tmp 93) (.tmp 94), none, []⟩])
  (.cond (.tmp 95) (.seq (.keep [] (.ops [⟨0, some 6, .mv (.const (.bool false)), none, []⟩]))
  (.ret)) (.skip)))
  (.seq (.keep [0, 2, 4, 8, 9, 12, 15] (.both 1 9 (.both 3 9 (.both 5 9 (.ops [⟨0, some 97, .mv (.tmp 0), none, []⟩, ⟨2, some 99, .ldn 1 (.tmp 4), none, []⟩, ⟨4, some 101, .mv (.tmp 2), none, []⟩, ⟨1, some 98, .call n_w_toFloat32S [.tmp 97], none, [(some 99, .ldn 1 (.tmp 4), none)]⟩, ⟨3, some 100, .call n_w_toPair [.tmp 99], none, []⟩, ⟨5, some 102, .call n_i_SplitLevels [.tmp 98, .tmp 100, .tmp 101], none, []⟩, ⟨6, some 96, .mv (.tmp 102), none, []⟩, ⟨7, some 103, .ext (.tmp 96) 0, none, []⟩, ⟨8, some 104, .ext (.tmp 96) 1, none, []⟩, ⟨9, some 17, .new 98 [.slice none 0 0, .slice none 0 0], none, []⟩, ⟨10, none, .stn 2 (.tmp 17) (.tmp 103), none, []⟩, ⟨11, some 18, .mv (.tmp 104), none, []⟩]) (.ops [⟨0, some 97, .mv (.tmp 0), none, []⟩, ⟨2, some 99, .ldn 1 (.tmp 4), none, []⟩, ⟨4, some 101, .mv (.tmp 2), none, []⟩, ⟨1, some 98, .call n_w_toFloat32S [.tmp 97], none, [(some 99, .ldn 1 (.tmp 4), none)]⟩, ⟨3, some 100, .call n_w_toPair [.tmp 99], none, []⟩, ⟨9, some 17, .new 98 [.slice none 0 0, .slice none 0 0], none, []⟩, ⟨5, some 102, .call n_i_SplitLevels [.tmp 98, .tmp 100, .tmp 101], none, []⟩, ⟨6, some 96, .mv (.tmp 102), none, []⟩, ⟨7, some 103, .ext (.tmp 96) 0, none, []⟩, ⟨8, some 104, .ext (.tmp 96) 1, none, []⟩, ⟨10, none, .stn 2 (.tmp 17) (.tmp 103), none, []⟩, ⟨11, some 18, .mv (.tmp 104), none, []⟩])) (.ops [⟨0, some 97, .mv (.tmp 0), none, []⟩, ⟨2, some 99, .ldn 1 (.tmp 4), none, []⟩, ⟨4, some 101, .mv (.tmp 2), none, []⟩, ⟨1, some 98, .call n_w_toFloat32S [.tmp 97], none, [(some 99, .ldn 1 (.tmp 4), none)]⟩, ⟨9, some 17, .new 98 [.slice none 0 0, .slice none 0 0], none, [(some 99, .ldn 1 (.tmp 4), none)]⟩, ⟨3, some 100, .call n_w_toPair [.tmp 99], none, []⟩, ⟨5, some 102, .call n_i_SplitLevels [.tmp 98, .tmp 100, .tmp 101], none, []⟩, ⟨6, some 96, .mv (.tmp 102), none, []⟩, ⟨7, some 103, .ext (.tmp 96) 0, none, []⟩, ⟨8, some 104, .ext (.tmp 96) 1, none, []⟩, ⟨10, none, .stn 2 (.tmp 17) (.tmp 103), none, []⟩, ⟨11, some 18, .mv (.tmp 104), none, []⟩])) (.ops [⟨0, some 97, .mv (.tmp 0), none, []⟩, ⟨2, some 99, .ldn 1 (.tmp 4), none, []⟩, ⟨4, some 101, .mv (.tmp 2), none, []⟩, ⟨9, some 17, .new 98 [.slice none 0 0, .slice none 0 0], none, [(some 99, .ldn 1 (.tmp 4), none)]⟩, ⟨1, some 98, .call n_w_toFloat32S [.tmp 97], none, [(some 99, .ldn 1 (.tmp 4), none)]⟩, ⟨3, some 100, .call n_w_toPair [.tmp 99], none, []⟩, ⟨5, some 102, .call n_i_SplitLevels [.tmp 98, .tmp 100, .tmp 101], none, []⟩, ⟨6, some 96, .mv (.tmp 102), none, []⟩, ⟨7, some 103, .ext (.tmp 96) 0, none, []⟩, ⟨8, some 104, .ext (.tmp 96) 1, none, []⟩, ⟨10, none, .stn 2 (.tmp 17) (.tmp 103), none, []⟩, ⟨11, some 18, .mv (.tmp 104), none, []⟩])))
  (.keep [8, 9, 12, 15, 17, 18] (.seq (.seq (.ops [⟨0, some 105, .ldn 2 (.tmp 17), none, []⟩, ⟨1, some 106, .ldn 2 (.tmp 8), none, []⟩, ⟨2, some 107, .call n_w_eqBands [.tmp 105, .tmp 106], none, []⟩, ⟨3, some 108, .un .not (.tmp 107), none, []⟩, ⟨4, some 109, .mv (.tmp 108), none, []⟩, ⟨5, some 110, .mv (.tmp 18), (some (109, false)), []⟩, ⟨6, some 111, .mv (.tmp 9), (some (109, false)), []⟩, ⟨7, some 112, .beq true (.tmp 110) (.tmp 111), (some (109, false)), []⟩, ⟨8, some 113, .pick (.tmp 109) (.const (.bool true)) (.tmp 112), none, []⟩])
  (.cond (.tmp 113) (.seq (.keep [] (.ops [⟨0, some 6, .mv (.const (.bool false)), none, []⟩]))
  (.ret)) (.skip)))
  (.seq (.keep [12, 15] (.ops [⟨0, some 16, .mv (.const (.int .i64 1)), none, []⟩]))
  (.seq (.ops [⟨0, some 114, .ldn 2 (.tmp 12), none, []⟩, ⟨1, some 115, .mv (.tmp 16), none, []⟩, ⟨2, some 116, .call n_w_heldBands [.tmp 114, .tmp 115], none, []⟩, ⟨3, some 16, .mv (.tmp 116), none, []⟩])
  (.seq (.seq (.ops [⟨0, some 117, .mv (.tmp 16), none, []⟩, ⟨1, some 118, .bin .lss (.tmp 117) (.const (.int .i64 0)), none, []⟩])
  (.cond (.tmp 118) (.seq (.keep [] (.ops [⟨0, some 6, .mv (.const (.bool false)), none, []⟩]))
  (.ret)) (.skip)))
  (.seq (.seq (.keep [15, 16] (.ops [⟨0, some 119, .mv (.tmp 16), none, []⟩, ⟨1, some 120, .mv (.tmp 15), none, []⟩, ⟨2, some 121, .bin .neq (.tmp 119) (.tmp 120), none, []⟩]))
  (.cond (.tmp 121) (.seq (.keep [] (.ops [⟨0, some 6, .mv (.const (.bool false)), none, []⟩]))
  (.ret)) (.skip)))
  (.seq (.keep [] (.ops [⟨0, some 6, .mv (.const (.bool true)), none, []⟩]))
  (.ret)))))))))))))))))))))))))))))))
theorem k_w_FnExactSplitLevels : FnOk Try.prog n_w_FnExactSplitLevels 3 c_w_FnExactSplitLevels [.tmp 6] := ⟨by kernel_rfl⟩
def c_w_eqFloat32SS : ACode :=
  .seq (.ops [⟨0, some 4, .mv (.const (.bool false)), none, []⟩])
  (.seq (.seq (.ops [⟨0, some 6, .mv (.tmp 0), none, []⟩, ⟨1, some 7, .len (.tmp 6), none, []⟩, ⟨2, some 8, .mv (.tmp 1), none, []⟩, ⟨3, some 9, .len (.tmp 8), none, []⟩, ⟨4, some 10, .bin .neq (.tmp 7) (.tmp 9), none, []⟩])
  (.cond (.tmp 10) (.seq (.keep [] (.ops [⟨0, some 4, .mv (.const (.bool false)), none, []⟩]))
  (.ret)) (.skip)))
  (.seq (.seq (.keep [0, 1] (.ops [⟨0, some 5, .mv (.const (.int .i64 0)), none, []⟩]))
  (.block 0 (.loop [0, 1, 5] (.seq (.seq (.ops [⟨0, some 11, .mv (.tmp 5), none, []⟩, ⟨1, some 12, .mv (.tmp 0), none, []⟩, ⟨2, some 13, .len (.tmp 12), none, []⟩, ⟨3, some 14, .bin .lss (.tmp 11) (.tmp 13), none, []⟩])
  (.cond (.tmp 14) (.skip) (.exit 0)))
  (.seq (.block 1 (.seq (.ops [⟨0, some 17, .mv (.tmp 0), none, []⟩, ⟨1, some 18, .mv (.tmp 5), none, []⟩, ⟨2, some 19, .ia (.tmp 17) (.tmp 18), none, []⟩, ⟨3, some 20, .ld (.tmp 19), none, []⟩, ⟨4, some 21, .mv (.tmp 1), none, []⟩, ⟨5, some 22, .mv (.tmp 5), none, []⟩, ⟨6, some 23, .ia (.tmp 21) (.tmp 22), none, []⟩, ⟨7, some 24, .ld (.tmp 23), none, []⟩, ⟨8, some 25, .call n_w_eqFloat32S [.tmp 20, .tmp 24], none, []⟩, ⟨9, some 26, .un .not (.tmp 25), none, []⟩])
  (.cond (.tmp 26) (.seq (.keep [] (.ops [⟨0, some 4, .mv (.const (.bool false)), none, []⟩]))
  (.ret)) (.skip))))
  (.keep [0, 1, 5] (.ops [⟨0, some 15, .mv (.tmp 5), none, []⟩, ⟨1, some 16, .bin .add (.tmp 15) (.const (.int .i64 1)), none, []⟩, ⟨2, some 5, .mv (.tmp 16), none, []⟩])))))))
  (.seq (.keep [] (.ops [⟨0, some 4, .mv (.const (.bool true)), none, []⟩]))
  (.ret))))
theorem k_w_eqFloat32SS : FnOk Try.prog n_w_eqFloat32SS 2 c_w_eqFloat32SS [.tmp 4] := ⟨by kernel_rfl⟩
def c_w_markFloat32SS : ACode :=
  .seq (.ops [⟨0, some 4, .mv (.const (.int .i64 0)), none, []⟩])
  (.seq (.seq (.ops [⟨0, some 5, .mv (.const (.int .i64 0)), none, []⟩])
  (.block 0 (.loop [0, 1, 5] (.seq (.seq (.ops [⟨0, some 6, .mv (.tmp 5), none, []⟩, ⟨1, some 7, .mv (.tmp 0), none, []⟩, ⟨2, some 8, .len (.tmp 7), none, []⟩, ⟨3, some 9, .bin .lss (.tmp 6) (.tmp 8), none, []⟩])
  (.cond (.tmp 9) (.skip) (.exit 0)))
  (.seq (.block 1 (.ops [⟨0, some 12, .mv (.tmp 0), none, []⟩, ⟨1, some 13, .mv (.tmp 5), none, []⟩, ⟨2, some 14, .ia (.tmp 12) (.tmp 13), none, []⟩, ⟨3, some 15, .ld (.tmp 14), none, []⟩, ⟨4, some 16, .mv (.tmp 1), none, []⟩, ⟨5, some 17, .call n_w_markFloat32S [.tmp 15, .tmp 16], none, []⟩, ⟨6, some 1, .mv (.tmp 17), none, []⟩]))
  (.keep [0, 1, 5] (.ops [⟨0, some 10, .mv (.tmp 5), none, []⟩, ⟨1, some 11, .bin .add (.tmp 10) (.const (.int .i64 1)), none, []⟩, ⟨2, some 5, .mv (.tmp 11), none, []⟩])))))))
  (.seq (.keep [1] (.ops [⟨0, some 18, .mv (.tmp 1), none, []⟩, ⟨1, some 4, .mv (.tmp 18), none, []⟩]))
  (.ret)))
theorem k_w_markFloat32SS : FnOk Try.prog n_w_markFloat32SS 2 c_w_markFloat32SS [.tmp 4] := ⟨by kernel_rfl⟩
def c_w_heldFloat32SS : ACode :=
  .seq (.ops [⟨0, some 4, .mv (.const (.int .i64 0)), none, []⟩])
  (.seq (.seq (.ops [⟨0, some 5, .mv (.const (.int .i64 0)), none, []⟩])
  (.block 0 (.loop [0, 1, 5] (.seq (.seq (.ops [⟨0, some 6, .mv (.tmp 5), none, []⟩, ⟨1, some 7, .mv (.tmp 0), none, []⟩, ⟨2, some 8, .len (.tmp 7), none, []⟩, ⟨3, some 9, .bin .lss (.tmp 6) (.tmp 8), none, []⟩])
  (.cond (.tmp 9) (.skip) (.exit 0)))
  (.seq (.block 1 (.seq (.ops [⟨0, some 12, .mv (.tmp 0), none, []⟩, ⟨1, some 13, .mv (.tmp 5), none, []⟩, ⟨2, some 14, .ia (.tmp 12) (.tmp 13), none, []⟩, ⟨3, some 15, .ld (.tmp 14), none, []⟩, ⟨4, some 16, .mv (.tmp 1), none, []⟩, ⟨5, some 17, .call n_w_heldFloat32S [.tmp 15, .tmp 16], none, []⟩, ⟨6, some 1, .mv (.tmp 17), none, []⟩])
  (.seq (.keep [0, 1, 5] (.ops [⟨0, some 18, .mv (.tmp 1), none, []⟩, ⟨1, some 19, .bin .lss (.tmp 18) (.const (.int .i64 0)), none, []⟩]))
  (.cond (.tmp 19) (.seq (.keep [] (.ops [⟨0, some 4, .mv (.const (.int .i64 (-1))), none, []⟩]))
  (.ret)) (.skip)))))
  (.ops [⟨0, some 10, .mv (.tmp 5), none, []⟩, ⟨1, some 11, .bin .add (.tmp 10) (.const (.int .i64 1)), none, []⟩, ⟨2, some 5, .mv (.tmp 11), none, []⟩]))))))
  (.seq (.keep [1] (.ops [⟨0, some 20, .mv (.tmp 1), none, []⟩, ⟨1, some 4, .mv (.tmp 20), none, []⟩]))
  (.ret)))
theorem k_w_heldFloat32SS : FnOk Try.prog n_w_heldFloat32SS 2 c_w_heldFloat32SS [.tmp 4] := ⟨by kernel_rfl⟩
def c_i_SplitRing : ACode :=
  .seq (.ops [⟨0, some 3, .box 44 (.tmp 1), none, []⟩, ⟨1, some 4, .mv (.const (.slice none 0 0)), none, []⟩, ⟨2, some 5, .mv (.const (.slice none 0 0)), none, []⟩, ⟨3, some 6, .mv (.const (.bool false)), none, []⟩])
  (.seq (.ops [⟨0, some 17, .mv (.tmp 0), none, []⟩, ⟨1, some 18, .len (.tmp 17), none, []⟩, ⟨2, some 7, .mv (.tmp 18), none, []⟩])
  (.seq (.seq (.keep [0, 3, 7] (.ops [⟨0, some 19, .mv (.tmp 0), none, []⟩, ⟨1, some 20, .call n_i_isLong [.tmp 19], none, []⟩, ⟨2, some 21, .un .not (.tmp 20), none, []⟩, ⟨3, some 22, .mv (.tmp 21), none, []⟩, ⟨4, some 23, .mv (.tmp 7), (some (22, false)), []⟩, ⟨5, some 24, .bin .rem (.tmp 23) (.const (.int .i64 2)), (some (22, false)), []⟩, ⟨6, some 25, .bin .eql (.tmp 24) (.const (.int .i64 1)), (some (22, false)), []⟩, ⟨7, some 26, .pick (.tmp 22) (.const (.bool true)) (.tmp 25), none, []⟩, ⟨8, some 27, .mv (.tmp 26), none, []⟩, ⟨9, some 28, .ldn 1 (.tmp 3), (some (27, false)), []⟩, ⟨10, some 29, .call n_i_ValidPair [.tmp 28], (some (27, false)), []⟩, ⟨11, some 30, .un .not (.tmp 29), (some (27, false)), []⟩, ⟨12, some 31, .pick (.tmp 27) (.const (.bool true)) (.tmp 30), none, []⟩]))
  (.cond (.tmp 31) (.seq (.keep [] (.ops [⟨0, some 4, .mv (.const (.slice none 0 0)), none, []⟩, ⟨1, some 5, .mv (.const (.slice none 0 0)), none, []⟩, ⟨2, some 6, .mv (.const (.bool false)), none, []⟩]))
  (.ret)) (.skip)))
  (.seq (.keep [0, 3, 7] (.ops [⟨0, some 32, .ldn 1 (.tmp 3), none, []⟩, ⟨1, some 33, .call n_i_highOf [.tmp 32], none, []⟩, ⟨2, some 8, .mv (.tmp 33), none, []⟩]))
  (.seq (.ops [⟨0, some 34, .bsl 34 0 (.float .f32 0) [], none, []⟩, ⟨1, some 35, .bsl 34 0 (.float .f32 0) [], none, []⟩, ⟨2, some 9, .mv (.tmp 34), none, []⟩, ⟨3, some 10, .mv (.tmp 35), none, []⟩])
  (.seq (.seq (.ops [⟨0, some 36, .mv (.tmp 7), none, []⟩, ⟨1, some 37, .bin .quo (.tmp 36) (.const (.int .i64 2)), none, []⟩, ⟨2, some 38, .mv (.const (.int .i64 0)), none, []⟩])
  (.block 0 (.loop [0, 3, 7, 8, 9, 10, 37, 38] (.seq (.ops [⟨0, some 39, .bin .lss (.tmp 38) (.tmp 37), none, []⟩])
  (.seq (.cond (.tmp 39) (.skip) (.exit 0))
  (.seq (.block 1 (.seq (.ops [⟨0, some 40, .mv (.tmp 38), none, []⟩, ⟨1, some 11, .mv (.tmp 40), none, []⟩])
  (.seq (.ops [⟨0, some 12, .mv (.const (.float .f32 0)), none, []⟩, ⟨1, some 13, .mv (.const (.float .f32 0)), none, []⟩])
  (.seq (.seq (.ops [⟨0, some 41, .fa 0 (.tmp 3), none, []⟩, ⟨1, some 42, .ld (.tmp 41), none, []⟩, ⟨2, some 43, .len (.tmp 42), none, []⟩, ⟨3, some 44, .mv (.const (.int .i64 0)), none, []⟩])
  (.block 2 (.loop [0, 3, 7, 8, 9, 10, 11, 12, 13, 37, 38, 42, 43, 44] (.seq (.ops [⟨0, some 45, .bin .lss (.tmp 44) (.tmp 43), none, []⟩])
  (.seq (.cond (.tmp 45) (.skip) (.exit 2))
  (.seq (.block 3 (.seq (.ops [⟨0, some 46, .mv (.tmp 44), none, []⟩, ⟨1, some 47, .ia (.tmp 42) (.tmp 44), none, []⟩, ⟨2, some 48, .ld (.tmp 47), none, []⟩, ⟨3, some 14, .mv (.tmp 46), none, []⟩, ⟨4, some 15, .mv (.tmp 48), none, []⟩])
  (.seq (.ops [⟨0, some 49, .mv (.tmp 0), none, []⟩, ⟨1, some 50, .mv (.tmp 11), none, []⟩, ⟨2, some 51, .bin .mul (.const (.int .i64 2)) (.tmp 50), none, []⟩, ⟨3, some 52, .mv (.tmp 14), none, []⟩, ⟨4, some 53, .bin .add (.tmp 51) (.tmp 52), none, []⟩, ⟨5, some 54, .mv (.tmp 7), none, []⟩, ⟨6, some 55, .bin .rem (.tmp 53) (.tmp 54), none, []⟩, ⟨7, some 56, .ia (.tmp 49) (.tmp 55), none, []⟩, ⟨8, some 57, .ld (.tmp 56), none, []⟩, ⟨9, some 16, .mv (.tmp 57), none, []⟩])
  (.seq (.keep [0, 3, 7, 8, 9, 10, 11, 12, 13, 14, 15, 16, 37, 38, 42, 43, 44] (.ops [⟨0, some 58, .mv (.tmp 12), none, []⟩, ⟨1, some 59, .mv (.tmp 15), none, []⟩, ⟨2, some 60, .mv (.tmp 16), none, []⟩, ⟨3, some 61, .bin .mul (.tmp 59) (.tmp 60), none, []⟩, ⟨4, some 62, .bin .add (.tmp 58) (.tmp 61), none, []⟩, ⟨5, some 12, .mv (.tmp 62), none, []⟩]))
  (.keep [0, 3, 7, 8, 9, 10, 11, 12, 13, 14, 16, 37, 38, 42, 43, 44] (.ops [⟨0, some 63, .mv (.tmp 13), none, []⟩, ⟨1, some 64, .mv (.tmp 8), none, []⟩, ⟨2, some 65, .mv (.tmp 14), none, []⟩, ⟨3, some 66, .ia (.tmp 64) (.tmp 65), none, []⟩, ⟨4, some 67, .ld (.tmp 66), none, []⟩, ⟨5, some 68, .mv (.tmp 16), none, []⟩, ⟨6, some 69, .bin .mul (.tmp 67) (.tmp 68), none, []⟩, ⟨7, some 70, .bin .add (.tmp 63) (.tmp 69), none, []⟩, ⟨8, some 13, .mv (.tmp 70), none, []⟩]))))))
  (.keep [0, 3, 7, 8, 9, 10, 11, 12, 13, 37, 38, 42, 43, 44] (.ops [⟨0, some 71, .bin .add (.tmp 44) (.const (.int .i64 1)), none, []⟩, ⟨1, some 44, .mv (.tmp 71), none, []⟩]))))))))
  (.keep [0, 3, 7, 8, 9, 10, 12, 13, 37, 38] (.ops [⟨0, some 72, .mv (.tmp 9), none, []⟩, ⟨1, some 73, .mv (.tmp 12), none, []⟩, ⟨2, some 74, .bsl 34 1 (.float .f32 0) [(0, .tmp 73)], none, []⟩, ⟨3, some 75, .app 34 4 (.tmp 72) (.tmp 74), none, []⟩, ⟨4, some 76, .mv (.tmp 10), none, []⟩, ⟨5, some 77, .mv (.tmp 13), none, []⟩, ⟨6, some 78, .bsl 34 1 (.float .f32 0) [(0, .tmp 77)], none, []⟩, ⟨7, some 79, .app 34 4 (.tmp 76) (.tmp 78), none, []⟩, ⟨8, some 9, .mv (.tmp 75), none, []⟩, ⟨9, some 10, .mv (.tmp 79), none, []⟩]))))))
  (.keep [0, 3, 7, 8, 9, 10, 37, 38] (.ops [⟨0, some 80, .bin .add (.tmp 38) (.const (.int .i64 1)), none, []⟩, ⟨1, some 38, .mv (.tmp 80), none, []⟩]))))))))
  (.seq (.seq (.keep [9, 10] (.ops [⟨0, some 81, .mv (.tmp 9), none, []⟩, ⟨1, some 82, .mv (.tmp 10), none, []⟩, ⟨2, some 83, .bsl 22 2 (.slice none 0 0) [(0, .tmp 81), (1, .tmp 82)], none, []⟩, ⟨3, some 84, .call n_i_areFinite [.tmp 83], none, []⟩, ⟨4, some 85, .un .not (.tmp 84), none, []⟩]))
  (.cond (.tmp 85) (.seq (.keep [] (.ops [⟨0, some 4, .mv (.const (.slice none 0 0)), none, []⟩, ⟨1, some 5, .mv (.const (.slice none 0 0)), none, []⟩, ⟨2, some 6, .mv (.const (.bool false)), none, []⟩]))
  (.ret)) (.skip)))
  (.seq (.keep [9, 10] (.ops [⟨0, some 86, .mv (.tmp 9), none, []⟩, ⟨1, some 87, .mv (.tmp 10), none, []⟩, ⟨2, some 4, .mv (.tmp 86), none, []⟩, ⟨3, some 5, .mv (.tmp 87), none, []⟩, ⟨4, some 6, .mv (.const (.bool true)), none, []⟩]))
  (.ret))))))))
theorem k_i_SplitRing : FnOk Try.prog n_i_SplitRing 2 c_i_SplitRing [.tmp 4, .tmp 5, .tmp 6] := ⟨by kernel_rfl⟩
def c_i_ValidPair : ACode :=
  .seq (.ops [⟨0, some 1, .box 44 (.tmp 0), none, []⟩, ⟨1, some 2, .mv (.const (.bool false)), none, []⟩])
  (.seq (.ops [⟨0, some 7, .fa 0 (.tmp 1), none, []⟩, ⟨1, some 8, .ld (.tmp 7), none, []⟩, ⟨2, some 9, .len (.tmp 8), none, []⟩, ⟨3, some 3, .mv (.tmp 9), none, []⟩])
  (.seq (.seq (.keep [1, 3] (.ops [⟨0, some 10, .mv (.tmp 3), none, []⟩, ⟨1, some 11, .call n_i_within [.tmp 10, .const (.int .i64 2), .const (.int .i64 8)], none, []⟩, ⟨2, some 12, .un .not (.tmp 11), none, []⟩, ⟨3, some 13, .mv (.tmp 12), none, []⟩, ⟨4, some 14, .mv (.tmp 3), (some (13, false)), []⟩, ⟨5, some 15, .bin .rem (.tmp 14) (.const (.int .i64 2)), (some (13, false)), []⟩, ⟨6, some 16, .bin .eql (.tmp 15) (.const (.int .i64 1)), (some (13, false)), []⟩, ⟨7, some 17, .pick (.tmp 13) (.const (.bool true)) (.tmp 16), none, []⟩, ⟨8, some 18, .mv (.tmp 17), none, []⟩, ⟨9, some 19, .fa 0 (.tmp 1), (some (18, false)), []⟩, ⟨10, some 20, .ld (.tmp 19), (some (18, false)), []⟩, ⟨11, some 21, .bsl 22 1 (.slice none 0 0) [(0, .tmp 20)], (some (18, false)), []⟩, ⟨12, some 22, .call n_i_areFinite [.tmp 21], (some (18, false)), []⟩, ⟨13, some 23, .un .not (.tmp 22), (some (18, false)), []⟩, ⟨14, some 24, .pick (.tmp 18) (.const (.bool true)) (.tmp 23), none, []⟩, ⟨15, some 25, .mv (.tmp 24), none, []⟩, ⟨16, some 26, .fa 0 (.tmp 1), (some (25, false)), []⟩, ⟨17, some 27, .ld (.tmp 26), (some (25, false)), []⟩, ⟨18, some 28, .call n_i_squares [.tmp 27], (some (25, false)), []⟩, ⟨19, some 29, .bin .sub (.tmp 28) (.const (.float .f32 1065353216)), (some (25, false)), []⟩, ⟨20, some 30, .call n_i_size [.tmp 29], (some (25, false)), []⟩, ⟨21, some 31, .bin .leq (.tmp 30) (.const (.float .f32 981668463)), (some (25, false)), []⟩, ⟨22, some 32, .un .not (.tmp 31), (some (25, false)), []⟩, ⟨23, some 33, .pick (.tmp 25) (.const (.bool true)) (.tmp 32), none, []⟩]))
  (.cond (.tmp 33) (.seq (.keep [] (.ops [⟨0, some 2, .mv (.const (.bool false)), none, []⟩]))
  (.ret)) (.skip)))
  (.seq (.seq (.keep [1, 3] (.ops [⟨0, some 4, .mv (.const (.int .i64 2)), none, []⟩]))
  (.block 0 (.loop [1, 3, 4] (.seq (.seq (.ops [⟨0, some 34, .mv (.tmp 4), none, []⟩, ⟨1, some 35, .mv (.tmp 3), none, []⟩, ⟨2, some 36, .bin .lss (.tmp 34) (.tmp 35), none, []⟩])
  (.cond (.tmp 36) (.skip) (.exit 0)))
  (.seq (.block 1 (.seq (.ops [⟨0, some 5, .mv (.const (.float .f32 0)), none, []⟩])
  (.seq (.seq (.ops [⟨0, some 6, .mv (.const (.int .i64 0)), none, []⟩])
  (.block 2 (.loop [1, 3, 4, 5, 6] (.seq (.seq (.ops [⟨0, some 39, .mv (.tmp 6), none, []⟩, ⟨1, some 40, .mv (.tmp 4), none, []⟩, ⟨2, some 41, .bin .add (.tmp 39) (.tmp 40), none, []⟩, ⟨3, some 42, .mv (.tmp 3), none, []⟩, ⟨4, some 43, .bin .lss (.tmp 41) (.tmp 42), none, []⟩])
  (.cond (.tmp 43) (.skip) (.exit 2)))
  (.seq (.block 3 (.keep [1, 3, 4, 5, 6] (.ops [⟨0, some 46, .mv (.tmp 5), none, []⟩, ⟨1, some 47, .fa 0 (.tmp 1), none, []⟩, ⟨2, some 48, .ld (.tmp 47), none, []⟩, ⟨3, some 49, .mv (.tmp 6), none, []⟩, ⟨4, some 50, .ia (.tmp 48) (.tmp 49), none, []⟩, ⟨5, some 51, .ld (.tmp 50), none, []⟩, ⟨6, some 52, .fa 0 (.tmp 1), none, []⟩, ⟨7, some 53, .ld (.tmp 52), none, []⟩, ⟨8, some 54, .mv (.tmp 6), none, []⟩, ⟨9, some 55, .mv (.tmp 4), none, []⟩, ⟨10, some 56, .bin .add (.tmp 54) (.tmp 55), none, []⟩, ⟨11, some 57, .ia (.tmp 53) (.tmp 56), none, []⟩, ⟨12, some 58, .ld (.tmp 57), none, []⟩, ⟨13, some 59, .bin .mul (.tmp 51) (.tmp 58), none, []⟩, ⟨14, some 60, .bin .add (.tmp 46) (.tmp 59), none, []⟩, ⟨15, some 5, .mv (.tmp 60), none, []⟩])))
  (.keep [1, 3, 4, 5, 6] (.ops [⟨0, some 44, .mv (.tmp 6), none, []⟩, ⟨1, some 45, .bin .add (.tmp 44) (.const (.int .i64 1)), none, []⟩, ⟨2, some 6, .mv (.tmp 45), none, []⟩])))))))
  (.seq (.keep [1, 3, 4, 5] (.ops [⟨0, some 61, .mv (.tmp 5), none, []⟩, ⟨1, some 62, .call n_i_size [.tmp 61], none, []⟩, ⟨2, some 63, .bin .leq (.tmp 62) (.const (.float .f32 981668463)), none, []⟩, ⟨3, some 64, .un .not (.tmp 63), none, []⟩]))
  (.cond (.tmp 64) (.seq (.keep [] (.ops [⟨0, some 2, .mv (.const (.bool false)), none, []⟩]))
  (.ret)) (.skip))))))
  (.keep [1, 3, 4] (.ops [⟨0, some 37, .mv (.tmp 4), none, []⟩, ⟨1, some 38, .bin .add (.tmp 37) (.const (.int .i64 2)), none, []⟩, ⟨2, some 4, .mv (.tmp 38), none, []⟩])))))))
  (.seq (.keep [] (.ops [⟨0, some 2, .mv (.const (.bool true)), none, []⟩]))
  (.ret)))))
theorem k_i_ValidPair : FnOk Try.prog n_i_ValidPair 1 c_i_ValidPair [.tmp 2] := ⟨by kernel_rfl⟩
def c_w_toFloat32S : ACode :=
  .seq (.ops [⟨0, some 2, .mv (.const (.slice none 0 0)), none, []⟩])
  (.seq (.ops [⟨0, some 5, .mv (.tmp 0), none, []⟩, ⟨1, some 6, .len (.tmp 5), none, []⟩, ⟨2, some 7, .mks 34 4 (.float .f32 0) (.tmp 6) (.tmp 6), none, []⟩, ⟨3, some 3, .mv (.tmp 7), none, []⟩])
  (.seq (.seq (.ops [⟨0, some 4, .mv (.const (.int .i64 0)), none, []⟩])
  (.block 0 (.loop [0, 3, 4] (.seq (.seq (.ops [⟨0, some 8, .mv (.tmp 4), none, []⟩, ⟨1, some 9, .mv (.tmp 0), none, []⟩, ⟨2, some 10, .len (.tmp 9), none, []⟩, ⟨3, some 11, .bin .lss (.tmp 8) (.tmp 10), none, []⟩])
  (.cond (.tmp 11) (.skip) (.exit 0)))
  (.seq (.block 1 (.ops [⟨0, some 14, .mv (.tmp 3), none, []⟩, ⟨1, some 15, .mv (.tmp 4), none, []⟩, ⟨2, some 16, .mv (.tmp 0), none, []⟩, ⟨3, some 17, .mv (.tmp 4), none, []⟩, ⟨4, some 18, .ia (.tmp 16) (.tmp 17), none, []⟩, ⟨5, some 19, .ld (.tmp 18), none, []⟩, ⟨6, some 20, .ia (.tmp 14) (.tmp 15), none, []⟩, ⟨7, none, .st (.tmp 20) (.tmp 19), none, []⟩]))
  (.keep [0, 3, 4] (.ops [⟨0, some 12, .mv (.tmp 4), none, []⟩, ⟨1, some 13, .bin .add (.tmp 12) (.const (.int .i64 1)), none, []⟩, ⟨2, some 4, .mv (.tmp 13), none, []⟩])))))))
  (.seq (.keep [3] (.ops [⟨0, some 21, .mv (.tmp 3), none, []⟩, ⟨1, some 2, .mv (.tmp 21), none, []⟩]))
  (.ret))))
theorem k_w_toFloat32S : FnOk Try.prog n_w_toFloat32S 1 c_w_toFloat32S [.tmp 2] := ⟨by kernel_rfl⟩
def c_w_eqFloat32S : ACode :=
  .seq (.ops [⟨0, some 4, .mv (.const (.bool false)), none, []⟩])
  (.seq (.seq (.ops [⟨0, some 6, .mv (.tmp 0), none, []⟩, ⟨1, some 7, .len (.tmp 6), none, []⟩, ⟨2, some 8, .mv (.tmp 1), none, []⟩, ⟨3, some 9, .len (.tmp 8), none, []⟩, ⟨4, some 10, .bin .neq (.tmp 7) (.tmp 9), none, []⟩])
  (.cond (.tmp 10) (.seq (.keep [] (.ops [⟨0, some 4, .mv (.const (.bool false)), none, []⟩]))
  (.ret)) (.skip)))
  (.seq (.seq (.keep [0, 1] (.ops [⟨0, some 5, .mv (.const (.int .i64 0)), none, []⟩]))
  (.block 0 (.loop [0, 1, 5] (.seq (.seq (.ops [⟨0, some 11, .mv (.tmp 5), none, []⟩, ⟨1, some 12, .mv (.tmp 0), none, []⟩, ⟨2, some 13, .len (.tmp 12), none, []⟩, ⟨3, some 14, .bin .lss (.tmp 11) (.tmp 13), none, []⟩])
  (.cond (.tmp 14) (.skip) (.exit 0)))
  (.seq (.block 1 (.seq (.ops [⟨0, some 17, .mv (.tmp 0), none, []⟩, ⟨1, some 18, .mv (.tmp 5), none, []⟩, ⟨2, some 19, .ia (.tmp 17) (.tmp 18), none, []⟩, ⟨3, some 20, .ld (.tmp 19), none, []⟩, ⟨4, some 21, .cv (.f .f64) (.tmp 20), none, []⟩, ⟨5, some 22, .mv (.tmp 1), none, []⟩, ⟨6, some 23, .mv (.tmp 5), none, []⟩, ⟨7, some 24, .ia (.tmp 22) (.tmp 23), none, []⟩, ⟨8, some 25, .ld (.tmp 24), none, []⟩, ⟨9, some 26, .cv (.f .f64) (.tmp 25), none, []⟩, ⟨10, some 27, .call n_w_sameFloat [.tmp 21, .tmp 26], none, []⟩, ⟨11, some 28, .un .not (.tmp 27), none, []⟩])
  (.cond (.tmp 28) (.seq (.keep [] (.ops [⟨0, some 4, .mv (.const (.bool false)), none, []⟩]))
  (.ret)) (.skip))))
  (.keep [0, 1, 5] (.ops [⟨0, some 15, .mv (.tmp 5), none, []⟩, ⟨1, some 16, .bin .add (.tmp 15) (.const (.int .i64 1)), none, []⟩, ⟨2, some 5, .mv (.tmp 16), none, []⟩])))))))
  (.seq (.keep [] (.ops [⟨0, some 4, .mv (.const (.bool true)), none, []⟩]))
  (.ret))))
theorem k_w_eqFloat32S : FnOk Try.prog n_w_eqFloat32S 2 c_w_eqFloat32S [.tmp 4] := ⟨by kernel_rfl⟩
def c_w_markFloat32S : ACode :=
  .seq (.ops [⟨0, some 4, .mv (.const (.int .i64 0)), none, []⟩])
  (.seq (.seq (.ops [⟨0, some 5, .mv (.const (.int .i64 0)), none, []⟩])
  (.block 0 (.loop [0, 1, 5] (.seq (.seq (.ops [⟨0, some 6, .mv (.tmp 5), none, []⟩, ⟨1, some 7, .mv (.tmp 0), none, []⟩, ⟨2, some 8, .len (.tmp 7), none, []⟩, ⟨3, some 9, .bin .lss (.tmp 6) (.tmp 8), none, []⟩])
  (.cond (.tmp 9) (.skip) (.exit 0)))
  (.seq (.block 1 (.seq (.ops [⟨0, some 12, .mv (.tmp 0), none, []⟩, ⟨1, some 13, .mv (.tmp 5), none, []⟩, ⟨2, some 14, .mv (.tmp 1), none, []⟩, ⟨3, some 15, .cv (.f .f32) (.tmp 14), none, []⟩, ⟨4, some 16, .ia (.tmp 12) (.tmp 13), none, []⟩, ⟨5, none, .st (.tmp 16) (.tmp 15), none, []⟩])
  (.keep [0, 1, 5] (.ops [⟨0, some 17, .mv (.tmp 1), none, []⟩, ⟨1, some 18, .bin .add (.tmp 17) (.const (.int .i64 1)), none, []⟩, ⟨2, some 1, .mv (.tmp 18), none, []⟩]))))
  (.ops [⟨0, some 10, .mv (.tmp 5), none, []⟩, ⟨1, some 11, .bin .add (.tmp 10) (.const (.int .i64 1)), none, []⟩, ⟨2, some 5, .mv (.tmp 11), none, []⟩]))))))
  (.seq (.keep [1] (.ops [⟨0, some 19, .mv (.tmp 1), none, []⟩, ⟨1, some 4, .mv (.tmp 19), none, []⟩]))
  (.ret)))
theorem k_w_markFloat32S : FnOk Try.prog n_w_markFloat32S 2 c_w_markFloat32S [.tmp 4] := ⟨by kernel_rfl⟩
def c_w_heldFloat32S : ACode :=
  .seq (.ops [⟨0, some 4, .mv (.const (.int .i64 0)), none, []⟩])
  (.seq (.seq (.ops [⟨0, some 5, .mv (.const (.int .i64 0)), none, []⟩])
  (.block 0 (.loop [0, 1, 5] (.seq (.seq (.ops [⟨0, some 6, .mv (.tmp 5), none, []⟩, ⟨1, some 7, .mv (.tmp 0), none, []⟩, ⟨2, some 8, .len (.tmp 7), none, []⟩, ⟨3, some 9, .bin .lss (.tmp 6) (.tmp 8), none, []⟩])
  (.cond (.tmp 9) (.skip) (.exit 0)))
  (.seq (.block 1 (.seq (.seq (.ops [⟨0, some 12, .mv (.tmp 0), none, []⟩, ⟨1, some 13, .mv (.tmp 5), none, []⟩, ⟨2, some 14, .ia (.tmp 12) (.tmp 13), none, []⟩, ⟨3, some 15, .ld (.tmp 14), none, []⟩, ⟨4, some 16, .mv (.tmp 1), none, []⟩, ⟨5, some 17, .cv (.f .f32) (.tmp 16), none, []⟩, ⟨6, some 18, .bin .neq (.tmp 15) (.tmp 17), none, []⟩])
  (.cond (.tmp 18) (.seq (.keep [] (.ops [⟨0, some 4, .mv (.const (.int .i64 (-1))), none, []⟩]))
  (.ret)) (.skip)))
  (.keep [0, 1, 5] (.ops [⟨0, some 19, .mv (.tmp 1), none, []⟩, ⟨1, some 20, .bin .add (.tmp 19) (.const (.int .i64 1)), none, []⟩, ⟨2, some 1, .mv (.tmp 20), none, []⟩]))))
  (.ops [⟨0, some 10, .mv (.tmp 5), none, []⟩, ⟨1, some 11, .bin .add (.tmp 10) (.const (.int .i64 1)), none, []⟩, ⟨2, some 5, .mv (.tmp 11), none, []⟩]))))))
  (.seq (.keep [1] (.ops [⟨0, some 21, .mv (.tmp 1), none, []⟩, ⟨1, some 4, .mv (.tmp 21), none, []⟩]))
  (.ret)))
theorem k_w_heldFloat32S : FnOk Try.prog n_w_heldFloat32S 2 c_w_heldFloat32S [.tmp 4] := ⟨by kernel_rfl⟩
def c_w_eqBands : ACode :=
  .seq (.ops [⟨0, some 2, .box 98 (.tmp 0), none, []⟩, ⟨1, some 3, .box 98 (.tmp 1), none, []⟩, ⟨2, some 4, .mv (.const (.bool false)), none, []⟩])
  (.seq (.seq (.ops [⟨0, some 5, .fa 0 (.tmp 2), none, []⟩, ⟨1, some 6, .ld (.tmp 5), none, []⟩, ⟨2, some 7, .fa 0 (.tmp 3), none, []⟩, ⟨3, some 8, .ld (.tmp 7), none, []⟩, ⟨4, some 9, .call n_w_eqFloat32S [.tmp 6, .tmp 8], none, []⟩, ⟨5, some 10, .un .not (.tmp 9), none, []⟩])
  (.cond (.tmp 10) (.seq (.keep [] (.ops [⟨0, some 4, .mv (.const (.bool false)), none, []⟩]))
  (.ret)) (.skip)))
  (.seq (.seq (.keep [2, 3] (.ops [⟨0, some 11, .fa 1 (.tmp 2), none, []⟩, ⟨1, some 12, .ld (.tmp 11), none, []⟩, ⟨2, some 13, .fa 1 (.tmp 3), none, []⟩, ⟨3, some 14, .ld (.tmp 13), none, []⟩, ⟨4, some 15, .call n_w_eqFloat32SS [.tmp 12, .tmp 14], none, []⟩, ⟨5, some 16, .un .not (.tmp 15), none, []⟩]))
  (.cond (.tmp 16) (.seq (.keep [] (.ops [⟨0, some 4, .mv (.const (.bool false)), none, []⟩]))
  (.ret)) (.skip)))
  (.seq (.keep [] (.ops [⟨0, some 4, .mv (.const (.bool true)), none, []⟩]))
  (.ret))))
theorem k_w_eqBands : FnOk Try.prog n_w_eqBands 2 c_w_eqBands [.tmp 4] := ⟨by kernel_rfl⟩
def c_w_markBands : ACode :=
  .seq (.ops [⟨0, some 2, .box 98 (.tmp 0), none, []⟩, ⟨1, some 4, .mv (.const (.int .i64 0)), none, []⟩])
  (.seq (.ops [⟨0, some 5, .fa 0 (.tmp 2), none, []⟩, ⟨1, some 6, .ld (.tmp 5), none, []⟩, ⟨2, some 7, .mv (.tmp 1), none, []⟩, ⟨3, some 8, .call n_w_markFloat32S [.tmp 6, .tmp 7], none, []⟩, ⟨4, some 1, .mv (.tmp 8), none, []⟩])
  (.seq (.keep [1, 2] (.ops [⟨0, some 9, .fa 1 (.tmp 2), none, []⟩, ⟨1, some 10, .ld (.tmp 9), none, []⟩, ⟨2, some 11, .mv (.tmp 1), none, []⟩, ⟨3, some 12, .call n_w_markFloat32SS [.tmp 10, .tmp 11], none, []⟩, ⟨4, some 1, .mv (.tmp 12), none, []⟩]))
  (.seq (.keep [1] (.ops [⟨0, some 13, .mv (.tmp 1), none, []⟩, ⟨1, some 4, .mv (.tmp 13), none, []⟩]))
  (.ret))))
theorem k_w_markBands : FnOk Try.prog n_w_markBands 2 c_w_markBands [.tmp 4] := ⟨by kernel_rfl⟩
def c_w_heldBands : ACode :=
  .seq (.ops [⟨0, some 2, .box 98 (.tmp 0), none, []⟩, ⟨1, some 4, .mv (.const (.int .i64 0)), none, []⟩])
  (.seq (.ops [⟨0, some 5, .fa 0 (.tmp 2), none, []⟩, ⟨1, some 6, .ld (.tmp 5), none, []⟩, ⟨2, some 7, .mv (.tmp 1), none, []⟩, ⟨3, some 8, .call n_w_heldFloat32S [.tmp 6, .tmp 7], none, []⟩, ⟨4, some 1, .mv (.tmp 8), none, []⟩])
  (.seq (.seq (.keep [1, 2] (.ops [⟨0, some 9, .mv (.tmp 1), none, []⟩, ⟨1, some 10, .bin .lss (.tmp 9) (.const (.int .i64 0)), none, []⟩]))
  (.cond (.tmp 10) (.seq (.ops [⟨0, some 4, .mv (.const (.int .i64 (-1))), none, []⟩])
  (.ret)) (.skip)))
  (.seq (.ops [⟨0, some 11, .fa 1 (.tmp 2), none, []⟩, ⟨1, some 12, .ld (.tmp 11), none, []⟩, ⟨2, some 13, .mv (.tmp 1), none, []⟩, ⟨3, some 14, .call n_w_heldFloat32SS [.tmp 12, .tmp 13], none, []⟩, ⟨4, some 1, .mv (.tmp 14), none, []⟩])
  (.seq (.seq (.keep [1] (.ops [⟨0, some 15, .mv (.tmp 1), none, []⟩, ⟨1, some 16, .bin .lss (.tmp 15) (.const (.int .i64 0)), none, []⟩]))
  (.cond (.tmp 16) (.seq (.ops [⟨0, some 4, .mv (.const (.int .i64 (-1))), none, []⟩])
  (.ret)) (.skip)))
  (.seq (.ops [⟨0, some 17, .mv (.tmp 1), none, []⟩, ⟨1, some 4, .mv (.tmp 17), none, []⟩])
  (.ret))))))
theorem k_w_heldBands : FnOk Try.prog n_w_heldBands 2 c_w_heldBands [.tmp 4] := ⟨by kernel_rfl⟩
def c_w_szPair : ACode :=
  .seq (.ops [⟨0, some 2, .box 127 (.tmp 0), none, []⟩, ⟨1, some 4, .mv (.const (.int .i64 0)), none, []⟩])
  (.seq (.ops [⟨0, some 5, .fa 0 (.tmp 2), none, []⟩, ⟨1, some 6, .ld (.tmp 5), none, []⟩, ⟨2, some 7, .mv (.tmp 1), none, []⟩, ⟨3, some 8, .call n_w_szFloat32S [.tmp 6, .tmp 7], none, []⟩, ⟨4, some 1, .mv (.tmp 8), none, []⟩])
  (.seq (.seq (.keep [1] (.ops [⟨0, some 9, .mv (.tmp 1), none, []⟩, ⟨1, some 10, .bin .lss (.tmp 9) (.const (.int .i64 0)), none, []⟩]))
  (.cond (.tmp 10) (.seq (.ops [⟨0, some 4, .mv (.const (.int .i64 (-1))), none, []⟩])
  (.ret)) (.skip)))
  (.seq (.ops [⟨0, some 11, .mv (.tmp 1), none, []⟩, ⟨1, some 4, .mv (.tmp 11), none, []⟩])
  (.ret))))
theorem k_w_szPair : FnOk Try.prog n_w_szPair 2 c_w_szPair [.tmp 4] := ⟨by kernel_rfl⟩
def c_s_SplitLevels : ACode :=
  .seq (.ops [⟨0, some 4, .box 44 (.tmp 1), none, []⟩, ⟨1, some 6, .new 98 [.slice none 0 0, .slice none 0 0], none, []⟩, ⟨2, some 7, .mv (.const (.bool false)), none, []⟩])
  (.seq (.seq (.ops [⟨0, some 12, .mv (.tmp 0), none, []⟩, ⟨1, some 13, .call n_s_l03Long [.tmp 12], none, []⟩, ⟨2, some 14, .un .not (.tmp 13), none, []⟩, ⟨3, some 15, .mv (.tmp 14), none, []⟩, ⟨4, some 16, .call n_s_l03Pair [.tmp 4], (some (15, false)), []⟩, ⟨5, some 17, .un .not (.tmp 16), (some (15, false)), []⟩, ⟨6, some 18, .pick (.tmp 15) (.const (.bool true)) (.tmp 17), none, []⟩, ⟨7, some 19, .mv (.tmp 18), none, []⟩, ⟨8, some 20, .mv (.tmp 2), (some (19, false)), []⟩, ⟨9, some 21, .call n_s_l00In [.tmp 20, .const (.int .i64 1), .const (.int .i64 6)], (some (19, false)), []⟩, ⟨10, some 22, .un .not (.tmp 21), (some (19, false)), []⟩, ⟨11, some 23, .pick (.tmp 19) (.const (.bool true)) (.tmp 22), none, []⟩, ⟨12, some 24, .mv (.tmp 23), none, []⟩, ⟨13, some 25, .mv (.tmp 0), (some (24, false)), []⟩, ⟨14, some 26, .len (.tmp 25), (some (24, false)), []⟩, ⟨15, some 27, .mv (.tmp 2), (some (24, false)), []⟩, ⟨16, some 28, .bin .shl (.const (.int .i64 1)) (.tmp 27), (some (24, false)), []⟩, ⟨17, some 29, .bin .rem (.tmp 26) (.tmp 28), (some (24, false)), []⟩, ⟨18, some 30, .bin .neq (.tmp 29) (.const (.int .i64 0)), (some (24, false)), []⟩, ⟨19, some 31, .pick (.tmp 24) (.const (.bool true)) (.tmp 30), none, []⟩])
  (.cond (.tmp 31) (.seq (.keep [6] (.ops [⟨0, some 32, .bld [.slice none 0 0, .slice none 0 0] [], none, []⟩, ⟨1, none, .stn 2 (.tmp 6) (.tmp 32), none, []⟩, ⟨2, some 7, .mv (.const (.bool false)), none, []⟩]))
  (.ret)) (.skip)))
  (.seq (.keep [0, 2, 4, 6] (.ops [⟨0, some 33, .bsl 34 0 (.float .f32 0) [], none, []⟩, ⟨1, some 34, .mv (.tmp 0), none, []⟩, ⟨2, some 35, .app 34 4 (.tmp 33) (.tmp 34), none, []⟩, ⟨3, some 36, .bld [.slice none 0 0, .slice none 0 0] [(0, 1, .tmp 35)], none, []⟩, ⟨4, some 8, .new 98 [.slice none 0 0, .slice none 0 0], none, []⟩, ⟨5, none, .stn 2 (.tmp 8) (.tmp 36), none, []⟩]))
  (.seq (.block 0 (.loop [2, 4, 6, 8] (.seq (.seq (.ops [⟨0, some 37, .mv (.tmp 2), none, []⟩, ⟨1, some 38, .bin .gtr (.tmp 37) (.const (.int .i64 0)), none, []⟩])
  (.cond (.tmp 38) (.skip) (.exit 0)))
  (.seq (.block 1 (.seq (.ops [⟨0, some 42, .fa 0 (.tmp 8), none, []⟩, ⟨1, some 43, .ld (.tmp 42), none, []⟩, ⟨2, some 44, .ldn 1 (.tmp 4), none, []⟩, ⟨3, some 45, .call n_s_SplitRing [.tmp 43, .tmp 44], none, []⟩, ⟨4, some 41, .mv (.tmp 45), none, []⟩, ⟨5, some 46, .ext (.tmp 41) 0, none, []⟩, ⟨6, some 47, .ext (.tmp 41) 1, none, []⟩, ⟨7, some 48, .ext (.tmp 41) 2, none, []⟩, ⟨8, some 9, .mv (.tmp 46), none, []⟩, ⟨9, some 10, .mv (.tmp 47), none, []⟩, ⟨10, some 11, .mv (.tmp 48), none, []⟩])
  (.seq (.seq (.keep [2, 4, 6, 8, 9, 10, 11] (.ops [⟨0, some 49, .mv (.tmp 11), none, []⟩, ⟨1, some 50, .un .not (.tmp 49), none, []⟩]))
  (.cond (.tmp 50) (.seq (.keep [6] (.ops [⟨0, some 51, .bld [.slice none 0 0, .slice none 0 0] [], none, []⟩, ⟨1, none, .stn 2 (.tmp 6) (.tmp 51), none, []⟩, ⟨2, some 7, .mv (.const (.bool false)), none, []⟩]))
  (.ret)) (.skip)))
  (.seq (.ops [⟨0, some 52, .mv (.tmp 9), none, []⟩, ⟨1, some 53, .fa 0 (.tmp 8), none, []⟩, ⟨2, none, .st (.tmp 53) (.tmp 52), none, []⟩])
  (.keep [2, 4, 6, 8, 10] (.ops [⟨0, some 54, .fa 1 (.tmp 8), none, []⟩, ⟨1, some 55, .ld (.tmp 54), none, []⟩, ⟨2, some 56, .mv (.tmp 10), none, []⟩, ⟨3, some 57, .bsl 22 1 (.slice none 0 0) [(0, .tmp 56)], none, []⟩, ⟨4, some 58, .app 22 24 (.tmp 55) (.tmp 57), none, []⟩, ⟨5, some 59, .fa 1 (.tmp 8), none, []⟩, ⟨6, none, .st (.tmp 59) (.tmp 58), none, []⟩]))))))
  (.keep [2, 4, 6, 8] (.ops [⟨0, some 39, .mv (.tmp 2), none, []⟩, ⟨1, some 40, .bin .sub (.tmp 39) (.const (.int .i64 1)), none, []⟩, ⟨2, some 2, .mv (.tmp 40), none, []⟩]))))))
  (.seq (.ops [⟨0, some 60, .ldn 2 (.tmp 8), none, []⟩, ⟨1, none, .stn 2 (.tmp 6) (.tmp 60), none, []⟩, ⟨2, some 7, .mv (.const (.bool true)), none, []⟩])
  (.ret)))))
theorem k_s_SplitLevels : FnOk Try.prog n_s_SplitLevels 3 c_s_SplitLevels [.celln 6 2, .tmp 7] := ⟨by kernel_rfl⟩
def c_w_toPair : ACode :=
  .seq (.ops [⟨0, some 1, .box 127 (.tmp 0), none, []⟩, ⟨1, some 2, .new 44 [.slice none 0 0], none, []⟩])
  (.seq (.ops [⟨0, some 3, .new 44 [.slice none 0 0], none, []⟩])
  (.seq (.ops [⟨0, some 4, .fa 0 (.tmp 1), none, []⟩, ⟨1, some 5, .ld (.tmp 4), none, []⟩, ⟨2, some 6, .call n_w_toFloat32S [.tmp 5], none, []⟩, ⟨3, some 7, .fa 0 (.tmp 3), none, []⟩, ⟨4, none, .st (.tmp 7) (.tmp 6), none, []⟩])
  (.seq (.keep [2, 3] (.ops [⟨0, some 8, .ldn 1 (.tmp 3), none, []⟩, ⟨1, none, .stn 1 (.tmp 2) (.tmp 8), none, []⟩]))
  (.ret))))
theorem k_w_toPair : FnOk Try.prog n_w_toPair 1 c_w_toPair [.celln 2 1] := ⟨by kernel_rfl⟩
def c_i_SplitLevels : ACode :=
  .seq (.ops [⟨0, some 4, .box 44 (.tmp 1), none, []⟩, ⟨1, some 6, .new 98 [.slice none 0 0, .slice none 0 0], none, []⟩, ⟨2, some 7, .mv (.const (.bool false)), none, []⟩])
  (.seq (.seq (.ops [⟨0, some 12, .mv (.tmp 0), none, []⟩, ⟨1, some 13, .call n_i_isLong [.tmp 12], none, []⟩, ⟨2, some 14, .un .not (.tmp 13), none, []⟩, ⟨3, some 15, .mv (.tmp 14), none, []⟩, ⟨4, some 16, .ldn 1 (.tmp 4), (some (15, false)), []⟩, ⟨5, some 17, .call n_i_ValidPair [.tmp 16], (some (15, false)), []⟩, ⟨6, some 18, .un .not (.tmp 17), (some (15, false)), []⟩, ⟨7, some 19, .pick (.tmp 15) (.const (.bool true)) (.tmp 18), none, []⟩, ⟨8, some 20, .mv (.tmp 19), none, []⟩, ⟨9, some 21, .mv (.tmp 2), (some (20, false)), []⟩, ⟨10, some 22, .call n_i_within [.tmp 21, .const (.int .i64 1), .const (.int .i64 6)], (some (20, false)), []⟩, ⟨11, some 23, .un .not (.tmp 22), (some (20, false)), []⟩, ⟨12, some 24, .pick (.tmp 20) (.const (.bool true)) (.tmp 23), none, []⟩, ⟨13, some 25, .mv (.tmp 24), none, []⟩, ⟨14, some 26, .mv (.tmp 0), (some (25, false)), []⟩, ⟨15, some 27, .len (.tmp 26), (some (25, false)), []⟩, ⟨16, some 28, .mv (.tmp 2), (some (25, false)), []⟩, ⟨17, some 29, .bin .shl (.const (.int .i64 1)) (.tmp 28), (some (25, false)), []⟩, ⟨18, some 30, .bin .rem (.tmp 27) (.tmp 29), (some (25, false)), []⟩, ⟨19, some 31, .bin .neq (.tmp 30) (.const (.int .i64 0)), (some (25, false)), []⟩, ⟨20, some 32, .pick (.tmp 25) (.const (.bool true)) (.tmp 31), none, []⟩])
  (.cond (.tmp 32) (.seq (.keep [6] (.ops [⟨0, some 33, .bld [.slice none 0 0, .slice none 0 0] [], none, []⟩, ⟨1, none, .stn 2 (.tmp 6) (.tmp 33), none, []⟩, ⟨2, some 7, .mv (.const (.bool false)), none, []⟩]))
  (.ret)) (.skip)))
  (.seq (.keep [0, 2, 4, 6] (.ops [⟨0, some 34, .mv (.tmp 0), none, []⟩, ⟨1, some 35, .call n_i_copyOf [.tmp 34], none, []⟩, ⟨2, some 36, .bld [.slice none 0 0, .slice none 0 0] [(0, 1, .tmp 35)], none, []⟩, ⟨3, some 8, .new 98 [.slice none 0 0, .slice none 0 0], none, []⟩, ⟨4, none, .stn 2 (.tmp 8) (.tmp 36), none, []⟩]))
  (.seq (.seq (.ops [⟨0, some 37, .mv (.tmp 2), none, []⟩, ⟨1, some 38, .mv (.const (.int .i64 0)), none, []⟩])
  (.block 0 (.loop [4, 6, 8, 37, 38] (.seq (.ops [⟨0, some 39, .bin .lss (.tmp 38) (.tmp 37), none, []⟩])
  (.seq (.cond (.tmp 39) (.skip) (.exit 0))
  (.seq (.block 1 (.seq (.ops [⟨0, some 41, .fa 0 (.tmp 8), none, []⟩, ⟨1, some 42, .ld (.tmp 41), none, []⟩, ⟨2, some 43, .ldn 1 (.tmp 4), none, []⟩, ⟨3, some 44, .call n_i_SplitRing [.tmp 42, .tmp 43], none, []⟩, ⟨4, some 40, .mv (.tmp 44), none, []⟩, ⟨5, some 45, .ext (.tmp 40) 0, none, []⟩, ⟨6, some 46, .ext (.tmp 40) 1, none, []⟩, ⟨7, some 47, .ext (.tmp 40) 2, none, []⟩, ⟨8, some 9, .mv (.tmp 45), none, []⟩, ⟨9, some 10, .mv (.tmp 46), none, []⟩, ⟨10, some 11, .mv (.tmp 47), none, []⟩])
  (.seq (.seq (.keep [4, 6, 8, 9, 10, 11, 37, 38] (.ops [⟨0, some 48, .mv (.tmp 11), none, []⟩, ⟨1, some 49, .un .not (.tmp 48), none, []⟩]))
  (.cond (.tmp 49) (.seq (.keep [6] (.ops [⟨0, some 50, .bld [.slice none 0 0, .slice none 0 0] [], none, []⟩, ⟨1, none, .stn 2 (.tmp 6) (.tmp 50), none, []⟩, ⟨2, some 7, .mv (.const (.bool false)), none, []⟩]))
  (.ret)) (.skip)))
  (.seq (.ops [⟨0, some 51, .mv (.tmp 9), none, []⟩, ⟨1, some 52, .fa 0 (.tmp 8), none, []⟩, ⟨2, none, .st (.tmp 52) (.tmp 51), none, []⟩])
  (.keep [4, 6, 8, 10, 37, 38] (.ops [⟨0, some 53, .fa 1 (.tmp 8), none, []⟩, ⟨1, some 54, .ld (.tmp 53), none, []⟩, ⟨2, some 55, .mv (.tmp 10), none, []⟩, ⟨3, some 56, .bsl 22 1 (.slice none 0 0) [(0, .tmp 55)], none, []⟩, ⟨4, some 57, .app 22 24 (.tmp 54) (.tmp 56), none, []⟩, ⟨5, some 58, .fa 1 (.tmp 8), none, []⟩, ⟨6, none, .st (.tmp 58) (.tmp 57), none, []⟩]))))))
  (.keep [4, 6, 8, 37, 38] (.ops [⟨0, some 59, .bin .add (.tmp 38) (.const (.int .i64 1)), none, []⟩, ⟨1, some 38, .mv (.tmp 59), none, []⟩]))))))))
  (.seq (.ops [⟨0, some 60, .ldn 2 (.tmp 8), none, []⟩, ⟨1, none, .stn 2 (.tmp 6) (.tmp 60), none, []⟩, ⟨2, some 7, .mv (.const (.bool true)), none, []⟩])
  (.ret)))))
theorem k_i_SplitLevels : FnOk Try.prog n_i_SplitLevels 3 c_i_SplitLevels [.celln 6 2, .tmp 7] := ⟨by kernel_rfl⟩
def c_w_eqPair : ACode :=
  .seq (.ops [⟨0, some 2, .box 44 (.tmp 0), none, []⟩, ⟨1, some 3, .box 44 (.tmp 1), none, []⟩, ⟨2, some 4, .mv (.const (.bool false)), none, []⟩])
  (.seq (.seq (.ops [⟨0, some 5, .fa 0 (.tmp 2), none, []⟩, ⟨1, some 6, .ld (.tmp 5), none, []⟩, ⟨2, some 7, .fa 0 (.tmp 3), none, []⟩, ⟨3, some 8, .ld (.tmp 7), none, []⟩, ⟨4, some 9, .call n_w_eqFloat32S [.tmp 6, .tmp 8], none, []⟩, ⟨5, some 10, .un .not (.tmp 9), none, []⟩])
  (.cond (.tmp 10) (.seq (.keep [] (.ops [⟨0, some 4, .mv (.const (.bool false)), none, []⟩]))
  (.ret)) (.skip)))
  (.seq (.keep [] (.ops [⟨0, some 4, .mv (.const (.bool true)), none, []⟩]))
  (.ret)))
theorem k_w_eqPair : FnOk Try.prog n_w_eqPair 2 c_w_eqPair [.tmp 4] := ⟨by kernel_rfl⟩
def c_w_markPair : ACode :=
  .seq (.ops [⟨0, some 2, .box 44 (.tmp 0), none, []⟩, ⟨1, some 4, .mv (.const (.int .i64 0)), none, []⟩])
  (.seq (.ops [⟨0, some 5, .fa 0 (.tmp 2), none, []⟩, ⟨1, some 6, .ld (.tmp 5), none, []⟩, ⟨2, some 7, .mv (.tmp 1), none, []⟩, ⟨3, some 8, .call n_w_markFloat32S [.tmp 6, .tmp 7], none, []⟩, ⟨4, some 1, .mv (.tmp 8), none, []⟩])
  (.seq (.keep [1] (.ops [⟨0, some 9, .mv (.tmp 1), none, []⟩, ⟨1, some 4, .mv (.tmp 9), none, []⟩]))
  (.ret)))
theorem k_w_markPair : FnOk Try.prog n_w_markPair 2 c_w_markPair [.tmp 4] := ⟨by kernel_rfl⟩
def c_w_szFloat32S : ACode :=
  .seq (.ops [⟨0, some 4, .mv (.const (.int .i64 0)), none, []⟩])
  (.seq (.ops [⟨0, some 5, .mv (.tmp 1), none, []⟩, ⟨1, some 6, .mv (.tmp 0), none, []⟩, ⟨2, some 7, .len (.tmp 6), none, []⟩, ⟨3, some 8, .bin .sub (.tmp 5) (.tmp 7), none, []⟩, ⟨4, some 1, .mv (.tmp 8), none, []⟩])
  (.seq (.seq (.keep [1] (.ops [⟨0, some 9, .mv (.tmp 1), none, []⟩, ⟨1, some 10, .bin .lss (.tmp 9) (.const (.int .i64 0)), none, []⟩]))
  (.cond (.tmp 10) (.seq (.ops [⟨0, some 4, .mv (.const (.int .i64 (-1))), none, []⟩])
  (.ret)) (.skip)))
  (.seq (.ops [⟨0, some 11, .mv (.tmp 1), none, []⟩, ⟨1, some 4, .mv (.tmp 11), none, []⟩])
  (.ret))))
theorem k_w_szFloat32S : FnOk Try.prog n_w_szFloat32S 2 c_w_szFloat32S [.tmp 4] := ⟨by kernel_rfl⟩
def c_s_l00In : ACode :=
  .seq (.ops [⟨0, some 6, .mv (.const (.bool false)), none, []⟩])
  (.seq (.ops [⟨0, some 7, .mv (.tmp 0), none, []⟩, ⟨1, some 8, .mv (.tmp 1), none, []⟩, ⟨2, some 9, .bin .geq (.tmp 7) (.tmp 8), none, []⟩, ⟨3, some 10, .mv (.tmp 9), none, []⟩, ⟨4, some 11, .mv (.tmp 0), (some (10, true)), []⟩, ⟨5, some 12, .mv (.tmp 2), (some (10, true)), []⟩, ⟨6, some 13, .bin .leq (.tmp 11) (.tmp 12), (some (10, true)), []⟩, ⟨7, some 14, .pick (.tmp 10) (.tmp 13) (.const (.bool false)), none, []⟩, ⟨8, some 6, .mv (.tmp 14), none, []⟩])
  (.ret))
theorem k_s_l00In : FnOk Try.prog n_s_l00In 3 c_s_l00In [.tmp 6] := ⟨by kernel_rfl⟩
def c_i_copyOf : ACode :=
  .seq (.ops [⟨0, some 2, .mv (.const (.slice none 0 0)), none, []⟩])
  (.seq (.ops [⟨0, some 3, .bsl 34 0 (.float .f32 0) [], none, []⟩, ⟨1, some 4, .mv (.tmp 0), none, []⟩, ⟨2, some 5, .app 34 4 (.tmp 3) (.tmp 4), none, []⟩, ⟨3, some 2, .mv (.tmp 5), none, []⟩])
  (.ret))
theorem k_i_copyOf : FnOk Try.prog n_i_copyOf 1 c_i_copyOf [.tmp 2] := ⟨by kernel_rfl⟩
def c_i_size : ACode :=
  .seq (.ops [⟨0, some 2, .mv (.const (.float .f32 0)), none, []⟩])
  (.seq (.seq (.ops [⟨0, some 3, .mv (.tmp 0), none, []⟩, ⟨1, some 4, .bin .lss (.tmp 3) (.const (.float .f32 0)), none, []⟩])
  (.cond (.tmp 4) (.seq (.ops [⟨0, some 5, .mv (.tmp 0), none, []⟩, ⟨1, some 6, .un .neg (.tmp 5), none, []⟩, ⟨2, some 2, .mv (.tmp 6), none, []⟩])
  (.ret)) (.skip)))
  (.seq (.seq (.ops [⟨0, some 7, .mv (.tmp 0), none, []⟩, ⟨1, some 8, .bin .eql (.tmp 7) (.const (.float .f32 0)), none, []⟩])
  (.cond (.tmp 8) (.seq (.keep [] (.ops [⟨0, some 2, .mv (.const (.float .f32 0)), none, []⟩]))
  (.ret)) (.skip)))
  (.seq (.keep [0] (.ops [⟨0, some 9, .mv (.tmp 0), none, []⟩, ⟨1, some 2, .mv (.tmp 9), none, []⟩]))
  (.ret))))
theorem k_i_size : FnOk Try.prog n_i_size 1 c_i_size [.tmp 2] := ⟨by kernel_rfl⟩
def c_i_isLong : ACode :=
  .seq (.ops [⟨0, some 2, .mv (.const (.bool false)), none, []⟩])
  (.seq (.ops [⟨0, some 3, .mv (.tmp 0), none, []⟩, ⟨1, some 4, .len (.tmp 3), none, []⟩, ⟨2, some 5, .call n_i_within [.tmp 4, .const (.int .i64 1), .const (.int .i64 128)], none, []⟩, ⟨3, some 6, .mv (.tmp 5), none, []⟩, ⟨4, some 7, .mv (.tmp 0), (some (6, true)), []⟩, ⟨5, some 8, .bsl 22 1 (.slice none 0 0) [(0, .tmp 7)], (some (6, true)), []⟩, ⟨6, some 9, .call n_i_areFinite [.tmp 8], (some (6, true)), []⟩, ⟨7, some 10, .pick (.tmp 6) (.tmp 9) (.const (.bool false)), none, []⟩, ⟨8, some 2, .mv (.tmp 10), none, []⟩])
  (.ret))
theorem k_i_isLong : FnOk Try.prog n_i_isLong 1 c_i_isLong [.tmp 2] := ⟨by kernel_rfl⟩
def c_i_highOf : ACode :=
  .seq (.ops [⟨0, some 1, .box 44 (.tmp 0), none, []⟩, ⟨1, some 2, .mv (.const (.slice none 0 0)), none, []⟩])
  (.seq (.ops [⟨0, some 6, .bsl 34 0 (.float .f32 0) [], none, []⟩, ⟨1, some 3, .mv (.tmp 6), none, []⟩])
  (.seq (.seq (.ops [⟨0, some 7, .fa 0 (.tmp 1), none, []⟩, ⟨1, some 8, .ld (.tmp 7), none, []⟩, ⟨2, some 9, .len (.tmp 8), none, []⟩, ⟨3, some 10, .mv (.const (.int .i64 0)), none, []⟩])
  (.block 0 (.loop [1, 3, 9, 10] (.seq (.ops [⟨0, some 11, .bin .lss (.tmp 10) (.tmp 9), none, []⟩])
  (.seq (.cond (.tmp 11) (.skip) (.exit 0))
  (.seq (.block 1 (.seq (.ops [⟨0, some 12, .mv (.tmp 10), none, []⟩, ⟨1, some 4, .mv (.tmp 12), none, []⟩])
  (.seq (.ops [⟨0, some 13, .fa 0 (.tmp 1), none, []⟩, ⟨1, some 14, .ld (.tmp 13), none, []⟩, ⟨2, some 15, .fa 0 (.tmp 1), none, []⟩, ⟨3, some 16, .ld (.tmp 15), none, []⟩, ⟨4, some 17, .len (.tmp 16), none, []⟩, ⟨5, some 18, .bin .sub (.tmp 17) (.const (.int .i64 1)), none, []⟩, ⟨6, some 19, .mv (.tmp 4), none, []⟩, ⟨7, some 20, .bin .sub (.tmp 18) (.tmp 19), none, []⟩, ⟨8, some 21, .ia (.tmp 14) (.tmp 20), none, []⟩, ⟨9, some 22, .ld (.tmp 21), none, []⟩, ⟨10, some 5, .mv (.tmp 22), none, []⟩])
  (.seq (.seq (.keep [1, 3, 4, 5, 9, 10] (.ops [⟨0, some 23, .mv (.tmp 4), none, []⟩, ⟨1, some 24, .bin .rem (.tmp 23) (.const (.int .i64 2)), none, []⟩, ⟨2, some 25, .bin .eql (.tmp 24) (.const (.int .i64 1)), none, []⟩]))
  (.cond (.tmp 25) (.ops [⟨0, some 26, .mv (.tmp 5), none, []⟩, ⟨1, some 27, .un .neg (.tmp 26), none, []⟩, ⟨2, some 5, .mv (.tmp 27), none, []⟩]) (.skip)))
  (.keep [1, 3, 5, 9, 10] (.ops [⟨0, some 28, .mv (.tmp 3), none, []⟩, ⟨1, some 29, .mv (.tmp 5), none, []⟩, ⟨2, some 30, .bsl 34 1 (.float .f32 0) [(0, .tmp 29)], none, []⟩, ⟨3, some 31, .app 34 4 (.tmp 28) (.tmp 30), none, []⟩, ⟨4, some 3, .mv (.tmp 31), none, []⟩]))))))
  (.keep [1, 3, 9, 10] (.ops [⟨0, some 32, .bin .add (.tmp 10) (.const (.int .i64 1)), none, []⟩, ⟨1, some 10, .mv (.tmp 32), none, []⟩]))))))))
  (.seq (.ops [⟨0, some 33, .mv (.tmp 3), none, []⟩, ⟨1, some 2, .mv (.tmp 33), none, []⟩])
  (.ret))))
theorem k_i_highOf : FnOk Try.prog n_i_highOf 1 c_i_highOf [.tmp 2] := ⟨by kernel_rfl⟩
def c_i_areFinite : ACode :=
  .seq (.ops [⟨0, some 2, .mv (.const (.bool false)), none, []⟩])
  (.seq (.seq (.ops [⟨0, some 7, .mv (.tmp 0), none, []⟩, ⟨1, some 8, .len (.tmp 7), none, []⟩, ⟨2, some 9, .mv (.const (.int .i64 0)), none, []⟩])
  (.block 0 (.loop [7, 8, 9] (.seq (.ops [⟨0, some 10, .bin .lss (.tmp 9) (.tmp 8), none, []⟩])
  (.seq (.cond (.tmp 10) (.skip) (.exit 0))
  (.seq (.block 1 (.seq (.ops [⟨0, some 11, .ia (.tmp 7) (.tmp 9), none, []⟩, ⟨1, some 12, .ld (.tmp 11), none, []⟩, ⟨2, some 4, .mv (.tmp 12), none, []⟩])
  (.seq (.ops [⟨0, some 13, .mv (.tmp 4), none, []⟩, ⟨1, some 14, .len (.tmp 13), none, []⟩, ⟨2, some 15, .mv (.const (.int .i64 0)), none, []⟩])
  (.block 2 (.loop [7, 8, 9, 13, 14, 15] (.seq (.ops [⟨0, some 16, .bin .lss (.tmp 15) (.tmp 14), none, []⟩])
  (.seq (.cond (.tmp 16) (.skip) (.exit 2))
  (.seq (.block 3 (.seq (.ops [⟨0, some 17, .ia (.tmp 13) (.tmp 15), none, []⟩, ⟨1, some 18, .ld (.tmp 17), none, []⟩, ⟨2, some 6, .mv (.tmp 18), none, []⟩])
  (.seq (.ops [⟨0, some 19, .mv (.tmp 6), none, []⟩, ⟨1, some 20, .call n_i_IsFinite [.tmp 19], none, []⟩, ⟨2, some 21, .un .not (.tmp 20), none, []⟩])
  (.cond (.tmp 21) (.seq (.keep [] (.ops [⟨0, some 2, .mv (.const (.bool false)), none, []⟩]))
  (.ret)) (.skip)))))
  (.keep [7, 8, 9, 13, 14, 15] (.ops [⟨0, some 22, .bin .add (.tmp 15) (.const (.int .i64 1)), none, []⟩, ⟨1, some 15, .mv (.tmp 22), none, []⟩]))))))))))
  (.ops [⟨0, some 23, .bin .add (.tmp 9) (.const (.int .i64 1)), none, []⟩, ⟨1, some 9, .mv (.tmp 23), none, []⟩])))))))
  (.seq (.ops [⟨0, some 2, .mv (.const (.bool true)), none, []⟩])
  (.ret)))
theorem k_i_areFinite : FnOk Try.prog n_i_areFinite 1 c_i_areFinite [.tmp 2] := ⟨by kernel_rfl⟩
def c_i_within : ACode :=
  .seq (.ops [⟨0, some 6, .mv (.const (.bool false)), none, []⟩])
  (.seq (.ops [⟨0, some 7, .mv (.tmp 0), none, []⟩, ⟨1, some 8, .mv (.tmp 1), none, []⟩, ⟨2, some 9, .bin .geq (.tmp 7) (.tmp 8), none, []⟩, ⟨3, some 10, .mv (.tmp 9), none, []⟩, ⟨4, some 11, .mv (.tmp 0), (some (10, true)), []⟩, ⟨5, some 12, .mv (.tmp 2), (some (10, true)), []⟩, ⟨6, some 13, .bin .leq (.tmp 11) (.tmp 12), (some (10, true)), []⟩, ⟨7, some 14, .pick (.tmp 10) (.tmp 13) (.const (.bool false)), none, []⟩, ⟨8, some 6, .mv (.tmp 14), none, []⟩])
  (.ret))
theorem k_i_within : FnOk Try.prog n_i_within 3 c_i_within [.tmp 6] := ⟨by kernel_rfl⟩
def c_i_squares : ACode :=
  .seq (.ops [⟨0, some 2, .mv (.const (.float .f32 0)), none, []⟩])
  (.seq (.ops [⟨0, some 3, .mv (.const (.float .f32 0)), none, []⟩])
  (.seq (.seq (.ops [⟨0, some 6, .mv (.tmp 0), none, []⟩, ⟨1, some 7, .len (.tmp 6), none, []⟩, ⟨2, some 8, .mv (.const (.int .i64 0)), none, []⟩])
  (.block 0 (.loop [3, 6, 7, 8] (.seq (.ops [⟨0, some 9, .bin .lss (.tmp 8) (.tmp 7), none, []⟩])
  (.seq (.cond (.tmp 9) (.skip) (.exit 0))
  (.seq (.block 1 (.seq (.ops [⟨0, some 10, .ia (.tmp 6) (.tmp 8), none, []⟩, ⟨1, some 11, .ld (.tmp 10), none, []⟩, ⟨2, some 5, .mv (.tmp 11), none, []⟩])
  (.ops [⟨0, some 12, .mv (.tmp 3), none, []⟩, ⟨1, some 13, .mv (.tmp 5), none, []⟩, ⟨2, some 14, .mv (.tmp 5), none, []⟩, ⟨3, some 15, .bin .mul (.tmp 13) (.tmp 14), none, []⟩, ⟨4, some 16, .bin .add (.tmp 12) (.tmp 15), none, []⟩, ⟨5, some 3, .mv (.tmp 16), none, []⟩])))
  (.keep [3, 6, 7, 8] (.ops [⟨0, some 17, .bin .add (.tmp 8) (.const (.int .i64 1)), none, []⟩, ⟨1, some 8, .mv (.tmp 17), none, []⟩]))))))))
  (.seq (.ops [⟨0, some 18, .mv (.tmp 3), none, []⟩, ⟨1, some 2, .mv (.tmp 18), none, []⟩])
  (.ret))))
theorem k_i_squares : FnOk Try.prog n_i_squares 1 c_i_squares [.tmp 2] := ⟨by kernel_rfl⟩
def c_w_sameFloat : ACode :=
  .seq (.ops [⟨0, some 4, .mv (.const (.bool false)), none, []⟩])
  (.seq (.seq (.ops [⟨0, some 5, .mv (.tmp 0), none, []⟩, ⟨1, some 6, .mv (.tmp 0), none, []⟩, ⟨2, some 7, .bin .neq (.tmp 5) (.tmp 6), none, []⟩, ⟨3, some 8, .mv (.tmp 7), none, []⟩, ⟨4, some 9, .mv (.tmp 1), (some (8, false)), []⟩, ⟨5, some 10, .mv (.tmp 1), (some (8, false)), []⟩, ⟨6, some 11, .bin .neq (.tmp 9) (.tmp 10), (some (8, false)), []⟩, ⟨7, some 12, .pick (.tmp 8) (.const (.bool true)) (.tmp 11), none, []⟩])
  (.cond (.tmp 12) (.seq (.keep [0, 1] (.ops [⟨0, some 13, .mv (.tmp 0), none, []⟩, ⟨1, some 14, .mv (.tmp 0), none, []⟩, ⟨2, some 15, .bin .neq (.tmp 13) (.tmp 14), none, []⟩, ⟨3, some 16, .mv (.tmp 15), none, []⟩, ⟨4, some 17, .mv (.tmp 1), (some (16, true)), []⟩, ⟨5, some 18, .mv (.tmp 1), (some (16, true)), []⟩, ⟨6, some 19, .bin .neq (.tmp 17) (.tmp 18), (some (16, true)), []⟩, ⟨7, some 20, .pick (.tmp 16) (.tmp 19) (.const (.bool false)), none, []⟩, ⟨8, some 4, .mv (.tmp 20), none, []⟩]))
  (.ret)) (.skip)))
  (.seq (.seq (.keep [0, 1] (.ops [⟨0, some 21, .mv (.tmp 0), none, []⟩, ⟨1, some 22, .bin .eql (.tmp 21) (.const (.float .f64 0)), none, []⟩, ⟨2, some 23, .mv (.tmp 22), none, []⟩, ⟨3, some 24, .mv (.tmp 1), (some (23, true)), []⟩, ⟨4, some 25, .bin .eql (.tmp 24) (.const (.float .f64 0)), (some (23, true)), []⟩, ⟨5, some 26, .pick (.tmp 23) (.tmp 25) (.const (.bool false)), none, []⟩]))
  (.cond (.tmp 26) (.seq (.keep [0, 1] (.ops [⟨0, some 27, .mv (.tmp 0), none, []⟩, ⟨1, some 28, .bin .quo (.const (.float .f64 4607182418800017408)) (.tmp 27), none, []⟩, ⟨2, some 29, .bin .gtr (.tmp 28) (.const (.float .f64 0)), none, []⟩, ⟨3, some 30, .mv (.tmp 1), none, []⟩, ⟨4, some 31, .bin .quo (.const (.float .f64 4607182418800017408)) (.tmp 30), none, []⟩, ⟨5, some 32, .bin .gtr (.tmp 31) (.const (.float .f64 0)), none, []⟩, ⟨6, some 33, .beq false (.tmp 29) (.tmp 32), none, []⟩, ⟨7, some 4, .mv (.tmp 33), none, []⟩]))
  (.ret)) (.skip)))
  (.seq (.keep [0, 1] (.ops [⟨0, some 34, .mv (.tmp 0), none, []⟩, ⟨1, some 35, .mv (.tmp 1), none, []⟩, ⟨2, some 36, .bin .eql (.tmp 34) (.tmp 35), none, []⟩, ⟨3, some 4, .mv (.tmp 36), none, []⟩]))
  (.ret))))
theorem k_w_sameFloat : FnOk Try.prog n_w_sameFloat 2 c_w_sameFloat [.tmp 4] := ⟨by kernel_rfl⟩
def c_s_l03Long : ACode :=
  .seq (.ops [⟨0, some 2, .mv (.const (.bool false)), none, []⟩])
  (.seq (.ops [⟨0, some 3, .mv (.tmp 0), none, []⟩, ⟨1, some 4, .len (.tmp 3), none, []⟩, ⟨2, some 5, .bin .geq (.tmp 4) (.const (.int .i64 1)), none, []⟩, ⟨3, some 6, .mv (.tmp 5), none, []⟩, ⟨4, some 7, .mv (.tmp 0), (some (6, true)), []⟩, ⟨5, some 8, .len (.tmp 7), (some (6, true)), []⟩, ⟨6, some 9, .bin .leq (.tmp 8) (.const (.int .i64 128)), (some (6, true)), []⟩, ⟨7, some 10, .pick (.tmp 6) (.tmp 9) (.const (.bool false)), none, []⟩, ⟨8, some 11, .mv (.tmp 10), none, []⟩, ⟨9, some 12, .mv (.tmp 0), (some (11, true)), []⟩, ⟨10, some 13, .call n_s_l02Finite [.tmp 12], (some (11, true)), []⟩, ⟨11, some 14, .pick (.tmp 11) (.tmp 13) (.const (.bool false)), none, []⟩, ⟨12, some 2, .mv (.tmp 14), none, []⟩])
  (.ret))
theorem k_s_l03Long : FnOk Try.prog n_s_l03Long 1 c_s_l03Long [.tmp 2] := ⟨by kernel_rfl⟩
def c_s_l03Pair : ACode :=
  .seq (.ops [⟨0, some 2, .mv (.const (.bool false)), none, []⟩])
  (.seq (.ops [⟨0, some 7, .mv (.tmp 0), none, []⟩, ⟨1, some 8, .nc (.tmp 7), none, []⟩, ⟨2, some 9, .fa 0 (.tmp 8), none, []⟩, ⟨3, some 10, .ld (.tmp 9), none, []⟩, ⟨4, some 11, .len (.tmp 10), none, []⟩, ⟨5, some 3, .mv (.tmp 11), none, []⟩])
  (.seq (.seq (.keep [0, 3] (.ops [⟨0, some 12, .mv (.tmp 3), none, []⟩, ⟨1, some 13, .bin .lss (.tmp 12) (.const (.int .i64 2)), none, []⟩, ⟨2, some 14, .mv (.tmp 13), none, []⟩, ⟨3, some 15, .mv (.tmp 3), (some (14, false)), []⟩, ⟨4, some 16, .bin .gtr (.tmp 15) (.const (.int .i64 8)), (some (14, false)), []⟩, ⟨5, some 17, .pick (.tmp 14) (.const (.bool true)) (.tmp 16), none, []⟩, ⟨6, some 18, .mv (.tmp 17), none, []⟩, ⟨7, some 19, .mv (.tmp 3), (some (18, false)), []⟩, ⟨8, some 20, .bin .rem (.tmp 19) (.const (.int .i64 2)), (some (18, false)), []⟩, ⟨9, some 21, .bin .neq (.tmp 20) (.const (.int .i64 0)), (some (18, false)), []⟩, ⟨10, some 22, .pick (.tmp 18) (.const (.bool true)) (.tmp 21), none, []⟩, ⟨11, some 23, .mv (.tmp 22), none, []⟩, ⟨12, some 24, .mv (.tmp 0), (some (23, false)), []⟩, ⟨13, some 25, .nc (.tmp 24), (some (23, false)), []⟩, ⟨14, some 26, .fa 0 (.tmp 25), (some (23, false)), []⟩, ⟨15, some 27, .ld (.tmp 26), (some (23, false)), []⟩, ⟨16, some 28, .call n_s_l02Finite [.tmp 27], (some (23, false)), []⟩, ⟨17, some 29, .un .not (.tmp 28), (some (23, false)), []⟩, ⟨18, some 30, .pick (.tmp 23) (.const (.bool true)) (.tmp 29), none, []⟩]))
  (.cond (.tmp 30) (.seq (.keep [] (.ops [⟨0, some 2, .mv (.const (.bool false)), none, []⟩]))
  (.ret)) (.skip)))
  (.seq (.seq (.keep [0, 3] (.ops [⟨0, some 4, .mv (.const (.int .i64 0)), none, []⟩]))
  (.block 0 (.loop [0, 3, 4] (.seq (.seq (.ops [⟨0, some 31, .mv (.tmp 4), none, []⟩, ⟨1, some 32, .mv (.tmp 3), none, []⟩, ⟨2, some 33, .bin .lss (.tmp 31) (.tmp 32), none, []⟩])
  (.cond (.tmp 33) (.skip) (.exit 0)))
  (.seq (.block 1 (.seq (.ops [⟨0, some 5, .mv (.const (.float .f32 0)), none, []⟩])
  (.seq (.seq (.ops [⟨0, some 6, .mv (.const (.int .i64 0)), none, []⟩])
  (.block 2 (.loop [0, 3, 4, 5, 6] (.seq (.seq (.ops [⟨0, some 36, .mv (.tmp 6), none, []⟩, ⟨1, some 37, .mv (.tmp 4), none, []⟩, ⟨2, some 38, .bin .add (.tmp 36) (.tmp 37), none, []⟩, ⟨3, some 39, .mv (.tmp 3), none, []⟩, ⟨4, some 40, .bin .lss (.tmp 38) (.tmp 39), none, []⟩])
  (.cond (.tmp 40) (.skip) (.exit 2)))
  (.seq (.block 3 (.keep [0, 3, 4, 5, 6] (.ops [⟨0, some 43, .mv (.tmp 5), none, []⟩, ⟨1, some 44, .mv (.tmp 0), none, []⟩, ⟨2, some 45, .nc (.tmp 44), none, []⟩, ⟨3, some 46, .fa 0 (.tmp 45), none, []⟩, ⟨4, some 47, .ld (.tmp 46), none, []⟩, ⟨5, some 48, .mv (.tmp 6), none, []⟩, ⟨6, some 49, .ia (.tmp 47) (.tmp 48), none, []⟩, ⟨7, some 50, .ld (.tmp 49), none, []⟩, ⟨8, some 51, .mv (.tmp 0), none, []⟩, ⟨9, some 52, .nc (.tmp 51), none, []⟩, ⟨10, some 53, .fa 0 (.tmp 52), none, []⟩, ⟨11, some 54, .ld (.tmp 53), none, []⟩, ⟨12, some 55, .mv (.tmp 6), none, []⟩, ⟨13, some 56, .mv (.tmp 4), none, []⟩, ⟨14, some 57, .bin .add (.tmp 55) (.tmp 56), none, []⟩, ⟨15, some 58, .ia (.tmp 54) (.tmp 57), none, []⟩, ⟨16, some 59, .ld (.tmp 58), none, []⟩, ⟨17, some 60, .bin .mul (.tmp 50) (.tmp 59), none, []⟩, ⟨18, some 61, .bin .add (.tmp 43) (.tmp 60), none, []⟩, ⟨19, some 5, .mv (.tmp 61), none, []⟩])))
  (.keep [0, 3, 4, 5, 6] (.ops [⟨0, some 41, .mv (.tmp 6), none, []⟩, ⟨1, some 42, .bin .add (.tmp 41) (.const (.int .i64 1)), none, []⟩, ⟨2, some 6, .mv (.tmp 42), none, []⟩])))))))
  (.seq (.seq (.keep [0, 3, 4, 5] (.ops [⟨0, some 62, .mv (.tmp 4), none, []⟩, ⟨1, some 63, .bin .eql (.tmp 62) (.const (.int .i64 0)), none, []⟩]))
  (.cond (.tmp 63) (.ops [⟨0, some 64, .mv (.tmp 5), none, []⟩, ⟨1, some 65, .bin .sub (.tmp 64) (.const (.float .f32 1065353216)), none, []⟩, ⟨2, some 5, .mv (.tmp 65), none, []⟩]) (.skip)))
  (.seq (.ops [⟨0, some 66, .mv (.tmp 5), none, []⟩, ⟨1, some 67, .bin .leq (.tmp 66) (.const (.float .f32 981668463)), none, []⟩, ⟨2, some 68, .mv (.tmp 67), none, []⟩, ⟨3, some 69, .mv (.tmp 5), (some (68, true)), []⟩, ⟨4, some 70, .bin .geq (.tmp 69) (.const (.float .f32 3129152111)), (some (68, true)), []⟩, ⟨5, some 71, .pick (.tmp 68) (.tmp 70) (.const (.bool false)), none, []⟩, ⟨6, some 72, .un .not (.tmp 71), none, []⟩])
  (.cond (.tmp 72) (.seq (.keep [] (.ops [⟨0, some 2, .mv (.const (.bool false)), none, []⟩]))
  (.ret)) (.skip)))))))
  (.keep [0, 3, 4] (.ops [⟨0, some 34, .mv (.tmp 4), none, []⟩, ⟨1, some 35, .bin .add (.tmp 34) (.const (.int .i64 2)), none, []⟩, ⟨2, some 4, .mv (.tmp 35), none, []⟩])))))))
  (.seq (.keep [] (.ops [⟨0, some 2, .mv (.const (.bool true)), none, []⟩]))
  (.ret)))))
theorem k_s_l03Pair : FnOk Try.prog n_s_l03Pair 1 c_s_l03Pair [.tmp 2] := ⟨by kernel_rfl⟩
def c_s_SplitRing : ACode :=
  .seq (.ops [⟨0, some 3, .box 44 (.tmp 1), none, []⟩, ⟨1, some 4, .mv (.const (.slice none 0 0)), none, []⟩, ⟨2, some 5, .mv (.const (.slice none 0 0)), none, []⟩, ⟨3, some 6, .mv (.const (.bool false)), none, []⟩])
  (.seq (.seq (.ops [⟨0, some 9, .mv (.tmp 0), none, []⟩, ⟨1, some 10, .call n_s_l03Long [.tmp 9], none, []⟩, ⟨2, some 11, .un .not (.tmp 10), none, []⟩, ⟨3, some 12, .mv (.tmp 11), none, []⟩, ⟨4, some 13, .mv (.tmp 0), (some (12, false)), []⟩, ⟨5, some 14, .len (.tmp 13), (some (12, false)), []⟩, ⟨6, some 15, .bin .rem (.tmp 14) (.const (.int .i64 2)), (some (12, false)), []⟩, ⟨7, some 16, .bin .neq (.tmp 15) (.const (.int .i64 0)), (some (12, false)), []⟩, ⟨8, some 17, .pick (.tmp 12) (.const (.bool true)) (.tmp 16), none, []⟩, ⟨9, some 18, .mv (.tmp 17), none, []⟩, ⟨10, some 19, .call n_s_l03Pair [.tmp 3], (some (18, false)), []⟩, ⟨11, some 20, .un .not (.tmp 19), (some (18, false)), []⟩, ⟨12, some 21, .pick (.tmp 18) (.const (.bool true)) (.tmp 20), none, []⟩])
  (.cond (.tmp 21) (.seq (.keep [] (.ops [⟨0, some 4, .mv (.const (.slice none 0 0)), none, []⟩, ⟨1, some 5, .mv (.const (.slice none 0 0)), none, []⟩, ⟨2, some 6, .mv (.const (.bool false)), none, []⟩]))
  (.ret)) (.skip)))
  (.seq (.keep [0, 3] (.ops [⟨0, some 22, .mv (.tmp 0), none, []⟩, ⟨1, some 23, .fa 0 (.tmp 3), none, []⟩, ⟨2, some 24, .ld (.tmp 23), none, []⟩, ⟨3, some 25, .call n_s_l03Taps [.tmp 22, .tmp 24], none, []⟩, ⟨4, some 7, .mv (.tmp 25), none, []⟩]))
  (.seq (.ops [⟨0, some 26, .mv (.tmp 0), none, []⟩, ⟨1, some 27, .call n_s_l03High [.tmp 3], none, []⟩, ⟨2, some 28, .call n_s_l03Taps [.tmp 26, .tmp 27], none, []⟩, ⟨3, some 8, .mv (.tmp 28), none, []⟩])
  (.seq (.seq (.keep [7, 8] (.ops [⟨0, some 29, .mv (.tmp 7), none, []⟩, ⟨1, some 30, .call n_s_l02Finite [.tmp 29], none, []⟩, ⟨2, some 31, .un .not (.tmp 30), none, []⟩, ⟨3, some 32, .mv (.tmp 31), none, []⟩, ⟨4, some 33, .mv (.tmp 8), (some (32, false)), []⟩, ⟨5, some 34, .call n_s_l02Finite [.tmp 33], (some (32, false)), []⟩, ⟨6, some 35, .un .not (.tmp 34), (some (32, false)), []⟩, ⟨7, some 36, .pick (.tmp 32) (.const (.bool true)) (.tmp 35), none, []⟩]))
  (.cond (.tmp 36) (.seq (.keep [] (.ops [⟨0, some 4, .mv (.const (.slice none 0 0)), none, []⟩, ⟨1, some 5, .mv (.const (.slice none 0 0)), none, []⟩, ⟨2, some 6, .mv (.const (.bool false)), none, []⟩]))
  (.ret)) (.skip)))
  (.seq (.keep [7, 8] (.ops [⟨0, some 37, .mv (.tmp 7), none, []⟩, ⟨1, some 38, .mv (.tmp 8), none, []⟩, ⟨2, some 4, .mv (.tmp 37), none, []⟩, ⟨3, some 5, .mv (.tmp 38), none, []⟩, ⟨4, some 6, .mv (.const (.bool true)), none, []⟩]))
  (.ret))))))
theorem k_s_SplitRing : FnOk Try.prog n_s_SplitRing 2 c_s_SplitRing [.tmp 4, .tmp 5, .tmp 6] := ⟨by kernel_rfl⟩
def c_s_l02Finite : ACode :=
  .seq (.ops [⟨0, some 2, .mv (.const (.bool false)), none, []⟩])
  (.seq (.seq (.ops [⟨0, some 3, .mv (.const (.int .i64 0)), none, []⟩])
  (.block 0 (.loop [0, 3] (.seq (.seq (.ops [⟨0, some 4, .mv (.tmp 3), none, []⟩, ⟨1, some 5, .mv (.tmp 0), none, []⟩, ⟨2, some 6, .len (.tmp 5), none, []⟩, ⟨3, some 7, .bin .lss (.tmp 4) (.tmp 6), none, []⟩])
  (.cond (.tmp 7) (.skip) (.exit 0)))
  (.seq (.block 1 (.seq (.ops [⟨0, some 10, .mv (.tmp 0), none, []⟩, ⟨1, some 11, .mv (.tmp 3), none, []⟩, ⟨2, some 12, .ia (.tmp 10) (.tmp 11), none, []⟩, ⟨3, some 13, .ld (.tmp 12), none, []⟩, ⟨4, some 14, .call n_s_l01Finite [.tmp 13], none, []⟩, ⟨5, some 15, .un .not (.tmp 14), none, []⟩])
  (.cond (.tmp 15) (.seq (.keep [] (.ops [⟨0, some 2, .mv (.const (.bool false)), none, []⟩]))
  (.ret)) (.skip))))
  (.keep [0, 3] (.ops [⟨0, some 8, .mv (.tmp 3), none, []⟩, ⟨1, some 9, .bin .add (.tmp 8) (.const (.int .i64 1)), none, []⟩, ⟨2, some 3, .mv (.tmp 9), none, []⟩])))))))
  (.seq (.keep [] (.ops [⟨0, some 2, .mv (.const (.bool true)), none, []⟩]))
  (.ret)))
theorem k_s_l02Finite : FnOk Try.prog n_s_l02Finite 1 c_s_l02Finite [.tmp 2] := ⟨by kernel_rfl⟩
def c_s_l01Finite : ACode :=
  .seq (.ops [⟨0, some 2, .mv (.const (.bool false)), none, []⟩])
  (.seq (.ops [⟨0, some 3, .mv (.tmp 0), none, []⟩, ⟨1, some 4, .mv (.tmp 0), none, []⟩, ⟨2, some 5, .bin .sub (.tmp 3) (.tmp 4), none, []⟩, ⟨3, some 6, .bin .eql (.tmp 5) (.const (.float .f32 0)), none, []⟩, ⟨4, some 2, .mv (.tmp 6), none, []⟩])
  (.ret))
theorem k_s_l01Finite : FnOk Try.prog n_s_l01Finite 1 c_s_l01Finite [.tmp 2] := ⟨by kernel_rfl⟩
def c_i_IsFinite : ACode :=
  .seq (.ops [⟨0, some 2, .mv (.const (.bool false)), none, []⟩])
  (.seq (.ops [⟨0, some 3, .mv (.tmp 0), none, []⟩, ⟨1, some 4, .mv (.tmp 0), none, []⟩, ⟨2, some 5, .bin .sub (.tmp 3) (.tmp 4), none, []⟩, ⟨3, some 6, .bin .eql (.tmp 5) (.const (.float .f32 0)), none, []⟩, ⟨4, some 2, .mv (.tmp 6), none, []⟩])
  (.ret))
theorem k_i_IsFinite : FnOk Try.prog n_i_IsFinite 1 c_i_IsFinite [.tmp 2] := ⟨by kernel_rfl⟩
def c_s_l03Taps : ACode :=
  .seq (.ops [⟨0, some 4, .mv (.const (.slice none 0 0)), none, []⟩])
  (.seq (.ops [⟨0, some 10, .mv (.tmp 0), none, []⟩, ⟨1, some 11, .len (.tmp 10), none, []⟩, ⟨2, some 5, .mv (.tmp 11), none, []⟩])
  (.seq (.ops [⟨0, some 12, .bsl 34 0 (.float .f32 0) [], none, []⟩, ⟨1, some 6, .mv (.tmp 12), none, []⟩])
  (.seq (.seq (.ops [⟨0, some 7, .mv (.const (.int .i64 0)), none, []⟩])
  (.block 0 (.loop [0, 1, 5, 6, 7] (.seq (.seq (.ops [⟨0, some 13, .mv (.tmp 7), none, []⟩, ⟨1, some 14, .bin .mul (.const (.int .i64 2)) (.tmp 13), none, []⟩, ⟨2, some 15, .mv (.tmp 5), none, []⟩, ⟨3, some 16, .bin .lss (.tmp 14) (.tmp 15), none, []⟩])
  (.cond (.tmp 16) (.skip) (.exit 0)))
  (.seq (.block 1 (.seq (.ops [⟨0, some 8, .mv (.const (.float .f32 0)), none, []⟩])
  (.seq (.seq (.ops [⟨0, some 19, .mv (.tmp 1), none, []⟩, ⟨1, some 20, .len (.tmp 19), none, []⟩, ⟨2, some 21, .mv (.const (.int .i64 0)), none, []⟩])
  (.block 2 (.loop [0, 1, 5, 6, 7, 8, 20, 21] (.seq (.ops [⟨0, some 22, .bin .lss (.tmp 21) (.tmp 20), none, []⟩])
  (.seq (.cond (.tmp 22) (.skip) (.exit 2))
  (.seq (.block 3 (.seq (.ops [⟨0, some 23, .mv (.tmp 21), none, []⟩, ⟨1, some 9, .mv (.tmp 23), none, []⟩])
  (.ops [⟨0, some 24, .mv (.tmp 8), none, []⟩, ⟨1, some 25, .mv (.tmp 1), none, []⟩, ⟨2, some 26, .mv (.tmp 9), none, []⟩, ⟨3, some 27, .ia (.tmp 25) (.tmp 26), none, []⟩, ⟨4, some 28, .ld (.tmp 27), none, []⟩, ⟨5, some 29, .mv (.tmp 0), none, []⟩, ⟨6, some 30, .mv (.tmp 7), none, []⟩, ⟨7, some 31, .bin .mul (.const (.int .i64 2)) (.tmp 30), none, []⟩, ⟨8, some 32, .mv (.tmp 9), none, []⟩, ⟨9, some 33, .bin .add (.tmp 31) (.tmp 32), none, []⟩, ⟨10, some 34, .mv (.tmp 5), none, []⟩, ⟨11, some 35, .bin .rem (.tmp 33) (.tmp 34), none, []⟩, ⟨12, some 36, .ia (.tmp 29) (.tmp 35), none, []⟩, ⟨13, some 37, .ld (.tmp 36), none, []⟩, ⟨14, some 38, .bin .mul (.tmp 28) (.tmp 37), none, []⟩, ⟨15, some 39, .bin .add (.tmp 24) (.tmp 38), none, []⟩, ⟨16, some 8, .mv (.tmp 39), none, []⟩])))
  (.keep [0, 1, 5, 6, 7, 8, 20, 21] (.ops [⟨0, some 40, .bin .add (.tmp 21) (.const (.int .i64 1)), none, []⟩, ⟨1, some 21, .mv (.tmp 40), none, []⟩]))))))))
  (.ops [⟨0, some 41, .mv (.tmp 6), none, []⟩, ⟨1, some 42, .mv (.tmp 8), none, []⟩, ⟨2, some 43, .bsl 34 1 (.float .f32 0) [(0, .tmp 42)], none, []⟩, ⟨3, some 44, .app 34 4 (.tmp 41) (.tmp 43), none, []⟩, ⟨4, some 6, .mv (.tmp 44), none, []⟩]))))
  (.keep [0, 1, 5, 6, 7] (.ops [⟨0, some 17, .mv (.tmp 7), none, []⟩, ⟨1, some 18, .bin .add (.tmp 17) (.const (.int .i64 1)), none, []⟩, ⟨2, some 7, .mv (.tmp 18), none, []⟩])))))))
  (.seq (.keep [6] (.ops [⟨0, some 45, .mv (.tmp 6), none, []⟩, ⟨1, some 4, .mv (.tmp 45), none, []⟩]))
  (.ret)))))
theorem k_s_l03Taps : FnOk Try.prog n_s_l03Taps 2 c_s_l03Taps [.tmp 4] := ⟨by kernel_rfl⟩
def c_s_l03High : ACode :=
  .seq (.ops [⟨0, some 2, .mv (.const (.slice none 0 0)), none, []⟩])
  (.seq (.ops [⟨0, some 7, .bsl 34 0 (.float .f32 0) [], none, []⟩, ⟨1, some 3, .mv (.tmp 7), none, []⟩])
  (.seq (.ops [⟨0, some 8, .mv (.tmp 0), none, []⟩, ⟨1, some 9, .nc (.tmp 8), none, []⟩, ⟨2, some 10, .fa 0 (.tmp 9), none, []⟩, ⟨3, some 11, .ld (.tmp 10), none, []⟩, ⟨4, some 12, .len (.tmp 11), none, []⟩, ⟨5, some 4, .mv (.tmp 12), none, []⟩])
  (.seq (.seq (.keep [0, 3, 4] (.ops [⟨0, some 5, .mv (.const (.int .i64 0)), none, []⟩]))
  (.block 0 (.loop [0, 3, 4, 5] (.seq (.seq (.ops [⟨0, some 13, .mv (.tmp 5), none, []⟩, ⟨1, some 14, .mv (.tmp 4), none, []⟩, ⟨2, some 15, .bin .lss (.tmp 13) (.tmp 14), none, []⟩])
  (.cond (.tmp 15) (.skip) (.exit 0)))
  (.seq (.block 1 (.seq (.ops [⟨0, some 18, .mv (.tmp 0), none, []⟩, ⟨1, some 19, .nc (.tmp 18), none, []⟩, ⟨2, some 20, .fa 0 (.tmp 19), none, []⟩, ⟨3, some 21, .ld (.tmp 20), none, []⟩, ⟨4, some 22, .mv (.tmp 4), none, []⟩, ⟨5, some 23, .bin .sub (.tmp 22) (.const (.int .i64 1)), none, []⟩, ⟨6, some 24, .mv (.tmp 5), none, []⟩, ⟨7, some 25, .bin .sub (.tmp 23) (.tmp 24), none, []⟩, ⟨8, some 26, .ia (.tmp 21) (.tmp 25), none, []⟩, ⟨9, some 27, .ld (.tmp 26), none, []⟩, ⟨10, some 6, .mv (.tmp 27), none, []⟩])
  (.seq (.seq (.keep [0, 3, 4, 5, 6] (.ops [⟨0, some 28, .mv (.tmp 5), none, []⟩, ⟨1, some 29, .bin .rem (.tmp 28) (.const (.int .i64 2)), none, []⟩, ⟨2, some 30, .bin .eql (.tmp 29) (.const (.int .i64 1)), none, []⟩]))
  (.cond (.tmp 30) (.ops [⟨0, some 31, .mv (.tmp 6), none, []⟩, ⟨1, some 32, .un .neg (.tmp 31), none, []⟩, ⟨2, some 6, .mv (.tmp 32), none, []⟩]) (.skip)))
  (.keep [0, 3, 4, 5, 6] (.ops [⟨0, some 33, .mv (.tmp 3), none, []⟩, ⟨1, some 34, .mv (.tmp 6), none, []⟩, ⟨2, some 35, .bsl 34 1 (.float .f32 0) [(0, .tmp 34)], none, []⟩, ⟨3, some 36, .app 34 4 (.tmp 33) (.tmp 35), none, []⟩, ⟨4, some 3, .mv (.tmp 36), none, []⟩])))))
  (.keep [0, 3, 4, 5] (.ops [⟨0, some 16, .mv (.tmp 5), none, []⟩, ⟨1, some 17, .bin .add (.tmp 16) (.const (.int .i64 1)), none, []⟩, ⟨2, some 5, .mv (.tmp 17), none, []⟩])))))))
  (.seq (.keep [3] (.ops [⟨0, some 37, .mv (.tmp 3), none, []⟩, ⟨1, some 2, .mv (.tmp 37), none, []⟩]))
  (.ret)))))
theorem k_s_l03High : FnOk Try.prog n_s_l03High 1 c_s_l03High [.tmp 2] := ⟨by kernel_rfl⟩
end Go.Proofs.Ytkojmlpaamdhoad

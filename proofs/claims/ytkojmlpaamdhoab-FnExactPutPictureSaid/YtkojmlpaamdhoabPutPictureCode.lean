/- The code of functions, for the abstract machine; printed by a program (gen.py). -/
import Derived.Test.YtkojmlpaamdhoabGxFn
import Derived.Test.YtkojmlpaamdhoabProg
namespace Go.Proofs.Ytkojmlpaamdhoab
open Go.Gx
set_option maxRecDepth 100000
abbrev t_int64 : Nat := 2
abbrev t_int : Nat := 3
abbrev t_bool : Nat := 4
abbrev t_uint8 : Nat := 5
abbrev t_sfloat32 : Nat := 22
abbrev t_ssfloat32 : Nat := 23
abbrev t_float32 : Nat := 45
abbrev t_float64 : Nat := 49
abbrev t_sint64 : Nat := 72
abbrev t_sint : Nat := 113
abbrev t_Bands : Nat := 28
abbrev t_Picture : Nat := 35
abbrev t_Pair : Nat := 67
abbrev n_w_FnExactPutPicture : Nat := 4
abbrev n_w_szPicture : Nat := 19
abbrev n_s_PutPicture : Nat := 20
abbrev n_w_toPicture : Nat := 21
abbrev n_i_PutPicture : Nat := 22
abbrev n_w_eqPicture : Nat := 23
abbrev n_w_markPicture : Nat := 24
abbrev n_w_heldPicture : Nat := 25
abbrev n_w_sameFloat : Nat := 32
abbrev n_w_eqFloat32S : Nat := 41
abbrev n_w_markFloat32S : Nat := 44
abbrev n_w_heldFloat32S : Nat := 45
abbrev n_w_szFloat32S : Nat := 59
abbrev n_w_toFloat32S : Nat := 61
abbrev n_i_within : Nat := 62
abbrev n_i_areFinite : Nat := 63
abbrev n_s_l04Is : Nat := 64
abbrev n_s_l04In : Nat := 65
abbrev n_s_l04Own : Nat := 66
abbrev n_s_l04Put : Nat := 67
abbrev n_i_ValidPicture : Nat := 68
abbrev n_i_isPartAt : Nat := 69
abbrev n_i_copyOf : Nat := 70
abbrev n_s_l02Finite : Nat := 93
abbrev n_i_IsFinite : Nat := 102
abbrev n_s_l04Sides : Nat := 103
abbrev n_s_l00In : Nat := 104
abbrev n_s_l01Finite : Nat := 110
def c_w_FnExactPutPicture : ACode :=
  .seq (.ops [⟨0, some 4, .box 33 (.tmp 0), none, []⟩, ⟨1, some 5, .box 33 (.tmp 1), none, []⟩, ⟨2, some 8, .mv (.const (.bool false)), none, []⟩])
  (.seq (.ops [⟨0, some 9, .mv (.const (.int .i64 1048576)), none, []⟩])
  (.seq (.ops [⟨0, some 21, .ldn 3 (.tmp 4), none, []⟩, ⟨1, some 22, .mv (.tmp 9), none, []⟩, ⟨2, some 23, .call n_w_szPicture [.tmp 21, .tmp 22], none, []⟩, ⟨3, some 9, .mv (.tmp 23), none, []⟩])
  (.seq (.seq (.keep [2, 3, 4, 5, 9] (.ops [⟨0, some 24, .mv (.tmp 9), none, []⟩, ⟨1, some 25, .bin .lss (.tmp 24) (.const (.int .i64 0)), none, []⟩]))
  (.cond (.tmp 25) (.seq (.keep [] (.ops [⟨0, some 8, .mv (.const (.bool true)), none, []⟩]))
  (.ret)) (.skip)))
  (.seq (.ops [⟨0, some 26, .ldn 3 (.tmp 5), none, []⟩, ⟨1, some 27, .mv (.tmp 9), none, []⟩, ⟨2, some 28, .call n_w_szPicture [.tmp 26, .tmp 27], none, []⟩, ⟨3, some 9, .mv (.tmp 28), none, []⟩])
  (.seq (.seq (.keep [2, 3, 4, 5, 9] (.ops [⟨0, some 29, .mv (.tmp 9), none, []⟩, ⟨1, some 30, .bin .lss (.tmp 29) (.const (.int .i64 0)), none, []⟩]))
  (.cond (.tmp 30) (.seq (.keep [] (.ops [⟨0, some 8, .mv (.const (.bool true)), none, []⟩]))
  (.ret)) (.skip)))
  (.seq (.both 1 10 (.both 3 10 (.both 6 10 (.ops [⟨0, some 32, .ldn 3 (.tmp 4), none, []⟩, ⟨2, some 34, .ldn 3 (.tmp 5), none, []⟩, ⟨4, some 36, .mv (.tmp 2), none, []⟩, ⟨5, some 37, .mv (.tmp 3), none, []⟩, ⟨1, some 33, .call n_w_toPicture [.tmp 32], none, [(some 34, .ldn 3 (.tmp 5), none)]⟩, ⟨3, some 35, .call n_w_toPicture [.tmp 34], none, []⟩, ⟨6, some 38, .call n_s_PutPicture [.tmp 33, .tmp 35, .tmp 36, .tmp 37], none, []⟩, ⟨7, some 31, .mv (.tmp 38), none, []⟩, ⟨8, some 39, .ext (.tmp 31) 0, none, []⟩, ⟨9, some 40, .ext (.tmp 31) 1, none, []⟩, ⟨10, some 10, .new 35 [.int .i64 0, .int .i64 0, .slice none 0 0], none, []⟩, ⟨11, none, .stn 3 (.tmp 10) (.tmp 39), none, []⟩, ⟨12, some 11, .mv (.tmp 40), none, []⟩]) (.ops [⟨0, some 32, .ldn 3 (.tmp 4), none, []⟩, ⟨2, some 34, .ldn 3 (.tmp 5), none, []⟩, ⟨4, some 36, .mv (.tmp 2), none, []⟩, ⟨5, some 37, .mv (.tmp 3), none, []⟩, ⟨1, some 33, .call n_w_toPicture [.tmp 32], none, [(some 34, .ldn 3 (.tmp 5), none)]⟩, ⟨3, some 35, .call n_w_toPicture [.tmp 34], none, []⟩, ⟨10, some 10, .new 35 [.int .i64 0, .int .i64 0, .slice none 0 0], none, []⟩, ⟨6, some 38, .call n_s_PutPicture [.tmp 33, .tmp 35, .tmp 36, .tmp 37], none, []⟩, ⟨7, some 31, .mv (.tmp 38), none, []⟩, ⟨8, some 39, .ext (.tmp 31) 0, none, []⟩, ⟨9, some 40, .ext (.tmp 31) 1, none, []⟩, ⟨11, none, .stn 3 (.tmp 10) (.tmp 39), none, []⟩, ⟨12, some 11, .mv (.tmp 40), none, []⟩])) (.ops [⟨0, some 32, .ldn 3 (.tmp 4), none, []⟩, ⟨2, some 34, .ldn 3 (.tmp 5), none, []⟩, ⟨4, some 36, .mv (.tmp 2), none, []⟩, ⟨5, some 37, .mv (.tmp 3), none, []⟩, ⟨1, some 33, .call n_w_toPicture [.tmp 32], none, [(some 34, .ldn 3 (.tmp 5), none)]⟩, ⟨10, some 10, .new 35 [.int .i64 0, .int .i64 0, .slice none 0 0], none, [(some 34, .ldn 3 (.tmp 5), none)]⟩, ⟨3, some 35, .call n_w_toPicture [.tmp 34], none, []⟩, ⟨6, some 38, .call n_s_PutPicture [.tmp 33, .tmp 35, .tmp 36, .tmp 37], none, []⟩, ⟨7, some 31, .mv (.tmp 38), none, []⟩, ⟨8, some 39, .ext (.tmp 31) 0, none, []⟩, ⟨9, some 40, .ext (.tmp 31) 1, none, []⟩, ⟨11, none, .stn 3 (.tmp 10) (.tmp 39), none, []⟩, ⟨12, some 11, .mv (.tmp 40), none, []⟩])) (.ops [⟨0, some 32, .ldn 3 (.tmp 4), none, []⟩, ⟨2, some 34, .ldn 3 (.tmp 5), none, []⟩, ⟨4, some 36, .mv (.tmp 2), none, []⟩, ⟨5, some 37, .mv (.tmp 3), none, []⟩, ⟨10, some 10, .new 35 [.int .i64 0, .int .i64 0, .slice none 0 0], none, [(some 32, .ldn 3 (.tmp 4), none), (some 34, .ldn 3 (.tmp 5), none)]⟩, ⟨1, some 33, .call n_w_toPicture [.tmp 32], none, [(some 34, .ldn 3 (.tmp 5), none)]⟩, ⟨3, some 35, .call n_w_toPicture [.tmp 34], none, []⟩, ⟨6, some 38, .call n_s_PutPicture [.tmp 33, .tmp 35, .tmp 36, .tmp 37], none, []⟩, ⟨7, some 31, .mv (.tmp 38), none, []⟩, ⟨8, some 39, .ext (.tmp 31) 0, none, []⟩, ⟨9, some 40, .ext (.tmp 31) 1, none, []⟩, ⟨11, none, .stn 3 (.tmp 10) (.tmp 39), none, []⟩, ⟨12, some 11, .mv (.tmp 40), none, []⟩]))
  (.keep [2, 3, 4, 5, 10, 11] (.seq (.ops [⟨0, some 41, .ldn 3 (.tmp 4), none, []⟩, ⟨1, some 42, .call n_w_toPicture [.tmp 41], none, []⟩, ⟨2, some 12, .new 35 [.int .i64 0, .int .i64 0, .slice none 0 0], none, []⟩, ⟨3, none, .stn 3 (.tmp 12) (.tmp 42), none, []⟩])
  (.seq (.ops [⟨0, some 43, .ldn 3 (.tmp 5), none, []⟩, ⟨1, some 44, .call n_w_toPicture [.tmp 43], none, []⟩, ⟨2, some 13, .new 35 [.int .i64 0, .int .i64 0, .slice none 0 0], none, []⟩, ⟨3, none, .stn 3 (.tmp 13) (.tmp 44), none, []⟩])
  (.seq (.ops [⟨0, some 46, .ldn 3 (.tmp 12), none, []⟩, ⟨1, some 47, .ldn 3 (.tmp 13), none, []⟩, ⟨2, some 48, .mv (.tmp 2), none, []⟩, ⟨3, some 49, .mv (.tmp 3), none, []⟩, ⟨4, some 50, .call n_i_PutPicture [.tmp 46, .tmp 47, .tmp 48, .tmp 49], none, []⟩, ⟨5, some 45, .mv (.tmp 50), none, []⟩, ⟨6, some 51, .ext (.tmp 45) 0, none, []⟩, ⟨7, some 52, .ext (.tmp 45) 1, none, []⟩, ⟨8, some 14, .new 35 [.int .i64 0, .int .i64 0, .slice none 0 0], none, []⟩, ⟨9, none, .stn 3 (.tmp 14) (.tmp 51), none, []⟩, ⟨10, some 15, .mv (.tmp 52), none, []⟩])
  (.seq (.seq (.keep [2, 3, 4, 5, 10, 11, 12, 13, 14, 15] (.ops [⟨0, some 53, .ldn 3 (.tmp 14), none, []⟩, ⟨1, some 54, .ldn 3 (.tmp 10), none, []⟩, ⟨2, some 55, .call n_w_eqPicture [.tmp 53, .tmp 54], none, []⟩, ⟨3, some 56, .un .not (.tmp 55), none, []⟩, ⟨4, some 57, .mv (.tmp 56), none, []⟩, ⟨5, some 58, .mv (.tmp 15), (some (57, false)), []⟩, ⟨6, some 59, .mv (.tmp 11), (some (57, false)), []⟩, ⟨7, some 60, .beq true (.tmp 58) (.tmp 59), (some (57, false)), []⟩, ⟨8, some 61, .pick (.tmp 57) (.const (.bool true)) (.tmp 60), none, []⟩]))
  (.cond (.tmp 61) (.seq (.keep [] (.ops [⟨0, some 8, .mv (.const (.bool false)), none, []⟩]))
  (.ret)) (.skip)))
  (.seq (.seq (.keep [2, 3, 4, 5, 10, 11, 12, 13, 14, 15] (.ops [⟨0, some 62, .ldn 3 (.tmp 12), none, []⟩, ⟨1, some 63, .ldn 3 (.tmp 4), none, []⟩, ⟨2, some 64, .call n_w_toPicture [.tmp 63], none, [(some 62, .ldn 3 (.tmp 12), none)]⟩, ⟨3, some 65, .call n_w_eqPicture [.tmp 62, .tmp 64], none, []⟩, ⟨4, some 66, .un .not (.tmp 65), none, []⟩]))
  (.cond (.tmp 66) (.seq (.keep [] (.ops [⟨0, some 8, .mv (.const (.bool false)), none, []⟩]))
  (.ret)) (.skip)))
  (.seq (.seq (.keep [2, 3, 4, 5, 10, 11, 12, 13, 14, 15] (.ops [⟨0, some 67, .ldn 3 (.tmp 13), none, []⟩, ⟨1, some 68, .ldn 3 (.tmp 5), none, []⟩, ⟨2, some 69, .call n_w_toPicture [.tmp 68], none, [(some 67, .ldn 3 (.tmp 13), none)]⟩, ⟨3, some 70, .call n_w_eqPicture [.tmp 67, .tmp 69], none, []⟩, ⟨4, some 71, .un .not (.tmp 70), none, []⟩]))
  (.cond (.tmp 71) (.seq (.keep [] (.ops [⟨0, some 8, .mv (.const (.bool false)), none, []⟩]))
  (.ret)) (.skip)))
  (.seq (.keep [2, 3, 4, 5, 10, 11, 12, 13, 14, 15] (.ops [⟨0, some 16, .mv (.const (.int .i64 1)), none, []⟩]))
  (.seq (.ops [⟨0, some 72, .ldn 3 (.tmp 12), none, []⟩, ⟨1, some 73, .mv (.tmp 16), none, []⟩, ⟨2, some 74, .call n_w_markPicture [.tmp 72, .tmp 73], none, []⟩, ⟨3, some 16, .mv (.tmp 74), none, []⟩])
  (.seq (.ops [⟨0, some 75, .ldn 3 (.tmp 13), none, []⟩, ⟨1, some 76, .mv (.tmp 16), none, []⟩, ⟨2, some 77, .call n_w_markPicture [.tmp 75, .tmp 76], none, []⟩, ⟨3, some 16, .mv (.tmp 77), none, []⟩])
  (.seq (.seq (.keep [2, 3, 4, 5, 10, 11, 14, 15, 16] (.ops [⟨0, some 78, .mv (.tmp 16), none, []⟩, ⟨1, some 79, .bin .lss (.tmp 78) (.const (.int .i64 0)), none, []⟩, ⟨2, some 80, .mv (.tmp 79), none, []⟩, ⟨3, some 81, .ldn 3 (.tmp 14), (some (80, false)), []⟩, ⟨4, some 82, .ldn 3 (.tmp 10), (some (80, false)), []⟩, ⟨5, some 83, .call n_w_eqPicture [.tmp 81, .tmp 82], (some (80, false)), []⟩, ⟨6, some 84, .un .not (.tmp 83), (some (80, false)), []⟩, ⟨7, some 85, .pick (.tmp 80) (.const (.bool true)) (.tmp 84), none, []⟩, ⟨8, some 86, .mv (.tmp 85), none, []⟩, ⟨9, some 87, .mv (.tmp 15), (some (86, false)), []⟩, ⟨10, some 88, .mv (.tmp 11), (some (86, false)), []⟩, ⟨11, some 89, .beq true (.tmp 87) (.tmp 88), (some (86, false)), []⟩, ⟨12, some 90, .pick (.tmp 86) (.const (.bool true)) (.tmp 89), none, []⟩]))
  (.cond (.tmp 90) (.seq (.keep [] (.ops [⟨0, some 8, .mv (.const (.bool false)), none, []⟩]))
  (.ret)) (.skip)))
  (.seq (.keep [2, 3, 4, 5, 10, 11, 14] (.ops [⟨0, some 17, .mv (.const (.int .i64 1)), none, []⟩]))
  (.seq (.ops [⟨0, some 91, .ldn 3 (.tmp 14), none, []⟩, ⟨1, some 92, .mv (.tmp 17), none, []⟩, ⟨2, some 93, .call n_w_markPicture [.tmp 91, .tmp 92], none, []⟩, ⟨3, some 17, .mv (.tmp 93), none, []⟩])
  (.seq (.ops [⟨0, some 18, .mv (.const (.int .i64 1)), none, []⟩])
  (.seq (.ops [⟨0, some 94, .ldn 3 (.tmp 14), none, []⟩, ⟨1, some 95, .mv (.tmp 18), none, []⟩, ⟨2, some 96, .call n_w_heldPicture [.tmp 94, .tmp 95], none, []⟩, ⟨3, some 18, .mv (.tmp 96), none, []⟩])
  (.seq (.seq (.keep [2, 3, 4, 5, 10, 11, 14, 17, 18] (.ops [⟨0, some 97, .mv (.tmp 18), none, []⟩, ⟨1, some 98, .bin .lss (.tmp 97) (.const (.int .i64 0)), none, []⟩]))
  (.cond (.tmp 98) (.seq (.keep [] (.ops [⟨0, some 8, .mv (.const (.bool false)), none, []⟩]))
  (.ret)) (.skip)))
  (.seq (.seq (.ops [⟨0, some 99, .mv (.tmp 18), none, []⟩, ⟨1, some 100, .mv (.tmp 17), none, []⟩, ⟨2, some 101, .bin .neq (.tmp 99) (.tmp 100), none, []⟩])
  (.cond (.tmp 101) (.seq (.keep [] (.ops [⟨0, some 8, .mv (.const (.bool false)), none, []⟩]))
  (.ret)) (.skip)))
  (.seq (.keep [2, 3, 4, 5, 10, 11, 14, 17] (.both 1 10 (.both 3 10 (.both 6 10 (.ops [⟨0, some 103, .ldn 3 (.tmp 4), none, []⟩, ⟨2, some 105, .ldn 3 (.tmp 5), none, []⟩, ⟨4, some 107, .mv (.tmp 2), none, []⟩, ⟨5, some 108, .mv (.tmp 3), none, []⟩, ⟨1, some 104, .call n_w_toPicture [.tmp 103], none, [(some 105, .ldn 3 (.tmp 5), none)]⟩, ⟨3, some 106, .call n_w_toPicture [.tmp 105], none, []⟩, ⟨6, some 109, .call n_i_PutPicture [.tmp 104, .tmp 106, .tmp 107, .tmp 108], none, []⟩, ⟨7, some 102, .mv (.tmp 109), none, []⟩, ⟨8, some 110, .ext (.tmp 102) 0, none, []⟩, ⟨9, some 111, .ext (.tmp 102) 1, none, []⟩, ⟨10, some 19, .new 35 [.int .i64 0, .int .i64 0, .slice none 0 0], none, []⟩, ⟨11, none, .stn 3 (.tmp 19) (.tmp 110), none, []⟩, ⟨12, some 20, .mv (.tmp 111), none, []⟩]) (.ops [⟨0, some 103, .ldn 3 (.tmp 4), none, []⟩, ⟨2, some 105, .ldn 3 (.tmp 5), none, []⟩, ⟨4, some 107, .mv (.tmp 2), none, []⟩, ⟨5, some 108, .mv (.tmp 3), none, []⟩, ⟨1, some 104, .call n_w_toPicture [.tmp 103], none, [(some 105, .ldn 3 (.tmp 5), none)]⟩, ⟨3, some 106, .call n_w_toPicture [.tmp 105], none, []⟩, ⟨10, some 19, .new 35 [.int .i64 0, .int .i64 0, .slice none 0 0], none, []⟩, ⟨6, some 109, .call n_i_PutPicture [.tmp 104, .tmp 106, .tmp 107, .tmp 108], none, []⟩, ⟨7, some 102, .mv (.tmp 109), none, []⟩, ⟨8, some 110, .ext (.tmp 102) 0, none, []⟩, ⟨9, some 111, .ext (.tmp 102) 1, none, []⟩, ⟨11, none, .stn 3 (.tmp 19) (.tmp 110), none, []⟩, ⟨12, some 20, .mv (.tmp 111), none, []⟩])) (.ops [⟨0, some 103, .ldn 3 (.tmp 4), none, []⟩, ⟨2, some 105, .ldn 3 (.tmp 5), none, []⟩, ⟨4, some 107, .mv (.tmp 2), none, []⟩, ⟨5, some 108, .mv (.tmp 3), none, []⟩, ⟨1, some 104, .call n_w_toPicture [.tmp 103], none, [(some 105, .ldn 3 (.tmp 5), none)]⟩, ⟨10, some 19, .new 35 [.int .i64 0, .int .i64 0, .slice none 0 0], none, [(some 105, .ldn 3 (.tmp 5), none)]⟩, ⟨3, some 106, .call n_w_toPicture [.tmp 105], none, []⟩, ⟨6, some 109, .call n_i_PutPicture [.tmp 104, .tmp 106, .tmp 107, .tmp 108], none, []⟩, ⟨7, some 102, .mv (.tmp 109), none, []⟩, ⟨8, some 110, .ext (.tmp 102) 0, none, []⟩, ⟨9, some 111, .ext (.tmp 102) 1, none, []⟩, ⟨11, none, .stn 3 (.tmp 19) (.tmp 110), none, []⟩, ⟨12, some 20, .mv (.tmp 111), none, []⟩])) (.ops [⟨0, some 103, .ldn 3 (.tmp 4), none, []⟩, ⟨2, some 105, .ldn 3 (.tmp 5), none, []⟩, ⟨4, some 107, .mv (.tmp 2), none, []⟩, ⟨5, some 108, .mv (.tmp 3), none, []⟩, ⟨10, some 19, .new 35 [.int .i64 0, .int .i64 0, .slice none 0 0], none, [(some 103, .ldn 3 (.tmp 4), none), (some 105, .ldn 3 (.tmp 5), none)]⟩, ⟨1, some 104, .call n_w_toPicture [.tmp 103], none, [(some 105, .ldn 3 (.tmp 5), none)]⟩, ⟨3, some 106, .call n_w_toPicture [.tmp 105], none, []⟩, ⟨6, some 109, .call n_i_PutPicture [.tmp 104, .tmp 106, .tmp 107, .tmp 108], none, []⟩, ⟨7, some 102, .mv (.tmp 109), none, []⟩, ⟨8, some 110, .ext (.tmp 102) 0, none, []⟩, ⟨9, some 111, .ext (.tmp 102) 1, none, []⟩, ⟨11, none, .stn 3 (.tmp 19) (.tmp 110), none, []⟩, ⟨12, some 20, .mv (.tmp 111), none, []⟩])))
  (.keep [10, 11, 14, 17, 19, 20] (.seq (.seq (.ops [⟨0, some 112, .ldn 3 (.tmp 19), none, []⟩, ⟨1, some 113, .ldn 3 (.tmp 10), none, []⟩, ⟨2, some 114, .call n_w_eqPicture [.tmp 112, .tmp 113], none, []⟩, ⟨3, some 115, .un .not (.tmp 114), none, []⟩, ⟨4, some 116, .mv (.tmp 115), none, []⟩, ⟨5, some 117, .mv (.tmp 20), (some (116, false)), []⟩, ⟨6, some 118, .mv (.tmp 11), (some (116, false)), []⟩, ⟨7, some 119, .beq true (.tmp 117) (.tmp 118), (some (116, false)), []⟩, ⟨8, some 120, .pick (.tmp 116) (.const (.bool true)) (.tmp 119), none, []⟩])
  (.cond (.tmp 120) (.seq (.keep [] (.ops [⟨0, some 8, .mv (.const (.bool false)), none, []⟩]))
  (.ret)) (.skip)))
  (.seq (.keep [14, 17] (.ops [⟨0, some 18, .mv (.const (.int .i64 1)), none, []⟩]))
  (.seq (.ops [⟨0, some 121, .ldn 3 (.tmp 14), none, []⟩, ⟨1, some 122, .mv (.tmp 18), none, []⟩, ⟨2, some 123, .call n_w_heldPicture [.tmp 121, .tmp 122], none, []⟩, ⟨3, some 18, .mv (.tmp 123), none, []⟩])
  (.seq (.seq (.ops [⟨0, some 124, .mv (.tmp 18), none, []⟩, ⟨1, some 125, .bin .lss (.tmp 124) (.const (.int .i64 0)), none, []⟩])
  (.cond (.tmp 125) (.seq (.keep [] (.ops [⟨0, some 8, .mv (.const (.bool false)), none, []⟩]))
  (.ret)) (.skip)))
  (.seq (.seq (.keep [17, 18] (.ops [⟨0, some 126, .mv (.tmp 18), none, []⟩, ⟨1, some 127, .mv (.tmp 17), none, []⟩, ⟨2, some 128, .bin .neq (.tmp 126) (.tmp 127), none, []⟩]))
  (.cond (.tmp 128) (.seq (.keep [] (.ops [⟨0, some 8, .mv (.const (.bool false)), none, []⟩]))
  (.ret)) (.skip)))
  (.seq (.keep [] (.ops [⟨0, some 8, .mv (.const (.bool true)), none, []⟩]))
  (.ret))))))))))))))))))))))))))))))))
theorem k_w_FnExactPutPicture : FnOk Try.prog n_w_FnExactPutPicture 4 c_w_FnExactPutPicture [.tmp 8] := ⟨by kernel_rfl⟩
def c_w_szPicture : ACode :=
  .seq (.ops [⟨0, some 2, .box 33 (.tmp 0), none, []⟩, ⟨1, some 4, .mv (.const (.int .i64 0)), none, []⟩])
  (.seq (.ops [⟨0, some 5, .fa 2 (.tmp 2), none, []⟩, ⟨1, some 6, .ld (.tmp 5), none, []⟩, ⟨2, some 7, .mv (.tmp 1), none, []⟩, ⟨3, some 8, .call n_w_szFloat32S [.tmp 6, .tmp 7], none, []⟩, ⟨4, some 1, .mv (.tmp 8), none, []⟩])
  (.seq (.seq (.keep [1] (.ops [⟨0, some 9, .mv (.tmp 1), none, []⟩, ⟨1, some 10, .bin .lss (.tmp 9) (.const (.int .i64 0)), none, []⟩]))
  (.cond (.tmp 10) (.seq (.ops [⟨0, some 4, .mv (.const (.int .i64 (-1))), none, []⟩])
  (.ret)) (.skip)))
  (.seq (.ops [⟨0, some 11, .mv (.tmp 1), none, []⟩, ⟨1, some 4, .mv (.tmp 11), none, []⟩])
  (.ret))))
theorem k_w_szPicture : FnOk Try.prog n_w_szPicture 2 c_w_szPicture [.tmp 4] := ⟨by kernel_rfl⟩
def c_s_PutPicture : ACode :=
  .seq (.ops [⟨0, some 4, .box 35 (.tmp 0), none, []⟩, ⟨1, some 5, .box 35 (.tmp 1), none, []⟩, ⟨2, some 8, .new 35 [.int .i64 0, .int .i64 0, .slice none 0 0], none, []⟩, ⟨3, some 9, .mv (.const (.bool false)), none, []⟩])
  (.seq (.seq (.ops [⟨0, some 11, .call n_s_l04Is [.tmp 4], none, []⟩, ⟨1, some 12, .un .not (.tmp 11), none, []⟩, ⟨2, some 13, .mv (.tmp 12), none, []⟩, ⟨3, some 14, .call n_s_l04Is [.tmp 5], (some (13, false)), []⟩, ⟨4, some 15, .un .not (.tmp 14), (some (13, false)), []⟩, ⟨5, some 16, .pick (.tmp 13) (.const (.bool true)) (.tmp 15), none, []⟩, ⟨6, some 17, .mv (.tmp 16), none, []⟩, ⟨7, some 18, .mv (.tmp 2), (some (17, false)), []⟩, ⟨8, some 19, .mv (.tmp 3), (some (17, false)), []⟩, ⟨9, some 20, .fa 0 (.tmp 5), (some (17, false)), []⟩, ⟨10, some 21, .ld (.tmp 20), (some (17, false)), []⟩, ⟨11, some 22, .fa 1 (.tmp 5), (some (17, false)), []⟩, ⟨12, some 23, .ld (.tmp 22), (some (17, false)), []⟩, ⟨13, some 24, .call n_s_l04In [.tmp 4, .tmp 18, .tmp 19, .tmp 21, .tmp 23], (some (17, false)), []⟩, ⟨14, some 25, .un .not (.tmp 24), (some (17, false)), []⟩, ⟨15, some 26, .pick (.tmp 17) (.const (.bool true)) (.tmp 25), none, []⟩])
  (.cond (.tmp 26) (.seq (.keep [8] (.ops [⟨0, some 27, .bld [.int .i64 0, .int .i64 0, .slice none 0 0] [], none, []⟩, ⟨1, none, .stn 3 (.tmp 8) (.tmp 27), none, []⟩, ⟨2, some 9, .mv (.const (.bool false)), none, []⟩]))
  (.ret)) (.skip)))
  (.seq (.keep [2, 3, 4, 5, 8] (.ops [⟨0, some 28, .call n_s_l04Own [.tmp 4], none, []⟩, ⟨1, some 10, .new 35 [.int .i64 0, .int .i64 0, .slice none 0 0], none, []⟩, ⟨2, none, .stn 3 (.tmp 10) (.tmp 28), none, []⟩]))
  (.seq (.ops [⟨0, some 29, .mv (.tmp 2), none, []⟩, ⟨1, some 30, .mv (.tmp 3), none, []⟩, ⟨2, some 31, .call n_s_l04Put [.tmp 10, .tmp 5, .tmp 29, .tmp 30], none, []⟩])
  (.seq (.keep [8, 10] (.ops [⟨0, some 32, .ldn 3 (.tmp 10), none, []⟩, ⟨1, none, .stn 3 (.tmp 8) (.tmp 32), none, []⟩, ⟨2, some 9, .mv (.const (.bool true)), none, []⟩]))
  (.ret)))))
theorem k_s_PutPicture : FnOk Try.prog n_s_PutPicture 4 c_s_PutPicture [.celln 8 3, .tmp 9] := ⟨by kernel_rfl⟩
def c_w_toPicture : ACode :=
  .seq (.ops [⟨0, some 1, .box 33 (.tmp 0), none, []⟩, ⟨1, some 2, .new 35 [.int .i64 0, .int .i64 0, .slice none 0 0], none, []⟩])
  (.seq (.ops [⟨0, some 3, .new 35 [.int .i64 0, .int .i64 0, .slice none 0 0], none, []⟩])
  (.seq (.ops [⟨0, some 4, .fa 0 (.tmp 1), none, []⟩, ⟨1, some 5, .ld (.tmp 4), none, []⟩, ⟨2, some 6, .fa 0 (.tmp 3), none, []⟩, ⟨3, none, .st (.tmp 6) (.tmp 5), none, []⟩])
  (.seq (.ops [⟨0, some 7, .fa 1 (.tmp 1), none, []⟩, ⟨1, some 8, .ld (.tmp 7), none, []⟩, ⟨2, some 9, .fa 1 (.tmp 3), none, []⟩, ⟨3, none, .st (.tmp 9) (.tmp 8), none, []⟩])
  (.seq (.keep [1, 2, 3] (.ops [⟨0, some 10, .fa 2 (.tmp 1), none, []⟩, ⟨1, some 11, .ld (.tmp 10), none, []⟩, ⟨2, some 12, .call n_w_toFloat32S [.tmp 11], none, []⟩, ⟨3, some 13, .fa 2 (.tmp 3), none, []⟩, ⟨4, none, .st (.tmp 13) (.tmp 12), none, []⟩]))
  (.seq (.keep [2, 3] (.ops [⟨0, some 14, .ldn 3 (.tmp 3), none, []⟩, ⟨1, none, .stn 3 (.tmp 2) (.tmp 14), none, []⟩]))
  (.ret))))))
theorem k_w_toPicture : FnOk Try.prog n_w_toPicture 1 c_w_toPicture [.celln 2 3] := ⟨by kernel_rfl⟩
def c_i_PutPicture : ACode :=
  .seq (.ops [⟨0, some 4, .box 35 (.tmp 0), none, []⟩, ⟨1, some 5, .box 35 (.tmp 1), none, []⟩, ⟨2, some 8, .new 35 [.int .i64 0, .int .i64 0, .slice none 0 0], none, []⟩, ⟨3, some 9, .mv (.const (.bool false)), none, []⟩])
  (.seq (.seq (.ops [⟨0, some 12, .ldn 3 (.tmp 5), none, []⟩, ⟨1, some 13, .call n_i_ValidPicture [.tmp 12], none, []⟩, ⟨2, some 14, .un .not (.tmp 13), none, []⟩, ⟨3, some 15, .mv (.tmp 14), none, []⟩, ⟨4, some 16, .ldn 3 (.tmp 4), (some (15, false)), []⟩, ⟨5, some 17, .mv (.tmp 2), (some (15, false)), []⟩, ⟨6, some 18, .mv (.tmp 3), (some (15, false)), []⟩, ⟨7, some 19, .fa 0 (.tmp 5), (some (15, false)), []⟩, ⟨8, some 20, .ld (.tmp 19), (some (15, false)), []⟩, ⟨9, some 21, .fa 1 (.tmp 5), (some (15, false)), []⟩, ⟨10, some 22, .ld (.tmp 21), (some (15, false)), []⟩, ⟨11, some 23, .call n_i_isPartAt [.tmp 16, .tmp 17, .tmp 18, .tmp 20, .tmp 22], (some (15, false)), []⟩, ⟨12, some 24, .un .not (.tmp 23), (some (15, false)), []⟩, ⟨13, some 25, .pick (.tmp 15) (.const (.bool true)) (.tmp 24), none, []⟩])
  (.cond (.tmp 25) (.seq (.keep [8] (.ops [⟨0, some 26, .bld [.int .i64 0, .int .i64 0, .slice none 0 0] [], none, []⟩, ⟨1, none, .stn 3 (.tmp 8) (.tmp 26), none, []⟩, ⟨2, some 9, .mv (.const (.bool false)), none, []⟩]))
  (.ret)) (.skip)))
  (.seq (.keep [2, 3, 4, 5, 8] (.both 6 8 (.ops [⟨0, some 27, .fa 0 (.tmp 4), none, []⟩, ⟨1, some 28, .ld (.tmp 27), none, []⟩, ⟨2, some 29, .fa 1 (.tmp 4), none, []⟩, ⟨3, some 30, .ld (.tmp 29), none, []⟩, ⟨4, some 31, .fa 2 (.tmp 4), none, []⟩, ⟨5, some 32, .ld (.tmp 31), none, []⟩, ⟨6, some 33, .call n_i_copyOf [.tmp 32], none, [(some 28, .ld (.tmp 27), none), (some 30, .ld (.tmp 29), none)]⟩, ⟨7, some 34, .bld [.int .i64 0, .int .i64 0, .slice none 0 0] [(0, 1, .tmp 28), (1, 1, .tmp 30), (2, 1, .tmp 33)], none, []⟩, ⟨8, some 10, .new 35 [.int .i64 0, .int .i64 0, .slice none 0 0], none, [(some 28, .ld (.tmp 27), none), (some 30, .ld (.tmp 29), none)]⟩, ⟨9, none, .stn 3 (.tmp 10) (.tmp 34), none, []⟩]) (.ops [⟨0, some 27, .fa 0 (.tmp 4), none, []⟩, ⟨1, some 28, .ld (.tmp 27), none, []⟩, ⟨2, some 29, .fa 1 (.tmp 4), none, []⟩, ⟨3, some 30, .ld (.tmp 29), none, []⟩, ⟨4, some 31, .fa 2 (.tmp 4), none, []⟩, ⟨5, some 32, .ld (.tmp 31), none, []⟩, ⟨8, some 10, .new 35 [.int .i64 0, .int .i64 0, .slice none 0 0], none, [(some 28, .ld (.tmp 27), none), (some 30, .ld (.tmp 29), none), (some 32, .ld (.tmp 31), none)]⟩, ⟨6, some 33, .call n_i_copyOf [.tmp 32], none, [(some 28, .ld (.tmp 27), none), (some 30, .ld (.tmp 29), none)]⟩, ⟨7, some 34, .bld [.int .i64 0, .int .i64 0, .slice none 0 0] [(0, 1, .tmp 28), (1, 1, .tmp 30), (2, 1, .tmp 33)], none, []⟩, ⟨9, none, .stn 3 (.tmp 10) (.tmp 34), none, []⟩])))
  (.keep [2, 3, 4, 5, 8, 10] (.seq (.seq (.ops [⟨0, some 35, .fa 1 (.tmp 5), none, []⟩, ⟨1, some 36, .ld (.tmp 35), none, []⟩, ⟨2, some 37, .mv (.const (.int .i64 0)), none, []⟩])
  (.block 0 (.loop [2, 3, 4, 5, 8, 10, 36, 37] (.seq (.ops [⟨0, some 38, .bin .lss (.tmp 37) (.tmp 36), none, []⟩])
  (.seq (.cond (.tmp 38) (.skip) (.exit 0))
  (.seq (.block 1 (.seq (.ops [⟨0, some 39, .mv (.tmp 37), none, []⟩, ⟨1, some 11, .mv (.tmp 39), none, []⟩])
  (.ops [⟨0, some 40, .fa 2 (.tmp 10), none, []⟩, ⟨1, some 41, .ld (.tmp 40), none, []⟩, ⟨2, some 42, .mv (.tmp 3), none, []⟩, ⟨3, some 43, .mv (.tmp 11), none, []⟩, ⟨4, some 44, .bin .add (.tmp 42) (.tmp 43), none, []⟩, ⟨5, some 45, .fa 0 (.tmp 4), none, []⟩, ⟨6, some 46, .ld (.tmp 45), none, []⟩, ⟨7, some 47, .bin .mul (.tmp 44) (.tmp 46), none, []⟩, ⟨8, some 48, .mv (.tmp 2), none, []⟩, ⟨9, some 49, .bin .add (.tmp 47) (.tmp 48), none, []⟩, ⟨10, some 50, .slc (.tmp 41) (some (.tmp 49)) none, none, []⟩, ⟨11, some 51, .fa 2 (.tmp 5), none, []⟩, ⟨12, some 52, .ld (.tmp 51), none, []⟩, ⟨13, some 53, .mv (.tmp 11), none, []⟩, ⟨14, some 54, .fa 0 (.tmp 5), none, []⟩, ⟨15, some 55, .ld (.tmp 54), none, []⟩, ⟨16, some 56, .bin .mul (.tmp 53) (.tmp 55), none, []⟩, ⟨17, some 57, .mv (.tmp 11), none, []⟩, ⟨18, some 58, .bin .add (.tmp 57) (.const (.int .i64 1)), none, []⟩, ⟨19, some 59, .fa 0 (.tmp 5), none, []⟩, ⟨20, some 60, .ld (.tmp 59), none, []⟩, ⟨21, some 61, .bin .mul (.tmp 58) (.tmp 60), none, []⟩, ⟨22, some 62, .slc (.tmp 52) (some (.tmp 56)) (some (.tmp 61)), none, []⟩, ⟨23, some 63, .cpy (.tmp 50) (.tmp 62), none, []⟩])))
  (.keep [2, 3, 4, 5, 8, 10, 36, 37] (.ops [⟨0, some 64, .bin .add (.tmp 37) (.const (.int .i64 1)), none, []⟩, ⟨1, some 37, .mv (.tmp 64), none, []⟩]))))))))
  (.seq (.keep [8, 10] (.ops [⟨0, some 65, .ldn 3 (.tmp 10), none, []⟩, ⟨1, none, .stn 3 (.tmp 8) (.tmp 65), none, []⟩, ⟨2, some 9, .mv (.const (.bool true)), none, []⟩]))
  (.ret))))))
theorem k_i_PutPicture : FnOk Try.prog n_i_PutPicture 4 c_i_PutPicture [.celln 8 3, .tmp 9] := ⟨by kernel_rfl⟩
def c_w_eqPicture : ACode :=
  .seq (.ops [⟨0, some 2, .box 35 (.tmp 0), none, []⟩, ⟨1, some 3, .box 35 (.tmp 1), none, []⟩, ⟨2, some 4, .mv (.const (.bool false)), none, []⟩])
  (.seq (.seq (.ops [⟨0, some 5, .fa 0 (.tmp 2), none, []⟩, ⟨1, some 6, .ld (.tmp 5), none, []⟩, ⟨2, some 7, .fa 0 (.tmp 3), none, []⟩, ⟨3, some 8, .ld (.tmp 7), none, []⟩, ⟨4, some 9, .bin .neq (.tmp 6) (.tmp 8), none, []⟩])
  (.cond (.tmp 9) (.seq (.keep [] (.ops [⟨0, some 4, .mv (.const (.bool false)), none, []⟩]))
  (.ret)) (.skip)))
  (.seq (.seq (.keep [2, 3] (.ops [⟨0, some 10, .fa 1 (.tmp 2), none, []⟩, ⟨1, some 11, .ld (.tmp 10), none, []⟩, ⟨2, some 12, .fa 1 (.tmp 3), none, []⟩, ⟨3, some 13, .ld (.tmp 12), none, []⟩, ⟨4, some 14, .bin .neq (.tmp 11) (.tmp 13), none, []⟩]))
  (.cond (.tmp 14) (.seq (.keep [] (.ops [⟨0, some 4, .mv (.const (.bool false)), none, []⟩]))
  (.ret)) (.skip)))
  (.seq (.seq (.keep [2, 3] (.ops [⟨0, some 15, .fa 2 (.tmp 2), none, []⟩, ⟨1, some 16, .ld (.tmp 15), none, []⟩, ⟨2, some 17, .fa 2 (.tmp 3), none, []⟩, ⟨3, some 18, .ld (.tmp 17), none, []⟩, ⟨4, some 19, .call n_w_eqFloat32S [.tmp 16, .tmp 18], none, []⟩, ⟨5, some 20, .un .not (.tmp 19), none, []⟩]))
  (.cond (.tmp 20) (.seq (.keep [] (.ops [⟨0, some 4, .mv (.const (.bool false)), none, []⟩]))
  (.ret)) (.skip)))
  (.seq (.keep [] (.ops [⟨0, some 4, .mv (.const (.bool true)), none, []⟩]))
  (.ret)))))
theorem k_w_eqPicture : FnOk Try.prog n_w_eqPicture 2 c_w_eqPicture [.tmp 4] := ⟨by kernel_rfl⟩
def c_w_markPicture : ACode :=
  .seq (.ops [⟨0, some 2, .box 35 (.tmp 0), none, []⟩, ⟨1, some 4, .mv (.const (.int .i64 0)), none, []⟩])
  (.seq (.ops [⟨0, some 5, .fa 2 (.tmp 2), none, []⟩, ⟨1, some 6, .ld (.tmp 5), none, []⟩, ⟨2, some 7, .mv (.tmp 1), none, []⟩, ⟨3, some 8, .call n_w_markFloat32S [.tmp 6, .tmp 7], none, []⟩, ⟨4, some 1, .mv (.tmp 8), none, []⟩])
  (.seq (.keep [1] (.ops [⟨0, some 9, .mv (.tmp 1), none, []⟩, ⟨1, some 4, .mv (.tmp 9), none, []⟩]))
  (.ret)))
theorem k_w_markPicture : FnOk Try.prog n_w_markPicture 2 c_w_markPicture [.tmp 4] := ⟨by kernel_rfl⟩
def c_w_heldPicture : ACode :=
  .seq (.ops [⟨0, some 2, .box 35 (.tmp 0), none, []⟩, ⟨1, some 4, .mv (.const (.int .i64 0)), none, []⟩])
  (.seq (.ops [⟨0, some 5, .fa 2 (.tmp 2), none, []⟩, ⟨1, some 6, .ld (.tmp 5), none, []⟩, ⟨2, some 7, .mv (.tmp 1), none, []⟩, ⟨3, some 8, .call n_w_heldFloat32S [.tmp 6, .tmp 7], none, []⟩, ⟨4, some 1, .mv (.tmp 8), none, []⟩])
  (.seq (.seq (.keep [1] (.ops [⟨0, some 9, .mv (.tmp 1), none, []⟩, ⟨1, some 10, .bin .lss (.tmp 9) (.const (.int .i64 0)), none, []⟩]))
  (.cond (.tmp 10) (.seq (.ops [⟨0, some 4, .mv (.const (.int .i64 (-1))), none, []⟩])
  (.ret)) (.skip)))
  (.seq (.ops [⟨0, some 11, .mv (.tmp 1), none, []⟩, ⟨1, some 4, .mv (.tmp 11), none, []⟩])
  (.ret))))
theorem k_w_heldPicture : FnOk Try.prog n_w_heldPicture 2 c_w_heldPicture [.tmp 4] := ⟨by kernel_rfl⟩
def c_w_sameFloat : ACode :=
  .seq (.ops [⟨0, some 4, .mv (.const (.bool false)), none, []⟩])
  (.seq (.seq (.ops [⟨0, some 5, .mv (.tmp 0), none, []⟩, ⟨1, some 6, .mv (.tmp 0), none, []⟩, ⟨2, some 7, .bin .neq (.tmp 5) (.tmp 6), none, []⟩, ⟨3, some 8, .mv (.tmp 7), none, []⟩, ⟨4, some 9, .mv (.tmp 1), (some (8, false)), []⟩, ⟨5, some 10, .mv (.tmp 1), (some (8, false)), []⟩, ⟨6, some 11, .bin .neq (.tmp 9) (.tmp 10), (some (8, false)), []⟩, ⟨7, some 12, .pick (.tmp 8) (.const (.bool true)) (.tmp 11), none, []⟩])
  (.cond (.tmp 12) (.seq (.keep [0, 1] (.ops [⟨0, some 13, .mv (.tmp 0), none, []⟩, ⟨1, some 14, .mv (.tmp 0), none, []⟩, ⟨2, some 15, .bin .neq (.tmp 13) (.tmp 14), none, []⟩, ⟨3, some 16, .mv (.tmp 15), none, []⟩, ⟨4, some 17, .mv (.tmp 1), (some (16, true)), []⟩, ⟨5, some 18, .mv (.tmp 1), (some (16, true)), []⟩, ⟨6, some 19, .bin .neq (.tmp 17) (.tmp 18), (some (16, true)), []⟩, ⟨7, some 20, .pick (.tmp 16) (.tmp 19) (.const (.bool false)), none, []⟩, ⟨8, some 4, .mv (.tmp 20), none, []⟩]))
  (.ret)) (.skip)))
  (.seq (.seq (.keep [0, 1] (.ops [⟨0, some 21, .mv (.tmp 0), none, []⟩, ⟨1, some 22, .bin .eql (.tmp 21) (.const (.float .f64 0)), none, []⟩, ⟨2, some 23, .mv (.tmp 22), none, []⟩, ⟨3, some 24, .mv (.tmp 1), (some (23, true)), []⟩, ⟨4, some 25, .bin .eql (.tmp 24) (.const (.float .f64 0)), (some (23, true)), []⟩, ⟨5, some 26, .pick (.tmp 23) (.tmp 25) (.const (.bool false)), none, []⟩]))
  (.cond (.tmp 26) (.seq (.keep [0, 1] (.ops [⟨0, some 27, .mv (.tmp 0), none, []⟩, ⟨1, some 28, .bin .quo (.const (.float .f64 4607182418800017408)) (.tmp 27), none, []⟩, ⟨2, some 29, .bin .gtr (.tmp 28) (.const (.float .f64 0)), none, []⟩, ⟨3, some 30, .mv (.tmp 1), none, []⟩, ⟨4, some 31, .bin .quo (.const (.float .f64 4607182418800017408)) (.tmp 30), none, []⟩, ⟨5, some 32, .bin .gtr (.tmp 31) (.const (.float .f64 0)), none, []⟩, ⟨6, some 33, .beq false (.tmp 29) (.tmp 32), none, []⟩, ⟨7, some 4, .mv (.tmp 33), none, []⟩]))
  (.ret)) (.skip)))
  (.seq (.keep [0, 1] (.ops [⟨0, some 34, .mv (.tmp 0), none, []⟩, ⟨1, some 35, .mv (.tmp 1), none, []⟩, ⟨2, some 36, .bin .eql (.tmp 34) (.tmp 35), none, []⟩, ⟨3, some 4, .mv (.tmp 36), none, []⟩]))
  (.ret))))
theorem k_w_sameFloat : FnOk Try.prog n_w_sameFloat 2 c_w_sameFloat [.tmp 4] := ⟨by kernel_rfl⟩
def c_w_eqFloat32S : ACode :=
  .seq (.ops [⟨0, some 4, .mv (.const (.bool false)), none, []⟩])
  (.seq (.seq (.ops [⟨0, some 6, .mv (.tmp 0), none, []⟩, ⟨1, some 7, .len (.tmp 6), none, []⟩, ⟨2, some 8, .mv (.tmp 1), none, []⟩, ⟨3, some 9, .len (.tmp 8), none, []⟩, ⟨4, some 10, .bin .neq (.tmp 7) (.tmp 9), none, []⟩])
  (.cond (.tmp 10) (.seq (.keep [] (.ops [⟨0, some 4, .mv (.const (.bool false)), none, []⟩]))
  (.ret)) (.skip)))
  (.seq (.seq (.keep [0, 1] (.ops [⟨0, some 5, .mv (.const (.int .i64 0)), none, []⟩]))
  (.block 0 (.loop [0, 1, 5] (.seq (.seq (.ops [⟨0, some 11, .mv (.tmp 5), none, []⟩, ⟨1, some 12, .mv (.tmp 0), none, []⟩, ⟨2, some 13, .len (.tmp 12), none, []⟩, ⟨3, some 14, .bin .lss (.tmp 11) (.tmp 13), none, []⟩])
  (.cond (.tmp 14) (.skip) (.exit 0)))
  (.seq (.block 1 (.seq (.ops [⟨0, some 17, .mv (.tmp 0), none, []⟩, ⟨1, some 18, .mv (.tmp 5), none, []⟩, ⟨2, some 19, .ia (.tmp 17) (.tmp 18), none, []⟩, ⟨3, some 20, .ld (.tmp 19), none, []⟩, ⟨4, some 21, .cv (.f .f64) (.tmp 20), none, []⟩, ⟨5, some 22, .mv (.tmp 1), none, []⟩, ⟨6, some 23, .mv (.tmp 5), none, []⟩, ⟨7, some 24, .ia (.tmp 22) (.tmp 23), none, []⟩, ⟨8, some 25, .ld (.tmp 24), none, []⟩, ⟨9, some 26, .cv (.f .f64) (.tmp 25), none, []⟩, ⟨10, some 27, .call n_w_sameFloat [.tmp 21, .tmp 26], none, []⟩, ⟨11, some 28, .un .not (.tmp 27), none, []⟩])
  (.cond (.tmp 28) (.seq (.keep [] (.ops [⟨0, some 4, .mv (.const (.bool false)), none, []⟩]))
  (.ret)) (.skip))))
  (.keep [0, 1, 5] (.ops [⟨0, some 15, .mv (.tmp 5), none, []⟩, ⟨1, some 16, .bin .add (.tmp 15) (.const (.int .i64 1)), none, []⟩, ⟨2, some 5, .mv (.tmp 16), none, []⟩])))))))
  (.seq (.keep [] (.ops [⟨0, some 4, .mv (.const (.bool true)), none, []⟩]))
  (.ret))))
theorem k_w_eqFloat32S : FnOk Try.prog n_w_eqFloat32S 2 c_w_eqFloat32S [.tmp 4] := ⟨by kernel_rfl⟩
def c_w_markFloat32S : ACode :=
  .seq (.ops [⟨0, some 4, .mv (.const (.int .i64 0)), none, []⟩])
  (.seq (.seq (.ops [⟨0, some 5, .mv (.const (.int .i64 0)), none, []⟩])
  (.block 0 (.loop [0, 1, 5] (.seq (.seq (.ops [⟨0, some 6, .mv (.tmp 5), none, []⟩, ⟨1, some 7, .mv (.tmp 0), none, []⟩, ⟨2, some 8, .len (.tmp 7), none, []⟩, ⟨3, some 9, .bin .lss (.tmp 6) (.tmp 8), none, []⟩])
  (.cond (.tmp 9) (.skip) (.exit 0)))
  (.seq (.block 1 (.seq (.ops [⟨0, some 12, .mv (.tmp 0), none, []⟩, ⟨1, some 13, .mv (.tmp 5), none, []⟩, ⟨2, some 14, .mv (.tmp 1), none, []⟩, ⟨3, some 15, .cv (.f .f32) (.tmp 14), none, []⟩, ⟨4, some 16, .ia (.tmp 12) (.tmp 13), none, []⟩, ⟨5, none, .st (.tmp 16) (.tmp 15), none, []⟩])
  (.keep [0, 1, 5] (.ops [⟨0, some 17, .mv (.tmp 1), none, []⟩, ⟨1, some 18, .bin .add (.tmp 17) (.const (.int .i64 1)), none, []⟩, ⟨2, some 1, .mv (.tmp 18), none, []⟩]))))
  (.ops [⟨0, some 10, .mv (.tmp 5), none, []⟩, ⟨1, some 11, .bin .add (.tmp 10) (.const (.int .i64 1)), none, []⟩, ⟨2, some 5, .mv (.tmp 11), none, []⟩]))))))
  (.seq (.keep [1] (.ops [⟨0, some 19, .mv (.tmp 1), none, []⟩, ⟨1, some 4, .mv (.tmp 19), none, []⟩]))
  (.ret)))
theorem k_w_markFloat32S : FnOk Try.prog n_w_markFloat32S 2 c_w_markFloat32S [.tmp 4] := ⟨by kernel_rfl⟩
def c_w_heldFloat32S : ACode :=
  .seq (.ops [⟨0, some 4, .mv (.const (.int .i64 0)), none, []⟩])
  (.seq (.seq (.ops [⟨0, some 5, .mv (.const (.int .i64 0)), none, []⟩])
  (.block 0 (.loop [0, 1, 5] (.seq (.seq (.ops [⟨0, some 6, .mv (.tmp 5), none, []⟩, ⟨1, some 7, .mv (.tmp 0), none, []⟩, ⟨2, some 8, .len (.tmp 7), none, []⟩, ⟨3, some 9, .bin .lss (.tmp 6) (.tmp 8), none, []⟩])
  (.cond (.tmp 9) (.skip) (.exit 0)))
  (.seq (.block 1 (.seq (.seq (.ops [⟨0, some 12, .mv (.tmp 0), none, []⟩, ⟨1, some 13, .mv (.tmp 5), none, []⟩, ⟨2, some 14, .ia (.tmp 12) (.tmp 13), none, []⟩, ⟨3, some 15, .ld (.tmp 14), none, []⟩, ⟨4, some 16, .mv (.tmp 1), none, []⟩, ⟨5, some 17, .cv (.f .f32) (.tmp 16), none, []⟩, ⟨6, some 18, .bin .neq (.tmp 15) (.tmp 17), none, []⟩])
  (.cond (.tmp 18) (.seq (.keep [] (.ops [⟨0, some 4, .mv (.const (.int .i64 (-1))), none, []⟩]))
  (.ret)) (.skip)))
  (.keep [0, 1, 5] (.ops [⟨0, some 19, .mv (.tmp 1), none, []⟩, ⟨1, some 20, .bin .add (.tmp 19) (.const (.int .i64 1)), none, []⟩, ⟨2, some 1, .mv (.tmp 20), none, []⟩]))))
  (.ops [⟨0, some 10, .mv (.tmp 5), none, []⟩, ⟨1, some 11, .bin .add (.tmp 10) (.const (.int .i64 1)), none, []⟩, ⟨2, some 5, .mv (.tmp 11), none, []⟩]))))))
  (.seq (.keep [1] (.ops [⟨0, some 21, .mv (.tmp 1), none, []⟩, ⟨1, some 4, .mv (.tmp 21), none, []⟩]))
  (.ret)))
theorem k_w_heldFloat32S : FnOk Try.prog n_w_heldFloat32S 2 c_w_heldFloat32S [.tmp 4] := ⟨by kernel_rfl⟩
def c_w_szFloat32S : ACode :=
  .seq (.ops [⟨0, some 4, .mv (.const (.int .i64 0)), none, []⟩])
  (.seq (.ops [⟨0, some 5, .mv (.tmp 1), none, []⟩, ⟨1, some 6, .mv (.tmp 0), none, []⟩, ⟨2, some 7, .len (.tmp 6), none, []⟩, ⟨3, some 8, .bin .sub (.tmp 5) (.tmp 7), none, []⟩, ⟨4, some 1, .mv (.tmp 8), none, []⟩])
  (.seq (.seq (.keep [1] (.ops [⟨0, some 9, .mv (.tmp 1), none, []⟩, ⟨1, some 10, .bin .lss (.tmp 9) (.const (.int .i64 0)), none, []⟩]))
  (.cond (.tmp 10) (.seq (.ops [⟨0, some 4, .mv (.const (.int .i64 (-1))), none, []⟩])
  (.ret)) (.skip)))
  (.seq (.ops [⟨0, some 11, .mv (.tmp 1), none, []⟩, ⟨1, some 4, .mv (.tmp 11), none, []⟩])
  (.ret))))
theorem k_w_szFloat32S : FnOk Try.prog n_w_szFloat32S 2 c_w_szFloat32S [.tmp 4] := ⟨by kernel_rfl⟩
def c_w_toFloat32S : ACode :=
  .seq (.ops [⟨0, some 2, .mv (.const (.slice none 0 0)), none, []⟩])
  (.seq (.ops [⟨0, some 5, .mv (.tmp 0), none, []⟩, ⟨1, some 6, .len (.tmp 5), none, []⟩, ⟨2, some 7, .mks 45 4 (.float .f32 0) (.tmp 6) (.tmp 6), none, []⟩, ⟨3, some 3, .mv (.tmp 7), none, []⟩])
  (.seq (.seq (.ops [⟨0, some 4, .mv (.const (.int .i64 0)), none, []⟩])
  (.block 0 (.loop [0, 3, 4] (.seq (.seq (.ops [⟨0, some 8, .mv (.tmp 4), none, []⟩, ⟨1, some 9, .mv (.tmp 0), none, []⟩, ⟨2, some 10, .len (.tmp 9), none, []⟩, ⟨3, some 11, .bin .lss (.tmp 8) (.tmp 10), none, []⟩])
  (.cond (.tmp 11) (.skip) (.exit 0)))
  (.seq (.block 1 (.ops [⟨0, some 14, .mv (.tmp 3), none, []⟩, ⟨1, some 15, .mv (.tmp 4), none, []⟩, ⟨2, some 16, .mv (.tmp 0), none, []⟩, ⟨3, some 17, .mv (.tmp 4), none, []⟩, ⟨4, some 18, .ia (.tmp 16) (.tmp 17), none, []⟩, ⟨5, some 19, .ld (.tmp 18), none, []⟩, ⟨6, some 20, .ia (.tmp 14) (.tmp 15), none, []⟩, ⟨7, none, .st (.tmp 20) (.tmp 19), none, []⟩]))
  (.keep [0, 3, 4] (.ops [⟨0, some 12, .mv (.tmp 4), none, []⟩, ⟨1, some 13, .bin .add (.tmp 12) (.const (.int .i64 1)), none, []⟩, ⟨2, some 4, .mv (.tmp 13), none, []⟩])))))))
  (.seq (.keep [3] (.ops [⟨0, some 21, .mv (.tmp 3), none, []⟩, ⟨1, some 2, .mv (.tmp 21), none, []⟩]))
  (.ret))))
theorem k_w_toFloat32S : FnOk Try.prog n_w_toFloat32S 1 c_w_toFloat32S [.tmp 2] := ⟨by kernel_rfl⟩
def c_i_within : ACode :=
  .seq (.ops [⟨0, some 6, .mv (.const (.bool false)), none, []⟩])
  (.seq (.ops [⟨0, some 7, .mv (.tmp 0), none, []⟩, ⟨1, some 8, .mv (.tmp 1), none, []⟩, ⟨2, some 9, .bin .geq (.tmp 7) (.tmp 8), none, []⟩, ⟨3, some 10, .mv (.tmp 9), none, []⟩, ⟨4, some 11, .mv (.tmp 0), (some (10, true)), []⟩, ⟨5, some 12, .mv (.tmp 2), (some (10, true)), []⟩, ⟨6, some 13, .bin .leq (.tmp 11) (.tmp 12), (some (10, true)), []⟩, ⟨7, some 14, .pick (.tmp 10) (.tmp 13) (.const (.bool false)), none, []⟩, ⟨8, some 6, .mv (.tmp 14), none, []⟩])
  (.ret))
theorem k_i_within : FnOk Try.prog n_i_within 3 c_i_within [.tmp 6] := ⟨by kernel_rfl⟩
def c_i_areFinite : ACode :=
  .seq (.ops [⟨0, some 2, .mv (.const (.bool false)), none, []⟩])
  (.seq (.seq (.ops [⟨0, some 7, .mv (.tmp 0), none, []⟩, ⟨1, some 8, .len (.tmp 7), none, []⟩, ⟨2, some 9, .mv (.const (.int .i64 0)), none, []⟩])
  (.block 0 (.loop [7, 8, 9] (.seq (.ops [⟨0, some 10, .bin .lss (.tmp 9) (.tmp 8), none, []⟩])
  (.seq (.cond (.tmp 10) (.skip) (.exit 0))
  (.seq (.block 1 (.seq (.ops [⟨0, some 11, .ia (.tmp 7) (.tmp 9), none, []⟩, ⟨1, some 12, .ld (.tmp 11), none, []⟩, ⟨2, some 4, .mv (.tmp 12), none, []⟩])
  (.seq (.ops [⟨0, some 13, .mv (.tmp 4), none, []⟩, ⟨1, some 14, .len (.tmp 13), none, []⟩, ⟨2, some 15, .mv (.const (.int .i64 0)), none, []⟩])
  (.block 2 (.loop [7, 8, 9, 13, 14, 15] (.seq (.ops [⟨0, some 16, .bin .lss (.tmp 15) (.tmp 14), none, []⟩])
  (.seq (.cond (.tmp 16) (.skip) (.exit 2))
  (.seq (.block 3 (.seq (.ops [⟨0, some 17, .ia (.tmp 13) (.tmp 15), none, []⟩, ⟨1, some 18, .ld (.tmp 17), none, []⟩, ⟨2, some 6, .mv (.tmp 18), none, []⟩])
  (.seq (.ops [⟨0, some 19, .mv (.tmp 6), none, []⟩, ⟨1, some 20, .call n_i_IsFinite [.tmp 19], none, []⟩, ⟨2, some 21, .un .not (.tmp 20), none, []⟩])
  (.cond (.tmp 21) (.seq (.keep [] (.ops [⟨0, some 2, .mv (.const (.bool false)), none, []⟩]))
  (.ret)) (.skip)))))
  (.keep [7, 8, 9, 13, 14, 15] (.ops [⟨0, some 22, .bin .add (.tmp 15) (.const (.int .i64 1)), none, []⟩, ⟨1, some 15, .mv (.tmp 22), none, []⟩]))))))))))
  (.ops [⟨0, some 23, .bin .add (.tmp 9) (.const (.int .i64 1)), none, []⟩, ⟨1, some 9, .mv (.tmp 23), none, []⟩])))))))
  (.seq (.ops [⟨0, some 2, .mv (.const (.bool true)), none, []⟩])
  (.ret)))
theorem k_i_areFinite : FnOk Try.prog n_i_areFinite 1 c_i_areFinite [.tmp 2] := ⟨by kernel_rfl⟩
def c_s_l04Is : ACode :=
  .seq (.ops [⟨0, some 2, .mv (.const (.bool false)), none, []⟩])
  (.seq (.ops [⟨0, some 3, .mv (.tmp 0), none, []⟩, ⟨1, some 4, .nc (.tmp 3), none, []⟩, ⟨2, some 5, .fa 0 (.tmp 4), none, []⟩, ⟨3, some 6, .ld (.tmp 5), none, []⟩, ⟨4, some 7, .mv (.tmp 0), none, []⟩, ⟨5, some 8, .nc (.tmp 7), none, []⟩, ⟨6, some 9, .fa 1 (.tmp 8), none, []⟩, ⟨7, some 10, .ld (.tmp 9), none, []⟩, ⟨8, some 11, .call n_s_l04Sides [.tmp 6, .tmp 10], none, []⟩, ⟨9, some 12, .mv (.tmp 11), none, []⟩, ⟨10, some 13, .mv (.tmp 0), (some (12, true)), []⟩, ⟨11, some 14, .nc (.tmp 13), (some (12, true)), []⟩, ⟨12, some 15, .fa 2 (.tmp 14), (some (12, true)), []⟩, ⟨13, some 16, .ld (.tmp 15), (some (12, true)), []⟩, ⟨14, some 17, .len (.tmp 16), (some (12, true)), []⟩, ⟨15, some 18, .mv (.tmp 0), (some (12, true)), []⟩, ⟨16, some 19, .nc (.tmp 18), (some (12, true)), []⟩, ⟨17, some 20, .fa 0 (.tmp 19), (some (12, true)), []⟩, ⟨18, some 21, .ld (.tmp 20), (some (12, true)), []⟩, ⟨19, some 22, .mv (.tmp 0), (some (12, true)), []⟩, ⟨20, some 23, .nc (.tmp 22), (some (12, true)), []⟩, ⟨21, some 24, .fa 1 (.tmp 23), (some (12, true)), []⟩, ⟨22, some 25, .ld (.tmp 24), (some (12, true)), []⟩, ⟨23, some 26, .bin .mul (.tmp 21) (.tmp 25), (some (12, true)), []⟩, ⟨24, some 27, .bin .eql (.tmp 17) (.tmp 26), (some (12, true)), []⟩, ⟨25, some 28, .pick (.tmp 12) (.tmp 27) (.const (.bool false)), none, []⟩, ⟨26, some 29, .mv (.tmp 28), none, []⟩, ⟨27, some 30, .mv (.tmp 0), (some (29, true)), []⟩, ⟨28, some 31, .nc (.tmp 30), (some (29, true)), []⟩, ⟨29, some 32, .fa 2 (.tmp 31), (some (29, true)), []⟩, ⟨30, some 33, .ld (.tmp 32), (some (29, true)), []⟩, ⟨31, some 34, .call n_s_l02Finite [.tmp 33], (some (29, true)), []⟩, ⟨32, some 35, .pick (.tmp 29) (.tmp 34) (.const (.bool false)), none, []⟩, ⟨33, some 2, .mv (.tmp 35), none, []⟩])
  (.ret))
theorem k_s_l04Is : FnOk Try.prog n_s_l04Is 1 c_s_l04Is [.tmp 2] := ⟨by kernel_rfl⟩
def c_s_l04In : ACode :=
  .seq (.ops [⟨0, some 10, .mv (.const (.bool false)), none, []⟩])
  (.seq (.ops [⟨0, some 11, .mv (.tmp 3), none, []⟩, ⟨1, some 12, .mv (.tmp 4), none, []⟩, ⟨2, some 13, .call n_s_l04Sides [.tmp 11, .tmp 12], none, []⟩, ⟨3, some 14, .mv (.tmp 13), none, []⟩, ⟨4, some 15, .mv (.tmp 1), (some (14, true)), []⟩, ⟨5, some 16, .mv (.tmp 0), (some (14, true)), []⟩, ⟨6, some 17, .nc (.tmp 16), (some (14, true)), []⟩, ⟨7, some 18, .fa 0 (.tmp 17), (some (14, true)), []⟩, ⟨8, some 19, .ld (.tmp 18), (some (14, true)), []⟩, ⟨9, some 20, .mv (.tmp 3), (some (14, true)), []⟩, ⟨10, some 21, .bin .sub (.tmp 19) (.tmp 20), (some (14, true)), []⟩, ⟨11, some 22, .call n_s_l00In [.tmp 15, .const (.int .i64 0), .tmp 21], (some (14, true)), []⟩, ⟨12, some 23, .pick (.tmp 14) (.tmp 22) (.const (.bool false)), none, []⟩, ⟨13, some 24, .mv (.tmp 23), none, []⟩, ⟨14, some 25, .mv (.tmp 2), (some (24, true)), []⟩, ⟨15, some 26, .mv (.tmp 0), (some (24, true)), []⟩, ⟨16, some 27, .nc (.tmp 26), (some (24, true)), []⟩, ⟨17, some 28, .fa 1 (.tmp 27), (some (24, true)), []⟩, ⟨18, some 29, .ld (.tmp 28), (some (24, true)), []⟩, ⟨19, some 30, .mv (.tmp 4), (some (24, true)), []⟩, ⟨20, some 31, .bin .sub (.tmp 29) (.tmp 30), (some (24, true)), []⟩, ⟨21, some 32, .call n_s_l00In [.tmp 25, .const (.int .i64 0), .tmp 31], (some (24, true)), []⟩, ⟨22, some 33, .pick (.tmp 24) (.tmp 32) (.const (.bool false)), none, []⟩, ⟨23, some 10, .mv (.tmp 33), none, []⟩])
  (.ret))
theorem k_s_l04In : FnOk Try.prog n_s_l04In 5 c_s_l04In [.tmp 10] := ⟨by kernel_rfl⟩
def c_s_l04Own : ACode :=
  .seq (.ops [⟨0, some 2, .new 35 [.int .i64 0, .int .i64 0, .slice none 0 0], none, []⟩])
  (.seq (.ops [⟨0, some 3, .mv (.tmp 0), none, []⟩, ⟨1, some 4, .nc (.tmp 3), none, []⟩, ⟨2, some 5, .fa 0 (.tmp 4), none, []⟩, ⟨3, some 6, .ld (.tmp 5), none, []⟩, ⟨4, some 7, .mv (.tmp 0), none, []⟩, ⟨5, some 8, .nc (.tmp 7), none, []⟩, ⟨6, some 9, .fa 1 (.tmp 8), none, []⟩, ⟨7, some 10, .ld (.tmp 9), none, []⟩, ⟨9, some 12, .mv (.tmp 0), none, []⟩, ⟨10, some 13, .nc (.tmp 12), none, []⟩, ⟨11, some 14, .fa 2 (.tmp 13), none, []⟩, ⟨12, some 15, .ld (.tmp 14), none, []⟩, ⟨8, some 11, .bsl 45 0 (.float .f32 0) [], none, [(some 6, .ld (.tmp 5), none), (some 10, .ld (.tmp 9), none), (some 15, .ld (.tmp 14), none)]⟩, ⟨13, some 16, .app 45 4 (.tmp 11) (.tmp 15), none, [(some 6, .ld (.tmp 5), none), (some 10, .ld (.tmp 9), none)]⟩, ⟨14, some 17, .bld [.int .i64 0, .int .i64 0, .slice none 0 0] [(0, 1, .tmp 6), (1, 1, .tmp 10), (2, 1, .tmp 16)], none, []⟩, ⟨15, none, .stn 3 (.tmp 2) (.tmp 17), none, []⟩])
  (.ret))
theorem k_s_l04Own : FnOk Try.prog n_s_l04Own 1 c_s_l04Own [.celln 2 3] := ⟨by kernel_rfl⟩
def c_s_l04Put : ACode :=
  .seq (.ops [⟨0, some 8, .mv (.const (.int .i64 0)), none, []⟩])
  (.block 0 (.loop [0, 1, 2, 3, 8] (.seq (.seq (.ops [⟨0, some 9, .mv (.tmp 8), none, []⟩, ⟨1, some 10, .mv (.tmp 1), none, []⟩, ⟨2, some 11, .nc (.tmp 10), none, []⟩, ⟨3, some 12, .fa 0 (.tmp 11), none, []⟩, ⟨4, some 13, .ld (.tmp 12), none, []⟩, ⟨5, some 14, .mv (.tmp 1), none, []⟩, ⟨6, some 15, .nc (.tmp 14), none, []⟩, ⟨7, some 16, .fa 1 (.tmp 15), none, []⟩, ⟨8, some 17, .ld (.tmp 16), none, []⟩, ⟨9, some 18, .bin .mul (.tmp 13) (.tmp 17), none, []⟩, ⟨10, some 19, .bin .lss (.tmp 9) (.tmp 18), none, []⟩])
  (.cond (.tmp 19) (.skip) (.exit 0)))
  (.seq (.block 1 (.keep [0, 1, 2, 3, 8] (.ops [⟨0, some 22, .mv (.tmp 0), none, []⟩, ⟨1, some 23, .nc (.tmp 22), none, []⟩, ⟨2, some 24, .fa 2 (.tmp 23), none, []⟩, ⟨3, some 25, .ld (.tmp 24), none, []⟩, ⟨4, some 26, .mv (.tmp 3), none, []⟩, ⟨5, some 27, .mv (.tmp 8), none, []⟩, ⟨6, some 28, .mv (.tmp 1), none, []⟩, ⟨7, some 29, .nc (.tmp 28), none, []⟩, ⟨8, some 30, .fa 0 (.tmp 29), none, []⟩, ⟨9, some 31, .ld (.tmp 30), none, []⟩, ⟨10, some 32, .bin .quo (.tmp 27) (.tmp 31), none, []⟩, ⟨11, some 33, .bin .add (.tmp 26) (.tmp 32), none, []⟩, ⟨12, some 34, .mv (.tmp 0), none, []⟩, ⟨13, some 35, .nc (.tmp 34), none, []⟩, ⟨14, some 36, .fa 0 (.tmp 35), none, []⟩, ⟨15, some 37, .ld (.tmp 36), none, []⟩, ⟨16, some 38, .bin .mul (.tmp 33) (.tmp 37), none, []⟩, ⟨17, some 39, .mv (.tmp 2), none, []⟩, ⟨18, some 40, .bin .add (.tmp 38) (.tmp 39), none, []⟩, ⟨19, some 41, .mv (.tmp 8), none, []⟩, ⟨20, some 42, .mv (.tmp 1), none, []⟩, ⟨21, some 43, .nc (.tmp 42), none, []⟩, ⟨22, some 44, .fa 0 (.tmp 43), none, []⟩, ⟨23, some 45, .ld (.tmp 44), none, []⟩, ⟨24, some 46, .bin .rem (.tmp 41) (.tmp 45), none, []⟩, ⟨25, some 47, .bin .add (.tmp 40) (.tmp 46), none, []⟩, ⟨26, some 48, .mv (.tmp 1), none, []⟩, ⟨27, some 49, .nc (.tmp 48), none, []⟩, ⟨28, some 50, .fa 2 (.tmp 49), none, []⟩, ⟨29, some 51, .ld (.tmp 50), none, []⟩, ⟨30, some 52, .mv (.tmp 8), none, []⟩, ⟨31, some 53, .ia (.tmp 51) (.tmp 52), none, []⟩, ⟨32, some 54, .ld (.tmp 53), none, []⟩, ⟨33, some 55, .ia (.tmp 25) (.tmp 47), none, []⟩, ⟨34, none, .st (.tmp 55) (.tmp 54), none, []⟩])))
  (.keep [0, 1, 2, 3, 8] (.ops [⟨0, some 20, .mv (.tmp 8), none, []⟩, ⟨1, some 21, .bin .add (.tmp 20) (.const (.int .i64 1)), none, []⟩, ⟨2, some 8, .mv (.tmp 21), none, []⟩]))))))
theorem k_s_l04Put : FnOk Try.prog n_s_l04Put 4 c_s_l04Put [] := ⟨by kernel_rfl⟩
def c_i_ValidPicture : ACode :=
  .seq (.ops [⟨0, some 1, .box 35 (.tmp 0), none, []⟩, ⟨1, some 2, .mv (.const (.bool false)), none, []⟩])
  (.seq (.ops [⟨0, some 3, .fa 0 (.tmp 1), none, []⟩, ⟨1, some 4, .ld (.tmp 3), none, []⟩, ⟨2, some 5, .call n_i_within [.tmp 4, .const (.int .i64 1), .const (.int .i64 16)], none, []⟩, ⟨3, some 6, .mv (.tmp 5), none, []⟩, ⟨4, some 7, .fa 1 (.tmp 1), (some (6, true)), []⟩, ⟨5, some 8, .ld (.tmp 7), (some (6, true)), []⟩, ⟨6, some 9, .call n_i_within [.tmp 8, .const (.int .i64 1), .const (.int .i64 16)], (some (6, true)), []⟩, ⟨7, some 10, .pick (.tmp 6) (.tmp 9) (.const (.bool false)), none, []⟩, ⟨8, some 11, .mv (.tmp 10), none, []⟩, ⟨9, some 12, .fa 2 (.tmp 1), (some (11, true)), []⟩, ⟨10, some 13, .ld (.tmp 12), (some (11, true)), []⟩, ⟨11, some 14, .len (.tmp 13), (some (11, true)), []⟩, ⟨12, some 15, .fa 0 (.tmp 1), (some (11, true)), []⟩, ⟨13, some 16, .ld (.tmp 15), (some (11, true)), []⟩, ⟨14, some 17, .fa 1 (.tmp 1), (some (11, true)), []⟩, ⟨15, some 18, .ld (.tmp 17), (some (11, true)), []⟩, ⟨16, some 19, .bin .mul (.tmp 16) (.tmp 18), (some (11, true)), []⟩, ⟨17, some 20, .bin .eql (.tmp 14) (.tmp 19), (some (11, true)), []⟩, ⟨18, some 21, .pick (.tmp 11) (.tmp 20) (.const (.bool false)), none, []⟩, ⟨19, some 22, .mv (.tmp 21), none, []⟩, ⟨20, some 23, .fa 2 (.tmp 1), (some (22, true)), []⟩, ⟨21, some 24, .ld (.tmp 23), (some (22, true)), []⟩, ⟨22, some 25, .bsl 22 1 (.slice none 0 0) [(0, .tmp 24)], (some (22, true)), []⟩, ⟨23, some 26, .call n_i_areFinite [.tmp 25], (some (22, true)), []⟩, ⟨24, some 27, .pick (.tmp 22) (.tmp 26) (.const (.bool false)), none, []⟩, ⟨25, some 2, .mv (.tmp 27), none, []⟩])
  (.ret))
theorem k_i_ValidPicture : FnOk Try.prog n_i_ValidPicture 1 c_i_ValidPicture [.tmp 2] := ⟨by kernel_rfl⟩
def c_i_isPartAt : ACode :=
  .seq (.ops [⟨0, some 5, .box 35 (.tmp 0), none, []⟩, ⟨1, some 10, .mv (.const (.bool false)), none, []⟩])
  (.seq (.ops [⟨0, some 11, .ldn 3 (.tmp 5), none, []⟩, ⟨1, some 12, .call n_i_ValidPicture [.tmp 11], none, []⟩, ⟨2, some 13, .mv (.tmp 12), none, []⟩, ⟨3, some 14, .mv (.tmp 1), (some (13, true)), []⟩, ⟨4, some 15, .fa 0 (.tmp 5), (some (13, true)), []⟩, ⟨5, some 16, .ld (.tmp 15), (some (13, true)), []⟩, ⟨6, some 17, .bin .sub (.tmp 16) (.const (.int .i64 1)), (some (13, true)), []⟩, ⟨7, some 18, .call n_i_within [.tmp 14, .const (.int .i64 0), .tmp 17], (some (13, true)), []⟩, ⟨8, some 19, .pick (.tmp 13) (.tmp 18) (.const (.bool false)), none, []⟩, ⟨9, some 20, .mv (.tmp 19), none, []⟩, ⟨10, some 21, .mv (.tmp 2), (some (20, true)), []⟩, ⟨11, some 22, .fa 1 (.tmp 5), (some (20, true)), []⟩, ⟨12, some 23, .ld (.tmp 22), (some (20, true)), []⟩, ⟨13, some 24, .bin .sub (.tmp 23) (.const (.int .i64 1)), (some (20, true)), []⟩, ⟨14, some 25, .call n_i_within [.tmp 21, .const (.int .i64 0), .tmp 24], (some (20, true)), []⟩, ⟨15, some 26, .pick (.tmp 20) (.tmp 25) (.const (.bool false)), none, []⟩, ⟨16, some 27, .mv (.tmp 26), none, []⟩, ⟨17, some 28, .mv (.tmp 3), (some (27, true)), []⟩, ⟨18, some 29, .fa 0 (.tmp 5), (some (27, true)), []⟩, ⟨19, some 30, .ld (.tmp 29), (some (27, true)), []⟩, ⟨20, some 31, .mv (.tmp 1), (some (27, true)), []⟩, ⟨21, some 32, .bin .sub (.tmp 30) (.tmp 31), (some (27, true)), []⟩, ⟨22, some 33, .call n_i_within [.tmp 28, .const (.int .i64 1), .tmp 32], (some (27, true)), []⟩, ⟨23, some 34, .pick (.tmp 27) (.tmp 33) (.const (.bool false)), none, []⟩, ⟨24, some 35, .mv (.tmp 34), none, []⟩, ⟨25, some 36, .mv (.tmp 4), (some (35, true)), []⟩, ⟨26, some 37, .fa 1 (.tmp 5), (some (35, true)), []⟩, ⟨27, some 38, .ld (.tmp 37), (some (35, true)), []⟩, ⟨28, some 39, .mv (.tmp 2), (some (35, true)), []⟩, ⟨29, some 40, .bin .sub (.tmp 38) (.tmp 39), (some (35, true)), []⟩, ⟨30, some 41, .call n_i_within [.tmp 36, .const (.int .i64 1), .tmp 40], (some (35, true)), []⟩, ⟨31, some 42, .pick (.tmp 35) (.tmp 41) (.const (.bool false)), none, []⟩, ⟨32, some 10, .mv (.tmp 42), none, []⟩])
  (.ret))
theorem k_i_isPartAt : FnOk Try.prog n_i_isPartAt 5 c_i_isPartAt [.tmp 10] := ⟨by kernel_rfl⟩
def c_i_copyOf : ACode :=
  .seq (.ops [⟨0, some 2, .mv (.const (.slice none 0 0)), none, []⟩])
  (.seq (.ops [⟨0, some 3, .bsl 45 0 (.float .f32 0) [], none, []⟩, ⟨1, some 4, .mv (.tmp 0), none, []⟩, ⟨2, some 5, .app 45 4 (.tmp 3) (.tmp 4), none, []⟩, ⟨3, some 2, .mv (.tmp 5), none, []⟩])
  (.ret))
theorem k_i_copyOf : FnOk Try.prog n_i_copyOf 1 c_i_copyOf [.tmp 2] := ⟨by kernel_rfl⟩
def c_s_l02Finite : ACode :=
  .seq (.ops [⟨0, some 2, .mv (.const (.bool false)), none, []⟩])
  (.seq (.seq (.ops [⟨0, some 3, .mv (.const (.int .i64 0)), none, []⟩])
  (.block 0 (.loop [0, 3] (.seq (.seq (.ops [⟨0, some 4, .mv (.tmp 3), none, []⟩, ⟨1, some 5, .mv (.tmp 0), none, []⟩, ⟨2, some 6, .len (.tmp 5), none, []⟩, ⟨3, some 7, .bin .lss (.tmp 4) (.tmp 6), none, []⟩])
  (.cond (.tmp 7) (.skip) (.exit 0)))
  (.seq (.block 1 (.seq (.ops [⟨0, some 10, .mv (.tmp 0), none, []⟩, ⟨1, some 11, .mv (.tmp 3), none, []⟩, ⟨2, some 12, .ia (.tmp 10) (.tmp 11), none, []⟩, ⟨3, some 13, .ld (.tmp 12), none, []⟩, ⟨4, some 14, .call n_s_l01Finite [.tmp 13], none, []⟩, ⟨5, some 15, .un .not (.tmp 14), none, []⟩])
  (.cond (.tmp 15) (.seq (.keep [] (.ops [⟨0, some 2, .mv (.const (.bool false)), none, []⟩]))
  (.ret)) (.skip))))
  (.keep [0, 3] (.ops [⟨0, some 8, .mv (.tmp 3), none, []⟩, ⟨1, some 9, .bin .add (.tmp 8) (.const (.int .i64 1)), none, []⟩, ⟨2, some 3, .mv (.tmp 9), none, []⟩])))))))
  (.seq (.keep [] (.ops [⟨0, some 2, .mv (.const (.bool true)), none, []⟩]))
  (.ret)))
theorem k_s_l02Finite : FnOk Try.prog n_s_l02Finite 1 c_s_l02Finite [.tmp 2] := ⟨by kernel_rfl⟩
def c_i_IsFinite : ACode :=
  .seq (.ops [⟨0, some 2, .mv (.const (.bool false)), none, []⟩])
  (.seq (.ops [⟨0, some 3, .mv (.tmp 0), none, []⟩, ⟨1, some 4, .mv (.tmp 0), none, []⟩, ⟨2, some 5, .bin .sub (.tmp 3) (.tmp 4), none, []⟩, ⟨3, some 6, .bin .eql (.tmp 5) (.const (.float .f32 0)), none, []⟩, ⟨4, some 2, .mv (.tmp 6), none, []⟩])
  (.ret))
theorem k_i_IsFinite : FnOk Try.prog n_i_IsFinite 1 c_i_IsFinite [.tmp 2] := ⟨by kernel_rfl⟩
def c_s_l04Sides : ACode :=
  .seq (.ops [⟨0, some 4, .mv (.const (.bool false)), none, []⟩])
  (.seq (.ops [⟨0, some 5, .mv (.tmp 0), none, []⟩, ⟨1, some 6, .call n_s_l00In [.tmp 5, .const (.int .i64 1), .const (.int .i64 16)], none, []⟩, ⟨2, some 7, .mv (.tmp 6), none, []⟩, ⟨3, some 8, .mv (.tmp 1), (some (7, true)), []⟩, ⟨4, some 9, .call n_s_l00In [.tmp 8, .const (.int .i64 1), .const (.int .i64 16)], (some (7, true)), []⟩, ⟨5, some 10, .pick (.tmp 7) (.tmp 9) (.const (.bool false)), none, []⟩, ⟨6, some 4, .mv (.tmp 10), none, []⟩])
  (.ret))
theorem k_s_l04Sides : FnOk Try.prog n_s_l04Sides 2 c_s_l04Sides [.tmp 4] := ⟨by kernel_rfl⟩
def c_s_l00In : ACode :=
  .seq (.ops [⟨0, some 6, .mv (.const (.bool false)), none, []⟩])
  (.seq (.ops [⟨0, some 7, .mv (.tmp 0), none, []⟩, ⟨1, some 8, .mv (.tmp 1), none, []⟩, ⟨2, some 9, .bin .geq (.tmp 7) (.tmp 8), none, []⟩, ⟨3, some 10, .mv (.tmp 9), none, []⟩, ⟨4, some 11, .mv (.tmp 0), (some (10, true)), []⟩, ⟨5, some 12, .mv (.tmp 2), (some (10, true)), []⟩, ⟨6, some 13, .bin .leq (.tmp 11) (.tmp 12), (some (10, true)), []⟩, ⟨7, some 14, .pick (.tmp 10) (.tmp 13) (.const (.bool false)), none, []⟩, ⟨8, some 6, .mv (.tmp 14), none, []⟩])
  (.ret))
theorem k_s_l00In : FnOk Try.prog n_s_l00In 3 c_s_l00In [.tmp 6] := ⟨by kernel_rfl⟩
def c_s_l01Finite : ACode :=
  .seq (.ops [⟨0, some 2, .mv (.const (.bool false)), none, []⟩])
  (.seq (.ops [⟨0, some 3, .mv (.tmp 0), none, []⟩, ⟨1, some 4, .mv (.tmp 0), none, []⟩, ⟨2, some 5, .bin .sub (.tmp 3) (.tmp 4), none, []⟩, ⟨3, some 6, .bin .eql (.tmp 5) (.const (.float .f32 0)), none, []⟩, ⟨4, some 2, .mv (.tmp 6), none, []⟩])
  (.ret))
theorem k_s_l01Finite : FnOk Try.prog n_s_l01Finite 1 c_s_l01Finite [.tmp 2] := ⟨by kernel_rfl⟩
end Go.Proofs.Ytkojmlpaamdhoab

/- The code of functions, for the abstract machine; printed by a program (gen.py). -/
import Derived.Test.YtkojmlpaamdhoabGxFn
import Derived.Test.YtkojmlpaamdhoabProg
namespace Go.Proofs.Ytkojmlpaamdhoab
open Go.Gx
set_option maxRecDepth 100000
abbrev t_int64 : Nat := 2
abbrev t_int : Nat := 3
abbrev t_bool : Nat := 4
abbrev t_uint8 : Nat := 5
abbrev t_sfloat32 : Nat := 22
abbrev t_ssfloat32 : Nat := 23
abbrev t_float32 : Nat := 45
abbrev t_float64 : Nat := 49
abbrev t_sint64 : Nat := 72
abbrev t_sint : Nat := 113
abbrev t_Bands : Nat := 28
abbrev t_Picture : Nat := 35
abbrev t_Pair : Nat := 67
abbrev n_w_FnExactBlendPictures : Nat := 9
abbrev n_w_szPicture : Nat := 19
abbrev n_w_toPicture : Nat := 21
abbrev n_w_eqPicture : Nat := 23
abbrev n_w_markPicture : Nat := 24
abbrev n_w_heldPicture : Nat := 25
abbrev n_w_sameFloat : Nat := 32
abbrev n_s_BlendPictures : Nat := 35
abbrev n_i_BlendPictures : Nat := 36
abbrev n_w_eqFloat32S : Nat := 41
abbrev n_w_markFloat32S : Nat := 44
abbrev n_w_heldFloat32S : Nat := 45
abbrev n_w_szFloat32S : Nat := 59
abbrev n_w_toFloat32S : Nat := 61
abbrev n_i_within : Nat := 62
abbrev n_i_areFinite : Nat := 63
abbrev n_s_l04Is : Nat := 64
abbrev n_s_l04Own : Nat := 66
abbrev n_i_ValidPicture : Nat := 68
abbrev n_s_l04Both : Nat := 86
abbrev n_s_l02Share : Nat := 87
abbrev n_s_l04Give : Nat := 88
abbrev n_i_areAlike : Nat := 89
abbrev n_i_isShare : Nat := 90
abbrev n_i_validPicture : Nat := 91
abbrev n_s_l02Finite : Nat := 93
abbrev n_i_IsFinite : Nat := 102
abbrev n_s_l04Sides : Nat := 103
abbrev n_s_l00In : Nat := 104
abbrev n_s_l01Finite : Nat := 110
def c_w_FnExactBlendPictures : ACode :=
  .seq (.ops [⟨0, some 3, .box 33 (.tmp 0), none, []⟩, ⟨1, some 4, .box 33 (.tmp 1), none, []⟩, ⟨2, some 6, .mv (.const (.bool false)), none, []⟩])
  (.seq (.ops [⟨0, some 7, .mv (.const (.int .i64 1048576)), none, []⟩])
  (.seq (.ops [⟨0, some 19, .ldn 3 (.tmp 3), none, []⟩, ⟨1, some 20, .mv (.tmp 7), none, []⟩, ⟨2, some 21, .call n_w_szPicture [.tmp 19, .tmp 20], none, []⟩, ⟨3, some 7, .mv (.tmp 21), none, []⟩])
  (.seq (.seq (.keep [2, 3, 4, 7] (.ops [⟨0, some 22, .mv (.tmp 7), none, []⟩, ⟨1, some 23, .bin .lss (.tmp 22) (.const (.int .i64 0)), none, []⟩]))
  (.cond (.tmp 23) (.seq (.keep [] (.ops [⟨0, some 6, .mv (.const (.bool true)), none, []⟩]))
  (.ret)) (.skip)))
  (.seq (.ops [⟨0, some 24, .ldn 3 (.tmp 4), none, []⟩, ⟨1, some 25, .mv (.tmp 7), none, []⟩, ⟨2, some 26, .call n_w_szPicture [.tmp 24, .tmp 25], none, []⟩, ⟨3, some 7, .mv (.tmp 26), none, []⟩])
  (.seq (.seq (.keep [2, 3, 4, 7] (.ops [⟨0, some 27, .mv (.tmp 7), none, []⟩, ⟨1, some 28, .bin .lss (.tmp 27) (.const (.int .i64 0)), none, []⟩]))
  (.cond (.tmp 28) (.seq (.keep [] (.ops [⟨0, some 6, .mv (.const (.bool true)), none, []⟩]))
  (.ret)) (.skip)))
  (.seq (.both 1 9 (.both 3 9 (.both 5 9 (.ops [⟨0, some 30, .ldn 3 (.tmp 3), none, []⟩, ⟨2, some 32, .ldn 3 (.tmp 4), none, []⟩, ⟨4, some 34, .mv (.tmp 2), none, []⟩, ⟨1, some 31, .call n_w_toPicture [.tmp 30], none, [(some 32, .ldn 3 (.tmp 4), none)]⟩, ⟨3, some 33, .call n_w_toPicture [.tmp 32], none, []⟩, ⟨5, some 35, .call n_s_BlendPictures [.tmp 31, .tmp 33, .tmp 34], none, []⟩, ⟨6, some 29, .mv (.tmp 35), none, []⟩, ⟨7, some 36, .ext (.tmp 29) 0, none, []⟩, ⟨8, some 37, .ext (.tmp 29) 1, none, []⟩, ⟨9, some 8, .new 35 [.int .i64 0, .int .i64 0, .slice none 0 0], none, []⟩, ⟨10, none, .stn 3 (.tmp 8) (.tmp 36), none, []⟩, ⟨11, some 9, .mv (.tmp 37), none, []⟩]) (.ops [⟨0, some 30, .ldn 3 (.tmp 3), none, []⟩, ⟨2, some 32, .ldn 3 (.tmp 4), none, []⟩, ⟨4, some 34, .mv (.tmp 2), none, []⟩, ⟨1, some 31, .call n_w_toPicture [.tmp 30], none, [(some 32, .ldn 3 (.tmp 4), none)]⟩, ⟨3, some 33, .call n_w_toPicture [.tmp 32], none, []⟩, ⟨9, some 8, .new 35 [.int .i64 0, .int .i64 0, .slice none 0 0], none, []⟩, ⟨5, some 35, .call n_s_BlendPictures [.tmp 31, .tmp 33, .tmp 34], none, []⟩, ⟨6, some 29, .mv (.tmp 35), none, []⟩, ⟨7, some 36, .ext (.tmp 29) 0, none, []⟩, ⟨8, some 37, .ext (.tmp 29) 1, none, []⟩, ⟨10, none, .stn 3 (.tmp 8) (.tmp 36), none, []⟩, ⟨11, some 9, .mv (.tmp 37), none, []⟩])) (.ops [⟨0, some 30, .ldn 3 (.tmp 3), none, []⟩, ⟨2, some 32, .ldn 3 (.tmp 4), none, []⟩, ⟨4, some 34, .mv (.tmp 2), none, []⟩, ⟨1, some 31, .call n_w_toPicture [.tmp 30], none, [(some 32, .ldn 3 (.tmp 4), none)]⟩, ⟨9, some 8, .new 35 [.int .i64 0, .int .i64 0, .slice none 0 0], none, [(some 32, .ldn 3 (.tmp 4), none)]⟩, ⟨3, some 33, .call n_w_toPicture [.tmp 32], none, []⟩, ⟨5, some 35, .call n_s_BlendPictures [.tmp 31, .tmp 33, .tmp 34], none, []⟩, ⟨6, some 29, .mv (.tmp 35), none, []⟩, ⟨7, some 36, .ext (.tmp 29) 0, none, []⟩, ⟨8, some 37, .ext (.tmp 29) 1, none, []⟩, ⟨10, none, .stn 3 (.tmp 8) (.tmp 36), none, []⟩, ⟨11, some 9, .mv (.tmp 37), none, []⟩])) (.ops [⟨0, some 30, .ldn 3 (.tmp 3), none, []⟩, ⟨2, some 32, .ldn 3 (.tmp 4), none, []⟩, ⟨4, some 34, .mv (.tmp 2), none, []⟩, ⟨9, some 8, .new 35 [.int .i64 0, .int .i64 0, .slice none 0 0], none, [(some 30, .ldn 3 (.tmp 3), none), (some 32, .ldn 3 (.tmp 4), none)]⟩, ⟨1, some 31, .call n_w_toPicture [.tmp 30], none, [(some 32, .ldn 3 (.tmp 4), none)]⟩, ⟨3, some 33, .call n_w_toPicture [.tmp 32], none, []⟩, ⟨5, some 35, .call n_s_BlendPictures [.tmp 31, .tmp 33, .tmp 34], none, []⟩, ⟨6, some 29, .mv (.tmp 35), none, []⟩, ⟨7, some 36, .ext (.tmp 29) 0, none, []⟩, ⟨8, some 37, .ext (.tmp 29) 1, none, []⟩, ⟨10, none, .stn 3 (.tmp 8) (.tmp 36), none, []⟩, ⟨11, some 9, .mv (.tmp 37), none, []⟩]))
  (.keep [2, 3, 4, 8, 9] (.seq (.ops [⟨0, some 38, .ldn 3 (.tmp 3), none, []⟩, ⟨1, some 39, .call n_w_toPicture [.tmp 38], none, []⟩, ⟨2, some 10, .new 35 [.int .i64 0, .int .i64 0, .slice none 0 0], none, []⟩, ⟨3, none, .stn 3 (.tmp 10) (.tmp 39), none, []⟩])
  (.seq (.ops [⟨0, some 40, .ldn 3 (.tmp 4), none, []⟩, ⟨1, some 41, .call n_w_toPicture [.tmp 40], none, []⟩, ⟨2, some 11, .new 35 [.int .i64 0, .int .i64 0, .slice none 0 0], none, []⟩, ⟨3, none, .stn 3 (.tmp 11) (.tmp 41), none, []⟩])
  (.seq (.ops [⟨0, some 43, .ldn 3 (.tmp 10), none, []⟩, ⟨1, some 44, .ldn 3 (.tmp 11), none, []⟩, ⟨2, some 45, .mv (.tmp 2), none, []⟩, ⟨3, some 46, .call n_i_BlendPictures [.tmp 43, .tmp 44, .tmp 45], none, []⟩, ⟨4, some 42, .mv (.tmp 46), none, []⟩, ⟨5, some 47, .ext (.tmp 42) 0, none, []⟩, ⟨6, some 48, .ext (.tmp 42) 1, none, []⟩, ⟨7, some 12, .new 35 [.int .i64 0, .int .i64 0, .slice none 0 0], none, []⟩, ⟨8, none, .stn 3 (.tmp 12) (.tmp 47), none, []⟩, ⟨9, some 13, .mv (.tmp 48), none, []⟩])
  (.seq (.seq (.keep [2, 3, 4, 8, 9, 10, 11, 12, 13] (.ops [⟨0, some 49, .ldn 3 (.tmp 12), none, []⟩, ⟨1, some 50, .ldn 3 (.tmp 8), none, []⟩, ⟨2, some 51, .call n_w_eqPicture [.tmp 49, .tmp 50], none, []⟩, ⟨3, some 52, .un .not (.tmp 51), none, []⟩, ⟨4, some 53, .mv (.tmp 52), none, []⟩, ⟨5, some 54, .mv (.tmp 13), (some (53, false)), []⟩, ⟨6, some 55, .mv (.tmp 9), (some (53, false)), []⟩, ⟨7, some 56, .beq true (.tmp 54) (.tmp 55), (some (53, false)), []⟩, ⟨8, some 57, .pick (.tmp 53) (.const (.bool true)) (.tmp 56), none, []⟩]))
  (.cond (.tmp 57) (.seq (.keep [] (.ops [⟨0, some 6, .mv (.const (.bool false)), none, []⟩]))
  (.ret)) (.skip)))
  (.seq (.seq (.keep [2, 3, 4, 8, 9, 10, 11, 12, 13] (.ops [⟨0, some 58, .ldn 3 (.tmp 10), none, []⟩, ⟨1, some 59, .ldn 3 (.tmp 3), none, []⟩, ⟨2, some 60, .call n_w_toPicture [.tmp 59], none, [(some 58, .ldn 3 (.tmp 10), none)]⟩, ⟨3, some 61, .call n_w_eqPicture [.tmp 58, .tmp 60], none, []⟩, ⟨4, some 62, .un .not (.tmp 61), none, []⟩]))
  (.cond (.tmp 62) (.seq (.keep [] (.ops [⟨0, some 6, .mv (.const (.bool false)), none, []⟩]))
  (.ret)) (.skip)))
  (.seq (.seq (.keep [2, 3, 4, 8, 9, 10, 11, 12, 13] (.ops [⟨0, some 63, .ldn 3 (.tmp 11), none, []⟩, ⟨1, some 64, .ldn 3 (.tmp 4), none, []⟩, ⟨2, some 65, .call n_w_toPicture [.tmp 64], none, [(some 63, .ldn 3 (.tmp 11), none)]⟩, ⟨3, some 66, .call n_w_eqPicture [.tmp 63, .tmp 65], none, []⟩, ⟨4, some 67, .un .not (.tmp 66), none, []⟩]))
  (.cond (.tmp 67) (.seq (.keep [] (.ops [⟨0, some 6, .mv (.const (.bool false)), none, []⟩]))
  (.ret)) (.skip)))
  (.seq (.keep [2, 3, 4, 8, 9, 10, 11, 12, 13] (.ops [⟨0, some 14, .mv (.const (.int .i64 1)), none, []⟩]))
  (.seq (.ops [⟨0, some 68, .ldn 3 (.tmp 10), none, []⟩, ⟨1, some 69, .mv (.tmp 14), none, []⟩, ⟨2, some 70, .call n_w_markPicture [.tmp 68, .tmp 69], none, []⟩, ⟨3, some 14, .mv (.tmp 70), none, []⟩])
  (.seq (.ops [⟨0, some 71, .ldn 3 (.tmp 11), none, []⟩, ⟨1, some 72, .mv (.tmp 14), none, []⟩, ⟨2, some 73, .call n_w_markPicture [.tmp 71, .tmp 72], none, []⟩, ⟨3, some 14, .mv (.tmp 73), none, []⟩])
  (.seq (.seq (.keep [2, 3, 4, 8, 9, 12, 13, 14] (.ops [⟨0, some 74, .mv (.tmp 14), none, []⟩, ⟨1, some 75, .bin .lss (.tmp 74) (.const (.int .i64 0)), none, []⟩, ⟨2, some 76, .mv (.tmp 75), none, []⟩, ⟨3, some 77, .ldn 3 (.tmp 12), (some (76, false)), []⟩, ⟨4, some 78, .ldn 3 (.tmp 8), (some (76, false)), []⟩, ⟨5, some 79, .call n_w_eqPicture [.tmp 77, .tmp 78], (some (76, false)), []⟩, ⟨6, some 80, .un .not (.tmp 79), (some (76, false)), []⟩, ⟨7, some 81, .pick (.tmp 76) (.const (.bool true)) (.tmp 80), none, []⟩, ⟨8, some 82, .mv (.tmp 81), none, []⟩, ⟨9, some 83, .mv (.tmp 13), (some (82, false)), []⟩, ⟨10, some 84, .mv (.tmp 9), (some (82, false)), []⟩, ⟨11, some 85, .beq true (.tmp 83) (.tmp 84), (some (82, false)), []⟩, ⟨12, some 86, .pick (.tmp 82) (.const (.bool true)) (.tmp 85), none, []⟩]))
  (.cond (.tmp 86) (.seq (.keep [] (.ops [⟨0, some 6, .mv (.const (.bool false)), none, []⟩]))
  (.ret)) (.skip)))
  (.seq (.keep [2, 3, 4, 8, 9, 12] (.ops [⟨0, some 15, .mv (.const (.int .i64 1)), none, []⟩]))
  (.seq (.ops [⟨0, some 87, .ldn 3 (.tmp 12), none, []⟩, ⟨1, some 88, .mv (.tmp 15), none, []⟩, ⟨2, some 89, .call n_w_markPicture [.tmp 87, .tmp 88], none, []⟩, ⟨3, some 15, .mv (.tmp 89), none, []⟩])
  (.seq (.ops [⟨0, some 16, .mv (.const (.int .i64 1)), none, []⟩])
  (.seq (.ops [⟨0, some 90, .ldn 3 (.tmp 12), none, []⟩, ⟨1, some 91, .mv (.tmp 16), none, []⟩, ⟨2, some 92, .call n_w_heldPicture [.tmp 90, .tmp 91], none, []⟩, ⟨3, some 16, .mv (.tmp 92), none, []⟩])
  (.seq (.seq (.keep [2, 3, 4, 8, 9, 12, 15, 16] (.ops [⟨0, some 93, .mv (.tmp 16), none, []⟩, ⟨1, some 94, .bin .lss (.tmp 93) (.const (.int .i64 0)), none, []⟩]))
  (.cond (.tmp 94) (.seq (.keep [] (.ops [⟨0, some 6, .mv (.const (.bool false)), none, []⟩]))
  (.ret)) (.skip)))
  (.seq (.seq (.ops [⟨0, some 95, .mv (.tmp 16), none, []⟩, ⟨1, some 96, .mv (.tmp 15), none, []⟩, ⟨2, some 97, .bin .neq (.tmp 95) (.tmp 96), none, []⟩])
  (.cond (.tmp 97) (.seq (.keep [] (.ops [⟨0, some 6, .mv (.const (.bool false)), none, []⟩]))
  (.ret)) (.skip)))
  (.seq (.keep [2, 3, 4, 8, 9, 12, 15] (.both 1 9 (.both 3 9 (.both 5 9 (.ops [⟨0, some 99, .ldn 3 (.tmp 3), none, []⟩, ⟨2, some 101, .ldn 3 (.tmp 4), none, []⟩, ⟨4, some 103, .mv (.tmp 2), none, []⟩, ⟨1, some 100, .call n_w_toPicture [.tmp 99], none, [(some 101, .ldn 3 (.tmp 4), none)]⟩, ⟨3, some 102, .call n_w_toPicture [.tmp 101], none, []⟩, ⟨5, some 104, .call n_i_BlendPictures [.tmp 100, .tmp 102, .tmp 103], none, []⟩, ⟨6, some 98, .mv (.tmp 104), none, []⟩, ⟨7, some 105, .ext (.tmp 98) 0, none, []⟩, ⟨8, some 106, .ext (.tmp 98) 1, none, []⟩, ⟨9, some 17, .new 35 [.int .i64 0, .int .i64 0, .slice none 0 0], none, []⟩, ⟨10, none, .stn 3 (.tmp 17) (.tmp 105), none, []⟩, ⟨11, some 18, .mv (.tmp 106), none, []⟩]) (.ops [⟨0, some 99, .ldn 3 (.tmp 3), none, []⟩, ⟨2, some 101, .ldn 3 (.tmp 4), none, []⟩, ⟨4, some 103, .mv (.tmp 2), none, []⟩, ⟨1, some 100, .call n_w_toPicture [.tmp 99], none, [(some 101, .ldn 3 (.tmp 4), none)]⟩, ⟨3, some 102, .call n_w_toPicture [.tmp 101], none, []⟩, ⟨9, some 17, .new 35 [.int .i64 0, .int .i64 0, .slice none 0 0], none, []⟩, ⟨5, some 104, .call n_i_BlendPictures [.tmp 100, .tmp 102, .tmp 103], none, []⟩, ⟨6, some 98, .mv (.tmp 104), none, []⟩, ⟨7, some 105, .ext (.tmp 98) 0, none, []⟩, ⟨8, some 106, .ext (.tmp 98) 1, none, []⟩, ⟨10, none, .stn 3 (.tmp 17) (.tmp 105), none, []⟩, ⟨11, some 18, .mv (.tmp 106), none, []⟩])) (.ops [⟨0, some 99, .ldn 3 (.tmp 3), none, []⟩, ⟨2, some 101, .ldn 3 (.tmp 4), none, []⟩, ⟨4, some 103, .mv (.tmp 2), none, []⟩, ⟨1, some 100, .call n_w_toPicture [.tmp 99], none, [(some 101, .ldn 3 (.tmp 4), none)]⟩, ⟨9, some 17, .new 35 [.int .i64 0, .int .i64 0, .slice none 0 0], none, [(some 101, .ldn 3 (.tmp 4), none)]⟩, ⟨3, some 102, .call n_w_toPicture [.tmp 101], none, []⟩, ⟨5, some 104, .call n_i_BlendPictures [.tmp 100, .tmp 102, .tmp 103], none, []⟩, ⟨6, some 98, .mv (.tmp 104), none, []⟩, ⟨7, some 105, .ext (.tmp 98) 0, none, []⟩, ⟨8, some 106, .ext (.tmp 98) 1, none, []⟩, ⟨10, none, .stn 3 (.tmp 17) (.tmp 105), none, []⟩, ⟨11, some 18, .mv (.tmp 106), none, []⟩])) (.ops [⟨0, some 99, .ldn 3 (.tmp 3), none, []⟩, ⟨2, some 101, .ldn 3 (.tmp 4), none, []⟩, ⟨4, some 103, .mv (.tmp 2), none, []⟩, ⟨9, some 17, .new 35 [.int .i64 0, .int .i64 0, .slice none 0 0], none, [(some 99, .ldn 3 (.tmp 3), none), (some 101, .ldn 3 (.tmp 4), none)]⟩, ⟨1, some 100, .call n_w_toPicture [.tmp 99], none, [(some 101, .ldn 3 (.tmp 4), none)]⟩, ⟨3, some 102, .call n_w_toPicture [.tmp 101], none, []⟩, ⟨5, some 104, .call n_i_BlendPictures [.tmp 100, .tmp 102, .tmp 103], none, []⟩, ⟨6, some 98, .mv (.tmp 104), none, []⟩, ⟨7, some 105, .ext (.tmp 98) 0, none, []⟩, ⟨8, some 106, .ext (.tmp 98) 1, none, []⟩, ⟨10, none, .stn 3 (.tmp 17) (.tmp 105), none, []⟩, ⟨11, some 18, .mv (.tmp 106), none, []⟩])))
  (.keep [8, 9, 12, 15, 17, 18] (.seq (.seq (.ops [⟨0, some 107, .ldn 3 (.tmp 17), none, []⟩, ⟨1, some 108, .ldn 3 (.tmp 8), none, []⟩, ⟨2, some 109, .call n_w_eqPicture [.tmp 107, .tmp 108], none, []⟩, ⟨3, some 110, .un .not (.tmp 109), none, []⟩, ⟨4, some 111, .mv (.tmp 110), none, []⟩, ⟨5, some 112, .mv (.tmp 18), (some (111, false)), []⟩, ⟨6, some 113, .mv (.tmp 9), (some (111, false)), []⟩, ⟨7, some 114, .beq true (.tmp 112) (.tmp 113), (some (111, false)), []⟩, ⟨8, some 115, .pick (.tmp 111) (.const (.bool true)) (.tmp 114), none, []⟩])
  (.cond (.tmp 115) (.seq (.keep [] (.ops [⟨0, some 6, .mv (.const (.bool false)), none, []⟩]))
  (.ret)) (.skip)))
  (.seq (.keep [12, 15] (.ops [⟨0, some 16, .mv (.const (.int .i64 1)), none, []⟩]))
  (.seq (.ops [⟨0, some 116, .ldn 3 (.tmp 12), none, []⟩, ⟨1, some 117, .mv (.tmp 16), none, []⟩, ⟨2, some 118, .call n_w_heldPicture [.tmp 116, .tmp 117], none, []⟩, ⟨3, some 16, .mv (.tmp 118), none, []⟩])
  (.seq (.seq (.ops [⟨0, some 119, .mv (.tmp 16), none, []⟩, ⟨1, some 120, .bin .lss (.tmp 119) (.const (.int .i64 0)), none, []⟩])
  (.cond (.tmp 120) (.seq (.keep [] (.ops [⟨0, some 6, .mv (.const (.bool false)), none, []⟩]))
  (.ret)) (.skip)))
  (.seq (.seq (.keep [15, 16] (.ops [⟨0, some 121, .mv (.tmp 16), none, []⟩, ⟨1, some 122, .mv (.tmp 15), none, []⟩, ⟨2, some 123, .bin .neq (.tmp 121) (.tmp 122), none, []⟩]))
  (.cond (.tmp 123) (.seq (.keep [] (.ops [⟨0, some 6, .mv (.const (.bool false)), none, []⟩]))
  (.ret)) (.skip)))
  (.seq (.keep [] (.ops [⟨0, some 6, .mv (.const (.bool true)), none, []⟩]))
  (.ret))))))))))))))))))))))))))))))))
theorem k_w_FnExactBlendPictures : FnOk Try.prog n_w_FnExactBlendPictures 3 c_w_FnExactBlendPictures [.tmp 6] := ⟨by kernel_rfl⟩
def c_w_szPicture : ACode :=
  .seq (.ops [⟨0, some 2, .box 33 (.tmp 0), none, []⟩, ⟨1, some 4, .mv (.const (.int .i64 0)), none, []⟩])
  (.seq (.ops [⟨0, some 5, .fa 2 (.tmp 2), none, []⟩, ⟨1, some 6, .ld (.tmp 5), none, []⟩, ⟨2, some 7, .mv (.tmp 1), none, []⟩, ⟨3, some 8, .call n_w_szFloat32S [.tmp 6, .tmp 7], none, []⟩, ⟨4, some 1, .mv (.tmp 8), none, []⟩])
  (.seq (.seq (.keep [1] (.ops [⟨0, some 9, .mv (.tmp 1), none, []⟩, ⟨1, some 10, .bin .lss (.tmp 9) (.const (.int .i64 0)), none, []⟩]))
  (.cond (.tmp 10) (.seq (.ops [⟨0, some 4, .mv (.const (.int .i64 (-1))), none, []⟩])
  (.ret)) (.skip)))
  (.seq (.ops [⟨0, some 11, .mv (.tmp 1), none, []⟩, ⟨1, some 4, .mv (.tmp 11), none, []⟩])
  (.ret))))
theorem k_w_szPicture : FnOk Try.prog n_w_szPicture 2 c_w_szPicture [.tmp 4] := ⟨by kernel_rfl⟩
def c_w_toPicture : ACode :=
  .seq (.ops [⟨0, some 1, .box 33 (.tmp 0), none, []⟩, ⟨1, some 2, .new 35 [.int .i64 0, .int .i64 0, .slice none 0 0], none, []⟩])
  (.seq (.ops [⟨0, some 3, .new 35 [.int .i64 0, .int .i64 0, .slice none 0 0], none, []⟩])
  (.seq (.ops [⟨0, some 4, .fa 0 (.tmp 1), none, []⟩, ⟨1, some 5, .ld (.tmp 4), none, []⟩, ⟨2, some 6, .fa 0 (.tmp 3), none, []⟩, ⟨3, none, .st (.tmp 6) (.tmp 5), none, []⟩])
  (.seq (.ops [⟨0, some 7, .fa 1 (.tmp 1), none, []⟩, ⟨1, some 8, .ld (.tmp 7), none, []⟩, ⟨2, some 9, .fa 1 (.tmp 3), none, []⟩, ⟨3, none, .st (.tmp 9) (.tmp 8), none, []⟩])
  (.seq (.keep [1, 2, 3] (.ops [⟨0, some 10, .fa 2 (.tmp 1), none, []⟩, ⟨1, some 11, .ld (.tmp 10), none, []⟩, ⟨2, some 12, .call n_w_toFloat32S [.tmp 11], none, []⟩, ⟨3, some 13, .fa 2 (.tmp 3), none, []⟩, ⟨4, none, .st (.tmp 13) (.tmp 12), none, []⟩]))
  (.seq (.keep [2, 3] (.ops [⟨0, some 14, .ldn 3 (.tmp 3), none, []⟩, ⟨1, none, .stn 3 (.tmp 2) (.tmp 14), none, []⟩]))
  (.ret))))))
theorem k_w_toPicture : FnOk Try.prog n_w_toPicture 1 c_w_toPicture [.celln 2 3] := ⟨by kernel_rfl⟩
def c_w_eqPicture : ACode :=
  .seq (.ops [⟨0, some 2, .box 35 (.tmp 0), none, []⟩, ⟨1, some 3, .box 35 (.tmp 1), none, []⟩, ⟨2, some 4, .mv (.const (.bool false)), none, []⟩])
  (.seq (.seq (.ops [⟨0, some 5, .fa 0 (.tmp 2), none, []⟩, ⟨1, some 6, .ld (.tmp 5), none, []⟩, ⟨2, some 7, .fa 0 (.tmp 3), none, []⟩, ⟨3, some 8, .ld (.tmp 7), none, []⟩, ⟨4, some 9, .bin .neq (.tmp 6) (.tmp 8), none, []⟩])
  (.cond (.tmp 9) (.seq (.keep [] (.ops [⟨0, some 4, .mv (.const (.bool false)), none, []⟩]))
  (.ret)) (.skip)))
  (.seq (.seq (.keep [2, 3] (.ops [⟨0, some 10, .fa 1 (.tmp 2), none, []⟩, ⟨1, some 11, .ld (.tmp 10), none, []⟩, ⟨2, some 12, .fa 1 (.tmp 3), none, []⟩, ⟨3, some 13, .ld (.tmp 12), none, []⟩, ⟨4, some 14, .bin .neq (.tmp 11) (.tmp 13), none, []⟩]))
  (.cond (.tmp 14) (.seq (.keep [] (.ops [⟨0, some 4, .mv (.const (.bool false)), none, []⟩]))
  (.ret)) (.skip)))
  (.seq (.seq (.keep [2, 3] (.ops [⟨0, some 15, .fa 2 (.tmp 2), none, []⟩, ⟨1, some 16, .ld (.tmp 15), none, []⟩, ⟨2, some 17, .fa 2 (.tmp 3), none, []⟩, ⟨3, some 18, .ld (.tmp 17), none, []⟩, ⟨4, some 19, .call n_w_eqFloat32S [.tmp 16, .tmp 18], none, []⟩, ⟨5, some 20, .un .not (.tmp 19), none, []⟩]))
  (.cond (.tmp 20) (.seq (.keep [] (.ops [⟨0, some 4, .mv (.const (.bool false)), none, []⟩]))
  (.ret)) (.skip)))
  (.seq (.keep [] (.ops [⟨0, some 4, .mv (.const (.bool true)), none, []⟩]))
  (.ret)))))
theorem k_w_eqPicture : FnOk Try.prog n_w_eqPicture 2 c_w_eqPicture [.tmp 4] := ⟨by kernel_rfl⟩
def c_w_markPicture : ACode :=
  .seq (.ops [⟨0, some 2, .box 35 (.tmp 0), none, []⟩, ⟨1, some 4, .mv (.const (.int .i64 0)), none, []⟩])
  (.seq (.ops [⟨0, some 5, .fa 2 (.tmp 2), none, []⟩, ⟨1, some 6, .ld (.tmp 5), none, []⟩, ⟨2, some 7, .mv (.tmp 1), none, []⟩, ⟨3, some 8, .call n_w_markFloat32S [.tmp 6, .tmp 7], none, []⟩, ⟨4, some 1, .mv (.tmp 8), none, []⟩])
  (.seq (.keep [1] (.ops [⟨0, some 9, .mv (.tmp 1), none, []⟩, ⟨1, some 4, .mv (.tmp 9), none, []⟩]))
  (.ret)))
theorem k_w_markPicture : FnOk Try.prog n_w_markPicture 2 c_w_markPicture [.tmp 4] := ⟨by kernel_rfl⟩
def c_w_heldPicture : ACode :=
  .seq (.ops [⟨0, some 2, .box 35 (.tmp 0), none, []⟩, ⟨1, some 4, .mv (.const (.int .i64 0)), none, []⟩])
  (.seq (.ops [⟨0, some 5, .fa 2 (.tmp 2), none, []⟩, ⟨1, some 6, .ld (.tmp 5), none, []⟩, ⟨2, some 7, .mv (.tmp 1), none, []⟩, ⟨3, some 8, .call n_w_heldFloat32S [.tmp 6, .tmp 7], none, []⟩, ⟨4, some 1, .mv (.tmp 8), none, []⟩])
  (.seq (.seq (.keep [1] (.ops [⟨0, some 9, .mv (.tmp 1), none, []⟩, ⟨1, some 10, .bin .lss (.tmp 9) (.const (.int .i64 0)), none, []⟩]))
  (.cond (.tmp 10) (.seq (.ops [⟨0, some 4, .mv (.const (.int .i64 (-1))), none, []⟩])
  (.ret)) (.skip)))
  (.seq (.ops [⟨0, some 11, .mv (.tmp 1), none, []⟩, ⟨1, some 4, .mv (.tmp 11), none, []⟩])
  (.ret))))
theorem k_w_heldPicture : FnOk Try.prog n_w_heldPicture 2 c_w_heldPicture [.tmp 4] := ⟨by kernel_rfl⟩
def c_w_sameFloat : ACode :=
  .seq (.ops [⟨0, some 4, .mv (.const (.bool false)), none, []⟩])
  (.seq (.seq (.ops [⟨0, some 5, .mv (.tmp 0), none, []⟩, ⟨1, some 6, .mv (.tmp 0), none, []⟩, ⟨2, some 7, .bin .neq (.tmp 5) (.tmp 6), none, []⟩, ⟨3, some 8, .mv (.tmp 7), none, []⟩, ⟨4, some 9, .mv (.tmp 1), (some (8, false)), []⟩, ⟨5, some 10, .mv (.tmp 1), (some (8, false)), []⟩, ⟨6, some 11, .bin .neq (.tmp 9) (.tmp 10), (some (8, false)), []⟩, ⟨7, some 12, .pick (.tmp 8) (.const (.bool true)) (.tmp 11), none, []⟩])
  (.cond (.tmp 12) (.seq (.keep [0, 1] (.ops [⟨0, some 13, .mv (.tmp 0), none, []⟩, ⟨1, some 14, .mv (.tmp 0), none, []⟩, ⟨2, some 15, .bin .neq (.tmp 13) (.tmp 14), none, []⟩, ⟨3, some 16, .mv (.tmp 15), none, []⟩, ⟨4, some 17, .mv (.tmp 1), (some (16, true)), []⟩, ⟨5, some 18, .mv (.tmp 1), (some (16, true)), []⟩, ⟨6, some 19, .bin .neq (.tmp 17) (.tmp 18), (some (16, true)), []⟩, ⟨7, some 20, .pick (.tmp 16) (.tmp 19) (.const (.bool false)), none, []⟩, ⟨8, some 4, .mv (.tmp 20), none, []⟩]))
  (.ret)) (.skip)))
  (.seq (.seq (.keep [0, 1] (.ops [⟨0, some 21, .mv (.tmp 0), none, []⟩, ⟨1, some 22, .bin .eql (.tmp 21) (.const (.float .f64 0)), none, []⟩, ⟨2, some 23, .mv (.tmp 22), none, []⟩, ⟨3, some 24, .mv (.tmp 1), (some (23, true)), []⟩, ⟨4, some 25, .bin .eql (.tmp 24) (.const (.float .f64 0)), (some (23, true)), []⟩, ⟨5, some 26, .pick (.tmp 23) (.tmp 25) (.const (.bool false)), none, []⟩]))
  (.cond (.tmp 26) (.seq (.keep [0, 1] (.ops [⟨0, some 27, .mv (.tmp 0), none, []⟩, ⟨1, some 28, .bin .quo (.const (.float .f64 4607182418800017408)) (.tmp 27), none, []⟩, ⟨2, some 29, .bin .gtr (.tmp 28) (.const (.float .f64 0)), none, []⟩, ⟨3, some 30, .mv (.tmp 1), none, []⟩, ⟨4, some 31, .bin .quo (.const (.float .f64 4607182418800017408)) (.tmp 30), none, []⟩, ⟨5, some 32, .bin .gtr (.tmp 31) (.const (.float .f64 0)), none, []⟩, ⟨6, some 33, .beq false (.tmp 29) (.tmp 32), none, []⟩, ⟨7, some 4, .mv (.tmp 33), none, []⟩]))
  (.ret)) (.skip)))
  (.seq (.keep [0, 1] (.ops [⟨0, some 34, .mv (.tmp 0), none, []⟩, ⟨1, some 35, .mv (.tmp 1), none, []⟩, ⟨2, some 36, .bin .eql (.tmp 34) (.tmp 35), none, []⟩, ⟨3, some 4, .mv (.tmp 36), none, []⟩]))
  (.ret))))
theorem k_w_sameFloat : FnOk Try.prog n_w_sameFloat 2 c_w_sameFloat [.tmp 4] := ⟨by kernel_rfl⟩
def c_s_BlendPictures : ACode :=
  .seq (.ops [⟨0, some 3, .box 35 (.tmp 0), none, []⟩, ⟨1, some 4, .box 35 (.tmp 1), none, []⟩, ⟨2, some 6, .new 35 [.int .i64 0, .int .i64 0, .slice none 0 0], none, []⟩, ⟨3, some 7, .mv (.const (.bool false)), none, []⟩])
  (.seq (.seq (.ops [⟨0, some 10, .call n_s_l04Both [.tmp 3, .tmp 4], none, []⟩, ⟨1, some 11, .un .not (.tmp 10), none, []⟩, ⟨2, some 12, .mv (.tmp 11), none, []⟩, ⟨3, some 13, .mv (.tmp 2), (some (12, false)), []⟩, ⟨4, some 14, .call n_s_l02Share [.tmp 13], (some (12, false)), []⟩, ⟨5, some 15, .un .not (.tmp 14), (some (12, false)), []⟩, ⟨6, some 16, .pick (.tmp 12) (.const (.bool true)) (.tmp 15), none, []⟩])
  (.cond (.tmp 16) (.seq (.keep [6] (.ops [⟨0, some 17, .bld [.int .i64 0, .int .i64 0, .slice none 0 0] [], none, []⟩, ⟨1, none, .stn 3 (.tmp 6) (.tmp 17), none, []⟩, ⟨2, some 7, .mv (.const (.bool false)), none, []⟩]))
  (.ret)) (.skip)))
  (.seq (.keep [2, 3, 4, 6] (.ops [⟨0, some 18, .call n_s_l04Own [.tmp 3], none, []⟩, ⟨1, some 8, .new 35 [.int .i64 0, .int .i64 0, .slice none 0 0], none, []⟩, ⟨2, none, .stn 3 (.tmp 8) (.tmp 18), none, []⟩]))
  (.seq (.seq (.ops [⟨0, some 9, .mv (.const (.int .i64 0)), none, []⟩])
  (.block 0 (.loop [2, 3, 4, 6, 8, 9] (.seq (.seq (.ops [⟨0, some 19, .mv (.tmp 9), none, []⟩, ⟨1, some 20, .fa 2 (.tmp 8), none, []⟩, ⟨2, some 21, .ld (.tmp 20), none, []⟩, ⟨3, some 22, .len (.tmp 21), none, []⟩, ⟨4, some 23, .bin .lss (.tmp 19) (.tmp 22), none, []⟩])
  (.cond (.tmp 23) (.skip) (.exit 0)))
  (.seq (.block 1 (.keep [2, 3, 4, 6, 8, 9] (.ops [⟨0, some 26, .fa 2 (.tmp 8), none, []⟩, ⟨1, some 27, .ld (.tmp 26), none, []⟩, ⟨2, some 28, .mv (.tmp 9), none, []⟩, ⟨3, some 29, .fa 2 (.tmp 3), none, []⟩, ⟨4, some 30, .ld (.tmp 29), none, []⟩, ⟨5, some 31, .mv (.tmp 9), none, []⟩, ⟨6, some 32, .ia (.tmp 30) (.tmp 31), none, []⟩, ⟨7, some 33, .ld (.tmp 32), none, []⟩, ⟨8, some 34, .mv (.tmp 2), none, []⟩, ⟨9, some 35, .fa 2 (.tmp 4), none, []⟩, ⟨10, some 36, .ld (.tmp 35), none, []⟩, ⟨11, some 37, .mv (.tmp 9), none, []⟩, ⟨12, some 38, .ia (.tmp 36) (.tmp 37), none, []⟩, ⟨13, some 39, .ld (.tmp 38), none, []⟩, ⟨14, some 40, .fa 2 (.tmp 3), none, []⟩, ⟨15, some 41, .ld (.tmp 40), none, []⟩, ⟨16, some 42, .mv (.tmp 9), none, []⟩, ⟨17, some 43, .ia (.tmp 41) (.tmp 42), none, []⟩, ⟨18, some 44, .ld (.tmp 43), none, []⟩, ⟨19, some 45, .bin .sub (.tmp 39) (.tmp 44), none, []⟩, ⟨20, some 46, .bin .mul (.tmp 34) (.tmp 45), none, []⟩, ⟨21, some 47, .bin .add (.tmp 33) (.tmp 46), none, []⟩, ⟨22, some 48, .ia (.tmp 27) (.tmp 28), none, []⟩, ⟨23, none, .st (.tmp 48) (.tmp 47), none, []⟩])))
  (.keep [2, 3, 4, 6, 8, 9] (.ops [⟨0, some 24, .mv (.tmp 9), none, []⟩, ⟨1, some 25, .bin .add (.tmp 24) (.const (.int .i64 1)), none, []⟩, ⟨2, some 9, .mv (.tmp 25), none, []⟩])))))))
  (.seq (.keep [6, 8] (.ops [⟨0, some 49, .ldn 3 (.tmp 8), none, []⟩, ⟨1, some 50, .call n_s_l04Give [.tmp 49], none, []⟩, ⟨2, some 51, .ext (.tmp 50) 0, none, []⟩, ⟨3, some 52, .ext (.tmp 50) 1, none, []⟩, ⟨4, none, .stn 3 (.tmp 6) (.tmp 51), none, []⟩, ⟨5, some 7, .mv (.tmp 52), none, []⟩]))
  (.ret)))))
theorem k_s_BlendPictures : FnOk Try.prog n_s_BlendPictures 3 c_s_BlendPictures [.celln 6 3, .tmp 7] := ⟨by kernel_rfl⟩
def c_i_BlendPictures : ACode :=
  .seq (.ops [⟨0, some 3, .box 35 (.tmp 0), none, []⟩, ⟨1, some 4, .box 35 (.tmp 1), none, []⟩, ⟨2, some 6, .new 35 [.int .i64 0, .int .i64 0, .slice none 0 0], none, []⟩, ⟨3, some 7, .mv (.const (.bool false)), none, []⟩])
  (.seq (.seq (.ops [⟨0, some 11, .ldn 3 (.tmp 3), none, []⟩, ⟨1, some 12, .ldn 3 (.tmp 4), none, []⟩, ⟨2, some 13, .call n_i_areAlike [.tmp 11, .tmp 12], none, []⟩, ⟨3, some 14, .un .not (.tmp 13), none, []⟩, ⟨4, some 15, .mv (.tmp 14), none, []⟩, ⟨5, some 16, .mv (.tmp 2), (some (15, false)), []⟩, ⟨6, some 17, .call n_i_isShare [.tmp 16], (some (15, false)), []⟩, ⟨7, some 18, .un .not (.tmp 17), (some (15, false)), []⟩, ⟨8, some 19, .pick (.tmp 15) (.const (.bool true)) (.tmp 18), none, []⟩])
  (.cond (.tmp 19) (.seq (.keep [6] (.ops [⟨0, some 20, .bld [.int .i64 0, .int .i64 0, .slice none 0 0] [], none, []⟩, ⟨1, none, .stn 3 (.tmp 6) (.tmp 20), none, []⟩, ⟨2, some 7, .mv (.const (.bool false)), none, []⟩]))
  (.ret)) (.skip)))
  (.seq (.keep [2, 3, 4, 6] (.ops [⟨0, some 21, .fa 0 (.tmp 3), none, []⟩, ⟨1, some 22, .ld (.tmp 21), none, []⟩, ⟨2, some 23, .fa 1 (.tmp 3), none, []⟩, ⟨3, some 24, .ld (.tmp 23), none, []⟩, ⟨4, some 25, .bld [.int .i64 0, .int .i64 0, .slice none 0 0] [(0, 1, .tmp 22), (1, 1, .tmp 24)], none, []⟩, ⟨5, some 8, .new 35 [.int .i64 0, .int .i64 0, .slice none 0 0], none, []⟩, ⟨6, none, .stn 3 (.tmp 8) (.tmp 25), none, []⟩]))
  (.seq (.seq (.keep [2, 3, 4, 6, 8] (.ops [⟨0, some 26, .fa 2 (.tmp 3), none, []⟩, ⟨1, some 27, .ld (.tmp 26), none, []⟩, ⟨2, some 28, .len (.tmp 27), none, []⟩, ⟨3, some 29, .mv (.const (.int .i64 0)), none, []⟩]))
  (.block 0 (.loop [2, 4, 6, 8, 27, 28, 29] (.seq (.ops [⟨0, some 30, .bin .lss (.tmp 29) (.tmp 28), none, []⟩])
  (.seq (.cond (.tmp 30) (.skip) (.exit 0))
  (.seq (.block 1 (.seq (.ops [⟨0, some 31, .mv (.tmp 29), none, []⟩, ⟨1, some 32, .ia (.tmp 27) (.tmp 29), none, []⟩, ⟨2, some 33, .ld (.tmp 32), none, []⟩, ⟨3, some 9, .mv (.tmp 31), none, []⟩, ⟨4, some 10, .mv (.tmp 33), none, []⟩])
  (.ops [⟨0, some 34, .fa 2 (.tmp 8), none, []⟩, ⟨1, some 35, .ld (.tmp 34), none, []⟩, ⟨2, some 36, .mv (.tmp 10), none, []⟩, ⟨3, some 37, .mv (.tmp 2), none, []⟩, ⟨4, some 38, .fa 2 (.tmp 4), none, []⟩, ⟨5, some 39, .ld (.tmp 38), none, []⟩, ⟨6, some 40, .mv (.tmp 9), none, []⟩, ⟨7, some 41, .ia (.tmp 39) (.tmp 40), none, []⟩, ⟨8, some 42, .ld (.tmp 41), none, []⟩, ⟨9, some 43, .mv (.tmp 10), none, []⟩, ⟨10, some 44, .bin .sub (.tmp 42) (.tmp 43), none, []⟩, ⟨11, some 45, .bin .mul (.tmp 37) (.tmp 44), none, []⟩, ⟨12, some 46, .bin .add (.tmp 36) (.tmp 45), none, []⟩, ⟨13, some 47, .bsl 45 1 (.float .f32 0) [(0, .tmp 46)], none, [(some 35, .ld (.tmp 34), none)]⟩, ⟨14, some 48, .app 45 4 (.tmp 35) (.tmp 47), none, []⟩, ⟨15, some 49, .fa 2 (.tmp 8), none, []⟩, ⟨16, none, .st (.tmp 49) (.tmp 48), none, []⟩])))
  (.keep [2, 4, 6, 8, 27, 28, 29] (.ops [⟨0, some 50, .bin .add (.tmp 29) (.const (.int .i64 1)), none, []⟩, ⟨1, some 29, .mv (.tmp 50), none, []⟩]))))))))
  (.seq (.keep [6, 8] (.ops [⟨0, some 51, .ldn 3 (.tmp 8), none, []⟩, ⟨1, some 52, .call n_i_validPicture [.tmp 51], none, []⟩, ⟨2, some 53, .ext (.tmp 52) 0, none, []⟩, ⟨3, some 54, .ext (.tmp 52) 1, none, []⟩, ⟨4, none, .stn 3 (.tmp 6) (.tmp 53), none, []⟩, ⟨5, some 7, .mv (.tmp 54), none, []⟩]))
  (.ret)))))
theorem k_i_BlendPictures : FnOk Try.prog n_i_BlendPictures 3 c_i_BlendPictures [.celln 6 3, .tmp 7] := ⟨by kernel_rfl⟩
def c_w_eqFloat32S : ACode :=
  .seq (.ops [⟨0, some 4, .mv (.const (.bool false)), none, []⟩])
  (.seq (.seq (.ops [⟨0, some 6, .mv (.tmp 0), none, []⟩, ⟨1, some 7, .len (.tmp 6), none, []⟩, ⟨2, some 8, .mv (.tmp 1), none, []⟩, ⟨3, some 9, .len (.tmp 8), none, []⟩, ⟨4, some 10, .bin .neq (.tmp 7) (.tmp 9), none, []⟩])
  (.cond (.tmp 10) (.seq (.keep [] (.ops [⟨0, some 4, .mv (.const (.bool false)), none, []⟩]))
  (.ret)) (.skip)))
  (.seq (.seq (.keep [0, 1] (.ops [⟨0, some 5, .mv (.const (.int .i64 0)), none, []⟩]))
  (.block 0 (.loop [0, 1, 5] (.seq (.seq (.ops [⟨0, some 11, .mv (.tmp 5), none, []⟩, ⟨1, some 12, .mv (.tmp 0), none, []⟩, ⟨2, some 13, .len (.tmp 12), none, []⟩, ⟨3, some 14, .bin .lss (.tmp 11) (.tmp 13), none, []⟩])
  (.cond (.tmp 14) (.skip) (.exit 0)))
  (.seq (.block 1 (.seq (.ops [⟨0, some 17, .mv (.tmp 0), none, []⟩, ⟨1, some 18, .mv (.tmp 5), none, []⟩, ⟨2, some 19, .ia (.tmp 17) (.tmp 18), none, []⟩, ⟨3, some 20, .ld (.tmp 19), none, []⟩, ⟨4, some 21, .cv (.f .f64) (.tmp 20), none, []⟩, ⟨5, some 22, .mv (.tmp 1), none, []⟩, ⟨6, some 23, .mv (.tmp 5), none, []⟩, ⟨7, some 24, .ia (.tmp 22) (.tmp 23), none, []⟩, ⟨8, some 25, .ld (.tmp 24), none, []⟩, ⟨9, some 26, .cv (.f .f64) (.tmp 25), none, []⟩, ⟨10, some 27, .call n_w_sameFloat [.tmp 21, .tmp 26], none, []⟩, ⟨11, some 28, .un .not (.tmp 27), none, []⟩])
  (.cond (.tmp 28) (.seq (.keep [] (.ops [⟨0, some 4, .mv (.const (.bool false)), none, []⟩]))
  (.ret)) (.skip))))
  (.keep [0, 1, 5] (.ops [⟨0, some 15, .mv (.tmp 5), none, []⟩, ⟨1, some 16, .bin .add (.tmp 15) (.const (.int .i64 1)), none, []⟩, ⟨2, some 5, .mv (.tmp 16), none, []⟩])))))))
  (.seq (.keep [] (.ops [⟨0, some 4, .mv (.const (.bool true)), none, []⟩]))
  (.ret))))
theorem k_w_eqFloat32S : FnOk Try.prog n_w_eqFloat32S 2 c_w_eqFloat32S [.tmp 4] := ⟨by kernel_rfl⟩
def c_w_markFloat32S : ACode :=
  .seq (.ops [⟨0, some 4, .mv (.const (.int .i64 0)), none, []⟩])
  (.seq (.seq (.ops [⟨0, some 5, .mv (.const (.int .i64 0)), none, []⟩])
  (.block 0 (.loop [0, 1, 5] (.seq (.seq (.ops [⟨0, some 6, .mv (.tmp 5), none, []⟩, ⟨1, some 7, .mv (.tmp 0), none, []⟩, ⟨2, some 8, .len (.tmp 7), none, []⟩, ⟨3, some 9, .bin .lss (.tmp 6) (.tmp 8), none, []⟩])
  (.cond (.tmp 9) (.skip) (.exit 0)))
  (.seq (.block 1 (.seq (.ops [⟨0, some 12, .mv (.tmp 0), none, []⟩, ⟨1, some 13, .mv (.tmp 5), none, []⟩, ⟨2, some 14, .mv (.tmp 1), none, []⟩, ⟨3, some 15, .cv (.f .f32) (.tmp 14), none, []⟩, ⟨4, some 16, .ia (.tmp 12) (.tmp 13), none, []⟩, ⟨5, none, .st (.tmp 16) (.tmp 15), none, []⟩])
  (.keep [0, 1, 5] (.ops [⟨0, some 17, .mv (.tmp 1), none, []⟩, ⟨1, some 18, .bin .add (.tmp 17) (.const (.int .i64 1)), none, []⟩, ⟨2, some 1, .mv (.tmp 18), none, []⟩]))))
  (.ops [⟨0, some 10, .mv (.tmp 5), none, []⟩, ⟨1, some 11, .bin .add (.tmp 10) (.const (.int .i64 1)), none, []⟩, ⟨2, some 5, .mv (.tmp 11), none, []⟩]))))))
  (.seq (.keep [1] (.ops [⟨0, some 19, .mv (.tmp 1), none, []⟩, ⟨1, some 4, .mv (.tmp 19), none, []⟩]))
  (.ret)))
theorem k_w_markFloat32S : FnOk Try.prog n_w_markFloat32S 2 c_w_markFloat32S [.tmp 4] := ⟨by kernel_rfl⟩
def c_w_heldFloat32S : ACode :=
  .seq (.ops [⟨0, some 4, .mv (.const (.int .i64 0)), none, []⟩])
  (.seq (.seq (.ops [⟨0, some 5, .mv (.const (.int .i64 0)), none, []⟩])
  (.block 0 (.loop [0, 1, 5] (.seq (.seq (.ops [⟨0, some 6, .mv (.tmp 5), none, []⟩, ⟨1, some 7, .mv (.tmp 0), none, []⟩, ⟨2, some 8, .len (.tmp 7), none, []⟩, ⟨3, some 9, .bin .lss (.tmp 6) (.tmp 8), none, []⟩])
  (.cond (.tmp 9) (.skip) (.exit 0)))
  (.seq (.block 1 (.seq (.seq (.ops [⟨0, some 12, .mv (.tmp 0), none, []⟩, ⟨1, some 13, .mv (.tmp 5), none, []⟩, ⟨2, some 14, .ia (.tmp 12) (.tmp 13), none, []⟩, ⟨3, some 15, .ld (.tmp 14), none, []⟩, ⟨4, some 16, .mv (.tmp 1), none, []⟩, ⟨5, some 17, .cv (.f .f32) (.tmp 16), none, []⟩, ⟨6, some 18, .bin .neq (.tmp 15) (.tmp 17), none, []⟩])
  (.cond (.tmp 18) (.seq (.keep [] (.ops [⟨0, some 4, .mv (.const (.int .i64 (-1))), none, []⟩]))
  (.ret)) (.skip)))
  (.keep [0, 1, 5] (.ops [⟨0, some 19, .mv (.tmp 1), none, []⟩, ⟨1, some 20, .bin .add (.tmp 19) (.const (.int .i64 1)), none, []⟩, ⟨2, some 1, .mv (.tmp 20), none, []⟩]))))
  (.ops [⟨0, some 10, .mv (.tmp 5), none, []⟩, ⟨1, some 11, .bin .add (.tmp 10) (.const (.int .i64 1)), none, []⟩, ⟨2, some 5, .mv (.tmp 11), none, []⟩]))))))
  (.seq (.keep [1] (.ops [⟨0, some 21, .mv (.tmp 1), none, []⟩, ⟨1, some 4, .mv (.tmp 21), none, []⟩]))
  (.ret)))
theorem k_w_heldFloat32S : FnOk Try.prog n_w_heldFloat32S 2 c_w_heldFloat32S [.tmp 4] := ⟨by kernel_rfl⟩
def c_w_szFloat32S : ACode :=
  .seq (.ops [⟨0, some 4, .mv (.const (.int .i64 0)), none, []⟩])
  (.seq (.ops [⟨0, some 5, .mv (.tmp 1), none, []⟩, ⟨1, some 6, .mv (.tmp 0), none, []⟩, ⟨2, some 7, .len (.tmp 6), none, []⟩, ⟨3, some 8, .bin .sub (.tmp 5) (.tmp 7), none, []⟩, ⟨4, some 1, .mv (.tmp 8), none, []⟩])
  (.seq (.seq (.keep [1] (.ops [⟨0, some 9, .mv (.tmp 1), none, []⟩, ⟨1, some 10, .bin .lss (.tmp 9) (.const (.int .i64 0)), none, []⟩]))
  (.cond (.tmp 10) (.seq (.ops [⟨0, some 4, .mv (.const (.int .i64 (-1))), none, []⟩])
  (.ret)) (.skip)))
  (.seq (.ops [⟨0, some 11, .mv (.tmp 1), none, []⟩, ⟨1, some 4, .mv (.tmp 11), none, []⟩])
  (.ret))))
theorem k_w_szFloat32S : FnOk Try.prog n_w_szFloat32S 2 c_w_szFloat32S [.tmp 4] := ⟨by kernel_rfl⟩
def c_w_toFloat32S : ACode :=
  .seq (.ops [⟨0, some 2, .mv (.const (.slice none 0 0)), none, []⟩])
  (.seq (.ops [⟨0, some 5, .mv (.tmp 0), none, []⟩, ⟨1, some 6, .len (.tmp 5), none, []⟩, ⟨2, some 7, .mks 45 4 (.float .f32 0) (.tmp 6) (.tmp 6), none, []⟩, ⟨3, some 3, .mv (.tmp 7), none, []⟩])
  (.seq (.seq (.ops [⟨0, some 4, .mv (.const (.int .i64 0)), none, []⟩])
  (.block 0 (.loop [0, 3, 4] (.seq (.seq (.ops [⟨0, some 8, .mv (.tmp 4), none, []⟩, ⟨1, some 9, .mv (.tmp 0), none, []⟩, ⟨2, some 10, .len (.tmp 9), none, []⟩, ⟨3, some 11, .bin .lss (.tmp 8) (.tmp 10), none, []⟩])
  (.cond (.tmp 11) (.skip) (.exit 0)))
  (.seq (.block 1 (.ops [⟨0, some 14, .mv (.tmp 3), none, []⟩, ⟨1, some 15, .mv (.tmp 4), none, []⟩, ⟨2, some 16, .mv (.tmp 0), none, []⟩, ⟨3, some 17, .mv (.tmp 4), none, []⟩, ⟨4, some 18, .ia (.tmp 16) (.tmp 17), none, []⟩, ⟨5, some 19, .ld (.tmp 18), none, []⟩, ⟨6, some 20, .ia (.tmp 14) (.tmp 15), none, []⟩, ⟨7, none, .st (.tmp 20) (.tmp 19), none, []⟩]))
  (.keep [0, 3, 4] (.ops [⟨0, some 12, .mv (.tmp 4), none, []⟩, ⟨1, some 13, .bin .add (.tmp 12) (.const (.int .i64 1)), none, []⟩, ⟨2, some 4, .mv (.tmp 13), none, []⟩])))))))
  (.seq (.keep [3] (.ops [⟨0, some 21, .mv (.tmp 3), none, []⟩, ⟨1, some 2, .mv (.tmp 21), none, []⟩]))
  (.ret))))
theorem k_w_toFloat32S : FnOk Try.prog n_w_toFloat32S 1 c_w_toFloat32S [.tmp 2] := ⟨by kernel_rfl⟩
def c_i_within : ACode :=
  .seq (.ops [⟨0, some 6, .mv (.const (.bool false)), none, []⟩])
  (.seq (.ops [⟨0, some 7, .mv (.tmp 0), none, []⟩, ⟨1, some 8, .mv (.tmp 1), none, []⟩, ⟨2, some 9, .bin .geq (.tmp 7) (.tmp 8), none, []⟩, ⟨3, some 10, .mv (.tmp 9), none, []⟩, ⟨4, some 11, .mv (.tmp 0), (some (10, true)), []⟩, ⟨5, some 12, .mv (.tmp 2), (some (10, true)), []⟩, ⟨6, some 13, .bin .leq (.tmp 11) (.tmp 12), (some (10, true)), []⟩, ⟨7, some 14, .pick (.tmp 10) (.tmp 13) (.const (.bool false)), none, []⟩, ⟨8, some 6, .mv (.tmp 14), none, []⟩])
  (.ret))
theorem k_i_within : FnOk Try.prog n_i_within 3 c_i_within [.tmp 6] := ⟨by kernel_rfl⟩
def c_i_areFinite : ACode :=
  .seq (.ops [⟨0, some 2, .mv (.const (.bool false)), none, []⟩])
  (.seq (.seq (.ops [⟨0, some 7, .mv (.tmp 0), none, []⟩, ⟨1, some 8, .len (.tmp 7), none, []⟩, ⟨2, some 9, .mv (.const (.int .i64 0)), none, []⟩])
  (.block 0 (.loop [7, 8, 9] (.seq (.ops [⟨0, some 10, .bin .lss (.tmp 9) (.tmp 8), none, []⟩])
  (.seq (.cond (.tmp 10) (.skip) (.exit 0))
  (.seq (.block 1 (.seq (.ops [⟨0, some 11, .ia (.tmp 7) (.tmp 9), none, []⟩, ⟨1, some 12, .ld (.tmp 11), none, []⟩, ⟨2, some 4, .mv (.tmp 12), none, []⟩])
  (.seq (.ops [⟨0, some 13, .mv (.tmp 4), none, []⟩, ⟨1, some 14, .len (.tmp 13), none, []⟩, ⟨2, some 15, .mv (.const (.int .i64 0)), none, []⟩])
  (.block 2 (.loop [7, 8, 9, 13, 14, 15] (.seq (.ops [⟨0, some 16, .bin .lss (.tmp 15) (.tmp 14), none, []⟩])
  (.seq (.cond (.tmp 16) (.skip) (.exit 2))
  (.seq (.block 3 (.seq (.ops [⟨0, some 17, .ia (.tmp 13) (.tmp 15), none, []⟩, ⟨1, some 18, .ld (.tmp 17), none, []⟩, ⟨2, some 6, .mv (.tmp 18), none, []⟩])
  (.seq (.ops [⟨0, some 19, .mv (.tmp 6), none, []⟩, ⟨1, some 20, .call n_i_IsFinite [.tmp 19], none, []⟩, ⟨2, some 21, .un .not (.tmp 20), none, []⟩])
  (.cond (.tmp 21) (.seq (.keep [] (.ops [⟨0, some 2, .mv (.const (.bool false)), none, []⟩]))
  (.ret)) (.skip)))))
  (.keep [7, 8, 9, 13, 14, 15] (.ops [⟨0, some 22, .bin .add (.tmp 15) (.const (.int .i64 1)), none, []⟩, ⟨1, some 15, .mv (.tmp 22), none, []⟩]))))))))))
  (.ops [⟨0, some 23, .bin .add (.tmp 9) (.const (.int .i64 1)), none, []⟩, ⟨1, some 9, .mv (.tmp 23), none, []⟩])))))))
  (.seq (.ops [⟨0, some 2, .mv (.const (.bool true)), none, []⟩])
  (.ret)))
theorem k_i_areFinite : FnOk Try.prog n_i_areFinite 1 c_i_areFinite [.tmp 2] := ⟨by kernel_rfl⟩
def c_s_l04Is : ACode :=
  .seq (.ops [⟨0, some 2, .mv (.const (.bool false)), none, []⟩])
  (.seq (.ops [⟨0, some 3, .mv (.tmp 0), none, []⟩, ⟨1, some 4, .nc (.tmp 3), none, []⟩, ⟨2, some 5, .fa 0 (.tmp 4), none, []⟩, ⟨3, some 6, .ld (.tmp 5), none, []⟩, ⟨4, some 7, .mv (.tmp 0), none, []⟩, ⟨5, some 8, .nc (.tmp 7), none, []⟩, ⟨6, some 9, .fa 1 (.tmp 8), none, []⟩, ⟨7, some 10, .ld (.tmp 9), none, []⟩, ⟨8, some 11, .call n_s_l04Sides [.tmp 6, .tmp 10], none, []⟩, ⟨9, some 12, .mv (.tmp 11), none, []⟩, ⟨10, some 13, .mv (.tmp 0), (some (12, true)), []⟩, ⟨11, some 14, .nc (.tmp 13), (some (12, true)), []⟩, ⟨12, some 15, .fa 2 (.tmp 14), (some (12, true)), []⟩, ⟨13, some 16, .ld (.tmp 15), (some (12, true)), []⟩, ⟨14, some 17, .len (.tmp 16), (some (12, true)), []⟩, ⟨15, some 18, .mv (.tmp 0), (some (12, true)), []⟩, ⟨16, some 19, .nc (.tmp 18), (some (12, true)), []⟩, ⟨17, some 20, .fa 0 (.tmp 19), (some (12, true)), []⟩, ⟨18, some 21, .ld (.tmp 20), (some (12, true)), []⟩, ⟨19, some 22, .mv (.tmp 0), (some (12, true)), []⟩, ⟨20, some 23, .nc (.tmp 22), (some (12, true)), []⟩, ⟨21, some 24, .fa 1 (.tmp 23), (some (12, true)), []⟩, ⟨22, some 25, .ld (.tmp 24), (some (12, true)), []⟩, ⟨23, some 26, .bin .mul (.tmp 21) (.tmp 25), (some (12, true)), []⟩, ⟨24, some 27, .bin .eql (.tmp 17) (.tmp 26), (some (12, true)), []⟩, ⟨25, some 28, .pick (.tmp 12) (.tmp 27) (.const (.bool false)), none, []⟩, ⟨26, some 29, .mv (.tmp 28), none, []⟩, ⟨27, some 30, .mv (.tmp 0), (some (29, true)), []⟩, ⟨28, some 31, .nc (.tmp 30), (some (29, true)), []⟩, ⟨29, some 32, .fa 2 (.tmp 31), (some (29, true)), []⟩, ⟨30, some 33, .ld (.tmp 32), (some (29, true)), []⟩, ⟨31, some 34, .call n_s_l02Finite [.tmp 33], (some (29, true)), []⟩, ⟨32, some 35, .pick (.tmp 29) (.tmp 34) (.const (.bool false)), none, []⟩, ⟨33, some 2, .mv (.tmp 35), none, []⟩])
  (.ret))
theorem k_s_l04Is : FnOk Try.prog n_s_l04Is 1 c_s_l04Is [.tmp 2] := ⟨by kernel_rfl⟩
def c_s_l04Own : ACode :=
  .seq (.ops [⟨0, some 2, .new 35 [.int .i64 0, .int .i64 0, .slice none 0 0], none, []⟩])
  (.seq (.ops [⟨0, some 3, .mv (.tmp 0), none, []⟩, ⟨1, some 4, .nc (.tmp 3), none, []⟩, ⟨2, some 5, .fa 0 (.tmp 4), none, []⟩, ⟨3, some 6, .ld (.tmp 5), none, []⟩, ⟨4, some 7, .mv (.tmp 0), none, []⟩, ⟨5, some 8, .nc (.tmp 7), none, []⟩, ⟨6, some 9, .fa 1 (.tmp 8), none, []⟩, ⟨7, some 10, .ld (.tmp 9), none, []⟩, ⟨9, some 12, .mv (.tmp 0), none, []⟩, ⟨10, some 13, .nc (.tmp 12), none, []⟩, ⟨11, some 14, .fa 2 (.tmp 13), none, []⟩, ⟨12, some 15, .ld (.tmp 14), none, []⟩, ⟨8, some 11, .bsl 45 0 (.float .f32 0) [], none, [(some 6, .ld (.tmp 5), none), (some 10, .ld (.tmp 9), none), (some 15, .ld (.tmp 14), none)]⟩, ⟨13, some 16, .app 45 4 (.tmp 11) (.tmp 15), none, [(some 6, .ld (.tmp 5), none), (some 10, .ld (.tmp 9), none)]⟩, ⟨14, some 17, .bld [.int .i64 0, .int .i64 0, .slice none 0 0] [(0, 1, .tmp 6), (1, 1, .tmp 10), (2, 1, .tmp 16)], none, []⟩, ⟨15, none, .stn 3 (.tmp 2) (.tmp 17), none, []⟩])
  (.ret))
theorem k_s_l04Own : FnOk Try.prog n_s_l04Own 1 c_s_l04Own [.celln 2 3] := ⟨by kernel_rfl⟩
def c_i_ValidPicture : ACode :=
  .seq (.ops [⟨0, some 1, .box 35 (.tmp 0), none, []⟩, ⟨1, some 2, .mv (.const (.bool false)), none, []⟩])
  (.seq (.ops [⟨0, some 3, .fa 0 (.tmp 1), none, []⟩, ⟨1, some 4, .ld (.tmp 3), none, []⟩, ⟨2, some 5, .call n_i_within [.tmp 4, .const (.int .i64 1), .const (.int .i64 16)], none, []⟩, ⟨3, some 6, .mv (.tmp 5), none, []⟩, ⟨4, some 7, .fa 1 (.tmp 1), (some (6, true)), []⟩, ⟨5, some 8, .ld (.tmp 7), (some (6, true)), []⟩, ⟨6, some 9, .call n_i_within [.tmp 8, .const (.int .i64 1), .const (.int .i64 16)], (some (6, true)), []⟩, ⟨7, some 10, .pick (.tmp 6) (.tmp 9) (.const (.bool false)), none, []⟩, ⟨8, some 11, .mv (.tmp 10), none, []⟩, ⟨9, some 12, .fa 2 (.tmp 1), (some (11, true)), []⟩, ⟨10, some 13, .ld (.tmp 12), (some (11, true)), []⟩, ⟨11, some 14, .len (.tmp 13), (some (11, true)), []⟩, ⟨12, some 15, .fa 0 (.tmp 1), (some (11, true)), []⟩, ⟨13, some 16, .ld (.tmp 15), (some (11, true)), []⟩, ⟨14, some 17, .fa 1 (.tmp 1), (some (11, true)), []⟩, ⟨15, some 18, .ld (.tmp 17), (some (11, true)), []⟩, ⟨16, some 19, .bin .mul (.tmp 16) (.tmp 18), (some (11, true)), []⟩, ⟨17, some 20, .bin .eql (.tmp 14) (.tmp 19), (some (11, true)), []⟩, ⟨18, some 21, .pick (.tmp 11) (.tmp 20) (.const (.bool false)), none, []⟩, ⟨19, some 22, .mv (.tmp 21), none, []⟩, ⟨20, some 23, .fa 2 (.tmp 1), (some (22, true)), []⟩, ⟨21, some 24, .ld (.tmp 23), (some (22, true)), []⟩, ⟨22, some 25, .bsl 22 1 (.slice none 0 0) [(0, .tmp 24)], (some (22, true)), []⟩, ⟨23, some 26, .call n_i_areFinite [.tmp 25], (some (22, true)), []⟩, ⟨24, some 27, .pick (.tmp 22) (.tmp 26) (.const (.bool false)), none, []⟩, ⟨25, some 2, .mv (.tmp 27), none, []⟩])
  (.ret))
theorem k_i_ValidPicture : FnOk Try.prog n_i_ValidPicture 1 c_i_ValidPicture [.tmp 2] := ⟨by kernel_rfl⟩
def c_s_l04Both : ACode :=
  .seq (.ops [⟨0, some 4, .mv (.const (.bool false)), none, []⟩])
  (.seq (.ops [⟨0, some 5, .mv (.tmp 0), none, []⟩, ⟨1, some 6, .call n_s_l04Is [.tmp 5], none, []⟩, ⟨2, some 7, .mv (.tmp 6), none, []⟩, ⟨3, some 8, .mv (.tmp 1), (some (7, true)), []⟩, ⟨4, some 9, .call n_s_l04Is [.tmp 8], (some (7, true)), []⟩, ⟨5, some 10, .pick (.tmp 7) (.tmp 9) (.const (.bool false)), none, []⟩, ⟨6, some 11, .mv (.tmp 10), none, []⟩, ⟨7, some 12, .mv (.tmp 0), (some (11, true)), []⟩, ⟨8, some 13, .nc (.tmp 12), (some (11, true)), []⟩, ⟨9, some 14, .fa 0 (.tmp 13), (some (11, true)), []⟩, ⟨10, some 15, .ld (.tmp 14), (some (11, true)), []⟩, ⟨11, some 16, .mv (.tmp 1), (some (11, true)), []⟩, ⟨12, some 17, .nc (.tmp 16), (some (11, true)), []⟩, ⟨13, some 18, .fa 0 (.tmp 17), (some (11, true)), []⟩, ⟨14, some 19, .ld (.tmp 18), (some (11, true)), []⟩, ⟨15, some 20, .bin .eql (.tmp 15) (.tmp 19), (some (11, true)), []⟩, ⟨16, some 21, .pick (.tmp 11) (.tmp 20) (.const (.bool false)), none, []⟩, ⟨17, some 22, .mv (.tmp 21), none, []⟩, ⟨18, some 23, .mv (.tmp 0), (some (22, true)), []⟩, ⟨19, some 24, .nc (.tmp 23), (some (22, true)), []⟩, ⟨20, some 25, .fa 1 (.tmp 24), (some (22, true)), []⟩, ⟨21, some 26, .ld (.tmp 25), (some (22, true)), []⟩, ⟨22, some 27, .mv (.tmp 1), (some (22, true)), []⟩, ⟨23, some 28, .nc (.tmp 27), (some (22, true)), []⟩, ⟨24, some 29, .fa 1 (.tmp 28), (some (22, true)), []⟩, ⟨25, some 30, .ld (.tmp 29), (some (22, true)), []⟩, ⟨26, some 31, .bin .eql (.tmp 26) (.tmp 30), (some (22, true)), []⟩, ⟨27, some 32, .pick (.tmp 22) (.tmp 31) (.const (.bool false)), none, []⟩, ⟨28, some 4, .mv (.tmp 32), none, []⟩])
  (.ret))
theorem k_s_l04Both : FnOk Try.prog n_s_l04Both 2 c_s_l04Both [.tmp 4] := ⟨by kernel_rfl⟩
def c_s_l02Share : ACode :=
  .seq (.ops [⟨0, some 2, .mv (.const (.bool false)), none, []⟩])
  (.seq (.ops [⟨0, some 3, .mv (.tmp 0), none, []⟩, ⟨1, some 4, .bin .geq (.tmp 3) (.const (.float .f32 0)), none, []⟩, ⟨2, some 5, .mv (.tmp 4), none, []⟩, ⟨3, some 6, .mv (.tmp 0), (some (5, true)), []⟩, ⟨4, some 7, .bin .leq (.tmp 6) (.const (.float .f32 1065353216)), (some (5, true)), []⟩, ⟨5, some 8, .pick (.tmp 5) (.tmp 7) (.const (.bool false)), none, []⟩, ⟨6, some 2, .mv (.tmp 8), none, []⟩])
  (.ret))
theorem k_s_l02Share : FnOk Try.prog n_s_l02Share 1 c_s_l02Share [.tmp 2] := ⟨by kernel_rfl⟩
def c_s_l04Give : ACode :=
  .seq (.ops [⟨0, some 1, .box 35 (.tmp 0), none, []⟩, ⟨1, some 2, .new 35 [.int .i64 0, .int .i64 0, .slice none 0 0], none, []⟩, ⟨2, some 3, .mv (.const (.bool false)), none, []⟩])
  (.seq (.seq (.ops [⟨0, some 4, .call n_s_l04Is [.tmp 1], none, []⟩, ⟨1, some 5, .un .not (.tmp 4), none, []⟩])
  (.cond (.tmp 5) (.seq (.keep [2] (.ops [⟨0, some 6, .bld [.int .i64 0, .int .i64 0, .slice none 0 0] [], none, []⟩, ⟨1, none, .stn 3 (.tmp 2) (.tmp 6), none, []⟩, ⟨2, some 3, .mv (.const (.bool false)), none, []⟩]))
  (.ret)) (.skip)))
  (.seq (.ops [⟨0, some 7, .ldn 3 (.tmp 1), none, []⟩, ⟨1, none, .stn 3 (.tmp 2) (.tmp 7), none, []⟩, ⟨2, some 3, .mv (.const (.bool true)), none, []⟩])
  (.ret)))
theorem k_s_l04Give : FnOk Try.prog n_s_l04Give 1 c_s_l04Give [.celln 2 3, .tmp 3] := ⟨by kernel_rfl⟩
def c_i_areAlike : ACode :=
  .seq (.ops [⟨0, some 2, .box 35 (.tmp 0), none, []⟩, ⟨1, some 3, .box 35 (.tmp 1), none, []⟩, ⟨2, some 4, .mv (.const (.bool false)), none, []⟩])
  (.seq (.ops [⟨0, some 5, .ldn 3 (.tmp 2), none, []⟩, ⟨1, some 6, .call n_i_ValidPicture [.tmp 5], none, []⟩, ⟨2, some 7, .mv (.tmp 6), none, []⟩, ⟨3, some 8, .ldn 3 (.tmp 3), (some (7, true)), []⟩, ⟨4, some 9, .call n_i_ValidPicture [.tmp 8], (some (7, true)), []⟩, ⟨5, some 10, .pick (.tmp 7) (.tmp 9) (.const (.bool false)), none, []⟩, ⟨6, some 11, .mv (.tmp 10), none, []⟩, ⟨7, some 12, .fa 0 (.tmp 2), (some (11, true)), []⟩, ⟨8, some 13, .ld (.tmp 12), (some (11, true)), []⟩, ⟨9, some 14, .fa 0 (.tmp 3), (some (11, true)), []⟩, ⟨10, some 15, .ld (.tmp 14), (some (11, true)), []⟩, ⟨11, some 16, .bin .eql (.tmp 13) (.tmp 15), (some (11, true)), []⟩, ⟨12, some 17, .pick (.tmp 11) (.tmp 16) (.const (.bool false)), none, []⟩, ⟨13, some 18, .mv (.tmp 17), none, []⟩, ⟨14, some 19, .fa 1 (.tmp 2), (some (18, true)), []⟩, ⟨15, some 20, .ld (.tmp 19), (some (18, true)), []⟩, ⟨16, some 21, .fa 1 (.tmp 3), (some (18, true)), []⟩, ⟨17, some 22, .ld (.tmp 21), (some (18, true)), []⟩, ⟨18, some 23, .bin .eql (.tmp 20) (.tmp 22), (some (18, true)), []⟩, ⟨19, some 24, .pick (.tmp 18) (.tmp 23) (.const (.bool false)), none, []⟩, ⟨20, some 4, .mv (.tmp 24), none, []⟩])
  (.ret))
theorem k_i_areAlike : FnOk Try.prog n_i_areAlike 2 c_i_areAlike [.tmp 4] := ⟨by kernel_rfl⟩
def c_i_isShare : ACode :=
  .seq (.ops [⟨0, some 2, .mv (.const (.bool false)), none, []⟩])
  (.seq (.ops [⟨0, some 3, .mv (.tmp 0), none, []⟩, ⟨1, some 4, .bin .geq (.tmp 3) (.const (.float .f32 0)), none, []⟩, ⟨2, some 5, .mv (.tmp 4), none, []⟩, ⟨3, some 6, .mv (.tmp 0), (some (5, true)), []⟩, ⟨4, some 7, .bin .leq (.tmp 6) (.const (.float .f32 1065353216)), (some (5, true)), []⟩, ⟨5, some 8, .pick (.tmp 5) (.tmp 7) (.const (.bool false)), none, []⟩, ⟨6, some 2, .mv (.tmp 8), none, []⟩])
  (.ret))
theorem k_i_isShare : FnOk Try.prog n_i_isShare 1 c_i_isShare [.tmp 2] := ⟨by kernel_rfl⟩
def c_i_validPicture : ACode :=
  .seq (.ops [⟨0, some 1, .box 35 (.tmp 0), none, []⟩, ⟨1, some 2, .new 35 [.int .i64 0, .int .i64 0, .slice none 0 0], none, []⟩, ⟨2, some 3, .mv (.const (.bool false)), none, []⟩])
  (.seq (.seq (.ops [⟨0, some 4, .ldn 3 (.tmp 1), none, []⟩, ⟨1, some 5, .call n_i_ValidPicture [.tmp 4], none, []⟩, ⟨2, some 6, .un .not (.tmp 5), none, []⟩])
  (.cond (.tmp 6) (.seq (.keep [2] (.ops [⟨0, some 7, .bld [.int .i64 0, .int .i64 0, .slice none 0 0] [], none, []⟩, ⟨1, none, .stn 3 (.tmp 2) (.tmp 7), none, []⟩, ⟨2, some 3, .mv (.const (.bool false)), none, []⟩]))
  (.ret)) (.skip)))
  (.seq (.keep [1, 2] (.ops [⟨0, some 8, .ldn 3 (.tmp 1), none, []⟩, ⟨1, none, .stn 3 (.tmp 2) (.tmp 8), none, []⟩, ⟨2, some 3, .mv (.const (.bool true)), none, []⟩]))
  (.ret)))
theorem k_i_validPicture : FnOk Try.prog n_i_validPicture 1 c_i_validPicture [.celln 2 3, .tmp 3] := ⟨by kernel_rfl⟩
def c_s_l02Finite : ACode :=
  .seq (.ops [⟨0, some 2, .mv (.const (.bool false)), none, []⟩])
  (.seq (.seq (.ops [⟨0, some 3, .mv (.const (.int .i64 0)), none, []⟩])
  (.block 0 (.loop [0, 3] (.seq (.seq (.ops [⟨0, some 4, .mv (.tmp 3), none, []⟩, ⟨1, some 5, .mv (.tmp 0), none, []⟩, ⟨2, some 6, .len (.tmp 5), none, []⟩, ⟨3, some 7, .bin .lss (.tmp 4) (.tmp 6), none, []⟩])
  (.cond (.tmp 7) (.skip) (.exit 0)))
  (.seq (.block 1 (.seq (.ops [⟨0, some 10, .mv (.tmp 0), none, []⟩, ⟨1, some 11, .mv (.tmp 3), none, []⟩, ⟨2, some 12, .ia (.tmp 10) (.tmp 11), none, []⟩, ⟨3, some 13, .ld (.tmp 12), none, []⟩, ⟨4, some 14, .call n_s_l01Finite [.tmp 13], none, []⟩, ⟨5, some 15, .un .not (.tmp 14), none, []⟩])
  (.cond (.tmp 15) (.seq (.keep [] (.ops [⟨0, some 2, .mv (.const (.bool false)), none, []⟩]))
  (.ret)) (.skip))))
  (.keep [0, 3] (.ops [⟨0, some 8, .mv (.tmp 3), none, []⟩, ⟨1, some 9, .bin .add (.tmp 8) (.const (.int .i64 1)), none, []⟩, ⟨2, some 3, .mv (.tmp 9), none, []⟩])))))))
  (.seq (.keep [] (.ops [⟨0, some 2, .mv (.const (.bool true)), none, []⟩]))
  (.ret)))
theorem k_s_l02Finite : FnOk Try.prog n_s_l02Finite 1 c_s_l02Finite [.tmp 2] := ⟨by kernel_rfl⟩
def c_i_IsFinite : ACode :=
  .seq (.ops [⟨0, some 2, .mv (.const (.bool false)), none, []⟩])
  (.seq (.ops [⟨0, some 3, .mv (.tmp 0), none, []⟩, ⟨1, some 4, .mv (.tmp 0), none, []⟩, ⟨2, some 5, .bin .sub (.tmp 3) (.tmp 4), none, []⟩, ⟨3, some 6, .bin .eql (.tmp 5) (.const (.float .f32 0)), none, []⟩, ⟨4, some 2, .mv (.tmp 6), none, []⟩])
  (.ret))
theorem k_i_IsFinite : FnOk Try.prog n_i_IsFinite 1 c_i_IsFinite [.tmp 2] := ⟨by kernel_rfl⟩
def c_s_l04Sides : ACode :=
  .seq (.ops [⟨0, some 4, .mv (.const (.bool false)), none, []⟩])
  (.seq (.ops [⟨0, some 5, .mv (.tmp 0), none, []⟩, ⟨1, some 6, .call n_s_l00In [.tmp 5, .const (.int .i64 1), .const (.int .i64 16)], none, []⟩, ⟨2, some 7, .mv (.tmp 6), none, []⟩, ⟨3, some 8, .mv (.tmp 1), (some (7, true)), []⟩, ⟨4, some 9, .call n_s_l00In [.tmp 8, .const (.int .i64 1), .const (.int .i64 16)], (some (7, true)), []⟩, ⟨5, some 10, .pick (.tmp 7) (.tmp 9) (.const (.bool false)), none, []⟩, ⟨6, some 4, .mv (.tmp 10), none, []⟩])
  (.ret))
theorem k_s_l04Sides : FnOk Try.prog n_s_l04Sides 2 c_s_l04Sides [.tmp 4] := ⟨by kernel_rfl⟩
def c_s_l00In : ACode :=
  .seq (.ops [⟨0, some 6, .mv (.const (.bool false)), none, []⟩])
  (.seq (.ops [⟨0, some 7, .mv (.tmp 0), none, []⟩, ⟨1, some 8, .mv (.tmp 1), none, []⟩, ⟨2, some 9, .bin .geq (.tmp 7) (.tmp 8), none, []⟩, ⟨3, some 10, .mv (.tmp 9), none, []⟩, ⟨4, some 11, .mv (.tmp 0), (some (10, true)), []⟩, ⟨5, some 12, .mv (.tmp 2), (some (10, true)), []⟩, ⟨6, some 13, .bin .leq (.tmp 11) (.tmp 12), (some (10, true)), []⟩, ⟨7, some 14, .pick (.tmp 10) (.tmp 13) (.const (.bool false)), none, []⟩, ⟨8, some 6, .mv (.tmp 14), none, []⟩])
  (.ret))
theorem k_s_l00In : FnOk Try.prog n_s_l00In 3 c_s_l00In [.tmp 6] := ⟨by kernel_rfl⟩
def c_s_l01Finite : ACode :=
  .seq (.ops [⟨0, some 2, .mv (.const (.bool false)), none, []⟩])
  (.seq (.ops [⟨0, some 3, .mv (.tmp 0), none, []⟩, ⟨1, some 4, .mv (.tmp 0), none, []⟩, ⟨2, some 5, .bin .sub (.tmp 3) (.tmp 4), none, []⟩, ⟨3, some 6, .bin .eql (.tmp 5) (.const (.float .f32 0)), none, []⟩, ⟨4, some 2, .mv (.tmp 6), none, []⟩])
  (.ret))
theorem k_s_l01Finite : FnOk Try.prog n_s_l01Finite 1 c_s_l01Finite [.tmp 2] := ⟨by kernel_rfl⟩
end Go.Proofs.Ytkojmlpaamdhoab

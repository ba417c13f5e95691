/- The code of functions, for the abstract machine; printed by a program (gen.py). -/
import Derived.Test.YtkojmlpaamdhoaaGxFn
import Derived.Test.YtkojmlpaamdhoaaProg
namespace Go.Proofs.Ytkojmlpaamdhoaa
open Go.Gx
set_option maxRecDepth 100000
abbrev t_int64 : Nat := 2
abbrev t_int : Nat := 3
abbrev t_bool : Nat := 4
abbrev t_uint8 : Nat := 5
abbrev t_sfloat32 : Nat := 22
abbrev t_suint8 : Nat := 47
abbrev t_ssfloat32 : Nat := 52
abbrev t_float64 : Nat := 62
abbrev t_float32 : Nat := 63
abbrev t_sbool : Nat := 66
abbrev t_sint64 : Nat := 77
abbrev t_Pair : Nat := 24
abbrev t_Picture : Nat := 36
abbrev t_Bands : Nat := 54
abbrev n_w_FnExactRegionOf : Nat := 4
abbrev n_s_RegionOf : Nat := 20
abbrev n_i_RegionOf : Nat := 21
abbrev n_s_l04Sides : Nat := 70
abbrev n_s_l04Levels : Nat := 71
abbrev n_s_l00In : Nat := 72
abbrev n_s_l04Region : Nat := 73
abbrev n_i_within : Nat := 74
abbrev n_i_areLevels : Nat := 75
abbrev n_i_halfOf : Nat := 76
abbrev n_s_l04Halves : Nat := 110
def c_w_FnExactRegionOf : ACode :=
  .seq (.ops [⟨0, some 8, .mv (.const (.bool false)), none, []⟩])
  (.seq (.ops [⟨0, some 20, .mv (.tmp 0), none, []⟩, ⟨1, some 21, .mv (.tmp 1), none, []⟩, ⟨2, some 22, .mv (.tmp 2), none, []⟩, ⟨3, some 23, .mv (.tmp 3), none, []⟩, ⟨4, some 24, .call n_s_RegionOf [.tmp 20, .tmp 21, .tmp 22, .tmp 23], none, []⟩, ⟨5, some 19, .mv (.tmp 24), none, []⟩, ⟨6, some 25, .ext (.tmp 19) 0, none, []⟩, ⟨7, some 26, .ext (.tmp 19) 1, none, []⟩, ⟨8, some 27, .ext (.tmp 19) 2, none, []⟩, ⟨9, some 28, .ext (.tmp 19) 3, none, []⟩, ⟨10, some 29, .ext (.tmp 19) 4, none, []⟩, ⟨11, some 9, .mv (.tmp 25), none, []⟩, ⟨12, some 10, .mv (.tmp 26), none, []⟩, ⟨13, some 11, .mv (.tmp 27), none, []⟩, ⟨14, some 12, .mv (.tmp 28), none, []⟩, ⟨15, some 13, .mv (.tmp 29), none, []⟩])
  (.seq (.keep [0, 1, 2, 3, 9, 10, 11, 12, 13] (.ops [⟨0, some 31, .mv (.tmp 0), none, []⟩, ⟨1, some 32, .mv (.tmp 1), none, []⟩, ⟨2, some 33, .mv (.tmp 2), none, []⟩, ⟨3, some 34, .mv (.tmp 3), none, []⟩, ⟨4, some 35, .call n_i_RegionOf [.tmp 31, .tmp 32, .tmp 33, .tmp 34], none, []⟩, ⟨5, some 30, .mv (.tmp 35), none, []⟩, ⟨6, some 36, .ext (.tmp 30) 0, none, []⟩, ⟨7, some 37, .ext (.tmp 30) 1, none, []⟩, ⟨8, some 38, .ext (.tmp 30) 2, none, []⟩, ⟨9, some 39, .ext (.tmp 30) 3, none, []⟩, ⟨10, some 40, .ext (.tmp 30) 4, none, []⟩, ⟨11, some 14, .mv (.tmp 36), none, []⟩, ⟨12, some 15, .mv (.tmp 37), none, []⟩, ⟨13, some 16, .mv (.tmp 38), none, []⟩, ⟨14, some 17, .mv (.tmp 39), none, []⟩, ⟨15, some 18, .mv (.tmp 40), none, []⟩]))
  (.seq (.seq (.keep [9, 10, 11, 12, 13, 14, 15, 16, 17, 18] (.ops [⟨0, some 41, .mv (.tmp 14), none, []⟩, ⟨1, some 42, .mv (.tmp 9), none, []⟩, ⟨2, some 43, .bin .neq (.tmp 41) (.tmp 42), none, []⟩, ⟨3, some 44, .mv (.tmp 43), none, []⟩, ⟨4, some 45, .mv (.tmp 15), (some (44, false)), []⟩, ⟨5, some 46, .mv (.tmp 10), (some (44, false)), []⟩, ⟨6, some 47, .bin .neq (.tmp 45) (.tmp 46), (some (44, false)), []⟩, ⟨7, some 48, .pick (.tmp 44) (.const (.bool true)) (.tmp 47), none, []⟩, ⟨8, some 49, .mv (.tmp 48), none, []⟩, ⟨9, some 50, .mv (.tmp 16), (some (49, false)), []⟩, ⟨10, some 51, .mv (.tmp 11), (some (49, false)), []⟩, ⟨11, some 52, .bin .neq (.tmp 50) (.tmp 51), (some (49, false)), []⟩, ⟨12, some 53, .pick (.tmp 49) (.const (.bool true)) (.tmp 52), none, []⟩, ⟨13, some 54, .mv (.tmp 53), none, []⟩, ⟨14, some 55, .mv (.tmp 17), (some (54, false)), []⟩, ⟨15, some 56, .mv (.tmp 12), (some (54, false)), []⟩, ⟨16, some 57, .bin .neq (.tmp 55) (.tmp 56), (some (54, false)), []⟩, ⟨17, some 58, .pick (.tmp 54) (.const (.bool true)) (.tmp 57), none, []⟩, ⟨18, some 59, .mv (.tmp 58), none, []⟩, ⟨19, some 60, .mv (.tmp 18), (some (59, false)), []⟩, ⟨20, some 61, .mv (.tmp 13), (some (59, false)), []⟩, ⟨21, some 62, .beq true (.tmp 60) (.tmp 61), (some (59, false)), []⟩, ⟨22, some 63, .pick (.tmp 59) (.const (.bool true)) (.tmp 62), none, []⟩]))
  (.cond (.tmp 63) (.seq (.keep [] (.ops [⟨0, some 8, .mv (.const (.bool false)), none, []⟩]))
  (.ret)) (.skip)))
  (.seq (.keep [] (.ops [⟨0, some 8, .mv (.const (.bool true)), none, []⟩]))
  (.ret)))))
theorem k_w_FnExactRegionOf : FnOk Try.prog n_w_FnExactRegionOf 4 c_w_FnExactRegionOf [.tmp 8] := ⟨by kernel_rfl⟩
def c_s_RegionOf : ACode :=
  .seq (.ops [⟨0, some 8, .mv (.const (.int .i64 0)), none, []⟩, ⟨1, some 9, .mv (.const (.int .i64 0)), none, []⟩, ⟨2, some 10, .mv (.const (.int .i64 0)), none, []⟩, ⟨3, some 11, .mv (.const (.int .i64 0)), none, []⟩, ⟨4, some 12, .mv (.const (.bool false)), none, []⟩])
  (.seq (.seq (.keep [0, 1, 2, 3] (.ops [⟨0, some 17, .mv (.tmp 0), none, []⟩, ⟨1, some 18, .mv (.tmp 1), none, []⟩, ⟨2, some 19, .call n_s_l04Sides [.tmp 17, .tmp 18], none, []⟩, ⟨3, some 20, .un .not (.tmp 19), none, []⟩, ⟨4, some 21, .mv (.tmp 20), none, []⟩, ⟨5, some 22, .mv (.tmp 2), (some (21, false)), []⟩, ⟨6, some 23, .call n_s_l04Levels [.tmp 22], (some (21, false)), []⟩, ⟨7, some 24, .un .not (.tmp 23), (some (21, false)), []⟩, ⟨8, some 25, .pick (.tmp 21) (.const (.bool true)) (.tmp 24), none, []⟩, ⟨9, some 26, .mv (.tmp 25), none, []⟩, ⟨10, some 27, .mv (.tmp 3), (some (26, false)), []⟩, ⟨11, some 28, .call n_s_l00In [.tmp 27, .const (.int .i64 0), .const (.int .i64 3)], (some (26, false)), []⟩, ⟨12, some 29, .un .not (.tmp 28), (some (26, false)), []⟩, ⟨13, some 30, .pick (.tmp 26) (.const (.bool true)) (.tmp 29), none, []⟩]))
  (.cond (.tmp 30) (.seq (.keep [] (.ops [⟨0, some 8, .mv (.const (.int .i64 0)), none, []⟩, ⟨1, some 9, .mv (.const (.int .i64 0)), none, []⟩, ⟨2, some 10, .mv (.const (.int .i64 0)), none, []⟩, ⟨3, some 11, .mv (.const (.int .i64 0)), none, []⟩, ⟨4, some 12, .mv (.const (.bool false)), none, []⟩]))
  (.ret)) (.skip)))
  (.seq (.keep [0, 1, 2, 3] (.ops [⟨0, some 32, .mv (.tmp 0), none, []⟩, ⟨1, some 33, .mv (.tmp 1), none, []⟩, ⟨2, some 34, .mv (.tmp 2), none, []⟩, ⟨3, some 35, .mv (.tmp 3), none, []⟩, ⟨4, some 36, .call n_s_l04Region [.tmp 32, .tmp 33, .tmp 34, .tmp 35], none, []⟩, ⟨5, some 31, .mv (.tmp 36), none, []⟩, ⟨6, some 37, .ext (.tmp 31) 0, none, []⟩, ⟨7, some 38, .ext (.tmp 31) 1, none, []⟩, ⟨8, some 39, .ext (.tmp 31) 2, none, []⟩, ⟨9, some 40, .ext (.tmp 31) 3, none, []⟩, ⟨10, some 13, .mv (.tmp 37), none, []⟩, ⟨11, some 14, .mv (.tmp 38), none, []⟩, ⟨12, some 15, .mv (.tmp 39), none, []⟩, ⟨13, some 16, .mv (.tmp 40), none, []⟩]))
  (.seq (.keep [13, 14, 15, 16] (.ops [⟨0, some 41, .mv (.tmp 13), none, []⟩, ⟨1, some 42, .mv (.tmp 14), none, []⟩, ⟨2, some 43, .mv (.tmp 15), none, []⟩, ⟨3, some 44, .mv (.tmp 16), none, []⟩, ⟨4, some 8, .mv (.tmp 41), none, []⟩, ⟨5, some 9, .mv (.tmp 42), none, []⟩, ⟨6, some 10, .mv (.tmp 43), none, []⟩, ⟨7, some 11, .mv (.tmp 44), none, []⟩, ⟨8, some 12, .mv (.const (.bool true)), none, []⟩]))
  (.ret))))
theorem k_s_RegionOf : FnOk Try.prog n_s_RegionOf 4 c_s_RegionOf [.tmp 8, .tmp 9, .tmp 10, .tmp 11, .tmp 12] := ⟨by kernel_rfl⟩
def c_i_RegionOf : ACode :=
  .seq (.ops [⟨0, some 8, .mv (.const (.int .i64 0)), none, []⟩, ⟨1, some 9, .mv (.const (.int .i64 0)), none, []⟩, ⟨2, some 10, .mv (.const (.int .i64 0)), none, []⟩, ⟨3, some 11, .mv (.const (.int .i64 0)), none, []⟩, ⟨4, some 12, .mv (.const (.bool false)), none, []⟩])
  (.seq (.seq (.keep [0, 1, 2, 3] (.ops [⟨0, some 17, .mv (.tmp 0), none, []⟩, ⟨1, some 18, .call n_i_within [.tmp 17, .const (.int .i64 1), .const (.int .i64 16)], none, []⟩, ⟨2, some 19, .un .not (.tmp 18), none, []⟩, ⟨3, some 20, .mv (.tmp 19), none, []⟩, ⟨4, some 21, .mv (.tmp 1), (some (20, false)), []⟩, ⟨5, some 22, .call n_i_within [.tmp 21, .const (.int .i64 1), .const (.int .i64 16)], (some (20, false)), []⟩, ⟨6, some 23, .un .not (.tmp 22), (some (20, false)), []⟩, ⟨7, some 24, .pick (.tmp 20) (.const (.bool true)) (.tmp 23), none, []⟩, ⟨8, some 25, .mv (.tmp 24), none, []⟩, ⟨9, some 26, .mv (.tmp 2), (some (25, false)), []⟩, ⟨10, some 27, .call n_i_areLevels [.tmp 26], (some (25, false)), []⟩, ⟨11, some 28, .un .not (.tmp 27), (some (25, false)), []⟩, ⟨12, some 29, .pick (.tmp 25) (.const (.bool true)) (.tmp 28), none, []⟩, ⟨13, some 30, .mv (.tmp 29), none, []⟩, ⟨14, some 31, .mv (.tmp 3), (some (30, false)), []⟩, ⟨15, some 32, .call n_i_within [.tmp 31, .const (.int .i64 0), .const (.int .i64 3)], (some (30, false)), []⟩, ⟨16, some 33, .un .not (.tmp 32), (some (30, false)), []⟩, ⟨17, some 34, .pick (.tmp 30) (.const (.bool true)) (.tmp 33), none, []⟩]))
  (.cond (.tmp 34) (.seq (.keep [] (.ops [⟨0, some 8, .mv (.const (.int .i64 0)), none, []⟩, ⟨1, some 9, .mv (.const (.int .i64 0)), none, []⟩, ⟨2, some 10, .mv (.const (.int .i64 0)), none, []⟩, ⟨3, some 11, .mv (.const (.int .i64 0)), none, []⟩, ⟨4, some 12, .mv (.const (.bool false)), none, []⟩]))
  (.ret)) (.skip)))
  (.seq (.keep [0, 1, 2, 3] (.ops [⟨0, some 35, .mv (.tmp 0), none, []⟩, ⟨1, some 36, .mv (.tmp 2), none, []⟩, ⟨2, some 37, .bin .sub (.tmp 36) (.const (.int .i64 1)), none, []⟩, ⟨3, some 38, .call n_i_halfOf [.tmp 35, .tmp 37], none, []⟩, ⟨4, some 39, .mv (.tmp 1), none, []⟩, ⟨5, some 40, .mv (.tmp 2), none, []⟩, ⟨6, some 41, .bin .sub (.tmp 40) (.const (.int .i64 1)), none, []⟩, ⟨7, some 42, .call n_i_halfOf [.tmp 39, .tmp 41], none, []⟩, ⟨8, some 13, .mv (.tmp 38), none, []⟩, ⟨9, some 14, .mv (.tmp 42), none, []⟩]))
  (.seq (.keep [3, 13, 14] (.ops [⟨0, some 43, .mv (.tmp 13), none, []⟩, ⟨1, some 44, .call n_i_halfOf [.tmp 43, .const (.int .i64 1)], none, []⟩, ⟨2, some 45, .mv (.tmp 14), none, []⟩, ⟨3, some 46, .call n_i_halfOf [.tmp 45, .const (.int .i64 1)], none, []⟩, ⟨4, some 15, .mv (.tmp 44), none, []⟩, ⟨5, some 16, .mv (.tmp 46), none, []⟩]))
  (.seq (.seq (.ops [⟨0, some 47, .mv (.tmp 3), none, []⟩])
  (.block 0 (.seq (.keep [13, 14, 15, 16, 47] (.ops [⟨0, some 49, .bin .eql (.tmp 47) (.const (.int .i64 0)), none, []⟩, ⟨1, some 48, .mv (.tmp 49), none, []⟩]))
  (.cond (.tmp 48) (.seq (.keep [15, 16] (.ops [⟨0, some 50, .mv (.tmp 15), none, []⟩, ⟨1, some 51, .mv (.tmp 16), none, []⟩, ⟨2, some 8, .mv (.const (.int .i64 0)), none, []⟩, ⟨3, some 9, .mv (.const (.int .i64 0)), none, []⟩, ⟨4, some 10, .mv (.tmp 50), none, []⟩, ⟨5, some 11, .mv (.tmp 51), none, []⟩, ⟨6, some 12, .mv (.const (.bool true)), none, []⟩]))
  (.ret)) (.seq (.ops [⟨0, some 53, .bin .eql (.tmp 47) (.const (.int .i64 1)), none, []⟩, ⟨1, some 52, .mv (.tmp 53), none, []⟩])
  (.cond (.tmp 52) (.seq (.keep [13, 15, 16] (.ops [⟨0, some 54, .mv (.tmp 15), none, []⟩, ⟨1, some 55, .mv (.tmp 13), none, []⟩, ⟨2, some 56, .mv (.tmp 15), none, []⟩, ⟨3, some 57, .bin .sub (.tmp 55) (.tmp 56), none, []⟩, ⟨4, some 58, .mv (.tmp 16), none, []⟩, ⟨5, some 8, .mv (.tmp 54), none, []⟩, ⟨6, some 9, .mv (.const (.int .i64 0)), none, []⟩, ⟨7, some 10, .mv (.tmp 57), none, []⟩, ⟨8, some 11, .mv (.tmp 58), none, []⟩, ⟨9, some 12, .mv (.const (.bool true)), none, []⟩]))
  (.ret)) (.seq (.ops [⟨0, some 60, .bin .eql (.tmp 47) (.const (.int .i64 2)), none, []⟩, ⟨1, some 59, .mv (.tmp 60), none, []⟩])
  (.cond (.tmp 59) (.seq (.keep [14, 15, 16] (.ops [⟨0, some 61, .mv (.tmp 16), none, []⟩, ⟨1, some 62, .mv (.tmp 15), none, []⟩, ⟨2, some 63, .mv (.tmp 14), none, []⟩, ⟨3, some 64, .mv (.tmp 16), none, []⟩, ⟨4, some 65, .bin .sub (.tmp 63) (.tmp 64), none, []⟩, ⟨5, some 8, .mv (.const (.int .i64 0)), none, []⟩, ⟨6, some 9, .mv (.tmp 61), none, []⟩, ⟨7, some 10, .mv (.tmp 62), none, []⟩, ⟨8, some 11, .mv (.tmp 65), none, []⟩, ⟨9, some 12, .mv (.const (.bool true)), none, []⟩]))
  (.ret)) (.skip)))))))))
  (.seq (.keep [13, 14, 15, 16] (.ops [⟨0, some 66, .mv (.tmp 15), none, []⟩, ⟨1, some 67, .mv (.tmp 16), none, []⟩, ⟨2, some 68, .mv (.tmp 13), none, []⟩, ⟨3, some 69, .mv (.tmp 15), none, []⟩, ⟨4, some 70, .bin .sub (.tmp 68) (.tmp 69), none, []⟩, ⟨5, some 71, .mv (.tmp 14), none, []⟩, ⟨6, some 72, .mv (.tmp 16), none, []⟩, ⟨7, some 73, .bin .sub (.tmp 71) (.tmp 72), none, []⟩, ⟨8, some 8, .mv (.tmp 66), none, []⟩, ⟨9, some 9, .mv (.tmp 67), none, []⟩, ⟨10, some 10, .mv (.tmp 70), none, []⟩, ⟨11, some 11, .mv (.tmp 73), none, []⟩, ⟨12, some 12, .mv (.const (.bool true)), none, []⟩]))
  (.ret))))))
theorem k_i_RegionOf : FnOk Try.prog n_i_RegionOf 4 c_i_RegionOf [.tmp 8, .tmp 9, .tmp 10, .tmp 11, .tmp 12] := ⟨by kernel_rfl⟩
def c_s_l04Sides : ACode :=
  .seq (.ops [⟨0, some 4, .mv (.const (.bool false)), none, []⟩])
  (.seq (.ops [⟨0, some 5, .mv (.tmp 0), none, []⟩, ⟨1, some 6, .call n_s_l00In [.tmp 5, .const (.int .i64 1), .const (.int .i64 16)], none, []⟩, ⟨2, some 7, .mv (.tmp 6), none, []⟩, ⟨3, some 8, .mv (.tmp 1), (some (7, true)), []⟩, ⟨4, some 9, .call n_s_l00In [.tmp 8, .const (.int .i64 1), .const (.int .i64 16)], (some (7, true)), []⟩, ⟨5, some 10, .pick (.tmp 7) (.tmp 9) (.const (.bool false)), none, []⟩, ⟨6, some 4, .mv (.tmp 10), none, []⟩])
  (.ret))
theorem k_s_l04Sides : FnOk Try.prog n_s_l04Sides 2 c_s_l04Sides [.tmp 4] := ⟨by kernel_rfl⟩
def c_s_l04Levels : ACode :=
  .seq (.ops [⟨0, some 2, .mv (.const (.bool false)), none, []⟩])
  (.seq (.ops [⟨0, some 3, .mv (.tmp 0), none, []⟩, ⟨1, some 4, .call n_s_l00In [.tmp 3, .const (.int .i64 1), .const (.int .i64 4)], none, []⟩, ⟨2, some 2, .mv (.tmp 4), none, []⟩])
  (.ret))
theorem k_s_l04Levels : FnOk Try.prog n_s_l04Levels 1 c_s_l04Levels [.tmp 2] := ⟨by kernel_rfl⟩
def c_s_l00In : ACode :=
  .seq (.ops [⟨0, some 6, .mv (.const (.bool false)), none, []⟩])
  (.seq (.ops [⟨0, some 7, .mv (.tmp 0), none, []⟩, ⟨1, some 8, .mv (.tmp 1), none, []⟩, ⟨2, some 9, .bin .geq (.tmp 7) (.tmp 8), none, []⟩, ⟨3, some 10, .mv (.tmp 9), none, []⟩, ⟨4, some 11, .mv (.tmp 0), (some (10, true)), []⟩, ⟨5, some 12, .mv (.tmp 2), (some (10, true)), []⟩, ⟨6, some 13, .bin .leq (.tmp 11) (.tmp 12), (some (10, true)), []⟩, ⟨7, some 14, .pick (.tmp 10) (.tmp 13) (.const (.bool false)), none, []⟩, ⟨8, some 6, .mv (.tmp 14), none, []⟩])
  (.ret))
theorem k_s_l00In : FnOk Try.prog n_s_l00In 3 c_s_l00In [.tmp 6] := ⟨by kernel_rfl⟩
def c_s_l04Region : ACode :=
  .seq (.ops [⟨0, some 8, .mv (.const (.int .i64 0)), none, []⟩, ⟨1, some 9, .mv (.const (.int .i64 0)), none, []⟩, ⟨2, some 10, .mv (.const (.int .i64 0)), none, []⟩, ⟨3, some 11, .mv (.const (.int .i64 0)), none, []⟩])
  (.seq (.ops [⟨0, some 17, .mv (.tmp 0), none, []⟩, ⟨1, some 18, .mv (.tmp 1), none, []⟩, ⟨2, some 19, .mv (.tmp 2), none, []⟩, ⟨3, some 20, .bin .sub (.tmp 19) (.const (.int .i64 1)), none, []⟩, ⟨4, some 21, .call n_s_l04Halves [.tmp 17, .tmp 18, .tmp 20], none, []⟩, ⟨5, some 16, .mv (.tmp 21), none, []⟩, ⟨6, some 22, .ext (.tmp 16) 0, none, []⟩, ⟨7, some 23, .ext (.tmp 16) 1, none, []⟩, ⟨8, some 12, .mv (.tmp 22), none, []⟩, ⟨9, some 13, .mv (.tmp 23), none, []⟩])
  (.seq (.keep [3, 12, 13] (.ops [⟨0, some 25, .mv (.tmp 12), none, []⟩, ⟨1, some 26, .mv (.tmp 13), none, []⟩, ⟨2, some 27, .call n_s_l04Halves [.tmp 25, .tmp 26, .const (.int .i64 1)], none, []⟩, ⟨3, some 24, .mv (.tmp 27), none, []⟩, ⟨4, some 28, .ext (.tmp 24) 0, none, []⟩, ⟨5, some 29, .ext (.tmp 24) 1, none, []⟩, ⟨6, some 14, .mv (.tmp 28), none, []⟩, ⟨7, some 15, .mv (.tmp 29), none, []⟩]))
  (.seq (.seq (.keep [3, 12, 13, 14, 15] (.ops [⟨0, some 30, .mv (.tmp 3), none, []⟩]))
  (.block 0 (.seq (.ops [⟨0, some 32, .bin .eql (.tmp 30) (.const (.int .i64 0)), none, []⟩, ⟨1, some 31, .mv (.tmp 32), none, []⟩])
  (.cond (.tmp 31) (.seq (.keep [14, 15] (.ops [⟨0, some 33, .mv (.tmp 14), none, []⟩, ⟨1, some 34, .mv (.tmp 15), none, []⟩, ⟨2, some 8, .mv (.const (.int .i64 0)), none, []⟩, ⟨3, some 9, .mv (.const (.int .i64 0)), none, []⟩, ⟨4, some 10, .mv (.tmp 33), none, []⟩, ⟨5, some 11, .mv (.tmp 34), none, []⟩]))
  (.ret)) (.seq (.ops [⟨0, some 36, .bin .eql (.tmp 30) (.const (.int .i64 1)), none, []⟩, ⟨1, some 35, .mv (.tmp 36), none, []⟩])
  (.cond (.tmp 35) (.seq (.keep [12, 14, 15] (.ops [⟨0, some 37, .mv (.tmp 14), none, []⟩, ⟨1, some 38, .mv (.tmp 12), none, []⟩, ⟨2, some 39, .mv (.tmp 14), none, []⟩, ⟨3, some 40, .bin .sub (.tmp 38) (.tmp 39), none, []⟩, ⟨4, some 41, .mv (.tmp 15), none, []⟩, ⟨5, some 8, .mv (.tmp 37), none, []⟩, ⟨6, some 9, .mv (.const (.int .i64 0)), none, []⟩, ⟨7, some 10, .mv (.tmp 40), none, []⟩, ⟨8, some 11, .mv (.tmp 41), none, []⟩]))
  (.ret)) (.seq (.keep [12, 13, 14, 15, 30] (.ops [⟨0, some 43, .bin .eql (.tmp 30) (.const (.int .i64 2)), none, []⟩, ⟨1, some 42, .mv (.tmp 43), none, []⟩]))
  (.cond (.tmp 42) (.seq (.ops [⟨0, some 44, .mv (.tmp 15), none, []⟩, ⟨1, some 45, .mv (.tmp 14), none, []⟩, ⟨2, some 46, .mv (.tmp 13), none, []⟩, ⟨3, some 47, .mv (.tmp 15), none, []⟩, ⟨4, some 48, .bin .sub (.tmp 46) (.tmp 47), none, []⟩, ⟨5, some 8, .mv (.const (.int .i64 0)), none, []⟩, ⟨6, some 9, .mv (.tmp 44), none, []⟩, ⟨7, some 10, .mv (.tmp 45), none, []⟩, ⟨8, some 11, .mv (.tmp 48), none, []⟩])
  (.ret)) (.skip)))))))))
  (.seq (.ops [⟨0, some 49, .mv (.tmp 14), none, []⟩, ⟨1, some 50, .mv (.tmp 15), none, []⟩, ⟨2, some 51, .mv (.tmp 12), none, []⟩, ⟨3, some 52, .mv (.tmp 14), none, []⟩, ⟨4, some 53, .bin .sub (.tmp 51) (.tmp 52), none, []⟩, ⟨5, some 54, .mv (.tmp 13), none, []⟩, ⟨6, some 55, .mv (.tmp 15), none, []⟩, ⟨7, some 56, .bin .sub (.tmp 54) (.tmp 55), none, []⟩, ⟨8, some 8, .mv (.tmp 49), none, []⟩, ⟨9, some 9, .mv (.tmp 50), none, []⟩, ⟨10, some 10, .mv (.tmp 53), none, []⟩, ⟨11, some 11, .mv (.tmp 56), none, []⟩])
  (.ret)))))
theorem k_s_l04Region : FnOk Try.prog n_s_l04Region 4 c_s_l04Region [.tmp 8, .tmp 9, .tmp 10, .tmp 11] := ⟨by kernel_rfl⟩
def c_i_within : ACode :=
  .seq (.ops [⟨0, some 6, .mv (.const (.bool false)), none, []⟩])
  (.seq (.ops [⟨0, some 7, .mv (.tmp 0), none, []⟩, ⟨1, some 8, .mv (.tmp 1), none, []⟩, ⟨2, some 9, .bin .geq (.tmp 7) (.tmp 8), none, []⟩, ⟨3, some 10, .mv (.tmp 9), none, []⟩, ⟨4, some 11, .mv (.tmp 0), (some (10, true)), []⟩, ⟨5, some 12, .mv (.tmp 2), (some (10, true)), []⟩, ⟨6, some 13, .bin .leq (.tmp 11) (.tmp 12), (some (10, true)), []⟩, ⟨7, some 14, .pick (.tmp 10) (.tmp 13) (.const (.bool false)), none, []⟩, ⟨8, some 6, .mv (.tmp 14), none, []⟩])
  (.ret))
theorem k_i_within : FnOk Try.prog n_i_within 3 c_i_within [.tmp 6] := ⟨by kernel_rfl⟩
def c_i_areLevels : ACode :=
  .seq (.ops [⟨0, some 2, .mv (.const (.bool false)), none, []⟩])
  (.seq (.ops [⟨0, some 3, .mv (.tmp 0), none, []⟩, ⟨1, some 4, .call n_i_within [.tmp 3, .const (.int .i64 1), .const (.int .i64 4)], none, []⟩, ⟨2, some 2, .mv (.tmp 4), none, []⟩])
  (.ret))
theorem k_i_areLevels : FnOk Try.prog n_i_areLevels 1 c_i_areLevels [.tmp 2] := ⟨by kernel_rfl⟩
def c_i_halfOf : ACode :=
  .seq (.ops [⟨0, some 4, .mv (.const (.int .i64 0)), none, []⟩])
  (.seq (.seq (.ops [⟨0, some 5, .mv (.tmp 1), none, []⟩, ⟨1, some 6, .mv (.const (.int .i64 0)), none, []⟩])
  (.block 0 (.loop [0, 5, 6] (.seq (.ops [⟨0, some 7, .bin .lss (.tmp 6) (.tmp 5), none, []⟩])
  (.seq (.cond (.tmp 7) (.skip) (.exit 0))
  (.seq (.block 1 (.ops [⟨0, some 8, .mv (.tmp 0), none, []⟩, ⟨1, some 9, .bin .add (.tmp 8) (.const (.int .i64 1)), none, []⟩, ⟨2, some 10, .bin .quo (.tmp 9) (.const (.int .i64 2)), none, []⟩, ⟨3, some 0, .mv (.tmp 10), none, []⟩]))
  (.ops [⟨0, some 11, .bin .add (.tmp 6) (.const (.int .i64 1)), none, []⟩, ⟨1, some 6, .mv (.tmp 11), none, []⟩])))))))
  (.seq (.ops [⟨0, some 12, .mv (.tmp 0), none, []⟩, ⟨1, some 4, .mv (.tmp 12), none, []⟩])
  (.ret)))
theorem k_i_halfOf : FnOk Try.prog n_i_halfOf 2 c_i_halfOf [.tmp 4] := ⟨by kernel_rfl⟩
def c_s_l04Halves : ACode :=
  .seq (.ops [⟨0, some 6, .mv (.const (.int .i64 0)), none, []⟩, ⟨1, some 7, .mv (.const (.int .i64 0)), none, []⟩])
  (.seq (.seq (.ops [⟨0, some 8, .mv (.const (.int .i64 0)), none, []⟩])
  (.block 0 (.loop [0, 1, 2, 8] (.seq (.seq (.ops [⟨0, some 9, .mv (.tmp 8), none, []⟩, ⟨1, some 10, .mv (.tmp 2), none, []⟩, ⟨2, some 11, .bin .lss (.tmp 9) (.tmp 10), none, []⟩])
  (.cond (.tmp 11) (.skip) (.exit 0)))
  (.seq (.block 1 (.seq (.ops [⟨0, some 14, .mv (.tmp 0), none, []⟩, ⟨1, some 15, .bin .add (.tmp 14) (.const (.int .i64 1)), none, []⟩, ⟨2, some 16, .bin .quo (.tmp 15) (.const (.int .i64 2)), none, []⟩, ⟨3, some 0, .mv (.tmp 16), none, []⟩])
  (.keep [0, 1, 2, 8] (.ops [⟨0, some 17, .mv (.tmp 1), none, []⟩, ⟨1, some 18, .bin .add (.tmp 17) (.const (.int .i64 1)), none, []⟩, ⟨2, some 19, .bin .quo (.tmp 18) (.const (.int .i64 2)), none, []⟩, ⟨3, some 1, .mv (.tmp 19), none, []⟩]))))
  (.ops [⟨0, some 12, .mv (.tmp 8), none, []⟩, ⟨1, some 13, .bin .add (.tmp 12) (.const (.int .i64 1)), none, []⟩, ⟨2, some 8, .mv (.tmp 13), none, []⟩]))))))
  (.seq (.keep [0, 1] (.ops [⟨0, some 20, .mv (.tmp 0), none, []⟩, ⟨1, some 21, .mv (.tmp 1), none, []⟩, ⟨2, some 6, .mv (.tmp 20), none, []⟩, ⟨3, some 7, .mv (.tmp 21), none, []⟩]))
  (.ret)))
theorem k_s_l04Halves : FnOk Try.prog n_s_l04Halves 3 c_s_l04Halves [.tmp 6, .tmp 7] := ⟨by kernel_rfl⟩
end Go.Proofs.Ytkojmlpaamdhoaa

/- The code of functions, for the abstract machine; printed by a program (gen.py). -/
import Derived.Test.YtkojmlpaamdhoabGxFn
import Derived.Test.YtkojmlpaamdhoabProg
namespace Go.Proofs.Ytkojmlpaamdhoab
open Go.Gx
set_option maxRecDepth 100000
abbrev t_int64 : Nat := 2
abbrev t_int : Nat := 3
abbrev t_bool : Nat := 4
abbrev t_uint8 : Nat := 5
abbrev t_sfloat32 : Nat := 22
abbrev t_ssfloat32 : Nat := 23
abbrev t_float32 : Nat := 45
abbrev t_float64 : Nat := 49
abbrev t_sint64 : Nat := 72
abbrev t_sint : Nat := 113
abbrev t_Bands : Nat := 28
abbrev t_Picture : Nat := 35
abbrev t_Pair : Nat := 67
abbrev n_w_FnExactSwapSides : Nat := 5
abbrev n_w_szPicture : Nat := 19
abbrev n_w_toPicture : Nat := 21
abbrev n_w_eqPicture : Nat := 23
abbrev n_w_markPicture : Nat := 24
abbrev n_w_heldPicture : Nat := 25
abbrev n_s_SwapSides : Nat := 26
abbrev n_i_SwapSides : Nat := 27
abbrev n_w_sameFloat : Nat := 32
abbrev n_w_eqFloat32S : Nat := 41
abbrev n_w_markFloat32S : Nat := 44
abbrev n_w_heldFloat32S : Nat := 45
abbrev n_w_szFloat32S : Nat := 59
abbrev n_w_toFloat32S : Nat := 61
abbrev n_i_within : Nat := 62
abbrev n_i_areFinite : Nat := 63
abbrev n_s_l04Is : Nat := 64
abbrev n_i_ValidPicture : Nat := 68
abbrev n_s_l04Swap : Nat := 71
abbrev n_i_pictureBy : Nat := 72
abbrev n_i_SwapSides_1 : Nat := 73
abbrev n_i_validPicture : Nat := 91
abbrev n_s_l02Finite : Nat := 93
abbrev n_i_IsFinite : Nat := 102
abbrev n_s_l04Sides : Nat := 103
abbrev n_s_l00In : Nat := 104
abbrev n_s_l01Finite : Nat := 110
def c_w_FnExactSwapSides : ACode :=
  .seq (.ops [⟨0, some 1, .box 33 (.tmp 0), none, []⟩, ⟨1, some 2, .mv (.const (.bool false)), none, []⟩])
  (.seq (.ops [⟨0, some 3, .mv (.const (.int .i64 1048576)), none, []⟩])
  (.seq (.ops [⟨0, some 14, .ldn 3 (.tmp 1), none, []⟩, ⟨1, some 15, .mv (.tmp 3), none, []⟩, ⟨2, some 16, .call n_w_szPicture [.tmp 14, .tmp 15], none, []⟩, ⟨3, some 3, .mv (.tmp 16), none, []⟩])
  (.seq (.seq (.keep [1, 3] (.ops [⟨0, some 17, .mv (.tmp 3), none, []⟩, ⟨1, some 18, .bin .lss (.tmp 17) (.const (.int .i64 0)), none, []⟩]))
  (.cond (.tmp 18) (.seq (.ops [⟨0, some 2, .mv (.const (.bool true)), none, []⟩])
  (.ret)) (.skip)))
  (.seq (.ops [⟨0, some 20, .ldn 3 (.tmp 1), none, []⟩, ⟨1, some 21, .call n_w_toPicture [.tmp 20], none, []⟩, ⟨2, some 22, .call n_s_SwapSides [.tmp 21], none, []⟩, ⟨3, some 19, .mv (.tmp 22), none, []⟩, ⟨4, some 23, .ext (.tmp 19) 0, none, []⟩, ⟨5, some 24, .ext (.tmp 19) 1, none, []⟩, ⟨6, some 4, .new 35 [.int .i64 0, .int .i64 0, .slice none 0 0], none, []⟩, ⟨7, none, .stn 3 (.tmp 4) (.tmp 23), none, []⟩, ⟨8, some 5, .mv (.tmp 24), none, []⟩])
  (.seq (.keep [1, 4, 5] (.ops [⟨0, some 25, .ldn 3 (.tmp 1), none, []⟩, ⟨1, some 26, .call n_w_toPicture [.tmp 25], none, []⟩, ⟨2, some 6, .new 35 [.int .i64 0, .int .i64 0, .slice none 0 0], none, []⟩, ⟨3, none, .stn 3 (.tmp 6) (.tmp 26), none, []⟩]))
  (.seq (.ops [⟨0, some 28, .ldn 3 (.tmp 6), none, []⟩, ⟨1, some 29, .call n_i_SwapSides [.tmp 28], none, []⟩, ⟨2, some 27, .mv (.tmp 29), none, []⟩, ⟨3, some 30, .ext (.tmp 27) 0, none, []⟩, ⟨4, some 31, .ext (.tmp 27) 1, none, []⟩, ⟨5, some 7, .new 35 [.int .i64 0, .int .i64 0, .slice none 0 0], none, []⟩, ⟨6, none, .stn 3 (.tmp 7) (.tmp 30), none, []⟩, ⟨7, some 8, .mv (.tmp 31), none, []⟩])
  (.seq (.seq (.keep [1, 4, 5, 6, 7, 8] (.ops [⟨0, some 32, .ldn 3 (.tmp 7), none, []⟩, ⟨1, some 33, .ldn 3 (.tmp 4), none, []⟩, ⟨2, some 34, .call n_w_eqPicture [.tmp 32, .tmp 33], none, []⟩, ⟨3, some 35, .un .not (.tmp 34), none, []⟩, ⟨4, some 36, .mv (.tmp 35), none, []⟩, ⟨5, some 37, .mv (.tmp 8), (some (36, false)), []⟩, ⟨6, some 38, .mv (.tmp 5), (some (36, false)), []⟩, ⟨7, some 39, .beq true (.tmp 37) (.tmp 38), (some (36, false)), []⟩, ⟨8, some 40, .pick (.tmp 36) (.const (.bool true)) (.tmp 39), none, []⟩]))
  (.cond (.tmp 40) (.seq (.keep [] (.ops [⟨0, some 2, .mv (.const (.bool false)), none, []⟩]))
  (.ret)) (.skip)))
  (.seq (.seq (.keep [1, 4, 5, 6, 7, 8] (.ops [⟨0, some 41, .ldn 3 (.tmp 6), none, []⟩, ⟨1, some 42, .ldn 3 (.tmp 1), none, []⟩, ⟨2, some 43, .call n_w_toPicture [.tmp 42], none, [(some 41, .ldn 3 (.tmp 6), none)]⟩, ⟨3, some 44, .call n_w_eqPicture [.tmp 41, .tmp 43], none, []⟩, ⟨4, some 45, .un .not (.tmp 44), none, []⟩]))
  (.cond (.tmp 45) (.seq (.keep [] (.ops [⟨0, some 2, .mv (.const (.bool false)), none, []⟩]))
  (.ret)) (.skip)))
  (.seq (.keep [1, 4, 5, 6, 7, 8] (.ops [⟨0, some 9, .mv (.const (.int .i64 1)), none, []⟩]))
  (.seq (.ops [⟨0, some 46, .ldn 3 (.tmp 6), none, []⟩, ⟨1, some 47, .mv (.tmp 9), none, []⟩, ⟨2, some 48, .call n_w_markPicture [.tmp 46, .tmp 47], none, []⟩, ⟨3, some 9, .mv (.tmp 48), none, []⟩])
  (.seq (.seq (.ops [⟨0, some 49, .mv (.tmp 9), none, []⟩, ⟨1, some 50, .bin .lss (.tmp 49) (.const (.int .i64 0)), none, []⟩, ⟨2, some 51, .mv (.tmp 50), none, []⟩, ⟨3, some 52, .ldn 3 (.tmp 7), (some (51, false)), []⟩, ⟨4, some 53, .ldn 3 (.tmp 4), (some (51, false)), []⟩, ⟨5, some 54, .call n_w_eqPicture [.tmp 52, .tmp 53], (some (51, false)), []⟩, ⟨6, some 55, .un .not (.tmp 54), (some (51, false)), []⟩, ⟨7, some 56, .pick (.tmp 51) (.const (.bool true)) (.tmp 55), none, []⟩, ⟨8, some 57, .mv (.tmp 56), none, []⟩, ⟨9, some 58, .mv (.tmp 8), (some (57, false)), []⟩, ⟨10, some 59, .mv (.tmp 5), (some (57, false)), []⟩, ⟨11, some 60, .beq true (.tmp 58) (.tmp 59), (some (57, false)), []⟩, ⟨12, some 61, .pick (.tmp 57) (.const (.bool true)) (.tmp 60), none, []⟩])
  (.cond (.tmp 61) (.seq (.keep [] (.ops [⟨0, some 2, .mv (.const (.bool false)), none, []⟩]))
  (.ret)) (.skip)))
  (.seq (.keep [1, 4, 5, 7] (.ops [⟨0, some 10, .mv (.const (.int .i64 1)), none, []⟩]))
  (.seq (.ops [⟨0, some 62, .ldn 3 (.tmp 7), none, []⟩, ⟨1, some 63, .mv (.tmp 10), none, []⟩, ⟨2, some 64, .call n_w_markPicture [.tmp 62, .tmp 63], none, []⟩, ⟨3, some 10, .mv (.tmp 64), none, []⟩])
  (.seq (.ops [⟨0, some 11, .mv (.const (.int .i64 1)), none, []⟩])
  (.seq (.ops [⟨0, some 65, .ldn 3 (.tmp 7), none, []⟩, ⟨1, some 66, .mv (.tmp 11), none, []⟩, ⟨2, some 67, .call n_w_heldPicture [.tmp 65, .tmp 66], none, []⟩, ⟨3, some 11, .mv (.tmp 67), none, []⟩])
  (.seq (.seq (.keep [1, 4, 5, 7, 10, 11] (.ops [⟨0, some 68, .mv (.tmp 11), none, []⟩, ⟨1, some 69, .bin .lss (.tmp 68) (.const (.int .i64 0)), none, []⟩]))
  (.cond (.tmp 69) (.seq (.keep [] (.ops [⟨0, some 2, .mv (.const (.bool false)), none, []⟩]))
  (.ret)) (.skip)))
  (.seq (.seq (.ops [⟨0, some 70, .mv (.tmp 11), none, []⟩, ⟨1, some 71, .mv (.tmp 10), none, []⟩, ⟨2, some 72, .bin .neq (.tmp 70) (.tmp 71), none, []⟩])
  (.cond (.tmp 72) (.seq (.keep [] (.ops [⟨0, some 2, .mv (.const (.bool false)), none, []⟩]))
  (.ret)) (.skip)))
  (.seq (.keep [1, 4, 5, 7, 10] (.ops [⟨0, some 74, .ldn 3 (.tmp 1), none, []⟩, ⟨1, some 75, .call n_w_toPicture [.tmp 74], none, []⟩, ⟨2, some 76, .call n_i_SwapSides [.tmp 75], none, []⟩, ⟨3, some 73, .mv (.tmp 76), none, []⟩, ⟨4, some 77, .ext (.tmp 73) 0, none, []⟩, ⟨5, some 78, .ext (.tmp 73) 1, none, []⟩, ⟨6, some 12, .new 35 [.int .i64 0, .int .i64 0, .slice none 0 0], none, []⟩, ⟨7, none, .stn 3 (.tmp 12) (.tmp 77), none, []⟩, ⟨8, some 13, .mv (.tmp 78), none, []⟩]))
  (.seq (.seq (.keep [4, 5, 7, 10, 12, 13] (.ops [⟨0, some 79, .ldn 3 (.tmp 12), none, []⟩, ⟨1, some 80, .ldn 3 (.tmp 4), none, []⟩, ⟨2, some 81, .call n_w_eqPicture [.tmp 79, .tmp 80], none, []⟩, ⟨3, some 82, .un .not (.tmp 81), none, []⟩, ⟨4, some 83, .mv (.tmp 82), none, []⟩, ⟨5, some 84, .mv (.tmp 13), (some (83, false)), []⟩, ⟨6, some 85, .mv (.tmp 5), (some (83, false)), []⟩, ⟨7, some 86, .beq true (.tmp 84) (.tmp 85), (some (83, false)), []⟩, ⟨8, some 87, .pick (.tmp 83) (.const (.bool true)) (.tmp 86), none, []⟩]))
  (.cond (.tmp 87) (.seq (.keep [] (.ops [⟨0, some 2, .mv (.const (.bool false)), none, []⟩]))
  (.ret)) (.skip)))
  (.seq (.keep [7, 10] (.ops [⟨0, some 11, .mv (.const (.int .i64 1)), none, []⟩]))
  (.seq (.ops [⟨0, some 88, .ldn 3 (.tmp 7), none, []⟩, ⟨1, some 89, .mv (.tmp 11), none, []⟩, ⟨2, some 90, .call n_w_heldPicture [.tmp 88, .tmp 89], none, []⟩, ⟨3, some 11, .mv (.tmp 90), none, []⟩])
  (.seq (.seq (.ops [⟨0, some 91, .mv (.tmp 11), none, []⟩, ⟨1, some 92, .bin .lss (.tmp 91) (.const (.int .i64 0)), none, []⟩])
  (.cond (.tmp 92) (.seq (.keep [] (.ops [⟨0, some 2, .mv (.const (.bool false)), none, []⟩]))
  (.ret)) (.skip)))
  (.seq (.seq (.keep [10, 11] (.ops [⟨0, some 93, .mv (.tmp 11), none, []⟩, ⟨1, some 94, .mv (.tmp 10), none, []⟩, ⟨2, some 95, .bin .neq (.tmp 93) (.tmp 94), none, []⟩]))
  (.cond (.tmp 95) (.seq (.keep [] (.ops [⟨0, some 2, .mv (.const (.bool false)), none, []⟩]))
  (.ret)) (.skip)))
  (.seq (.keep [] (.ops [⟨0, some 2, .mv (.const (.bool true)), none, []⟩]))
  (.ret)))))))))))))))))))))))))
theorem k_w_FnExactSwapSides : FnOk Try.prog n_w_FnExactSwapSides 1 c_w_FnExactSwapSides [.tmp 2] := ⟨by kernel_rfl⟩
def c_w_szPicture : ACode :=
  .seq (.ops [⟨0, some 2, .box 33 (.tmp 0), none, []⟩, ⟨1, some 4, .mv (.const (.int .i64 0)), none, []⟩])
  (.seq (.ops [⟨0, some 5, .fa 2 (.tmp 2), none, []⟩, ⟨1, some 6, .ld (.tmp 5), none, []⟩, ⟨2, some 7, .mv (.tmp 1), none, []⟩, ⟨3, some 8, .call n_w_szFloat32S [.tmp 6, .tmp 7], none, []⟩, ⟨4, some 1, .mv (.tmp 8), none, []⟩])
  (.seq (.seq (.keep [1] (.ops [⟨0, some 9, .mv (.tmp 1), none, []⟩, ⟨1, some 10, .bin .lss (.tmp 9) (.const (.int .i64 0)), none, []⟩]))
  (.cond (.tmp 10) (.seq (.ops [⟨0, some 4, .mv (.const (.int .i64 (-1))), none, []⟩])
  (.ret)) (.skip)))
  (.seq (.ops [⟨0, some 11, .mv (.tmp 1), none, []⟩, ⟨1, some 4, .mv (.tmp 11), none, []⟩])
  (.ret))))
theorem k_w_szPicture : FnOk Try.prog n_w_szPicture 2 c_w_szPicture [.tmp 4] := ⟨by kernel_rfl⟩
def c_w_toPicture : ACode :=
  .seq (.ops [⟨0, some 1, .box 33 (.tmp 0), none, []⟩, ⟨1, some 2, .new 35 [.int .i64 0, .int .i64 0, .slice none 0 0], none, []⟩])
  (.seq (.ops [⟨0, some 3, .new 35 [.int .i64 0, .int .i64 0, .slice none 0 0], none, []⟩])
  (.seq (.ops [⟨0, some 4, .fa 0 (.tmp 1), none, []⟩, ⟨1, some 5, .ld (.tmp 4), none, []⟩, ⟨2, some 6, .fa 0 (.tmp 3), none, []⟩, ⟨3, none, .st (.tmp 6) (.tmp 5), none, []⟩])
  (.seq (.ops [⟨0, some 7, .fa 1 (.tmp 1), none, []⟩, ⟨1, some 8, .ld (.tmp 7), none, []⟩, ⟨2, some 9, .fa 1 (.tmp 3), none, []⟩, ⟨3, none, .st (.tmp 9) (.tmp 8), none, []⟩])
  (.seq (.keep [1, 2, 3] (.ops [⟨0, some 10, .fa 2 (.tmp 1), none, []⟩, ⟨1, some 11, .ld (.tmp 10), none, []⟩, ⟨2, some 12, .call n_w_toFloat32S [.tmp 11], none, []⟩, ⟨3, some 13, .fa 2 (.tmp 3), none, []⟩, ⟨4, none, .st (.tmp 13) (.tmp 12), none, []⟩]))
  (.seq (.keep [2, 3] (.ops [⟨0, some 14, .ldn 3 (.tmp 3), none, []⟩, ⟨1, none, .stn 3 (.tmp 2) (.tmp 14), none, []⟩]))
  (.ret))))))
theorem k_w_toPicture : FnOk Try.prog n_w_toPicture 1 c_w_toPicture [.celln 2 3] := ⟨by kernel_rfl⟩
def c_w_eqPicture : ACode :=
  .seq (.ops [⟨0, some 2, .box 35 (.tmp 0), none, []⟩, ⟨1, some 3, .box 35 (.tmp 1), none, []⟩, ⟨2, some 4, .mv (.const (.bool false)), none, []⟩])
  (.seq (.seq (.ops [⟨0, some 5, .fa 0 (.tmp 2), none, []⟩, ⟨1, some 6, .ld (.tmp 5), none, []⟩, ⟨2, some 7, .fa 0 (.tmp 3), none, []⟩, ⟨3, some 8, .ld (.tmp 7), none, []⟩, ⟨4, some 9, .bin .neq (.tmp 6) (.tmp 8), none, []⟩])
  (.cond (.tmp 9) (.seq (.keep [] (.ops [⟨0, some 4, .mv (.const (.bool false)), none, []⟩]))
  (.ret)) (.skip)))
  (.seq (.seq (.keep [2, 3] (.ops [⟨0, some 10, .fa 1 (.tmp 2), none, []⟩, ⟨1, some 11, .ld (.tmp 10), none, []⟩, ⟨2, some 12, .fa 1 (.tmp 3), none, []⟩, ⟨3, some 13, .ld (.tmp 12), none, []⟩, ⟨4, some 14, .bin .neq (.tmp 11) (.tmp 13), none, []⟩]))
  (.cond (.tmp 14) (.seq (.keep [] (.ops [⟨0, some 4, .mv (.const (.bool false)), none, []⟩]))
  (.ret)) (.skip)))
  (.seq (.seq (.keep [2, 3] (.ops [⟨0, some 15, .fa 2 (.tmp 2), none, []⟩, ⟨1, some 16, .ld (.tmp 15), none, []⟩, ⟨2, some 17, .fa 2 (.tmp 3), none, []⟩, ⟨3, some 18, .ld (.tmp 17), none, []⟩, ⟨4, some 19, .call n_w_eqFloat32S [.tmp 16, .tmp 18], none, []⟩, ⟨5, some 20, .un .not (.tmp 19), none, []⟩]))
  (.cond (.tmp 20) (.seq (.keep [] (.ops [⟨0, some 4, .mv (.const (.bool false)), none, []⟩]))
  (.ret)) (.skip)))
  (.seq (.keep [] (.ops [⟨0, some 4, .mv (.const (.bool true)), none, []⟩]))
  (.ret)))))
theorem k_w_eqPicture : FnOk Try.prog n_w_eqPicture 2 c_w_eqPicture [.tmp 4] := ⟨by kernel_rfl⟩
def c_w_markPicture : ACode :=
  .seq (.ops [⟨0, some 2, .box 35 (.tmp 0), none, []⟩, ⟨1, some 4, .mv (.const (.int .i64 0)), none, []⟩])
  (.seq (.ops [⟨0, some 5, .fa 2 (.tmp 2), none, []⟩, ⟨1, some 6, .ld (.tmp 5), none, []⟩, ⟨2, some 7, .mv (.tmp 1), none, []⟩, ⟨3, some 8, .call n_w_markFloat32S [.tmp 6, .tmp 7], none, []⟩, ⟨4, some 1, .mv (.tmp 8), none, []⟩])
  (.seq (.keep [1] (.ops [⟨0, some 9, .mv (.tmp 1), none, []⟩, ⟨1, some 4, .mv (.tmp 9), none, []⟩]))
  (.ret)))
theorem k_w_markPicture : FnOk Try.prog n_w_markPicture 2 c_w_markPicture [.tmp 4] := ⟨by kernel_rfl⟩
def c_w_heldPicture : ACode :=
  .seq (.ops [⟨0, some 2, .box 35 (.tmp 0), none, []⟩, ⟨1, some 4, .mv (.const (.int .i64 0)), none, []⟩])
  (.seq (.ops [⟨0, some 5, .fa 2 (.tmp 2), none, []⟩, ⟨1, some 6, .ld (.tmp 5), none, []⟩, ⟨2, some 7, .mv (.tmp 1), none, []⟩, ⟨3, some 8, .call n_w_heldFloat32S [.tmp 6, .tmp 7], none, []⟩, ⟨4, some 1, .mv (.tmp 8), none, []⟩])
  (.seq (.seq (.keep [1] (.ops [⟨0, some 9, .mv (.tmp 1), none, []⟩, ⟨1, some 10, .bin .lss (.tmp 9) (.const (.int .i64 0)), none, []⟩]))
  (.cond (.tmp 10) (.seq (.ops [⟨0, some 4, .mv (.const (.int .i64 (-1))), none, []⟩])
  (.ret)) (.skip)))
  (.seq (.ops [⟨0, some 11, .mv (.tmp 1), none, []⟩, ⟨1, some 4, .mv (.tmp 11), none, []⟩])
  (.ret))))
theorem k_w_heldPicture : FnOk Try.prog n_w_heldPicture 2 c_w_heldPicture [.tmp 4] := ⟨by kernel_rfl⟩
def c_s_SwapSides : ACode :=
  .seq (.ops [⟨0, some 1, .box 35 (.tmp 0), none, []⟩, ⟨1, some 2, .new 35 [.int .i64 0, .int .i64 0, .slice none 0 0], none, []⟩, ⟨2, some 3, .mv (.const (.bool false)), none, []⟩])
  (.seq (.seq (.ops [⟨0, some 4, .call n_s_l04Is [.tmp 1], none, []⟩, ⟨1, some 5, .un .not (.tmp 4), none, []⟩])
  (.cond (.tmp 5) (.seq (.keep [2] (.ops [⟨0, some 6, .bld [.int .i64 0, .int .i64 0, .slice none 0 0] [], none, []⟩, ⟨1, none, .stn 3 (.tmp 2) (.tmp 6), none, []⟩, ⟨2, some 3, .mv (.const (.bool false)), none, []⟩]))
  (.ret)) (.skip)))
  (.seq (.ops [⟨0, some 7, .call n_s_l04Swap [.tmp 1], none, []⟩, ⟨1, none, .stn 3 (.tmp 2) (.tmp 7), none, []⟩, ⟨2, some 3, .mv (.const (.bool true)), none, []⟩])
  (.ret)))
theorem k_s_SwapSides : FnOk Try.prog n_s_SwapSides 1 c_s_SwapSides [.celln 2 3, .tmp 3] := ⟨by kernel_rfl⟩
def c_i_SwapSides : ACode :=
  .seq (.ops [⟨0, some 1, .box 35 (.tmp 0), none, []⟩, ⟨1, some 2, .new 35 [.int .i64 0, .int .i64 0, .slice none 0 0], none, []⟩, ⟨2, some 3, .mv (.const (.bool false)), none, []⟩])
  (.seq (.seq (.ops [⟨0, some 4, .ldn 3 (.tmp 1), none, []⟩, ⟨1, some 5, .call n_i_ValidPicture [.tmp 4], none, []⟩, ⟨2, some 6, .un .not (.tmp 5), none, []⟩])
  (.cond (.tmp 6) (.seq (.keep [2] (.ops [⟨0, some 7, .bld [.int .i64 0, .int .i64 0, .slice none 0 0] [], none, []⟩, ⟨1, none, .stn 3 (.tmp 2) (.tmp 7), none, []⟩, ⟨2, some 3, .mv (.const (.bool false)), none, []⟩]))
  (.ret)) (.skip)))
  (.seq (.keep [1, 2] (.ops [⟨0, some 8, .fa 1 (.tmp 1), none, []⟩, ⟨1, some 9, .ld (.tmp 8), none, []⟩, ⟨2, some 10, .fa 0 (.tmp 1), none, []⟩, ⟨3, some 11, .ld (.tmp 10), none, []⟩, ⟨4, some 12, .mkf (.func n_i_SwapSides_1) [] [.tmp 1], none, []⟩, ⟨5, some 13, .call n_i_pictureBy [.tmp 9, .tmp 11, .tmp 12], none, []⟩, ⟨6, some 14, .ext (.tmp 13) 0, none, []⟩, ⟨7, some 15, .ext (.tmp 13) 1, none, []⟩, ⟨8, none, .stn 3 (.tmp 2) (.tmp 14), none, []⟩, ⟨9, some 3, .mv (.tmp 15), none, []⟩]))
  (.ret)))
theorem k_i_SwapSides : FnOk Try.prog n_i_SwapSides 1 c_i_SwapSides [.celln 2 3, .tmp 3] := ⟨by kernel_rfl⟩
def c_w_sameFloat : ACode :=
  .seq (.ops [⟨0, some 4, .mv (.const (.bool false)), none, []⟩])
  (.seq (.seq (.ops [⟨0, some 5, .mv (.tmp 0), none, []⟩, ⟨1, some 6, .mv (.tmp 0), none, []⟩, ⟨2, some 7, .bin .neq (.tmp 5) (.tmp 6), none, []⟩, ⟨3, some 8, .mv (.tmp 7), none, []⟩, ⟨4, some 9, .mv (.tmp 1), (some (8, false)), []⟩, ⟨5, some 10, .mv (.tmp 1), (some (8, false)), []⟩, ⟨6, some 11, .bin .neq (.tmp 9) (.tmp 10), (some (8, false)), []⟩, ⟨7, some 12, .pick (.tmp 8) (.const (.bool true)) (.tmp 11), none, []⟩])
  (.cond (.tmp 12) (.seq (.keep [0, 1] (.ops [⟨0, some 13, .mv (.tmp 0), none, []⟩, ⟨1, some 14, .mv (.tmp 0), none, []⟩, ⟨2, some 15, .bin .neq (.tmp 13) (.tmp 14), none, []⟩, ⟨3, some 16, .mv (.tmp 15), none, []⟩, ⟨4, some 17, .mv (.tmp 1), (some (16, true)), []⟩, ⟨5, some 18, .mv (.tmp 1), (some (16, true)), []⟩, ⟨6, some 19, .bin .neq (.tmp 17) (.tmp 18), (some (16, true)), []⟩, ⟨7, some 20, .pick (.tmp 16) (.tmp 19) (.const (.bool false)), none, []⟩, ⟨8, some 4, .mv (.tmp 20), none, []⟩]))
  (.ret)) (.skip)))
  (.seq (.seq (.keep [0, 1] (.ops [⟨0, some 21, .mv (.tmp 0), none, []⟩, ⟨1, some 22, .bin .eql (.tmp 21) (.const (.float .f64 0)), none, []⟩, ⟨2, some 23, .mv (.tmp 22), none, []⟩, ⟨3, some 24, .mv (.tmp 1), (some (23, true)), []⟩, ⟨4, some 25, .bin .eql (.tmp 24) (.const (.float .f64 0)), (some (23, true)), []⟩, ⟨5, some 26, .pick (.tmp 23) (.tmp 25) (.const (.bool false)), none, []⟩]))
  (.cond (.tmp 26) (.seq (.keep [0, 1] (.ops [⟨0, some 27, .mv (.tmp 0), none, []⟩, ⟨1, some 28, .bin .quo (.const (.float .f64 4607182418800017408)) (.tmp 27), none, []⟩, ⟨2, some 29, .bin .gtr (.tmp 28) (.const (.float .f64 0)), none, []⟩, ⟨3, some 30, .mv (.tmp 1), none, []⟩, ⟨4, some 31, .bin .quo (.const (.float .f64 4607182418800017408)) (.tmp 30), none, []⟩, ⟨5, some 32, .bin .gtr (.tmp 31) (.const (.float .f64 0)), none, []⟩, ⟨6, some 33, .beq false (.tmp 29) (.tmp 32), none, []⟩, ⟨7, some 4, .mv (.tmp 33), none, []⟩]))
  (.ret)) (.skip)))
  (.seq (.keep [0, 1] (.ops [⟨0, some 34, .mv (.tmp 0), none, []⟩, ⟨1, some 35, .mv (.tmp 1), none, []⟩, ⟨2, some 36, .bin .eql (.tmp 34) (.tmp 35), none, []⟩, ⟨3, some 4, .mv (.tmp 36), none, []⟩]))
  (.ret))))
theorem k_w_sameFloat : FnOk Try.prog n_w_sameFloat 2 c_w_sameFloat [.tmp 4] := ⟨by kernel_rfl⟩
def c_w_eqFloat32S : ACode :=
  .seq (.ops [⟨0, some 4, .mv (.const (.bool false)), none, []⟩])
  (.seq (.seq (.ops [⟨0, some 6, .mv (.tmp 0), none, []⟩, ⟨1, some 7, .len (.tmp 6), none, []⟩, ⟨2, some 8, .mv (.tmp 1), none, []⟩, ⟨3, some 9, .len (.tmp 8), none, []⟩, ⟨4, some 10, .bin .neq (.tmp 7) (.tmp 9), none, []⟩])
  (.cond (.tmp 10) (.seq (.keep [] (.ops [⟨0, some 4, .mv (.const (.bool false)), none, []⟩]))
  (.ret)) (.skip)))
  (.seq (.seq (.keep [0, 1] (.ops [⟨0, some 5, .mv (.const (.int .i64 0)), none, []⟩]))
  (.block 0 (.loop [0, 1, 5] (.seq (.seq (.ops [⟨0, some 11, .mv (.tmp 5), none, []⟩, ⟨1, some 12, .mv (.tmp 0), none, []⟩, ⟨2, some 13, .len (.tmp 12), none, []⟩, ⟨3, some 14, .bin .lss (.tmp 11) (.tmp 13), none, []⟩])
  (.cond (.tmp 14) (.skip) (.exit 0)))
  (.seq (.block 1 (.seq (.ops [⟨0, some 17, .mv (.tmp 0), none, []⟩, ⟨1, some 18, .mv (.tmp 5), none, []⟩, ⟨2, some 19, .ia (.tmp 17) (.tmp 18), none, []⟩, ⟨3, some 20, .ld (.tmp 19), none, []⟩, ⟨4, some 21, .cv (.f .f64) (.tmp 20), none, []⟩, ⟨5, some 22, .mv (.tmp 1), none, []⟩, ⟨6, some 23, .mv (.tmp 5), none, []⟩, ⟨7, some 24, .ia (.tmp 22) (.tmp 23), none, []⟩, ⟨8, some 25, .ld (.tmp 24), none, []⟩, ⟨9, some 26, .cv (.f .f64) (.tmp 25), none, []⟩, ⟨10, some 27, .call n_w_sameFloat [.tmp 21, .tmp 26], none, []⟩, ⟨11, some 28, .un .not (.tmp 27), none, []⟩])
  (.cond (.tmp 28) (.seq (.keep [] (.ops [⟨0, some 4, .mv (.const (.bool false)), none, []⟩]))
  (.ret)) (.skip))))
  (.keep [0, 1, 5] (.ops [⟨0, some 15, .mv (.tmp 5), none, []⟩, ⟨1, some 16, .bin .add (.tmp 15) (.const (.int .i64 1)), none, []⟩, ⟨2, some 5, .mv (.tmp 16), none, []⟩])))))))
  (.seq (.keep [] (.ops [⟨0, some 4, .mv (.const (.bool true)), none, []⟩]))
  (.ret))))
theorem k_w_eqFloat32S : FnOk Try.prog n_w_eqFloat32S 2 c_w_eqFloat32S [.tmp 4] := ⟨by kernel_rfl⟩
def c_w_markFloat32S : ACode :=
  .seq (.ops [⟨0, some 4, .mv (.const (.int .i64 0)), none, []⟩])
  (.seq (.seq (.ops [⟨0, some 5, .mv (.const (.int .i64 0)), none, []⟩])
  (.block 0 (.loop [0, 1, 5] (.seq (.seq (.ops [⟨0, some 6, .mv (.tmp 5), none, []⟩, ⟨1, some 7, .mv (.tmp 0), none, []⟩, ⟨2, some 8, .len (.tmp 7), none, []⟩, ⟨3, some 9, .bin .lss (.tmp 6) (.tmp 8), none, []⟩])
  (.cond (.tmp 9) (.skip) (.exit 0)))
  (.seq (.block 1 (.seq (.ops [⟨0, some 12, .mv (.tmp 0), none, []⟩, ⟨1, some 13, .mv (.tmp 5), none, []⟩, ⟨2, some 14, .mv (.tmp 1), none, []⟩, ⟨3, some 15, .cv (.f .f32) (.tmp 14), none, []⟩, ⟨4, some 16, .ia (.tmp 12) (.tmp 13), none, []⟩, ⟨5, none, .st (.tmp 16) (.tmp 15), none, []⟩])
  (.keep [0, 1, 5] (.ops [⟨0, some 17, .mv (.tmp 1), none, []⟩, ⟨1, some 18, .bin .add (.tmp 17) (.const (.int .i64 1)), none, []⟩, ⟨2, some 1, .mv (.tmp 18), none, []⟩]))))
  (.ops [⟨0, some 10, .mv (.tmp 5), none, []⟩, ⟨1, some 11, .bin .add (.tmp 10) (.const (.int .i64 1)), none, []⟩, ⟨2, some 5, .mv (.tmp 11), none, []⟩]))))))
  (.seq (.keep [1] (.ops [⟨0, some 19, .mv (.tmp 1), none, []⟩, ⟨1, some 4, .mv (.tmp 19), none, []⟩]))
  (.ret)))
theorem k_w_markFloat32S : FnOk Try.prog n_w_markFloat32S 2 c_w_markFloat32S [.tmp 4] := ⟨by kernel_rfl⟩
def c_w_heldFloat32S : ACode :=
  .seq (.ops [⟨0, some 4, .mv (.const (.int .i64 0)), none, []⟩])
  (.seq (.seq (.ops [⟨0, some 5, .mv (.const (.int .i64 0)), none, []⟩])
  (.block 0 (.loop [0, 1, 5] (.seq (.seq (.ops [⟨0, some 6, .mv (.tmp 5), none, []⟩, ⟨1, some 7, .mv (.tmp 0), none, []⟩, ⟨2, some 8, .len (.tmp 7), none, []⟩, ⟨3, some 9, .bin .lss (.tmp 6) (.tmp 8), none, []⟩])
  (.cond (.tmp 9) (.skip) (.exit 0)))
  (.seq (.block 1 (.seq (.seq (.ops [⟨0, some 12, .mv (.tmp 0), none, []⟩, ⟨1, some 13, .mv (.tmp 5), none, []⟩, ⟨2, some 14, .ia (.tmp 12) (.tmp 13), none, []⟩, ⟨3, some 15, .ld (.tmp 14), none, []⟩, ⟨4, some 16, .mv (.tmp 1), none, []⟩, ⟨5, some 17, .cv (.f .f32) (.tmp 16), none, []⟩, ⟨6, some 18, .bin .neq (.tmp 15) (.tmp 17), none, []⟩])
  (.cond (.tmp 18) (.seq (.keep [] (.ops [⟨0, some 4, .mv (.const (.int .i64 (-1))), none, []⟩]))
  (.ret)) (.skip)))
  (.keep [0, 1, 5] (.ops [⟨0, some 19, .mv (.tmp 1), none, []⟩, ⟨1, some 20, .bin .add (.tmp 19) (.const (.int .i64 1)), none, []⟩, ⟨2, some 1, .mv (.tmp 20), none, []⟩]))))
  (.ops [⟨0, some 10, .mv (.tmp 5), none, []⟩, ⟨1, some 11, .bin .add (.tmp 10) (.const (.int .i64 1)), none, []⟩, ⟨2, some 5, .mv (.tmp 11), none, []⟩]))))))
  (.seq (.keep [1] (.ops [⟨0, some 21, .mv (.tmp 1), none, []⟩, ⟨1, some 4, .mv (.tmp 21), none, []⟩]))
  (.ret)))
theorem k_w_heldFloat32S : FnOk Try.prog n_w_heldFloat32S 2 c_w_heldFloat32S [.tmp 4] := ⟨by kernel_rfl⟩
def c_w_szFloat32S : ACode :=
  .seq (.ops [⟨0, some 4, .mv (.const (.int .i64 0)), none, []⟩])
  (.seq (.ops [⟨0, some 5, .mv (.tmp 1), none, []⟩, ⟨1, some 6, .mv (.tmp 0), none, []⟩, ⟨2, some 7, .len (.tmp 6), none, []⟩, ⟨3, some 8, .bin .sub (.tmp 5) (.tmp 7), none, []⟩, ⟨4, some 1, .mv (.tmp 8), none, []⟩])
  (.seq (.seq (.keep [1] (.ops [⟨0, some 9, .mv (.tmp 1), none, []⟩, ⟨1, some 10, .bin .lss (.tmp 9) (.const (.int .i64 0)), none, []⟩]))
  (.cond (.tmp 10) (.seq (.ops [⟨0, some 4, .mv (.const (.int .i64 (-1))), none, []⟩])
  (.ret)) (.skip)))
  (.seq (.ops [⟨0, some 11, .mv (.tmp 1), none, []⟩, ⟨1, some 4, .mv (.tmp 11), none, []⟩])
  (.ret))))
theorem k_w_szFloat32S : FnOk Try.prog n_w_szFloat32S 2 c_w_szFloat32S [.tmp 4] := ⟨by kernel_rfl⟩
def c_w_toFloat32S : ACode :=
  .seq (.ops [⟨0, some 2, .mv (.const (.slice none 0 0)), none, []⟩])
  (.seq (.ops [⟨0, some 5, .mv (.tmp 0), none, []⟩, ⟨1, some 6, .len (.tmp 5), none, []⟩, ⟨2, some 7, .mks 45 4 (.float .f32 0) (.tmp 6) (.tmp 6), none, []⟩, ⟨3, some 3, .mv (.tmp 7), none, []⟩])
  (.seq (.seq (.ops [⟨0, some 4, .mv (.const (.int .i64 0)), none, []⟩])
  (.block 0 (.loop [0, 3, 4] (.seq (.seq (.ops [⟨0, some 8, .mv (.tmp 4), none, []⟩, ⟨1, some 9, .mv (.tmp 0), none, []⟩, ⟨2, some 10, .len (.tmp 9), none, []⟩, ⟨3, some 11, .bin .lss (.tmp 8) (.tmp 10), none, []⟩])
  (.cond (.tmp 11) (.skip) (.exit 0)))
  (.seq (.block 1 (.ops [⟨0, some 14, .mv (.tmp 3), none, []⟩, ⟨1, some 15, .mv (.tmp 4), none, []⟩, ⟨2, some 16, .mv (.tmp 0), none, []⟩, ⟨3, some 17, .mv (.tmp 4), none, []⟩, ⟨4, some 18, .ia (.tmp 16) (.tmp 17), none, []⟩, ⟨5, some 19, .ld (.tmp 18), none, []⟩, ⟨6, some 20, .ia (.tmp 14) (.tmp 15), none, []⟩, ⟨7, none, .st (.tmp 20) (.tmp 19), none, []⟩]))
  (.keep [0, 3, 4] (.ops [⟨0, some 12, .mv (.tmp 4), none, []⟩, ⟨1, some 13, .bin .add (.tmp 12) (.const (.int .i64 1)), none, []⟩, ⟨2, some 4, .mv (.tmp 13), none, []⟩])))))))
  (.seq (.keep [3] (.ops [⟨0, some 21, .mv (.tmp 3), none, []⟩, ⟨1, some 2, .mv (.tmp 21), none, []⟩]))
  (.ret))))
theorem k_w_toFloat32S : FnOk Try.prog n_w_toFloat32S 1 c_w_toFloat32S [.tmp 2] := ⟨by kernel_rfl⟩
def c_i_within : ACode :=
  .seq (.ops [⟨0, some 6, .mv (.const (.bool false)), none, []⟩])
  (.seq (.ops [⟨0, some 7, .mv (.tmp 0), none, []⟩, ⟨1, some 8, .mv (.tmp 1), none, []⟩, ⟨2, some 9, .bin .geq (.tmp 7) (.tmp 8), none, []⟩, ⟨3, some 10, .mv (.tmp 9), none, []⟩, ⟨4, some 11, .mv (.tmp 0), (some (10, true)), []⟩, ⟨5, some 12, .mv (.tmp 2), (some (10, true)), []⟩, ⟨6, some 13, .bin .leq (.tmp 11) (.tmp 12), (some (10, true)), []⟩, ⟨7, some 14, .pick (.tmp 10) (.tmp 13) (.const (.bool false)), none, []⟩, ⟨8, some 6, .mv (.tmp 14), none, []⟩])
  (.ret))
theorem k_i_within : FnOk Try.prog n_i_within 3 c_i_within [.tmp 6] := ⟨by kernel_rfl⟩
def c_i_areFinite : ACode :=
  .seq (.ops [⟨0, some 2, .mv (.const (.bool false)), none, []⟩])
  (.seq (.seq (.ops [⟨0, some 7, .mv (.tmp 0), none, []⟩, ⟨1, some 8, .len (.tmp 7), none, []⟩, ⟨2, some 9, .mv (.const (.int .i64 0)), none, []⟩])
  (.block 0 (.loop [7, 8, 9] (.seq (.ops [⟨0, some 10, .bin .lss (.tmp 9) (.tmp 8), none, []⟩])
  (.seq (.cond (.tmp 10) (.skip) (.exit 0))
  (.seq (.block 1 (.seq (.ops [⟨0, some 11, .ia (.tmp 7) (.tmp 9), none, []⟩, ⟨1, some 12, .ld (.tmp 11), none, []⟩, ⟨2, some 4, .mv (.tmp 12), none, []⟩])
  (.seq (.ops [⟨0, some 13, .mv (.tmp 4), none, []⟩, ⟨1, some 14, .len (.tmp 13), none, []⟩, ⟨2, some 15, .mv (.const (.int .i64 0)), none, []⟩])
  (.block 2 (.loop [7, 8, 9, 13, 14, 15] (.seq (.ops [⟨0, some 16, .bin .lss (.tmp 15) (.tmp 14), none, []⟩])
  (.seq (.cond (.tmp 16) (.skip) (.exit 2))
  (.seq (.block 3 (.seq (.ops [⟨0, some 17, .ia (.tmp 13) (.tmp 15), none, []⟩, ⟨1, some 18, .ld (.tmp 17), none, []⟩, ⟨2, some 6, .mv (.tmp 18), none, []⟩])
  (.seq (.ops [⟨0, some 19, .mv (.tmp 6), none, []⟩, ⟨1, some 20, .call n_i_IsFinite [.tmp 19], none, []⟩, ⟨2, some 21, .un .not (.tmp 20), none, []⟩])
  (.cond (.tmp 21) (.seq (.keep [] (.ops [⟨0, some 2, .mv (.const (.bool false)), none, []⟩]))
  (.ret)) (.skip)))))
  (.keep [7, 8, 9, 13, 14, 15] (.ops [⟨0, some 22, .bin .add (.tmp 15) (.const (.int .i64 1)), none, []⟩, ⟨1, some 15, .mv (.tmp 22), none, []⟩]))))))))))
  (.ops [⟨0, some 23, .bin .add (.tmp 9) (.const (.int .i64 1)), none, []⟩, ⟨1, some 9, .mv (.tmp 23), none, []⟩])))))))
  (.seq (.ops [⟨0, some 2, .mv (.const (.bool true)), none, []⟩])
  (.ret)))
theorem k_i_areFinite : FnOk Try.prog n_i_areFinite 1 c_i_areFinite [.tmp 2] := ⟨by kernel_rfl⟩
def c_s_l04Is : ACode :=
  .seq (.ops [⟨0, some 2, .mv (.const (.bool false)), none, []⟩])
  (.seq (.ops [⟨0, some 3, .mv (.tmp 0), none, []⟩, ⟨1, some 4, .nc (.tmp 3), none, []⟩, ⟨2, some 5, .fa 0 (.tmp 4), none, []⟩, ⟨3, some 6, .ld (.tmp 5), none, []⟩, ⟨4, some 7, .mv (.tmp 0), none, []⟩, ⟨5, some 8, .nc (.tmp 7), none, []⟩, ⟨6, some 9, .fa 1 (.tmp 8), none, []⟩, ⟨7, some 10, .ld (.tmp 9), none, []⟩, ⟨8, some 11, .call n_s_l04Sides [.tmp 6, .tmp 10], none, []⟩, ⟨9, some 12, .mv (.tmp 11), none, []⟩, ⟨10, some 13, .mv (.tmp 0), (some (12, true)), []⟩, ⟨11, some 14, .nc (.tmp 13), (some (12, true)), []⟩, ⟨12, some 15, .fa 2 (.tmp 14), (some (12, true)), []⟩, ⟨13, some 16, .ld (.tmp 15), (some (12, true)), []⟩, ⟨14, some 17, .len (.tmp 16), (some (12, true)), []⟩, ⟨15, some 18, .mv (.tmp 0), (some (12, true)), []⟩, ⟨16, some 19, .nc (.tmp 18), (some (12, true)), []⟩, ⟨17, some 20, .fa 0 (.tmp 19), (some (12, true)), []⟩, ⟨18, some 21, .ld (.tmp 20), (some (12, true)), []⟩, ⟨19, some 22, .mv (.tmp 0), (some (12, true)), []⟩, ⟨20, some 23, .nc (.tmp 22), (some (12, true)), []⟩, ⟨21, some 24, .fa 1 (.tmp 23), (some (12, true)), []⟩, ⟨22, some 25, .ld (.tmp 24), (some (12, true)), []⟩, ⟨23, some 26, .bin .mul (.tmp 21) (.tmp 25), (some (12, true)), []⟩, ⟨24, some 27, .bin .eql (.tmp 17) (.tmp 26), (some (12, true)), []⟩, ⟨25, some 28, .pick (.tmp 12) (.tmp 27) (.const (.bool false)), none, []⟩, ⟨26, some 29, .mv (.tmp 28), none, []⟩, ⟨27, some 30, .mv (.tmp 0), (some (29, true)), []⟩, ⟨28, some 31, .nc (.tmp 30), (some (29, true)), []⟩, ⟨29, some 32, .fa 2 (.tmp 31), (some (29, true)), []⟩, ⟨30, some 33, .ld (.tmp 32), (some (29, true)), []⟩, ⟨31, some 34, .call n_s_l02Finite [.tmp 33], (some (29, true)), []⟩, ⟨32, some 35, .pick (.tmp 29) (.tmp 34) (.const (.bool false)), none, []⟩, ⟨33, some 2, .mv (.tmp 35), none, []⟩])
  (.ret))
theorem k_s_l04Is : FnOk Try.prog n_s_l04Is 1 c_s_l04Is [.tmp 2] := ⟨by kernel_rfl⟩
def c_i_ValidPicture : ACode :=
  .seq (.ops [⟨0, some 1, .box 35 (.tmp 0), none, []⟩, ⟨1, some 2, .mv (.const (.bool false)), none, []⟩])
  (.seq (.ops [⟨0, some 3, .fa 0 (.tmp 1), none, []⟩, ⟨1, some 4, .ld (.tmp 3), none, []⟩, ⟨2, some 5, .call n_i_within [.tmp 4, .const (.int .i64 1), .const (.int .i64 16)], none, []⟩, ⟨3, some 6, .mv (.tmp 5), none, []⟩, ⟨4, some 7, .fa 1 (.tmp 1), (some (6, true)), []⟩, ⟨5, some 8, .ld (.tmp 7), (some (6, true)), []⟩, ⟨6, some 9, .call n_i_within [.tmp 8, .const (.int .i64 1), .const (.int .i64 16)], (some (6, true)), []⟩, ⟨7, some 10, .pick (.tmp 6) (.tmp 9) (.const (.bool false)), none, []⟩, ⟨8, some 11, .mv (.tmp 10), none, []⟩, ⟨9, some 12, .fa 2 (.tmp 1), (some (11, true)), []⟩, ⟨10, some 13, .ld (.tmp 12), (some (11, true)), []⟩, ⟨11, some 14, .len (.tmp 13), (some (11, true)), []⟩, ⟨12, some 15, .fa 0 (.tmp 1), (some (11, true)), []⟩, ⟨13, some 16, .ld (.tmp 15), (some (11, true)), []⟩, ⟨14, some 17, .fa 1 (.tmp 1), (some (11, true)), []⟩, ⟨15, some 18, .ld (.tmp 17), (some (11, true)), []⟩, ⟨16, some 19, .bin .mul (.tmp 16) (.tmp 18), (some (11, true)), []⟩, ⟨17, some 20, .bin .eql (.tmp 14) (.tmp 19), (some (11, true)), []⟩, ⟨18, some 21, .pick (.tmp 11) (.tmp 20) (.const (.bool false)), none, []⟩, ⟨19, some 22, .mv (.tmp 21), none, []⟩, ⟨20, some 23, .fa 2 (.tmp 1), (some (22, true)), []⟩, ⟨21, some 24, .ld (.tmp 23), (some (22, true)), []⟩, ⟨22, some 25, .bsl 22 1 (.slice none 0 0) [(0, .tmp 24)], (some (22, true)), []⟩, ⟨23, some 26, .call n_i_areFinite [.tmp 25], (some (22, true)), []⟩, ⟨24, some 27, .pick (.tmp 22) (.tmp 26) (.const (.bool false)), none, []⟩, ⟨25, some 2, .mv (.tmp 27), none, []⟩])
  (.ret))
theorem k_i_ValidPicture : FnOk Try.prog n_i_ValidPicture 1 c_i_ValidPicture [.tmp 2] := ⟨by kernel_rfl⟩
def c_s_l04Swap : ACode :=
  .seq (.ops [⟨0, some 2, .new 35 [.int .i64 0, .int .i64 0, .slice none 0 0], none, []⟩])
  (.seq (.both 8 10 (.ops [⟨0, some 5, .mv (.tmp 0), none, []⟩, ⟨1, some 6, .nc (.tmp 5), none, []⟩, ⟨2, some 7, .fa 1 (.tmp 6), none, []⟩, ⟨3, some 8, .ld (.tmp 7), none, []⟩, ⟨4, some 9, .mv (.tmp 0), none, []⟩, ⟨5, some 10, .nc (.tmp 9), none, []⟩, ⟨6, some 11, .fa 0 (.tmp 10), none, []⟩, ⟨7, some 12, .ld (.tmp 11), none, []⟩, ⟨8, some 13, .bsl 45 0 (.float .f32 0) [], none, [(some 8, .ld (.tmp 7), none), (some 12, .ld (.tmp 11), none)]⟩, ⟨9, some 14, .bld [.int .i64 0, .int .i64 0, .slice none 0 0] [(0, 1, .tmp 8), (1, 1, .tmp 12), (2, 1, .tmp 13)], none, []⟩, ⟨10, some 3, .new 35 [.int .i64 0, .int .i64 0, .slice none 0 0], none, [(some 8, .ld (.tmp 7), none), (some 12, .ld (.tmp 11), none)]⟩, ⟨11, none, .stn 3 (.tmp 3) (.tmp 14), none, []⟩]) (.ops [⟨0, some 5, .mv (.tmp 0), none, []⟩, ⟨1, some 6, .nc (.tmp 5), none, []⟩, ⟨2, some 7, .fa 1 (.tmp 6), none, []⟩, ⟨3, some 8, .ld (.tmp 7), none, []⟩, ⟨4, some 9, .mv (.tmp 0), none, []⟩, ⟨5, some 10, .nc (.tmp 9), none, []⟩, ⟨6, some 11, .fa 0 (.tmp 10), none, []⟩, ⟨7, some 12, .ld (.tmp 11), none, []⟩, ⟨10, some 3, .new 35 [.int .i64 0, .int .i64 0, .slice none 0 0], none, [(some 8, .ld (.tmp 7), none), (some 12, .ld (.tmp 11), none)]⟩, ⟨8, some 13, .bsl 45 0 (.float .f32 0) [], none, [(some 8, .ld (.tmp 7), none), (some 12, .ld (.tmp 11), none)]⟩, ⟨9, some 14, .bld [.int .i64 0, .int .i64 0, .slice none 0 0] [(0, 1, .tmp 8), (1, 1, .tmp 12), (2, 1, .tmp 13)], none, []⟩, ⟨11, none, .stn 3 (.tmp 3) (.tmp 14), none, []⟩]))
  (.seq (.seq (.keep [0, 2, 3] (.ops [⟨0, some 4, .mv (.const (.int .i64 0)), none, []⟩]))
  (.block 0 (.loop [0, 2, 3, 4] (.seq (.seq (.ops [⟨0, some 15, .mv (.tmp 4), none, []⟩, ⟨1, some 16, .mv (.tmp 0), none, []⟩, ⟨2, some 17, .nc (.tmp 16), none, []⟩, ⟨3, some 18, .fa 0 (.tmp 17), none, []⟩, ⟨4, some 19, .ld (.tmp 18), none, []⟩, ⟨5, some 20, .mv (.tmp 0), none, []⟩, ⟨6, some 21, .nc (.tmp 20), none, []⟩, ⟨7, some 22, .fa 1 (.tmp 21), none, []⟩, ⟨8, some 23, .ld (.tmp 22), none, []⟩, ⟨9, some 24, .bin .mul (.tmp 19) (.tmp 23), none, []⟩, ⟨10, some 25, .bin .lss (.tmp 15) (.tmp 24), none, []⟩])
  (.cond (.tmp 25) (.skip) (.exit 0)))
  (.seq (.block 1 (.keep [0, 2, 3, 4] (.ops [⟨0, some 28, .fa 2 (.tmp 3), none, []⟩, ⟨1, some 29, .ld (.tmp 28), none, []⟩, ⟨2, some 30, .mv (.tmp 0), none, []⟩, ⟨3, some 31, .nc (.tmp 30), none, []⟩, ⟨4, some 32, .fa 2 (.tmp 31), none, []⟩, ⟨5, some 33, .ld (.tmp 32), none, []⟩, ⟨6, some 34, .mv (.tmp 4), none, []⟩, ⟨7, some 35, .mv (.tmp 0), none, []⟩, ⟨8, some 36, .nc (.tmp 35), none, []⟩, ⟨9, some 37, .fa 1 (.tmp 36), none, []⟩, ⟨10, some 38, .ld (.tmp 37), none, []⟩, ⟨11, some 39, .bin .rem (.tmp 34) (.tmp 38), none, []⟩, ⟨12, some 40, .mv (.tmp 0), none, []⟩, ⟨13, some 41, .nc (.tmp 40), none, []⟩, ⟨14, some 42, .fa 0 (.tmp 41), none, []⟩, ⟨15, some 43, .ld (.tmp 42), none, []⟩, ⟨16, some 44, .bin .mul (.tmp 39) (.tmp 43), none, []⟩, ⟨17, some 45, .mv (.tmp 4), none, []⟩, ⟨18, some 46, .mv (.tmp 0), none, []⟩, ⟨19, some 47, .nc (.tmp 46), none, []⟩, ⟨20, some 48, .fa 1 (.tmp 47), none, []⟩, ⟨21, some 49, .ld (.tmp 48), none, []⟩, ⟨22, some 50, .bin .quo (.tmp 45) (.tmp 49), none, []⟩, ⟨23, some 51, .bin .add (.tmp 44) (.tmp 50), none, []⟩, ⟨24, some 52, .ia (.tmp 33) (.tmp 51), none, []⟩, ⟨25, some 53, .ld (.tmp 52), none, []⟩, ⟨26, some 54, .bsl 45 1 (.float .f32 0) [(0, .tmp 53)], none, [(some 29, .ld (.tmp 28), none)]⟩, ⟨27, some 55, .app 45 4 (.tmp 29) (.tmp 54), none, []⟩, ⟨28, some 56, .fa 2 (.tmp 3), none, []⟩, ⟨29, none, .st (.tmp 56) (.tmp 55), none, []⟩])))
  (.keep [0, 2, 3, 4] (.ops [⟨0, some 26, .mv (.tmp 4), none, []⟩, ⟨1, some 27, .bin .add (.tmp 26) (.const (.int .i64 1)), none, []⟩, ⟨2, some 4, .mv (.tmp 27), none, []⟩])))))))
  (.seq (.keep [2, 3] (.ops [⟨0, some 57, .ldn 3 (.tmp 3), none, []⟩, ⟨1, none, .stn 3 (.tmp 2) (.tmp 57), none, []⟩]))
  (.ret))))
theorem k_s_l04Swap : FnOk Try.prog n_s_l04Swap 1 c_s_l04Swap [.celln 2 3] := ⟨by kernel_rfl⟩
def c_i_pictureBy : ACode :=
  .seq (.ops [⟨0, some 6, .new 35 [.int .i64 0, .int .i64 0, .slice none 0 0], none, []⟩, ⟨1, some 7, .mv (.const (.bool false)), none, []⟩])
  (.seq (.seq (.ops [⟨0, some 11, .mv (.tmp 0), none, []⟩, ⟨1, some 12, .call n_i_within [.tmp 11, .const (.int .i64 1), .const (.int .i64 16)], none, []⟩, ⟨2, some 13, .un .not (.tmp 12), none, []⟩, ⟨3, some 14, .mv (.tmp 13), none, []⟩, ⟨4, some 15, .mv (.tmp 1), (some (14, false)), []⟩, ⟨5, some 16, .call n_i_within [.tmp 15, .const (.int .i64 1), .const (.int .i64 16)], (some (14, false)), []⟩, ⟨6, some 17, .un .not (.tmp 16), (some (14, false)), []⟩, ⟨7, some 18, .pick (.tmp 14) (.const (.bool true)) (.tmp 17), none, []⟩])
  (.cond (.tmp 18) (.seq (.keep [6] (.ops [⟨0, some 19, .bld [.int .i64 0, .int .i64 0, .slice none 0 0] [], none, []⟩, ⟨1, none, .stn 3 (.tmp 6) (.tmp 19), none, []⟩, ⟨2, some 7, .mv (.const (.bool false)), none, []⟩]))
  (.ret)) (.skip)))
  (.seq (.keep [0, 1, 2, 6] (.ops [⟨0, some 20, .mv (.tmp 0), none, []⟩, ⟨1, some 21, .mv (.tmp 1), none, []⟩, ⟨2, some 22, .bld [.int .i64 0, .int .i64 0, .slice none 0 0] [(0, 1, .tmp 20), (1, 1, .tmp 21)], none, []⟩, ⟨3, some 8, .new 35 [.int .i64 0, .int .i64 0, .slice none 0 0], none, []⟩, ⟨4, none, .stn 3 (.tmp 8) (.tmp 22), none, []⟩]))
  (.seq (.seq (.ops [⟨0, some 23, .mv (.tmp 1), none, []⟩, ⟨1, some 24, .mv (.const (.int .i64 0)), none, []⟩])
  (.block 0 (.loop [0, 2, 6, 8, 23, 24] (.seq (.ops [⟨0, some 25, .bin .lss (.tmp 24) (.tmp 23), none, []⟩])
  (.seq (.cond (.tmp 25) (.skip) (.exit 0))
  (.seq (.block 1 (.seq (.ops [⟨0, some 26, .mv (.tmp 24), none, []⟩, ⟨1, some 9, .mv (.tmp 26), none, []⟩])
  (.seq (.ops [⟨0, some 27, .mv (.tmp 0), none, []⟩, ⟨1, some 28, .mv (.const (.int .i64 0)), none, []⟩])
  (.block 2 (.loop [0, 2, 6, 8, 9, 23, 24, 27, 28] (.seq (.ops [⟨0, some 29, .bin .lss (.tmp 28) (.tmp 27), none, []⟩])
  (.seq (.cond (.tmp 29) (.skip) (.exit 2))
  (.seq (.block 3 (.seq (.ops [⟨0, some 30, .mv (.tmp 28), none, []⟩, ⟨1, some 10, .mv (.tmp 30), none, []⟩])
  (.ops [⟨0, some 31, .fa 2 (.tmp 8), none, []⟩, ⟨1, some 32, .ld (.tmp 31), none, []⟩, ⟨2, some 33, .mv (.tmp 2), none, []⟩, ⟨3, some 34, .mv (.tmp 10), none, []⟩, ⟨4, some 35, .mv (.tmp 9), none, []⟩, ⟨5, some 36, .callv (.tmp 33) [.tmp 34, .tmp 35], none, [(some 32, .ld (.tmp 31), none)]⟩, ⟨6, some 37, .bsl 45 1 (.float .f32 0) [(0, .tmp 36)], none, [(some 32, .ld (.tmp 31), none)]⟩, ⟨7, some 38, .app 45 4 (.tmp 32) (.tmp 37), none, []⟩, ⟨8, some 39, .fa 2 (.tmp 8), none, []⟩, ⟨9, none, .st (.tmp 39) (.tmp 38), none, []⟩])))
  (.keep [0, 2, 6, 8, 9, 23, 24, 27, 28] (.ops [⟨0, some 40, .bin .add (.tmp 28) (.const (.int .i64 1)), none, []⟩, ⟨1, some 28, .mv (.tmp 40), none, []⟩]))))))))))
  (.ops [⟨0, some 41, .bin .add (.tmp 24) (.const (.int .i64 1)), none, []⟩, ⟨1, some 24, .mv (.tmp 41), none, []⟩])))))))
  (.seq (.keep [6, 8] (.ops [⟨0, some 42, .ldn 3 (.tmp 8), none, []⟩, ⟨1, some 43, .call n_i_validPicture [.tmp 42], none, []⟩, ⟨2, some 44, .ext (.tmp 43) 0, none, []⟩, ⟨3, some 45, .ext (.tmp 43) 1, none, []⟩, ⟨4, none, .stn 3 (.tmp 6) (.tmp 44), none, []⟩, ⟨5, some 7, .mv (.tmp 45), none, []⟩]))
  (.ret)))))
theorem k_i_pictureBy : FnOk Try.prog n_i_pictureBy 3 c_i_pictureBy [.celln 6 3, .tmp 7] := ⟨by kernel_rfl⟩
def c_i_SwapSides_1 : ACode :=
  .seq (.ops [⟨0, some 5, .mv (.const (.float .f32 0)), none, []⟩])
  (.seq (.ops [⟨0, some 6, .fa 2 (.tmp 2), none, []⟩, ⟨1, some 7, .ld (.tmp 6), none, []⟩, ⟨2, some 8, .mv (.tmp 0), none, []⟩, ⟨3, some 9, .fa 0 (.tmp 2), none, []⟩, ⟨4, some 10, .ld (.tmp 9), none, []⟩, ⟨5, some 11, .bin .mul (.tmp 8) (.tmp 10), none, []⟩, ⟨6, some 12, .mv (.tmp 1), none, []⟩, ⟨7, some 13, .bin .add (.tmp 11) (.tmp 12), none, []⟩, ⟨8, some 14, .ia (.tmp 7) (.tmp 13), none, []⟩, ⟨9, some 15, .ld (.tmp 14), none, []⟩, ⟨10, some 5, .mv (.tmp 15), none, []⟩])
  (.ret))
theorem k_i_SwapSides_1 : FnOk Try.prog n_i_SwapSides_1 3 c_i_SwapSides_1 [.tmp 5] := ⟨by kernel_rfl⟩
def c_i_validPicture : ACode :=
  .seq (.ops [⟨0, some 1, .box 35 (.tmp 0), none, []⟩, ⟨1, some 2, .new 35 [.int .i64 0, .int .i64 0, .slice none 0 0], none, []⟩, ⟨2, some 3, .mv (.const (.bool false)), none, []⟩])
  (.seq (.seq (.ops [⟨0, some 4, .ldn 3 (.tmp 1), none, []⟩, ⟨1, some 5, .call n_i_ValidPicture [.tmp 4], none, []⟩, ⟨2, some 6, .un .not (.tmp 5), none, []⟩])
  (.cond (.tmp 6) (.seq (.keep [2] (.ops [⟨0, some 7, .bld [.int .i64 0, .int .i64 0, .slice none 0 0] [], none, []⟩, ⟨1, none, .stn 3 (.tmp 2) (.tmp 7), none, []⟩, ⟨2, some 3, .mv (.const (.bool false)), none, []⟩]))
  (.ret)) (.skip)))
  (.seq (.keep [1, 2] (.ops [⟨0, some 8, .ldn 3 (.tmp 1), none, []⟩, ⟨1, none, .stn 3 (.tmp 2) (.tmp 8), none, []⟩, ⟨2, some 3, .mv (.const (.bool true)), none, []⟩]))
  (.ret)))
theorem k_i_validPicture : FnOk Try.prog n_i_validPicture 1 c_i_validPicture [.celln 2 3, .tmp 3] := ⟨by kernel_rfl⟩
def c_s_l02Finite : ACode :=
  .seq (.ops [⟨0, some 2, .mv (.const (.bool false)), none, []⟩])
  (.seq (.seq (.ops [⟨0, some 3, .mv (.const (.int .i64 0)), none, []⟩])
  (.block 0 (.loop [0, 3] (.seq (.seq (.ops [⟨0, some 4, .mv (.tmp 3), none, []⟩, ⟨1, some 5, .mv (.tmp 0), none, []⟩, ⟨2, some 6, .len (.tmp 5), none, []⟩, ⟨3, some 7, .bin .lss (.tmp 4) (.tmp 6), none, []⟩])
  (.cond (.tmp 7) (.skip) (.exit 0)))
  (.seq (.block 1 (.seq (.ops [⟨0, some 10, .mv (.tmp 0), none, []⟩, ⟨1, some 11, .mv (.tmp 3), none, []⟩, ⟨2, some 12, .ia (.tmp 10) (.tmp 11), none, []⟩, ⟨3, some 13, .ld (.tmp 12), none, []⟩, ⟨4, some 14, .call n_s_l01Finite [.tmp 13], none, []⟩, ⟨5, some 15, .un .not (.tmp 14), none, []⟩])
  (.cond (.tmp 15) (.seq (.keep [] (.ops [⟨0, some 2, .mv (.const (.bool false)), none, []⟩]))
  (.ret)) (.skip))))
  (.keep [0, 3] (.ops [⟨0, some 8, .mv (.tmp 3), none, []⟩, ⟨1, some 9, .bin .add (.tmp 8) (.const (.int .i64 1)), none, []⟩, ⟨2, some 3, .mv (.tmp 9), none, []⟩])))))))
  (.seq (.keep [] (.ops [⟨0, some 2, .mv (.const (.bool true)), none, []⟩]))
  (.ret)))
theorem k_s_l02Finite : FnOk Try.prog n_s_l02Finite 1 c_s_l02Finite [.tmp 2] := ⟨by kernel_rfl⟩
def c_i_IsFinite : ACode :=
  .seq (.ops [⟨0, some 2, .mv (.const (.bool false)), none, []⟩])
  (.seq (.ops [⟨0, some 3, .mv (.tmp 0), none, []⟩, ⟨1, some 4, .mv (.tmp 0), none, []⟩, ⟨2, some 5, .bin .sub (.tmp 3) (.tmp 4), none, []⟩, ⟨3, some 6, .bin .eql (.tmp 5) (.const (.float .f32 0)), none, []⟩, ⟨4, some 2, .mv (.tmp 6), none, []⟩])
  (.ret))
theorem k_i_IsFinite : FnOk Try.prog n_i_IsFinite 1 c_i_IsFinite [.tmp 2] := ⟨by kernel_rfl⟩
def c_s_l04Sides : ACode :=
  .seq (.ops [⟨0, some 4, .mv (.const (.bool false)), none, []⟩])
  (.seq (.ops [⟨0, some 5, .mv (.tmp 0), none, []⟩, ⟨1, some 6, .call n_s_l00In [.tmp 5, .const (.int .i64 1), .const (.int .i64 16)], none, []⟩, ⟨2, some 7, .mv (.tmp 6), none, []⟩, ⟨3, some 8, .mv (.tmp 1), (some (7, true)), []⟩, ⟨4, some 9, .call n_s_l00In [.tmp 8, .const (.int .i64 1), .const (.int .i64 16)], (some (7, true)), []⟩, ⟨5, some 10, .pick (.tmp 7) (.tmp 9) (.const (.bool false)), none, []⟩, ⟨6, some 4, .mv (.tmp 10), none, []⟩])
  (.ret))
theorem k_s_l04Sides : FnOk Try.prog n_s_l04Sides 2 c_s_l04Sides [.tmp 4] := ⟨by kernel_rfl⟩
def c_s_l00In : ACode :=
  .seq (.ops [⟨0, some 6, .mv (.const (.bool false)), none, []⟩])
  (.seq (.ops [⟨0, some 7, .mv (.tmp 0), none, []⟩, ⟨1, some 8, .mv (.tmp 1), none, []⟩, ⟨2, some 9, .bin .geq (.tmp 7) (.tmp 8), none, []⟩, ⟨3, some 10, .mv (.tmp 9), none, []⟩, ⟨4, some 11, .mv (.tmp 0), (some (10, true)), []⟩, ⟨5, some 12, .mv (.tmp 2), (some (10, true)), []⟩, ⟨6, some 13, .bin .leq (.tmp 11) (.tmp 12), (some (10, true)), []⟩, ⟨7, some 14, .pick (.tmp 10) (.tmp 13) (.const (.bool false)), none, []⟩, ⟨8, some 6, .mv (.tmp 14), none, []⟩])
  (.ret))
theorem k_s_l00In : FnOk Try.prog n_s_l00In 3 c_s_l00In [.tmp 6] := ⟨by kernel_rfl⟩
def c_s_l01Finite : ACode :=
  .seq (.ops [⟨0, some 2, .mv (.const (.bool false)), none, []⟩])
  (.seq (.ops [⟨0, some 3, .mv (.tmp 0), none, []⟩, ⟨1, some 4, .mv (.tmp 0), none, []⟩, ⟨2, some 5, .bin .sub (.tmp 3) (.tmp 4), none, []⟩, ⟨3, some 6, .bin .eql (.tmp 5) (.const (.float .f32 0)), none, []⟩, ⟨4, some 2, .mv (.tmp 6), none, []⟩])
  (.ret))
theorem k_s_l01Finite : FnOk Try.prog n_s_l01Finite 1 c_s_l01Finite [.tmp 2] := ⟨by kernel_rfl⟩
end Go.Proofs.Ytkojmlpaamdhoab

/- The code of functions, for the abstract machine; printed by a program (gen.py). -/
import Derived.Test.YtkojmlpaamdhoaaGxFn
import Derived.Test.YtkojmlpaamdhoaaProg
namespace Go.Proofs.Ytkojmlpaamdhoaa
open Go.Gx
set_option maxRecDepth 100000
abbrev t_int64 : Nat := 2
abbrev t_int : Nat := 3
abbrev t_bool : Nat := 4
abbrev t_uint8 : Nat := 5
abbrev t_sfloat32 : Nat := 22
abbrev t_suint8 : Nat := 47
abbrev t_ssfloat32 : Nat := 52
abbrev t_float64 : Nat := 62
abbrev t_float32 : Nat := 63
abbrev t_sbool : Nat := 66
abbrev t_sint64 : Nat := 77
abbrev n_w_FnExactFourPair : Nat := 5
abbrev n_w_eqPair : Nat := 17
abbrev n_w_markPair : Nat := 18
abbrev n_w_heldPair : Nat := 19
abbrev n_s_FourPair : Nat := 22
abbrev n_i_FourPair : Nat := 23
abbrev n_w_sameFloat : Nat := 58
abbrev n_w_eqFloat32S : Nat := 63
abbrev n_w_markFloat32S : Nat := 64
abbrev n_w_heldFloat32S : Nat := 69
def c_w_FnExactFourPair : ACode :=
  .seq (.ops [⟨0, some 0, .mv (.const (.bool false)), none, []⟩])
  (.seq (.ops [⟨0, some 6, .call n_s_FourPair [], none, []⟩, ⟨1, some 1, .new 24 [.slice none 0 0], none, []⟩, ⟨2, none, .stn 1 (.tmp 1) (.tmp 6), none, []⟩])
  (.seq (.ops [⟨0, some 7, .call n_i_FourPair [], none, []⟩, ⟨1, some 2, .new 24 [.slice none 0 0], none, []⟩, ⟨2, none, .stn 1 (.tmp 2) (.tmp 7), none, []⟩])
  (.seq (.seq (.ops [⟨0, some 8, .ldn 1 (.tmp 2), none, []⟩, ⟨1, some 9, .ldn 1 (.tmp 1), none, []⟩, ⟨2, some 10, .call n_w_eqPair [.tmp 8, .tmp 9], none, []⟩, ⟨3, some 11, .un .not (.tmp 10), none, []⟩])
  (.cond (.tmp 11) (.seq (.keep [] (.ops [⟨0, some 0, .mv (.const (.bool false)), none, []⟩]))
  (.ret)) (.skip)))
  (.seq (.keep [1, 2] (.ops [⟨0, some 3, .mv (.const (.int .i64 1)), none, []⟩]))
  (.seq (.ops [⟨0, some 12, .ldn 1 (.tmp 2), none, []⟩, ⟨1, some 13, .mv (.tmp 3), none, []⟩, ⟨2, some 14, .call n_w_markPair [.tmp 12, .tmp 13], none, []⟩, ⟨3, some 3, .mv (.tmp 14), none, []⟩])
  (.seq (.ops [⟨0, some 4, .mv (.const (.int .i64 1)), none, []⟩])
  (.seq (.ops [⟨0, some 15, .ldn 1 (.tmp 2), none, []⟩, ⟨1, some 16, .mv (.tmp 4), none, []⟩, ⟨2, some 17, .call n_w_heldPair [.tmp 15, .tmp 16], none, []⟩, ⟨3, some 4, .mv (.tmp 17), none, []⟩])
  (.seq (.seq (.keep [1, 2, 3, 4] (.ops [⟨0, some 18, .mv (.tmp 4), none, []⟩, ⟨1, some 19, .bin .lss (.tmp 18) (.const (.int .i64 0)), none, []⟩]))
  (.cond (.tmp 19) (.seq (.keep [] (.ops [⟨0, some 0, .mv (.const (.bool false)), none, []⟩]))
  (.ret)) (.skip)))
  (.seq (.seq (.ops [⟨0, some 20, .mv (.tmp 4), none, []⟩, ⟨1, some 21, .mv (.tmp 3), none, []⟩, ⟨2, some 22, .bin .neq (.tmp 20) (.tmp 21), none, []⟩])
  (.cond (.tmp 22) (.seq (.keep [] (.ops [⟨0, some 0, .mv (.const (.bool false)), none, []⟩]))
  (.ret)) (.skip)))
  (.seq (.keep [1, 2, 3] (.ops [⟨0, some 23, .call n_i_FourPair [], none, []⟩, ⟨1, some 5, .new 24 [.slice none 0 0], none, []⟩, ⟨2, none, .stn 1 (.tmp 5) (.tmp 23), none, []⟩]))
  (.seq (.seq (.ops [⟨0, some 24, .ldn 1 (.tmp 5), none, []⟩, ⟨1, some 25, .ldn 1 (.tmp 1), none, []⟩, ⟨2, some 26, .call n_w_eqPair [.tmp 24, .tmp 25], none, []⟩, ⟨3, some 27, .un .not (.tmp 26), none, []⟩])
  (.cond (.tmp 27) (.seq (.keep [] (.ops [⟨0, some 0, .mv (.const (.bool false)), none, []⟩]))
  (.ret)) (.skip)))
  (.seq (.keep [2, 3] (.ops [⟨0, some 4, .mv (.const (.int .i64 1)), none, []⟩]))
  (.seq (.ops [⟨0, some 28, .ldn 1 (.tmp 2), none, []⟩, ⟨1, some 29, .mv (.tmp 4), none, []⟩, ⟨2, some 30, .call n_w_heldPair [.tmp 28, .tmp 29], none, []⟩, ⟨3, some 4, .mv (.tmp 30), none, []⟩])
  (.seq (.seq (.ops [⟨0, some 31, .mv (.tmp 4), none, []⟩, ⟨1, some 32, .bin .lss (.tmp 31) (.const (.int .i64 0)), none, []⟩])
  (.cond (.tmp 32) (.seq (.keep [] (.ops [⟨0, some 0, .mv (.const (.bool false)), none, []⟩]))
  (.ret)) (.skip)))
  (.seq (.seq (.keep [3, 4] (.ops [⟨0, some 33, .mv (.tmp 4), none, []⟩, ⟨1, some 34, .mv (.tmp 3), none, []⟩, ⟨2, some 35, .bin .neq (.tmp 33) (.tmp 34), none, []⟩]))
  (.cond (.tmp 35) (.seq (.keep [] (.ops [⟨0, some 0, .mv (.const (.bool false)), none, []⟩]))
  (.ret)) (.skip)))
  (.seq (.keep [] (.ops [⟨0, some 0, .mv (.const (.bool true)), none, []⟩]))
  (.ret)))))))))))))))))
theorem k_w_FnExactFourPair : FnOk Try.prog n_w_FnExactFourPair 0 c_w_FnExactFourPair [.tmp 0] := ⟨by kernel_rfl⟩
def c_w_eqPair : ACode :=
  .seq (.ops [⟨0, some 2, .box 24 (.tmp 0), none, []⟩, ⟨1, some 3, .box 24 (.tmp 1), none, []⟩, ⟨2, some 4, .mv (.const (.bool false)), none, []⟩])
  (.seq (.seq (.ops [⟨0, some 5, .fa 0 (.tmp 2), none, []⟩, ⟨1, some 6, .ld (.tmp 5), none, []⟩, ⟨2, some 7, .fa 0 (.tmp 3), none, []⟩, ⟨3, some 8, .ld (.tmp 7), none, []⟩, ⟨4, some 9, .call n_w_eqFloat32S [.tmp 6, .tmp 8], none, []⟩, ⟨5, some 10, .un .not (.tmp 9), none, []⟩])
  (.cond (.tmp 10) (.seq (.keep [] (.ops [⟨0, some 4, .mv (.const (.bool false)), none, []⟩]))
  (.ret)) (.skip)))
  (.seq (.keep [] (.ops [⟨0, some 4, .mv (.const (.bool true)), none, []⟩]))
  (.ret)))
theorem k_w_eqPair : FnOk Try.prog n_w_eqPair 2 c_w_eqPair [.tmp 4] := ⟨by kernel_rfl⟩
def c_w_markPair : ACode :=
  .seq (.ops [⟨0, some 2, .box 24 (.tmp 0), none, []⟩, ⟨1, some 4, .mv (.const (.int .i64 0)), none, []⟩])
  (.seq (.ops [⟨0, some 5, .fa 0 (.tmp 2), none, []⟩, ⟨1, some 6, .ld (.tmp 5), none, []⟩, ⟨2, some 7, .mv (.tmp 1), none, []⟩, ⟨3, some 8, .call n_w_markFloat32S [.tmp 6, .tmp 7], none, []⟩, ⟨4, some 1, .mv (.tmp 8), none, []⟩])
  (.seq (.keep [1] (.ops [⟨0, some 9, .mv (.tmp 1), none, []⟩, ⟨1, some 4, .mv (.tmp 9), none, []⟩]))
  (.ret)))
theorem k_w_markPair : FnOk Try.prog n_w_markPair 2 c_w_markPair [.tmp 4] := ⟨by kernel_rfl⟩
def c_w_heldPair : ACode :=
  .seq (.ops [⟨0, some 2, .box 24 (.tmp 0), none, []⟩, ⟨1, some 4, .mv (.const (.int .i64 0)), none, []⟩])
  (.seq (.ops [⟨0, some 5, .fa 0 (.tmp 2), none, []⟩, ⟨1, some 6, .ld (.tmp 5), none, []⟩, ⟨2, some 7, .mv (.tmp 1), none, []⟩, ⟨3, some 8, .call n_w_heldFloat32S [.tmp 6, .tmp 7], none, []⟩, ⟨4, some 1, .mv (.tmp 8), none, []⟩])
  (.seq (.seq (.keep [1] (.ops [⟨0, some 9, .mv (.tmp 1), none, []⟩, ⟨1, some 10, .bin .lss (.tmp 9) (.const (.int .i64 0)), none, []⟩]))
  (.cond (.tmp 10) (.seq (.ops [⟨0, some 4, .mv (.const (.int .i64 (-1))), none, []⟩])
  (.ret)) (.skip)))
  (.seq (.ops [⟨0, some 11, .mv (.tmp 1), none, []⟩, ⟨1, some 4, .mv (.tmp 11), none, []⟩])
  (.ret))))
theorem k_w_heldPair : FnOk Try.prog n_w_heldPair 2 c_w_heldPair [.tmp 4] := ⟨by kernel_rfl⟩
def c_s_FourPair : ACode :=
  .seq (.ops [⟨0, some 0, .new 24 [.slice none 0 0], none, []⟩])
  (.seq (.ops [⟨0, some 1, .bsl 63 4 (.float .f32 0) [(0, .const (.float .f32 1056392938)), (1, .const (.float .f32 1062610415)), (2, .const (.float .f32 1046840824)), (3, .const (.float .f32 3187966958))], none, []⟩, ⟨1, some 2, .bld [.slice none 0 0] [(0, 1, .tmp 1)], none, []⟩, ⟨2, none, .stn 1 (.tmp 0) (.tmp 2), none, []⟩])
  (.ret))
theorem k_s_FourPair : FnOk Try.prog n_s_FourPair 0 c_s_FourPair [.celln 0 1] := ⟨by kernel_rfl⟩
def c_i_FourPair : ACode :=
  .seq (.ops [⟨0, some 0, .new 24 [.slice none 0 0], none, []⟩])
  (.seq (.ops [⟨0, some 1, .bsl 63 4 (.float .f32 0) [(0, .const (.float .f32 1056392938)), (1, .const (.float .f32 1062610415)), (2, .const (.float .f32 1046840824)), (3, .const (.float .f32 3187966958))], none, []⟩, ⟨1, some 2, .bld [.slice none 0 0] [(0, 1, .tmp 1)], none, []⟩, ⟨2, none, .stn 1 (.tmp 0) (.tmp 2), none, []⟩])
  (.ret))
theorem k_i_FourPair : FnOk Try.prog n_i_FourPair 0 c_i_FourPair [.celln 0 1] := ⟨by kernel_rfl⟩
def c_w_sameFloat : ACode :=
  .seq (.ops [⟨0, some 4, .mv (.const (.bool false)), none, []⟩])
  (.seq (.seq (.ops [⟨0, some 5, .mv (.tmp 0), none, []⟩, ⟨1, some 6, .mv (.tmp 0), none, []⟩, ⟨2, some 7, .bin .neq (.tmp 5) (.tmp 6), none, []⟩, ⟨3, some 8, .mv (.tmp 7), none, []⟩, ⟨4, some 9, .mv (.tmp 1), (some (8, false)), []⟩, ⟨5, some 10, .mv (.tmp 1), (some (8, false)), []⟩, ⟨6, some 11, .bin .neq (.tmp 9) (.tmp 10), (some (8, false)), []⟩, ⟨7, some 12, .pick (.tmp 8) (.const (.bool true)) (.tmp 11), none, []⟩])
  (.cond (.tmp 12) (.seq (.keep [0, 1] (.ops [⟨0, some 13, .mv (.tmp 0), none, []⟩, ⟨1, some 14, .mv (.tmp 0), none, []⟩, ⟨2, some 15, .bin .neq (.tmp 13) (.tmp 14), none, []⟩, ⟨3, some 16, .mv (.tmp 15), none, []⟩, ⟨4, some 17, .mv (.tmp 1), (some (16, true)), []⟩, ⟨5, some 18, .mv (.tmp 1), (some (16, true)), []⟩, ⟨6, some 19, .bin .neq (.tmp 17) (.tmp 18), (some (16, true)), []⟩, ⟨7, some 20, .pick (.tmp 16) (.tmp 19) (.const (.bool false)), none, []⟩, ⟨8, some 4, .mv (.tmp 20), none, []⟩]))
  (.ret)) (.skip)))
  (.seq (.seq (.keep [0, 1] (.ops [⟨0, some 21, .mv (.tmp 0), none, []⟩, ⟨1, some 22, .bin .eql (.tmp 21) (.const (.float .f64 0)), none, []⟩, ⟨2, some 23, .mv (.tmp 22), none, []⟩, ⟨3, some 24, .mv (.tmp 1), (some (23, true)), []⟩, ⟨4, some 25, .bin .eql (.tmp 24) (.const (.float .f64 0)), (some (23, true)), []⟩, ⟨5, some 26, .pick (.tmp 23) (.tmp 25) (.const (.bool false)), none, []⟩]))
  (.cond (.tmp 26) (.seq (.keep [0, 1] (.ops [⟨0, some 27, .mv (.tmp 0), none, []⟩, ⟨1, some 28, .bin .quo (.const (.float .f64 4607182418800017408)) (.tmp 27), none, []⟩, ⟨2, some 29, .bin .gtr (.tmp 28) (.const (.float .f64 0)), none, []⟩, ⟨3, some 30, .mv (.tmp 1), none, []⟩, ⟨4, some 31, .bin .quo (.const (.float .f64 4607182418800017408)) (.tmp 30), none, []⟩, ⟨5, some 32, .bin .gtr (.tmp 31) (.const (.float .f64 0)), none, []⟩, ⟨6, some 33, .beq false (.tmp 29) (.tmp 32), none, []⟩, ⟨7, some 4, .mv (.tmp 33), none, []⟩]))
  (.ret)) (.skip)))
  (.seq (.keep [0, 1] (.ops [⟨0, some 34, .mv (.tmp 0), none, []⟩, ⟨1, some 35, .mv (.tmp 1), none, []⟩, ⟨2, some 36, .bin .eql (.tmp 34) (.tmp 35), none, []⟩, ⟨3, some 4, .mv (.tmp 36), none, []⟩]))
  (.ret))))
theorem k_w_sameFloat : FnOk Try.prog n_w_sameFloat 2 c_w_sameFloat [.tmp 4] := ⟨by kernel_rfl⟩
def c_w_eqFloat32S : ACode :=
  .seq (.ops [⟨0, some 4, .mv (.const (.bool false)), none, []⟩])
  (.seq (.seq (.ops [⟨0, some 6, .mv (.tmp 0), none, []⟩, ⟨1, some 7, .len (.tmp 6), none, []⟩, ⟨2, some 8, .mv (.tmp 1), none, []⟩, ⟨3, some 9, .len (.tmp 8), none, []⟩, ⟨4, some 10, .bin .neq (.tmp 7) (.tmp 9), none, []⟩])
  (.cond (.tmp 10) (.seq (.keep [] (.ops [⟨0, some 4, .mv (.const (.bool false)), none, []⟩]))
  (.ret)) (.skip)))
  (.seq (.seq (.keep [0, 1] (.ops [⟨0, some 5, .mv (.const (.int .i64 0)), none, []⟩]))
  (.block 0 (.loop [0, 1, 5] (.seq (.seq (.ops [⟨0, some 11, .mv (.tmp 5), none, []⟩, ⟨1, some 12, .mv (.tmp 0), none, []⟩, ⟨2, some 13, .len (.tmp 12), none, []⟩, ⟨3, some 14, .bin .lss (.tmp 11) (.tmp 13), none, []⟩])
  (.cond (.tmp 14) (.skip) (.exit 0)))
  (.seq (.block 1 (.seq (.ops [⟨0, some 17, .mv (.tmp 0), none, []⟩, ⟨1, some 18, .mv (.tmp 5), none, []⟩, ⟨2, some 19, .ia (.tmp 17) (.tmp 18), none, []⟩, ⟨3, some 20, .ld (.tmp 19), none, []⟩, ⟨4, some 21, .cv (.f .f64) (.tmp 20), none, []⟩, ⟨5, some 22, .mv (.tmp 1), none, []⟩, ⟨6, some 23, .mv (.tmp 5), none, []⟩, ⟨7, some 24, .ia (.tmp 22) (.tmp 23), none, []⟩, ⟨8, some 25, .ld (.tmp 24), none, []⟩, ⟨9, some 26, .cv (.f .f64) (.tmp 25), none, []⟩, ⟨10, some 27, .call n_w_sameFloat [.tmp 21, .tmp 26], none, []⟩, ⟨11, some 28, .un .not (.tmp 27), none, []⟩])
  (.cond (.tmp 28) (.seq (.keep [] (.ops [⟨0, some 4, .mv (.const (.bool false)), none, []⟩]))
  (.ret)) (.skip))))
  (.keep [0, 1, 5] (.ops [⟨0, some 15, .mv (.tmp 5), none, []⟩, ⟨1, some 16, .bin .add (.tmp 15) (.const (.int .i64 1)), none, []⟩, ⟨2, some 5, .mv (.tmp 16), none, []⟩])))))))
  (.seq (.keep [] (.ops [⟨0, some 4, .mv (.const (.bool true)), none, []⟩]))
  (.ret))))
theorem k_w_eqFloat32S : FnOk Try.prog n_w_eqFloat32S 2 c_w_eqFloat32S [.tmp 4] := ⟨by kernel_rfl⟩
def c_w_markFloat32S : ACode :=
  .seq (.ops [⟨0, some 4, .mv (.const (.int .i64 0)), none, []⟩])
  (.seq (.seq (.ops [⟨0, some 5, .mv (.const (.int .i64 0)), none, []⟩])
  (.block 0 (.loop [0, 1, 5] (.seq (.seq (.ops [⟨0, some 6, .mv (.tmp 5), none, []⟩, ⟨1, some 7, .mv (.tmp 0), none, []⟩, ⟨2, some 8, .len (.tmp 7), none, []⟩, ⟨3, some 9, .bin .lss (.tmp 6) (.tmp 8), none, []⟩])
  (.cond (.tmp 9) (.skip) (.exit 0)))
  (.seq (.block 1 (.seq (.ops [⟨0, some 12, .mv (.tmp 0), none, []⟩, ⟨1, some 13, .mv (.tmp 5), none, []⟩, ⟨2, some 14, .mv (.tmp 1), none, []⟩, ⟨3, some 15, .cv (.f .f32) (.tmp 14), none, []⟩, ⟨4, some 16, .ia (.tmp 12) (.tmp 13), none, []⟩, ⟨5, none, .st (.tmp 16) (.tmp 15), none, []⟩])
  (.keep [0, 1, 5] (.ops [⟨0, some 17, .mv (.tmp 1), none, []⟩, ⟨1, some 18, .bin .add (.tmp 17) (.const (.int .i64 1)), none, []⟩, ⟨2, some 1, .mv (.tmp 18), none, []⟩]))))
  (.ops [⟨0, some 10, .mv (.tmp 5), none, []⟩, ⟨1, some 11, .bin .add (.tmp 10) (.const (.int .i64 1)), none, []⟩, ⟨2, some 5, .mv (.tmp 11), none, []⟩]))))))
  (.seq (.keep [1] (.ops [⟨0, some 19, .mv (.tmp 1), none, []⟩, ⟨1, some 4, .mv (.tmp 19), none, []⟩]))
  (.ret)))
theorem k_w_markFloat32S : FnOk Try.prog n_w_markFloat32S 2 c_w_markFloat32S [.tmp 4] := ⟨by kernel_rfl⟩
def c_w_heldFloat32S : ACode :=
  .seq (.ops [⟨0, some 4, .mv (.const (.int .i64 0)), none, []⟩])
  (.seq (.seq (.ops [⟨0, some 5, .mv (.const (.int .i64 0)), none, []⟩])
  (.block 0 (.loop [0, 1, 5] (.seq (.seq (.ops [⟨0, some 6, .mv (.tmp 5), none, []⟩, ⟨1, some 7, .mv (.tmp 0), none, []⟩, ⟨2, some 8, .len (.tmp 7), none, []⟩, ⟨3, some 9, .bin .lss (.tmp 6) (.tmp 8), none, []⟩])
  (.cond (.tmp 9) (.skip) (.exit 0)))
  (.seq (.block 1 (.seq (.seq (.ops [⟨0, some 12, .mv (.tmp 0), none, []⟩, ⟨1, some 13, .mv (.tmp 5), none, []⟩, ⟨2, some 14, .ia (.tmp 12) (.tmp 13), none, []⟩, ⟨3, some 15, .ld (.tmp 14), none, []⟩, ⟨4, some 16, .mv (.tmp 1), none, []⟩, ⟨5, some 17, .cv (.f .f32) (.tmp 16), none, []⟩, ⟨6, some 18, .bin .neq (.tmp 15) (.tmp 17), none, []⟩])
  (.cond (.tmp 18) (.seq (.keep [] (.ops [⟨0, some 4, .mv (.const (.int .i64 (-1))), none, []⟩]))
  (.ret)) (.skip)))
  (.keep [0, 1, 5] (.ops [⟨0, some 19, .mv (.tmp 1), none, []⟩, ⟨1, some 20, .bin .add (.tmp 19) (.const (.int .i64 1)), none, []⟩, ⟨2, some 1, .mv (.tmp 20), none, []⟩]))))
  (.ops [⟨0, some 10, .mv (.tmp 5), none, []⟩, ⟨1, some 11, .bin .add (.tmp 10) (.const (.int .i64 1)), none, []⟩, ⟨2, some 5, .mv (.tmp 11), none, []⟩]))))))
  (.seq (.keep [1] (.ops [⟨0, some 21, .mv (.tmp 1), none, []⟩, ⟨1, some 4, .mv (.tmp 21), none, []⟩]))
  (.ret)))
theorem k_w_heldFloat32S : FnOk Try.prog n_w_heldFloat32S 2 c_w_heldFloat32S [.tmp 4] := ⟨by kernel_rfl⟩
end Go.Proofs.Ytkojmlpaamdhoaa

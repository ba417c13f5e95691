/- The code of functions, for the abstract machine; printed by a program (gen.py). -/
import Derived.Test.YtkojmlpaamdhoaeGxFn
import Derived.Test.YtkojmlpaamdhoaeProg
namespace Go.Proofs.Ytkojmlpaamdhoae
open Go.Gx
set_option maxRecDepth 100000
abbrev t_int64 : Nat := 2
abbrev t_int : Nat := 3
abbrev t_bool : Nat := 4
abbrev t_uint8 : Nat := 5
abbrev t_ssint64 : Nat := 22
abbrev t_sint64 : Nat := 24
abbrev t_sfloat32 : Nat := 32
abbrev t_ssfloat32 : Nat := 33
abbrev t_float32 : Nat := 37
abbrev t_float64 : Nat := 43
abbrev t_scomplex64 : Nat := 71
abbrev t_suint8 : Nat := 84
abbrev t_sbool : Nat := 90
abbrev t_sint : Nat := 95
abbrev t_complex64 : Nat := 126
abbrev t_Bands : Nat := 40
abbrev t_Pair : Nat := 51
abbrev t_Scheme : Nat := 64
abbrev n_w_FnExactRipplesOf : Nat := 10
abbrev n_w_sameFloat : Nat := 25
abbrev n_w_eqFloat32S : Nat := 31
abbrev n_w_markFloat32S : Nat := 35
abbrev n_w_eqComplex64S : Nat := 49
abbrev n_w_markComplex64S : Nat := 50
abbrev n_w_heldComplex64S : Nat := 51
abbrev n_w_toFloat32S : Nat := 55
abbrev n_s_RipplesOf : Nat := 57
abbrev n_i_RipplesOf : Nat := 58
abbrev n_i_within : Nat := 75
abbrev n_s_l03Scale : Nat := 100
abbrev n_s_l03Kernel : Nat := 101
abbrev n_i_isScale : Nat := 102
abbrev n_i_kernel : Nat := 103
abbrev n_i_finiteComplex : Nat := 104
abbrev n_w_sameComplex : Nat := 105
abbrev n_s_l03Long : Nat := 111
abbrev n_s_l03Ripples : Nat := 112
abbrev n_s_l03CFinite : Nat := 113
abbrev n_i_isLong : Nat := 114
abbrev n_i_add : Nat := 115
abbrev n_i_ScaleComplex : Nat := 116
abbrev n_i_ConjugateOf : Nat := 117
abbrev n_s_l02Finite : Nat := 139
abbrev n_s_l01Narrow : Nat := 140
abbrev n_s_l01Finite : Nat := 142
abbrev n_m_Inf : Nat := 145
abbrev n_m_NaN : Nat := 146
abbrev n_i_IsFinite : Nat := 147
abbrev n_i_areFinite : Nat := 150
abbrev n_m_Ceil : Nat := 159
abbrev n_s_l01Exp : Nat := 160
abbrev n_s_l01Scale : Nat := 161
abbrev n_s_l01Phasor : Nat := 162
abbrev n_i_ExpNumber : Nat := 163
abbrev n_i_PhasorOf : Nat := 164
abbrev n_i_IsFiniteComplex : Nat := 165
abbrev n_s_l01Conj : Nat := 172
abbrev n_s_l01CFinite : Nat := 173
abbrev n_m_IsInf : Nat := 186
abbrev n_m_Float64frombits : Nat := 187
abbrev n_m_archCeil : Nat := 193
abbrev n_m_ceil : Nat := 194
abbrev n_s_l01ExpWide : Nat := 195
abbrev n_s_l01From : Nat := 196
abbrev n_s_l01SineWide : Nat := 197
abbrev n_i_expOf : Nat := 198
abbrev n_i_isFinite64 : Nat := 199
abbrev n_m_Abs : Nat := 200
abbrev n_i_fraction : Nat := 201
abbrev n_i_sine : Nat := 202
abbrev n_m_Floor : Nat := 207
abbrev n_m_Float32frombits : Nat := 208
abbrev n_i_expWide : Nat := 209
abbrev n_m_Float64bits : Nat := 210
abbrev n_m_archFloor : Nat := 211
abbrev n_m_floor : Nat := 212
abbrev n_m_IsNaN : Nat := 213
abbrev n_m_Modf : Nat := 214
abbrev n_m_Trunc : Nat := 215
abbrev n_m_Copysign : Nat := 216
abbrev n_m_archTrunc : Nat := 217
abbrev n_m_trunc : Nat := 218
def c_w_FnExactRipplesOf : ACode :=
  .seq (.ops [⟨0, some 4, .mv (.const (.bool false)), none, []⟩])
  (.seq (.seq (.ops [⟨0, some 15, .mv (.tmp 0), none, []⟩, ⟨1, some 16, .len (.tmp 15), none, []⟩, ⟨2, some 17, .bin .gtr (.tmp 16) (.const (.int .i64 1048576)), none, []⟩])
  (.cond (.tmp 17) (.seq (.keep [] (.ops [⟨0, some 4, .mv (.const (.bool true)), none, []⟩]))
  (.ret)) (.skip)))
  (.seq (.ops [⟨0, some 19, .mv (.tmp 0), none, []⟩, ⟨1, some 20, .call n_w_toFloat32S [.tmp 19], none, []⟩, ⟨2, some 21, .mv (.tmp 1), none, []⟩, ⟨3, some 22, .call n_s_RipplesOf [.tmp 20, .tmp 21], none, []⟩, ⟨4, some 18, .mv (.tmp 22), none, []⟩, ⟨5, some 23, .ext (.tmp 18) 0, none, []⟩, ⟨6, some 24, .ext (.tmp 18) 1, none, []⟩, ⟨7, some 5, .mv (.tmp 23), none, []⟩, ⟨8, some 6, .mv (.tmp 24), none, []⟩])
  (.seq (.keep [0, 1, 5, 6] (.ops [⟨0, some 25, .mv (.tmp 0), none, []⟩, ⟨1, some 26, .call n_w_toFloat32S [.tmp 25], none, []⟩, ⟨2, some 7, .mv (.tmp 26), none, []⟩]))
  (.seq (.ops [⟨0, some 28, .mv (.tmp 7), none, []⟩, ⟨1, some 29, .mv (.tmp 1), none, []⟩, ⟨2, some 30, .call n_i_RipplesOf [.tmp 28, .tmp 29], none, []⟩, ⟨3, some 27, .mv (.tmp 30), none, []⟩, ⟨4, some 31, .ext (.tmp 27) 0, none, []⟩, ⟨5, some 32, .ext (.tmp 27) 1, none, []⟩, ⟨6, some 8, .mv (.tmp 31), none, []⟩, ⟨7, some 9, .mv (.tmp 32), none, []⟩])
  (.seq (.seq (.keep [0, 1, 5, 6, 7, 8, 9] (.ops [⟨0, some 33, .mv (.tmp 8), none, []⟩, ⟨1, some 34, .mv (.tmp 5), none, []⟩, ⟨2, some 35, .call n_w_eqComplex64S [.tmp 33, .tmp 34], none, []⟩, ⟨3, some 36, .un .not (.tmp 35), none, []⟩, ⟨4, some 37, .mv (.tmp 36), none, []⟩, ⟨5, some 38, .mv (.tmp 9), (some (37, false)), []⟩, ⟨6, some 39, .mv (.tmp 6), (some (37, false)), []⟩, ⟨7, some 40, .beq true (.tmp 38) (.tmp 39), (some (37, false)), []⟩, ⟨8, some 41, .pick (.tmp 37) (.const (.bool true)) (.tmp 40), none, []⟩]))
  (.cond (.tmp 41) (.seq (.keep [] (.ops [⟨0, some 4, .mv (.const (.bool false)), none, []⟩]))
  (.ret)) (.skip)))
  (.seq (.seq (.keep [0, 1, 5, 6, 7, 8, 9] (.ops [⟨0, some 42, .mv (.tmp 7), none, []⟩, ⟨1, some 43, .mv (.tmp 0), none, []⟩, ⟨2, some 44, .call n_w_toFloat32S [.tmp 43], none, []⟩, ⟨3, some 45, .call n_w_eqFloat32S [.tmp 42, .tmp 44], none, []⟩, ⟨4, some 46, .un .not (.tmp 45), none, []⟩]))
  (.cond (.tmp 46) (.seq (.keep [] (.ops [⟨0, some 4, .mv (.const (.bool false)), none, []⟩]))
  (.ret)) (.skip)))
  (.seq (.keep [0, 1, 5, 6, 7, 8, 9] (.ops [⟨0, some 10, .mv (.const (.int .i64 1)), none, []⟩]))
  (.seq (.ops [⟨0, some 47, .mv (.tmp 7), none, []⟩, ⟨1, some 48, .mv (.tmp 10), none, []⟩, ⟨2, some 49, .call n_w_markFloat32S [.tmp 47, .tmp 48], none, []⟩, ⟨3, some 10, .mv (.tmp 49), none, []⟩])
  (.seq (.seq (.ops [⟨0, some 50, .mv (.tmp 10), none, []⟩, ⟨1, some 51, .bin .lss (.tmp 50) (.const (.int .i64 0)), none, []⟩, ⟨2, some 52, .mv (.tmp 51), none, []⟩, ⟨3, some 53, .mv (.tmp 8), (some (52, false)), []⟩, ⟨4, some 54, .mv (.tmp 5), (some (52, false)), []⟩, ⟨5, some 55, .call n_w_eqComplex64S [.tmp 53, .tmp 54], (some (52, false)), []⟩, ⟨6, some 56, .un .not (.tmp 55), (some (52, false)), []⟩, ⟨7, some 57, .pick (.tmp 52) (.const (.bool true)) (.tmp 56), none, []⟩, ⟨8, some 58, .mv (.tmp 57), none, []⟩, ⟨9, some 59, .mv (.tmp 9), (some (58, false)), []⟩, ⟨10, some 60, .mv (.tmp 6), (some (58, false)), []⟩, ⟨11, some 61, .beq true (.tmp 59) (.tmp 60), (some (58, false)), []⟩, ⟨12, some 62, .pick (.tmp 58) (.const (.bool true)) (.tmp 61), none, []⟩])
  (.cond (.tmp 62) (.seq (.keep [] (.ops [⟨0, some 4, .mv (.const (.bool false)), none, []⟩]))
  (.ret)) (.skip)))
  (.seq (.keep [0, 1, 5, 6, 8] (.ops [⟨0, some 11, .mv (.const (.int .i64 1)), none, []⟩]))
  (.seq (.ops [⟨0, some 63, .mv (.tmp 8), none, []⟩, ⟨1, some 64, .mv (.tmp 11), none, []⟩, ⟨2, some 65, .call n_w_markComplex64S [.tmp 63, .tmp 64], none, []⟩, ⟨3, some 11, .mv (.tmp 65), none, []⟩])
  (.seq (.ops [⟨0, some 12, .mv (.const (.int .i64 1)), none, []⟩])
  (.seq (.ops [⟨0, some 66, .mv (.tmp 8), none, []⟩, ⟨1, some 67, .mv (.tmp 12), none, []⟩, ⟨2, some 68, .call n_w_heldComplex64S [.tmp 66, .tmp 67], none, []⟩, ⟨3, some 12, .mv (.tmp 68), none, []⟩])
  (.seq (.seq (.keep [0, 1, 5, 6, 8, 11, 12] (.ops [⟨0, some 69, .mv (.tmp 12), none, []⟩, ⟨1, some 70, .bin .lss (.tmp 69) (.const (.int .i64 0)), none, []⟩]))
  (.cond (.tmp 70) (.seq (.keep [] (.ops [⟨0, some 4, .mv (.const (.bool false)), none, []⟩]))
  (.ret)) (.skip)))
  (.seq (.seq (.ops [⟨0, some 71, .mv (.tmp 12), none, []⟩, ⟨1, some 72, .mv (.tmp 11), none, []⟩, ⟨2, some 73, .bin .neq (.tmp 71) (.tmp 72), none, []⟩])
  (.cond (.tmp 73) (.seq (.keep [] (.ops [⟨0, some 4, .mv (.const (.bool false)), none, []⟩]))
  (.ret)) (.skip)))
  (.seq (.keep [0, 1, 5, 6, 8, 11] (.ops [⟨0, some 75, .mv (.tmp 0), none, []⟩, ⟨1, some 76, .call n_w_toFloat32S [.tmp 75], none, []⟩, ⟨2, some 77, .mv (.tmp 1), none, []⟩, ⟨3, some 78, .call n_i_RipplesOf [.tmp 76, .tmp 77], none, []⟩, ⟨4, some 74, .mv (.tmp 78), none, []⟩, ⟨5, some 79, .ext (.tmp 74) 0, none, []⟩, ⟨6, some 80, .ext (.tmp 74) 1, none, []⟩, ⟨7, some 13, .mv (.tmp 79), none, []⟩, ⟨8, some 14, .mv (.tmp 80), none, []⟩]))
  (.seq (.seq (.keep [5, 6, 8, 11, 13, 14] (.ops [⟨0, some 81, .mv (.tmp 13), none, []⟩, ⟨1, some 82, .mv (.tmp 5), none, []⟩, ⟨2, some 83, .call n_w_eqComplex64S [.tmp 81, .tmp 82], none, []⟩, ⟨3, some 84, .un .not (.tmp 83), none, []⟩, ⟨4, some 85, .mv (.tmp 84), none, []⟩, ⟨5, some 86, .mv (.tmp 14), (some (85, false)), []⟩, ⟨6, some 87, .mv (.tmp 6), (some (85, false)), []⟩, ⟨7, some 88, .beq true (.tmp 86) (.tmp 87), (some (85, false)), []⟩, ⟨8, some 89, .pick (.tmp 85) (.const (.bool true)) (.tmp 88), none, []⟩]))
  (.cond (.tmp 89) (.seq (.keep [] (.ops [⟨0, some 4, .mv (.const (.bool false)), none, []⟩]))
  (.ret)) (.skip)))
  (.seq (.keep [8, 11] (.ops [⟨0, some 12, .mv (.const (.int .i64 1)), none, []⟩]))
  (.seq (.ops [⟨0, some 90, .mv (.tmp 8), none, []⟩, ⟨1, some 91, .mv (.tmp 12), none, []⟩, ⟨2, some 92, .call n_w_heldComplex64S [.tmp 90, .tmp 91], none, []⟩, ⟨3, some 12, .mv (.tmp 92), none, []⟩])
  (.seq (.seq (.ops [⟨0, some 93, .mv (.tmp 12), none, []⟩, ⟨1, some 94, .bin .lss (.tmp 93) (.const (.int .i64 0)), none, []⟩])
  (.cond (.tmp 94) (.seq (.keep [] (.ops [⟨0, some 4, .mv (.const (.bool false)), none, []⟩]))
  (.ret)) (.skip)))
  (.seq (.seq (.keep [11, 12] (.ops [⟨0, some 95, .mv (.tmp 12), none, []⟩, ⟨1, some 96, .mv (.tmp 11), none, []⟩, ⟨2, some 97, .bin .neq (.tmp 95) (.tmp 96), none, []⟩]))
  (.cond (.tmp 97) (.seq (.keep [] (.ops [⟨0, some 4, .mv (.const (.bool false)), none, []⟩]))
  (.ret)) (.skip)))
  (.seq (.keep [] (.ops [⟨0, some 4, .mv (.const (.bool true)), none, []⟩]))
  (.ret)))))))))))))))))))))))
theorem k_w_FnExactRipplesOf : FnOk Try.prog n_w_FnExactRipplesOf 2 c_w_FnExactRipplesOf [.tmp 4] := ⟨by kernel_rfl⟩
def c_w_sameFloat : ACode :=
  .seq (.ops [⟨0, some 4, .mv (.const (.bool false)), none, []⟩])
  (.seq (.seq (.ops [⟨0, some 5, .mv (.tmp 0), none, []⟩, ⟨1, some 6, .mv (.tmp 0), none, []⟩, ⟨2, some 7, .bin .neq (.tmp 5) (.tmp 6), none, []⟩, ⟨3, some 8, .mv (.tmp 7), none, []⟩, ⟨4, some 9, .mv (.tmp 1), (some (8, false)), []⟩, ⟨5, some 10, .mv (.tmp 1), (some (8, false)), []⟩, ⟨6, some 11, .bin .neq (.tmp 9) (.tmp 10), (some (8, false)), []⟩, ⟨7, some 12, .pick (.tmp 8) (.const (.bool true)) (.tmp 11), none, []⟩])
  (.cond (.tmp 12) (.seq (.keep [0, 1] (.ops [⟨0, some 13, .mv (.tmp 0), none, []⟩, ⟨1, some 14, .mv (.tmp 0), none, []⟩, ⟨2, some 15, .bin .neq (.tmp 13) (.tmp 14), none, []⟩, ⟨3, some 16, .mv (.tmp 15), none, []⟩, ⟨4, some 17, .mv (.tmp 1), (some (16, true)), []⟩, ⟨5, some 18, .mv (.tmp 1), (some (16, true)), []⟩, ⟨6, some 19, .bin .neq (.tmp 17) (.tmp 18), (some (16, true)), []⟩, ⟨7, some 20, .pick (.tmp 16) (.tmp 19) (.const (.bool false)), none, []⟩, ⟨8, some 4, .mv (.tmp 20), none, []⟩]))
  (.ret)) (.skip)))
  (.seq (.seq (.keep [0, 1] (.ops [⟨0, some 21, .mv (.tmp 0), none, []⟩, ⟨1, some 22, .bin .eql (.tmp 21) (.const (.float .f64 0)), none, []⟩, ⟨2, some 23, .mv (.tmp 22), none, []⟩, ⟨3, some 24, .mv (.tmp 1), (some (23, true)), []⟩, ⟨4, some 25, .bin .eql (.tmp 24) (.const (.float .f64 0)), (some (23, true)), []⟩, ⟨5, some 26, .pick (.tmp 23) (.tmp 25) (.const (.bool false)), none, []⟩]))
  (.cond (.tmp 26) (.seq (.keep [0, 1] (.ops [⟨0, some 27, .mv (.tmp 0), none, []⟩, ⟨1, some 28, .bin .quo (.const (.float .f64 4607182418800017408)) (.tmp 27), none, []⟩, ⟨2, some 29, .bin .gtr (.tmp 28) (.const (.float .f64 0)), none, []⟩, ⟨3, some 30, .mv (.tmp 1), none, []⟩, ⟨4, some 31, .bin .quo (.const (.float .f64 4607182418800017408)) (.tmp 30), none, []⟩, ⟨5, some 32, .bin .gtr (.tmp 31) (.const (.float .f64 0)), none, []⟩, ⟨6, some 33, .beq false (.tmp 29) (.tmp 32), none, []⟩, ⟨7, some 4, .mv (.tmp 33), none, []⟩]))
  (.ret)) (.skip)))
  (.seq (.keep [0, 1] (.ops [⟨0, some 34, .mv (.tmp 0), none, []⟩, ⟨1, some 35, .mv (.tmp 1), none, []⟩, ⟨2, some 36, .bin .eql (.tmp 34) (.tmp 35), none, []⟩, ⟨3, some 4, .mv (.tmp 36), none, []⟩]))
  (.ret))))
theorem k_w_sameFloat : FnOk Try.prog n_w_sameFloat 2 c_w_sameFloat [.tmp 4] := ⟨by kernel_rfl⟩
def c_w_eqFloat32S : ACode :=
  .seq (.ops [⟨0, some 4, .mv (.const (.bool false)), none, []⟩])
  (.seq (.seq (.ops [⟨0, some 6, .mv (.tmp 0), none, []⟩, ⟨1, some 7, .len (.tmp 6), none, []⟩, ⟨2, some 8, .mv (.tmp 1), none, []⟩, ⟨3, some 9, .len (.tmp 8), none, []⟩, ⟨4, some 10, .bin .neq (.tmp 7) (.tmp 9), none, []⟩])
  (.cond (.tmp 10) (.seq (.keep [] (.ops [⟨0, some 4, .mv (.const (.bool false)), none, []⟩]))
  (.ret)) (.skip)))
  (.seq (.seq (.keep [0, 1] (.ops [⟨0, some 5, .mv (.const (.int .i64 0)), none, []⟩]))
  (.block 0 (.loop [0, 1, 5] (.seq (.seq (.ops [⟨0, some 11, .mv (.tmp 5), none, []⟩, ⟨1, some 12, .mv (.tmp 0), none, []⟩, ⟨2, some 13, .len (.tmp 12), none, []⟩, ⟨3, some 14, .bin .lss (.tmp 11) (.tmp 13), none, []⟩])
  (.cond (.tmp 14) (.skip) (.exit 0)))
  (.seq (.block 1 (.seq (.ops [⟨0, some 17, .mv (.tmp 0), none, []⟩, ⟨1, some 18, .mv (.tmp 5), none, []⟩, ⟨2, some 19, .ia (.tmp 17) (.tmp 18), none, []⟩, ⟨3, some 20, .ld (.tmp 19), none, []⟩, ⟨4, some 21, .cv (.f .f64) (.tmp 20), none, []⟩, ⟨5, some 22, .mv (.tmp 1), none, []⟩, ⟨6, some 23, .mv (.tmp 5), none, []⟩, ⟨7, some 24, .ia (.tmp 22) (.tmp 23), none, []⟩, ⟨8, some 25, .ld (.tmp 24), none, []⟩, ⟨9, some 26, .cv (.f .f64) (.tmp 25), none, []⟩, ⟨10, some 27, .call n_w_sameFloat [.tmp 21, .tmp 26], none, []⟩, ⟨11, some 28, .un .not (.tmp 27), none, []⟩])
  (.cond (.tmp 28) (.seq (.keep [] (.ops [⟨0, some 4, .mv (.const (.bool false)), none, []⟩]))
  (.ret)) (.skip))))
  (.keep [0, 1, 5] (.ops [⟨0, some 15, .mv (.tmp 5), none, []⟩, ⟨1, some 16, .bin .add (.tmp 15) (.const (.int .i64 1)), none, []⟩, ⟨2, some 5, .mv (.tmp 16), none, []⟩])))))))
  (.seq (.keep [] (.ops [⟨0, some 4, .mv (.const (.bool true)), none, []⟩]))
  (.ret))))
theorem k_w_eqFloat32S : FnOk Try.prog n_w_eqFloat32S 2 c_w_eqFloat32S [.tmp 4] := ⟨by kernel_rfl⟩
def c_w_markFloat32S : ACode :=
  .seq (.ops [⟨0, some 4, .mv (.const (.int .i64 0)), none, []⟩])
  (.seq (.seq (.ops [⟨0, some 5, .mv (.const (.int .i64 0)), none, []⟩])
  (.block 0 (.loop [0, 1, 5] (.seq (.seq (.ops [⟨0, some 6, .mv (.tmp 5), none, []⟩, ⟨1, some 7, .mv (.tmp 0), none, []⟩, ⟨2, some 8, .len (.tmp 7), none, []⟩, ⟨3, some 9, .bin .lss (.tmp 6) (.tmp 8), none, []⟩])
  (.cond (.tmp 9) (.skip) (.exit 0)))
  (.seq (.block 1 (.seq (.ops [⟨0, some 12, .mv (.tmp 0), none, []⟩, ⟨1, some 13, .mv (.tmp 5), none, []⟩, ⟨2, some 14, .mv (.tmp 1), none, []⟩, ⟨3, some 15, .cv (.f .f32) (.tmp 14), none, []⟩, ⟨4, some 16, .ia (.tmp 12) (.tmp 13), none, []⟩, ⟨5, none, .st (.tmp 16) (.tmp 15), none, []⟩])
  (.keep [0, 1, 5] (.ops [⟨0, some 17, .mv (.tmp 1), none, []⟩, ⟨1, some 18, .bin .add (.tmp 17) (.const (.int .i64 1)), none, []⟩, ⟨2, some 1, .mv (.tmp 18), none, []⟩]))))
  (.ops [⟨0, some 10, .mv (.tmp 5), none, []⟩, ⟨1, some 11, .bin .add (.tmp 10) (.const (.int .i64 1)), none, []⟩, ⟨2, some 5, .mv (.tmp 11), none, []⟩]))))))
  (.seq (.keep [1] (.ops [⟨0, some 19, .mv (.tmp 1), none, []⟩, ⟨1, some 4, .mv (.tmp 19), none, []⟩]))
  (.ret)))
theorem k_w_markFloat32S : FnOk Try.prog n_w_markFloat32S 2 c_w_markFloat32S [.tmp 4] := ⟨by kernel_rfl⟩
def c_w_eqComplex64S : ACode :=
  .seq (.ops [⟨0, some 4, .mv (.const (.bool false)), none, []⟩])
  (.seq (.seq (.ops [⟨0, some 6, .mv (.tmp 0), none, []⟩, ⟨1, some 7, .len (.tmp 6), none, []⟩, ⟨2, some 8, .mv (.tmp 1), none, []⟩, ⟨3, some 9, .len (.tmp 8), none, []⟩, ⟨4, some 10, .bin .neq (.tmp 7) (.tmp 9), none, []⟩])
  (.cond (.tmp 10) (.seq (.keep [] (.ops [⟨0, some 4, .mv (.const (.bool false)), none, []⟩]))
  (.ret)) (.skip)))
  (.seq (.seq (.keep [0, 1] (.ops [⟨0, some 5, .mv (.const (.int .i64 0)), none, []⟩]))
  (.block 0 (.loop [0, 1, 5] (.seq (.seq (.ops [⟨0, some 11, .mv (.tmp 5), none, []⟩, ⟨1, some 12, .mv (.tmp 0), none, []⟩, ⟨2, some 13, .len (.tmp 12), none, []⟩, ⟨3, some 14, .bin .lss (.tmp 11) (.tmp 13), none, []⟩])
  (.cond (.tmp 14) (.skip) (.exit 0)))
  (.seq (.block 1 (.seq (.ops [⟨0, some 17, .mv (.tmp 0), none, []⟩, ⟨1, some 18, .mv (.tmp 5), none, []⟩, ⟨2, some 19, .ia (.tmp 17) (.tmp 18), none, []⟩, ⟨3, some 20, .ld (.tmp 19), none, []⟩, ⟨4, some 21, .cv (.c .f64) (.tmp 20), none, []⟩, ⟨5, some 22, .mv (.tmp 1), none, []⟩, ⟨6, some 23, .mv (.tmp 5), none, []⟩, ⟨7, some 24, .ia (.tmp 22) (.tmp 23), none, []⟩, ⟨8, some 25, .ld (.tmp 24), none, []⟩, ⟨9, some 26, .cv (.c .f64) (.tmp 25), none, []⟩, ⟨10, some 27, .call n_w_sameComplex [.tmp 21, .tmp 26], none, []⟩, ⟨11, some 28, .un .not (.tmp 27), none, []⟩])
  (.cond (.tmp 28) (.seq (.keep [] (.ops [⟨0, some 4, .mv (.const (.bool false)), none, []⟩]))
  (.ret)) (.skip))))
  (.keep [0, 1, 5] (.ops [⟨0, some 15, .mv (.tmp 5), none, []⟩, ⟨1, some 16, .bin .add (.tmp 15) (.const (.int .i64 1)), none, []⟩, ⟨2, some 5, .mv (.tmp 16), none, []⟩])))))))
  (.seq (.keep [] (.ops [⟨0, some 4, .mv (.const (.bool true)), none, []⟩]))
  (.ret))))
theorem k_w_eqComplex64S : FnOk Try.prog n_w_eqComplex64S 2 c_w_eqComplex64S [.tmp 4] := ⟨by kernel_rfl⟩
def c_w_markComplex64S : ACode :=
  .seq (.ops [⟨0, some 4, .mv (.const (.int .i64 0)), none, []⟩])
  (.seq (.seq (.ops [⟨0, some 5, .mv (.const (.int .i64 0)), none, []⟩])
  (.block 0 (.loop [0, 1, 5] (.seq (.seq (.ops [⟨0, some 6, .mv (.tmp 5), none, []⟩, ⟨1, some 7, .mv (.tmp 0), none, []⟩, ⟨2, some 8, .len (.tmp 7), none, []⟩, ⟨3, some 9, .bin .lss (.tmp 6) (.tmp 8), none, []⟩])
  (.cond (.tmp 9) (.skip) (.exit 0)))
  (.seq (.block 1 (.seq (.ops [⟨0, some 12, .mv (.tmp 0), none, []⟩, ⟨1, some 13, .mv (.tmp 5), none, []⟩, ⟨2, some 14, .mv (.tmp 1), none, []⟩, ⟨3, some 15, .cv (.f .f64) (.tmp 14), none, []⟩, ⟨4, some 16, .cx (.tmp 15) (.const (.float .f64 4607182418800017408)), none, []⟩, ⟨5, some 17, .cv (.c .f32) (.tmp 16), none, []⟩, ⟨6, some 18, .ia (.tmp 12) (.tmp 13), none, []⟩, ⟨7, none, .st (.tmp 18) (.tmp 17), none, []⟩])
  (.keep [0, 1, 5] (.ops [⟨0, some 19, .mv (.tmp 1), none, []⟩, ⟨1, some 20, .bin .add (.tmp 19) (.const (.int .i64 1)), none, []⟩, ⟨2, some 1, .mv (.tmp 20), none, []⟩]))))
  (.ops [⟨0, some 10, .mv (.tmp 5), none, []⟩, ⟨1, some 11, .bin .add (.tmp 10) (.const (.int .i64 1)), none, []⟩, ⟨2, some 5, .mv (.tmp 11), none, []⟩]))))))
  (.seq (.keep [1] (.ops [⟨0, some 21, .mv (.tmp 1), none, []⟩, ⟨1, some 4, .mv (.tmp 21), none, []⟩]))
  (.ret)))
theorem k_w_markComplex64S : FnOk Try.prog n_w_markComplex64S 2 c_w_markComplex64S [.tmp 4] := ⟨by kernel_rfl⟩
def c_w_heldComplex64S : ACode :=
  .seq (.ops [⟨0, some 4, .mv (.const (.int .i64 0)), none, []⟩])
  (.seq (.seq (.ops [⟨0, some 5, .mv (.const (.int .i64 0)), none, []⟩])
  (.block 0 (.loop [0, 1, 5] (.seq (.seq (.ops [⟨0, some 6, .mv (.tmp 5), none, []⟩, ⟨1, some 7, .mv (.tmp 0), none, []⟩, ⟨2, some 8, .len (.tmp 7), none, []⟩, ⟨3, some 9, .bin .lss (.tmp 6) (.tmp 8), none, []⟩])
  (.cond (.tmp 9) (.skip) (.exit 0)))
  (.seq (.block 1 (.seq (.seq (.ops [⟨0, some 12, .mv (.tmp 0), none, []⟩, ⟨1, some 13, .mv (.tmp 5), none, []⟩, ⟨2, some 14, .ia (.tmp 12) (.tmp 13), none, []⟩, ⟨3, some 15, .ld (.tmp 14), none, []⟩, ⟨4, some 16, .mv (.tmp 1), none, []⟩, ⟨5, some 17, .cv (.f .f64) (.tmp 16), none, []⟩, ⟨6, some 18, .cx (.tmp 17) (.const (.float .f64 4607182418800017408)), none, []⟩, ⟨7, some 19, .cv (.c .f32) (.tmp 18), none, []⟩, ⟨8, some 20, .bin .neq (.tmp 15) (.tmp 19), none, []⟩])
  (.cond (.tmp 20) (.seq (.keep [] (.ops [⟨0, some 4, .mv (.const (.int .i64 (-1))), none, []⟩]))
  (.ret)) (.skip)))
  (.keep [0, 1, 5] (.ops [⟨0, some 21, .mv (.tmp 1), none, []⟩, ⟨1, some 22, .bin .add (.tmp 21) (.const (.int .i64 1)), none, []⟩, ⟨2, some 1, .mv (.tmp 22), none, []⟩]))))
  (.ops [⟨0, some 10, .mv (.tmp 5), none, []⟩, ⟨1, some 11, .bin .add (.tmp 10) (.const (.int .i64 1)), none, []⟩, ⟨2, some 5, .mv (.tmp 11), none, []⟩]))))))
  (.seq (.keep [1] (.ops [⟨0, some 23, .mv (.tmp 1), none, []⟩, ⟨1, some 4, .mv (.tmp 23), none, []⟩]))
  (.ret)))
theorem k_w_heldComplex64S : FnOk Try.prog n_w_heldComplex64S 2 c_w_heldComplex64S [.tmp 4] := ⟨by kernel_rfl⟩
def c_w_toFloat32S : ACode :=
  .seq (.ops [⟨0, some 2, .mv (.const (.slice none 0 0)), none, []⟩])
  (.seq (.ops [⟨0, some 5, .mv (.tmp 0), none, []⟩, ⟨1, some 6, .len (.tmp 5), none, []⟩, ⟨2, some 7, .mks 37 4 (.float .f32 0) (.tmp 6) (.tmp 6), none, []⟩, ⟨3, some 3, .mv (.tmp 7), none, []⟩])
  (.seq (.seq (.ops [⟨0, some 4, .mv (.const (.int .i64 0)), none, []⟩])
  (.block 0 (.loop [0, 3, 4] (.seq (.seq (.ops [⟨0, some 8, .mv (.tmp 4), none, []⟩, ⟨1, some 9, .mv (.tmp 0), none, []⟩, ⟨2, some 10, .len (.tmp 9), none, []⟩, ⟨3, some 11, .bin .lss (.tmp 8) (.tmp 10), none, []⟩])
  (.cond (.tmp 11) (.skip) (.exit 0)))
  (.seq (.block 1 (.ops [⟨0, some 14, .mv (.tmp 3), none, []⟩, ⟨1, some 15, .mv (.tmp 4), none, []⟩, ⟨2, some 16, .mv (.tmp 0), none, []⟩, ⟨3, some 17, .mv (.tmp 4), none, []⟩, ⟨4, some 18, .ia (.tmp 16) (.tmp 17), none, []⟩, ⟨5, some 19, .ld (.tmp 18), none, []⟩, ⟨6, some 20, .ia (.tmp 14) (.tmp 15), none, []⟩, ⟨7, none, .st (.tmp 20) (.tmp 19), none, []⟩]))
  (.keep [0, 3, 4] (.ops [⟨0, some 12, .mv (.tmp 4), none, []⟩, ⟨1, some 13, .bin .add (.tmp 12) (.const (.int .i64 1)), none, []⟩, ⟨2, some 4, .mv (.tmp 13), none, []⟩])))))))
  (.seq (.keep [3] (.ops [⟨0, some 21, .mv (.tmp 3), none, []⟩, ⟨1, some 2, .mv (.tmp 21), none, []⟩]))
  (.ret))))
theorem k_w_toFloat32S : FnOk Try.prog n_w_toFloat32S 1 c_w_toFloat32S [.tmp 2] := ⟨by kernel_rfl⟩
def c_s_RipplesOf : ACode :=
  .seq (.ops [⟨0, some 4, .mv (.const (.slice none 0 0)), none, []⟩, ⟨1, some 5, .mv (.const (.bool false)), none, []⟩])
  (.seq (.seq (.ops [⟨0, some 7, .mv (.tmp 0), none, []⟩, ⟨1, some 8, .call n_s_l03Long [.tmp 7], none, []⟩, ⟨2, some 9, .un .not (.tmp 8), none, []⟩, ⟨3, some 10, .mv (.tmp 9), none, []⟩, ⟨4, some 11, .mv (.tmp 1), (some (10, false)), []⟩, ⟨5, some 12, .call n_s_l03Scale [.tmp 11], (some (10, false)), []⟩, ⟨6, some 13, .un .not (.tmp 12), (some (10, false)), []⟩, ⟨7, some 14, .pick (.tmp 10) (.const (.bool true)) (.tmp 13), none, []⟩])
  (.cond (.tmp 14) (.seq (.keep [] (.ops [⟨0, some 4, .mv (.const (.slice none 0 0)), none, []⟩, ⟨1, some 5, .mv (.const (.bool false)), none, []⟩]))
  (.ret)) (.skip)))
  (.seq (.keep [0, 1] (.ops [⟨0, some 15, .mv (.tmp 0), none, []⟩, ⟨1, some 16, .mv (.tmp 1), none, []⟩, ⟨2, some 17, .call n_s_l03Ripples [.tmp 15, .tmp 16], none, []⟩, ⟨3, some 6, .mv (.tmp 17), none, []⟩]))
  (.seq (.seq (.keep [6] (.ops [⟨0, some 18, .mv (.tmp 6), none, []⟩, ⟨1, some 19, .call n_s_l03CFinite [.tmp 18], none, []⟩, ⟨2, some 20, .un .not (.tmp 19), none, []⟩]))
  (.cond (.tmp 20) (.seq (.ops [⟨0, some 4, .mv (.const (.slice none 0 0)), none, []⟩, ⟨1, some 5, .mv (.const (.bool false)), none, []⟩])
  (.ret)) (.skip)))
  (.seq (.ops [⟨0, some 21, .mv (.tmp 6), none, []⟩, ⟨1, some 4, .mv (.tmp 21), none, []⟩, ⟨2, some 5, .mv (.const (.bool true)), none, []⟩])
  (.ret)))))
theorem k_s_RipplesOf : FnOk Try.prog n_s_RipplesOf 2 c_s_RipplesOf [.tmp 4, .tmp 5] := ⟨by kernel_rfl⟩
def c_i_RipplesOf : ACode :=
  .seq (.ops [⟨0, some 4, .mv (.const (.slice none 0 0)), none, []⟩, ⟨1, some 5, .mv (.const (.bool false)), none, []⟩])
  (.seq (.seq (.ops [⟨0, some 14, .mv (.tmp 0), none, []⟩, ⟨1, some 15, .call n_i_isLong [.tmp 14], none, []⟩, ⟨2, some 16, .un .not (.tmp 15), none, []⟩, ⟨3, some 17, .mv (.tmp 16), none, []⟩, ⟨4, some 18, .mv (.tmp 1), (some (17, false)), []⟩, ⟨5, some 19, .call n_i_isScale [.tmp 18], (some (17, false)), []⟩, ⟨6, some 20, .un .not (.tmp 19), (some (17, false)), []⟩, ⟨7, some 21, .pick (.tmp 17) (.const (.bool true)) (.tmp 20), none, []⟩])
  (.cond (.tmp 21) (.seq (.keep [] (.ops [⟨0, some 4, .mv (.const (.slice none 0 0)), none, []⟩, ⟨1, some 5, .mv (.const (.bool false)), none, []⟩]))
  (.ret)) (.skip)))
  (.seq (.keep [0, 1] (.ops [⟨0, some 23, .mv (.tmp 1), none, []⟩, ⟨1, some 24, .call n_i_kernel [.tmp 23], none, []⟩, ⟨2, some 22, .mv (.tmp 24), none, []⟩, ⟨3, some 25, .ext (.tmp 22) 0, none, []⟩, ⟨4, some 26, .ext (.tmp 22) 1, none, []⟩, ⟨5, some 6, .mv (.tmp 25), none, []⟩, ⟨6, some 7, .mv (.tmp 26), none, []⟩]))
  (.seq (.keep [0, 6, 7] (.ops [⟨0, some 27, .bsl 126 0 (.complex .f32 0 0) [], none, []⟩, ⟨1, some 8, .mv (.tmp 27), none, []⟩]))
  (.seq (.seq (.ops [⟨0, some 28, .mv (.tmp 0), none, []⟩, ⟨1, some 29, .len (.tmp 28), none, []⟩, ⟨2, some 30, .mv (.const (.int .i64 0)), none, []⟩])
  (.block 0 (.loop [0, 6, 7, 8, 29, 30] (.seq (.ops [⟨0, some 31, .bin .lss (.tmp 30) (.tmp 29), none, []⟩])
  (.seq (.cond (.tmp 31) (.skip) (.exit 0))
  (.seq (.block 1 (.seq (.ops [⟨0, some 32, .mv (.tmp 30), none, []⟩, ⟨1, some 9, .mv (.tmp 32), none, []⟩])
  (.seq (.ops [⟨0, some 10, .mv (.const (.complex .f32 0 0)), none, []⟩])
  (.seq (.seq (.ops [⟨0, some 33, .mv (.tmp 6), none, []⟩, ⟨1, some 34, .len (.tmp 33), none, []⟩, ⟨2, some 35, .mv (.const (.int .i64 0)), none, []⟩])
  (.block 2 (.loop [0, 6, 7, 8, 9, 10, 29, 30, 33, 34, 35] (.seq (.ops [⟨0, some 36, .bin .lss (.tmp 35) (.tmp 34), none, []⟩])
  (.seq (.cond (.tmp 36) (.skip) (.exit 2))
  (.seq (.block 3 (.seq (.ops [⟨0, some 37, .mv (.tmp 35), none, []⟩, ⟨1, some 38, .ia (.tmp 33) (.tmp 35), none, []⟩, ⟨2, some 39, .ld (.tmp 38), none, []⟩, ⟨3, some 11, .mv (.tmp 37), none, []⟩, ⟨4, some 12, .mv (.tmp 39), none, []⟩])
  (.seq (.ops [⟨0, some 40, .mv (.tmp 9), none, []⟩, ⟨1, some 41, .mv (.tmp 11), none, []⟩, ⟨2, some 42, .bin .add (.tmp 40) (.tmp 41), none, []⟩, ⟨3, some 43, .mv (.tmp 7), none, []⟩, ⟨4, some 44, .bin .sub (.tmp 42) (.tmp 43), none, []⟩, ⟨5, some 13, .mv (.tmp 44), none, []⟩])
  (.seq (.keep [0, 6, 7, 8, 9, 10, 12, 13, 29, 30, 33, 34, 35] (.ops [⟨0, some 45, .mv (.tmp 13), none, []⟩, ⟨1, some 46, .bin .geq (.tmp 45) (.const (.int .i64 0)), none, []⟩, ⟨2, some 47, .mv (.tmp 46), none, []⟩, ⟨3, some 48, .mv (.tmp 13), (some (47, true)), []⟩, ⟨4, some 49, .mv (.tmp 0), (some (47, true)), []⟩, ⟨5, some 50, .len (.tmp 49), (some (47, true)), []⟩, ⟨6, some 51, .bin .lss (.tmp 48) (.tmp 50), (some (47, true)), []⟩, ⟨7, some 52, .pick (.tmp 47) (.tmp 51) (.const (.bool false)), none, []⟩]))
  (.cond (.tmp 52) (.keep [0, 6, 7, 8, 9, 10, 12, 13, 29, 30, 33, 34, 35] (.ops [⟨0, some 53, .mv (.tmp 10), none, []⟩, ⟨1, some 54, .mv (.tmp 12), none, []⟩, ⟨3, some 56, .mv (.tmp 0), none, []⟩, ⟨4, some 57, .mv (.tmp 13), none, []⟩, ⟨5, some 58, .ia (.tmp 56) (.tmp 57), none, []⟩, ⟨6, some 59, .ld (.tmp 58), none, []⟩, ⟨2, some 55, .call n_i_ConjugateOf [.tmp 54], none, [(some 58, .ia (.tmp 56) (.tmp 57), none), (some 59, .ld (.tmp 58), none)]⟩, ⟨7, some 60, .call n_i_ScaleComplex [.tmp 55, .tmp 59], none, []⟩, ⟨8, some 61, .call n_i_add [.tmp 53, .tmp 60], none, []⟩, ⟨9, some 10, .mv (.tmp 61), none, []⟩])) (.skip))))))
  (.keep [0, 6, 7, 8, 9, 10, 29, 30, 33, 34, 35] (.ops [⟨0, some 62, .bin .add (.tmp 35) (.const (.int .i64 1)), none, []⟩, ⟨1, some 35, .mv (.tmp 62), none, []⟩]))))))))
  (.keep [0, 6, 7, 8, 10, 29, 30] (.ops [⟨0, some 63, .mv (.tmp 8), none, []⟩, ⟨1, some 64, .mv (.tmp 10), none, []⟩, ⟨2, some 65, .bsl 126 1 (.complex .f32 0 0) [(0, .tmp 64)], none, []⟩, ⟨3, some 66, .app 126 8 (.tmp 63) (.tmp 65), none, []⟩, ⟨4, some 8, .mv (.tmp 66), none, []⟩]))))))
  (.keep [0, 6, 7, 8, 29, 30] (.ops [⟨0, some 67, .bin .add (.tmp 30) (.const (.int .i64 1)), none, []⟩, ⟨1, some 30, .mv (.tmp 67), none, []⟩]))))))))
  (.seq (.keep [8] (.ops [⟨0, some 68, .mv (.tmp 8), none, []⟩, ⟨1, some 69, .call n_i_finiteComplex [.tmp 68], none, []⟩, ⟨2, some 70, .ext (.tmp 69) 0, none, []⟩, ⟨3, some 71, .ext (.tmp 69) 1, none, []⟩, ⟨4, some 4, .mv (.tmp 70), none, []⟩, ⟨5, some 5, .mv (.tmp 71), none, []⟩]))
  (.ret))))))
theorem k_i_RipplesOf : FnOk Try.prog n_i_RipplesOf 2 c_i_RipplesOf [.tmp 4, .tmp 5] := ⟨by kernel_rfl⟩
def c_i_within : ACode :=
  .seq (.ops [⟨0, some 6, .mv (.const (.bool false)), none, []⟩])
  (.seq (.ops [⟨0, some 7, .mv (.tmp 0), none, []⟩, ⟨1, some 8, .mv (.tmp 1), none, []⟩, ⟨2, some 9, .bin .geq (.tmp 7) (.tmp 8), none, []⟩, ⟨3, some 10, .mv (.tmp 9), none, []⟩, ⟨4, some 11, .mv (.tmp 0), (some (10, true)), []⟩, ⟨5, some 12, .mv (.tmp 2), (some (10, true)), []⟩, ⟨6, some 13, .bin .leq (.tmp 11) (.tmp 12), (some (10, true)), []⟩, ⟨7, some 14, .pick (.tmp 10) (.tmp 13) (.const (.bool false)), none, []⟩, ⟨8, some 6, .mv (.tmp 14), none, []⟩])
  (.ret))
theorem k_i_within : FnOk Try.prog n_i_within 3 c_i_within [.tmp 6] := ⟨by kernel_rfl⟩
def c_s_l03Scale : ACode :=
  .seq (.ops [⟨0, some 2, .mv (.const (.bool false)), none, []⟩])
  (.seq (.ops [⟨0, some 3, .mv (.tmp 0), none, []⟩, ⟨1, some 4, .bin .geq (.tmp 3) (.const (.float .f32 1056964608)), none, []⟩, ⟨2, some 5, .mv (.tmp 4), none, []⟩, ⟨3, some 6, .mv (.tmp 0), (some (5, true)), []⟩, ⟨4, some 7, .bin .leq (.tmp 6) (.const (.float .f32 1098907648)), (some (5, true)), []⟩, ⟨5, some 8, .pick (.tmp 5) (.tmp 7) (.const (.bool false)), none, []⟩, ⟨6, some 2, .mv (.tmp 8), none, []⟩])
  (.ret))
theorem k_s_l03Scale : FnOk Try.prog n_s_l03Scale 1 c_s_l03Scale [.tmp 2] := ⟨by kernel_rfl⟩
def c_s_l03Kernel : ACode :=
  .seq (.ops [⟨0, some 2, .mv (.const (.slice none 0 0)), none, []⟩])
  (.seq (.ops [⟨0, some 8, .mv (.tmp 0), none, []⟩, ⟨1, some 9, .bin .mul (.const (.float .f32 1077936128)) (.tmp 8), none, []⟩, ⟨2, some 10, .cv (.f .f64) (.tmp 9), none, []⟩, ⟨3, some 11, .call n_m_Ceil [.tmp 10], none, []⟩, ⟨4, some 12, .cv (.i .i64) (.tmp 11), none, []⟩, ⟨5, some 3, .mv (.tmp 12), none, []⟩])
  (.seq (.keep [0, 3] (.ops [⟨0, some 13, .bsl 126 0 (.complex .f32 0 0) [], none, []⟩, ⟨1, some 4, .mv (.tmp 13), none, []⟩]))
  (.seq (.seq (.ops [⟨0, some 5, .mv (.const (.int .i64 0)), none, []⟩])
  (.block 0 (.loop [0, 3, 4, 5] (.seq (.seq (.ops [⟨0, some 14, .mv (.tmp 5), none, []⟩, ⟨1, some 15, .mv (.tmp 3), none, []⟩, ⟨2, some 16, .bin .mul (.const (.int .i64 2)) (.tmp 15), none, []⟩, ⟨3, some 17, .bin .leq (.tmp 14) (.tmp 16), none, []⟩])
  (.cond (.tmp 17) (.skip) (.exit 0)))
  (.seq (.block 1 (.seq (.ops [⟨0, some 20, .mv (.tmp 5), none, []⟩, ⟨1, some 21, .mv (.tmp 3), none, []⟩, ⟨2, some 22, .bin .sub (.tmp 20) (.tmp 21), none, []⟩, ⟨3, some 23, .cv (.f .f32) (.tmp 22), none, []⟩, ⟨4, some 24, .mv (.tmp 0), none, []⟩, ⟨5, some 25, .bin .quo (.tmp 23) (.tmp 24), none, []⟩, ⟨6, some 6, .mv (.tmp 25), none, []⟩])
  (.seq (.keep [0, 3, 4, 5, 6] (.ops [⟨0, some 26, .mv (.tmp 6), none, []⟩, ⟨1, some 27, .bin .mul (.const (.float .f32 3204448256)) (.tmp 26), none, []⟩, ⟨2, some 28, .mv (.tmp 6), none, []⟩, ⟨3, some 29, .bin .mul (.tmp 27) (.tmp 28), none, []⟩, ⟨4, some 30, .call n_s_l01Exp [.tmp 29], none, []⟩, ⟨5, some 31, .mv (.tmp 0), none, []⟩, ⟨6, some 32, .bin .quo (.tmp 30) (.tmp 31), none, []⟩, ⟨7, some 7, .mv (.tmp 32), none, []⟩]))
  (.keep [0, 3, 4, 5, 6, 7] (.ops [⟨0, some 33, .mv (.tmp 4), none, []⟩, ⟨1, some 34, .mv (.tmp 6), none, []⟩, ⟨2, some 35, .cv (.f .f64) (.tmp 34), none, []⟩, ⟨3, some 36, .call n_s_l01Phasor [.tmp 35], none, []⟩, ⟨4, some 37, .mv (.tmp 7), none, []⟩, ⟨5, some 38, .call n_s_l01Scale [.tmp 36, .tmp 37], none, []⟩, ⟨6, some 39, .bsl 126 1 (.complex .f32 0 0) [(0, .tmp 38)], none, []⟩, ⟨7, some 40, .app 126 8 (.tmp 33) (.tmp 39), none, []⟩, ⟨8, some 4, .mv (.tmp 40), none, []⟩])))))
  (.keep [0, 3, 4, 5] (.ops [⟨0, some 18, .mv (.tmp 5), none, []⟩, ⟨1, some 19, .bin .add (.tmp 18) (.const (.int .i64 1)), none, []⟩, ⟨2, some 5, .mv (.tmp 19), none, []⟩])))))))
  (.seq (.keep [4] (.ops [⟨0, some 41, .mv (.tmp 4), none, []⟩, ⟨1, some 2, .mv (.tmp 41), none, []⟩]))
  (.ret)))))
theorem k_s_l03Kernel : FnOk Try.prog n_s_l03Kernel 1 c_s_l03Kernel [.tmp 2] := ⟨by kernel_rfl⟩
def c_i_isScale : ACode :=
  .seq (.ops [⟨0, some 2, .mv (.const (.bool false)), none, []⟩])
  (.seq (.ops [⟨0, some 3, .mv (.tmp 0), none, []⟩, ⟨1, some 4, .bin .geq (.tmp 3) (.const (.float .f32 1056964608)), none, []⟩, ⟨2, some 5, .mv (.tmp 4), none, []⟩, ⟨3, some 6, .mv (.tmp 0), (some (5, true)), []⟩, ⟨4, some 7, .bin .leq (.tmp 6) (.const (.float .f32 1098907648)), (some (5, true)), []⟩, ⟨5, some 8, .pick (.tmp 5) (.tmp 7) (.const (.bool false)), none, []⟩, ⟨6, some 2, .mv (.tmp 8), none, []⟩])
  (.ret))
theorem k_i_isScale : FnOk Try.prog n_i_isScale 1 c_i_isScale [.tmp 2] := ⟨by kernel_rfl⟩
def c_i_kernel : ACode :=
  .seq (.ops [⟨0, some 2, .mv (.const (.slice none 0 0)), none, []⟩, ⟨1, some 3, .mv (.const (.int .i64 0)), none, []⟩])
  (.seq (.ops [⟨0, some 9, .mv (.tmp 0), none, []⟩, ⟨1, some 10, .bin .mul (.const (.float .f32 1077936128)) (.tmp 9), none, []⟩, ⟨2, some 11, .cv (.f .f64) (.tmp 10), none, []⟩, ⟨3, some 12, .call n_m_Ceil [.tmp 11], none, []⟩, ⟨4, some 13, .cv (.i .i64) (.tmp 12), none, []⟩, ⟨5, some 4, .mv (.tmp 13), none, []⟩])
  (.seq (.keep [0, 4] (.ops [⟨0, some 14, .bsl 126 0 (.complex .f32 0 0) [], none, []⟩, ⟨1, some 5, .mv (.tmp 14), none, []⟩]))
  (.seq (.seq (.ops [⟨0, some 15, .mv (.tmp 4), none, []⟩, ⟨1, some 16, .bin .mul (.const (.int .i64 2)) (.tmp 15), none, []⟩, ⟨2, some 17, .bin .add (.tmp 16) (.const (.int .i64 1)), none, []⟩, ⟨3, some 18, .mv (.const (.int .i64 0)), none, []⟩])
  (.block 0 (.loop [0, 4, 5, 17, 18] (.seq (.ops [⟨0, some 19, .bin .lss (.tmp 18) (.tmp 17), none, []⟩])
  (.seq (.cond (.tmp 19) (.skip) (.exit 0))
  (.seq (.block 1 (.seq (.ops [⟨0, some 20, .mv (.tmp 18), none, []⟩, ⟨1, some 6, .mv (.tmp 20), none, []⟩])
  (.seq (.ops [⟨0, some 21, .mv (.tmp 6), none, []⟩, ⟨1, some 22, .mv (.tmp 4), none, []⟩, ⟨2, some 23, .bin .sub (.tmp 21) (.tmp 22), none, []⟩, ⟨3, some 24, .cv (.f .f32) (.tmp 23), none, []⟩, ⟨4, some 25, .mv (.tmp 0), none, []⟩, ⟨5, some 26, .bin .quo (.tmp 24) (.tmp 25), none, []⟩, ⟨6, some 7, .mv (.tmp 26), none, []⟩])
  (.seq (.keep [0, 4, 5, 7, 17, 18] (.ops [⟨0, some 27, .mv (.tmp 7), none, []⟩, ⟨1, some 28, .bin .mul (.const (.float .f32 3204448256)) (.tmp 27), none, []⟩, ⟨2, some 29, .mv (.tmp 7), none, []⟩, ⟨3, some 30, .bin .mul (.tmp 28) (.tmp 29), none, []⟩, ⟨4, some 31, .call n_i_ExpNumber [.tmp 30], none, []⟩, ⟨5, some 32, .mv (.tmp 0), none, []⟩, ⟨6, some 33, .bin .quo (.tmp 31) (.tmp 32), none, []⟩, ⟨7, some 8, .mv (.tmp 33), none, []⟩]))
  (.keep [0, 4, 5, 7, 8, 17, 18] (.ops [⟨0, some 34, .mv (.tmp 5), none, []⟩, ⟨1, some 35, .mv (.tmp 7), none, []⟩, ⟨2, some 36, .cv (.f .f64) (.tmp 35), none, []⟩, ⟨3, some 37, .call n_i_PhasorOf [.tmp 36], none, []⟩, ⟨4, some 38, .mv (.tmp 8), none, []⟩, ⟨5, some 39, .call n_i_ScaleComplex [.tmp 37, .tmp 38], none, []⟩, ⟨6, some 40, .bsl 126 1 (.complex .f32 0 0) [(0, .tmp 39)], none, []⟩, ⟨7, some 41, .app 126 8 (.tmp 34) (.tmp 40), none, []⟩, ⟨8, some 5, .mv (.tmp 41), none, []⟩]))))))
  (.keep [0, 4, 5, 17, 18] (.ops [⟨0, some 42, .bin .add (.tmp 18) (.const (.int .i64 1)), none, []⟩, ⟨1, some 18, .mv (.tmp 42), none, []⟩]))))))))
  (.seq (.ops [⟨0, some 43, .mv (.tmp 5), none, []⟩, ⟨1, some 44, .mv (.tmp 4), none, []⟩, ⟨2, some 2, .mv (.tmp 43), none, []⟩, ⟨3, some 3, .mv (.tmp 44), none, []⟩])
  (.ret)))))
theorem k_i_kernel : FnOk Try.prog n_i_kernel 1 c_i_kernel [.tmp 2, .tmp 3] := ⟨by kernel_rfl⟩
def c_i_finiteComplex : ACode :=
  .seq (.ops [⟨0, some 2, .mv (.const (.slice none 0 0)), none, []⟩, ⟨1, some 3, .mv (.const (.bool false)), none, []⟩])
  (.seq (.seq (.ops [⟨0, some 6, .mv (.tmp 0), none, []⟩, ⟨1, some 7, .len (.tmp 6), none, []⟩, ⟨2, some 8, .mv (.const (.int .i64 0)), none, []⟩])
  (.block 0 (.loop [0, 6, 7, 8] (.seq (.ops [⟨0, some 9, .bin .lss (.tmp 8) (.tmp 7), none, []⟩])
  (.seq (.cond (.tmp 9) (.skip) (.exit 0))
  (.seq (.block 1 (.seq (.ops [⟨0, some 10, .ia (.tmp 6) (.tmp 8), none, []⟩, ⟨1, some 11, .ld (.tmp 10), none, []⟩, ⟨2, some 5, .mv (.tmp 11), none, []⟩])
  (.seq (.ops [⟨0, some 12, .mv (.tmp 5), none, []⟩, ⟨1, some 13, .call n_i_IsFiniteComplex [.tmp 12], none, []⟩, ⟨2, some 14, .un .not (.tmp 13), none, []⟩])
  (.cond (.tmp 14) (.seq (.keep [] (.ops [⟨0, some 2, .mv (.const (.slice none 0 0)), none, []⟩, ⟨1, some 3, .mv (.const (.bool false)), none, []⟩]))
  (.ret)) (.skip)))))
  (.keep [0, 6, 7, 8] (.ops [⟨0, some 15, .bin .add (.tmp 8) (.const (.int .i64 1)), none, []⟩, ⟨1, some 8, .mv (.tmp 15), none, []⟩]))))))))
  (.seq (.ops [⟨0, some 16, .mv (.tmp 0), none, []⟩, ⟨1, some 2, .mv (.tmp 16), none, []⟩, ⟨2, some 3, .mv (.const (.bool true)), none, []⟩])
  (.ret)))
theorem k_i_finiteComplex : FnOk Try.prog n_i_finiteComplex 1 c_i_finiteComplex [.tmp 2, .tmp 3] := ⟨by kernel_rfl⟩
def c_w_sameComplex : ACode :=
  .seq (.ops [⟨0, some 4, .mv (.const (.bool false)), none, []⟩])
  (.seq (.ops [⟨0, some 5, .mv (.tmp 0), none, []⟩, ⟨1, some 6, .re (.tmp 5), none, []⟩, ⟨2, some 7, .mv (.tmp 1), none, []⟩, ⟨3, some 8, .re (.tmp 7), none, []⟩, ⟨4, some 9, .call n_w_sameFloat [.tmp 6, .tmp 8], none, []⟩, ⟨5, some 10, .mv (.tmp 9), none, []⟩, ⟨6, some 11, .mv (.tmp 0), (some (10, true)), []⟩, ⟨7, some 12, .im (.tmp 11), (some (10, true)), []⟩, ⟨8, some 13, .mv (.tmp 1), (some (10, true)), []⟩, ⟨9, some 14, .im (.tmp 13), (some (10, true)), []⟩, ⟨10, some 15, .call n_w_sameFloat [.tmp 12, .tmp 14], (some (10, true)), []⟩, ⟨11, some 16, .pick (.tmp 10) (.tmp 15) (.const (.bool false)), none, []⟩, ⟨12, some 4, .mv (.tmp 16), none, []⟩])
  (.ret))
theorem k_w_sameComplex : FnOk Try.prog n_w_sameComplex 2 c_w_sameComplex [.tmp 4] := ⟨by kernel_rfl⟩
def c_s_l03Long : ACode :=
  .seq (.ops [⟨0, some 2, .mv (.const (.bool false)), none, []⟩])
  (.seq (.ops [⟨0, some 3, .mv (.tmp 0), none, []⟩, ⟨1, some 4, .len (.tmp 3), none, []⟩, ⟨2, some 5, .bin .geq (.tmp 4) (.const (.int .i64 1)), none, []⟩, ⟨3, some 6, .mv (.tmp 5), none, []⟩, ⟨4, some 7, .mv (.tmp 0), (some (6, true)), []⟩, ⟨5, some 8, .len (.tmp 7), (some (6, true)), []⟩, ⟨6, some 9, .bin .leq (.tmp 8) (.const (.int .i64 128)), (some (6, true)), []⟩, ⟨7, some 10, .pick (.tmp 6) (.tmp 9) (.const (.bool false)), none, []⟩, ⟨8, some 11, .mv (.tmp 10), none, []⟩, ⟨9, some 12, .mv (.tmp 0), (some (11, true)), []⟩, ⟨10, some 13, .call n_s_l02Finite [.tmp 12], (some (11, true)), []⟩, ⟨11, some 14, .pick (.tmp 11) (.tmp 13) (.const (.bool false)), none, []⟩, ⟨12, some 2, .mv (.tmp 14), none, []⟩])
  (.ret))
theorem k_s_l03Long : FnOk Try.prog n_s_l03Long 1 c_s_l03Long [.tmp 2] := ⟨by kernel_rfl⟩
def c_s_l03Ripples : ACode :=
  .seq (.ops [⟨0, some 4, .mv (.const (.slice none 0 0)), none, []⟩])
  (.seq (.ops [⟨0, some 12, .mv (.tmp 1), none, []⟩, ⟨1, some 13, .call n_s_l03Kernel [.tmp 12], none, []⟩, ⟨2, some 5, .mv (.tmp 13), none, []⟩])
  (.seq (.ops [⟨0, some 14, .mv (.tmp 5), none, []⟩, ⟨1, some 15, .len (.tmp 14), none, []⟩, ⟨2, some 16, .bin .quo (.tmp 15) (.const (.int .i64 2)), none, []⟩, ⟨3, some 6, .mv (.tmp 16), none, []⟩])
  (.seq (.keep [0, 5, 6] (.ops [⟨0, some 17, .bsl 126 0 (.complex .f32 0 0) [], none, []⟩, ⟨1, some 7, .mv (.tmp 17), none, []⟩]))
  (.seq (.seq (.ops [⟨0, some 18, .mv (.tmp 0), none, []⟩, ⟨1, some 19, .len (.tmp 18), none, []⟩, ⟨2, some 20, .mv (.const (.int .i64 0)), none, []⟩])
  (.block 0 (.loop [0, 5, 6, 7, 19, 20] (.seq (.ops [⟨0, some 21, .bin .lss (.tmp 20) (.tmp 19), none, []⟩])
  (.seq (.cond (.tmp 21) (.skip) (.exit 0))
  (.seq (.block 1 (.seq (.ops [⟨0, some 22, .mv (.tmp 20), none, []⟩, ⟨1, some 8, .mv (.tmp 22), none, []⟩])
  (.seq (.ops [⟨0, some 9, .mv (.const (.complex .f32 0 0)), none, []⟩])
  (.seq (.seq (.ops [⟨0, some 23, .mv (.tmp 5), none, []⟩, ⟨1, some 24, .len (.tmp 23), none, []⟩, ⟨2, some 25, .mv (.const (.int .i64 0)), none, []⟩])
  (.block 2 (.loop [0, 5, 6, 7, 8, 9, 19, 20, 24, 25] (.seq (.ops [⟨0, some 26, .bin .lss (.tmp 25) (.tmp 24), none, []⟩])
  (.seq (.cond (.tmp 26) (.skip) (.exit 2))
  (.seq (.block 3 (.seq (.ops [⟨0, some 27, .mv (.tmp 25), none, []⟩, ⟨1, some 10, .mv (.tmp 27), none, []⟩])
  (.seq (.ops [⟨0, some 28, .mv (.tmp 8), none, []⟩, ⟨1, some 29, .mv (.tmp 10), none, []⟩, ⟨2, some 30, .bin .add (.tmp 28) (.tmp 29), none, []⟩, ⟨3, some 31, .mv (.tmp 6), none, []⟩, ⟨4, some 32, .bin .sub (.tmp 30) (.tmp 31), none, []⟩, ⟨5, some 11, .mv (.tmp 32), none, []⟩])
  (.seq (.keep [0, 5, 6, 7, 8, 9, 10, 11, 19, 20, 24, 25] (.ops [⟨0, some 33, .mv (.tmp 11), none, []⟩, ⟨1, some 34, .bin .geq (.tmp 33) (.const (.int .i64 0)), none, []⟩, ⟨2, some 35, .mv (.tmp 34), none, []⟩, ⟨3, some 36, .mv (.tmp 11), (some (35, true)), []⟩, ⟨4, some 37, .mv (.tmp 0), (some (35, true)), []⟩, ⟨5, some 38, .len (.tmp 37), (some (35, true)), []⟩, ⟨6, some 39, .bin .lss (.tmp 36) (.tmp 38), (some (35, true)), []⟩, ⟨7, some 40, .pick (.tmp 35) (.tmp 39) (.const (.bool false)), none, []⟩]))
  (.cond (.tmp 40) (.keep [0, 5, 6, 7, 8, 9, 10, 11, 19, 20, 24, 25] (.ops [⟨0, some 41, .mv (.tmp 9), none, []⟩, ⟨1, some 42, .mv (.tmp 5), none, []⟩, ⟨2, some 43, .mv (.tmp 10), none, []⟩, ⟨3, some 44, .ia (.tmp 42) (.tmp 43), none, []⟩, ⟨4, some 45, .ld (.tmp 44), none, []⟩, ⟨6, some 47, .mv (.tmp 0), none, []⟩, ⟨7, some 48, .mv (.tmp 11), none, []⟩, ⟨8, some 49, .ia (.tmp 47) (.tmp 48), none, []⟩, ⟨9, some 50, .ld (.tmp 49), none, []⟩, ⟨5, some 46, .call n_s_l01Conj [.tmp 45], none, [(some 49, .ia (.tmp 47) (.tmp 48), none), (some 50, .ld (.tmp 49), none)]⟩, ⟨10, some 51, .call n_s_l01Scale [.tmp 46, .tmp 50], none, []⟩, ⟨11, some 52, .bin .add (.tmp 41) (.tmp 51), none, []⟩, ⟨12, some 9, .mv (.tmp 52), none, []⟩])) (.skip))))))
  (.keep [0, 5, 6, 7, 8, 9, 19, 20, 24, 25] (.ops [⟨0, some 53, .bin .add (.tmp 25) (.const (.int .i64 1)), none, []⟩, ⟨1, some 25, .mv (.tmp 53), none, []⟩]))))))))
  (.ops [⟨0, some 54, .mv (.tmp 7), none, []⟩, ⟨1, some 55, .mv (.tmp 9), none, []⟩, ⟨2, some 56, .bsl 126 1 (.complex .f32 0 0) [(0, .tmp 55)], none, []⟩, ⟨3, some 57, .app 126 8 (.tmp 54) (.tmp 56), none, []⟩, ⟨4, some 7, .mv (.tmp 57), none, []⟩])))))
  (.keep [0, 5, 6, 7, 19, 20] (.ops [⟨0, some 58, .bin .add (.tmp 20) (.const (.int .i64 1)), none, []⟩, ⟨1, some 20, .mv (.tmp 58), none, []⟩]))))))))
  (.seq (.keep [7] (.ops [⟨0, some 59, .mv (.tmp 7), none, []⟩, ⟨1, some 4, .mv (.tmp 59), none, []⟩]))
  (.ret))))))
theorem k_s_l03Ripples : FnOk Try.prog n_s_l03Ripples 2 c_s_l03Ripples [.tmp 4] := ⟨by kernel_rfl⟩
def c_s_l03CFinite : ACode :=
  .seq (.ops [⟨0, some 2, .mv (.const (.bool false)), none, []⟩])
  (.seq (.seq (.ops [⟨0, some 4, .mv (.tmp 0), none, []⟩, ⟨1, some 5, .len (.tmp 4), none, []⟩, ⟨2, some 6, .mv (.const (.int .i64 0)), none, []⟩])
  (.block 0 (.loop [0, 5, 6] (.seq (.ops [⟨0, some 7, .bin .lss (.tmp 6) (.tmp 5), none, []⟩])
  (.seq (.cond (.tmp 7) (.skip) (.exit 0))
  (.seq (.block 1 (.seq (.ops [⟨0, some 8, .mv (.tmp 6), none, []⟩, ⟨1, some 3, .mv (.tmp 8), none, []⟩])
  (.seq (.ops [⟨0, some 9, .mv (.tmp 0), none, []⟩, ⟨1, some 10, .mv (.tmp 3), none, []⟩, ⟨2, some 11, .ia (.tmp 9) (.tmp 10), none, []⟩, ⟨3, some 12, .ld (.tmp 11), none, []⟩, ⟨4, some 13, .call n_s_l01CFinite [.tmp 12], none, []⟩, ⟨5, some 14, .un .not (.tmp 13), none, []⟩])
  (.cond (.tmp 14) (.seq (.keep [] (.ops [⟨0, some 2, .mv (.const (.bool false)), none, []⟩]))
  (.ret)) (.skip)))))
  (.keep [0, 5, 6] (.ops [⟨0, some 15, .bin .add (.tmp 6) (.const (.int .i64 1)), none, []⟩, ⟨1, some 6, .mv (.tmp 15), none, []⟩]))))))))
  (.seq (.ops [⟨0, some 2, .mv (.const (.bool true)), none, []⟩])
  (.ret)))
theorem k_s_l03CFinite : FnOk Try.prog n_s_l03CFinite 1 c_s_l03CFinite [.tmp 2] := ⟨by kernel_rfl⟩
def c_i_isLong : ACode :=
  .seq (.ops [⟨0, some 2, .mv (.const (.bool false)), none, []⟩])
  (.seq (.ops [⟨0, some 3, .mv (.tmp 0), none, []⟩, ⟨1, some 4, .len (.tmp 3), none, []⟩, ⟨2, some 5, .call n_i_within [.tmp 4, .const (.int .i64 1), .const (.int .i64 128)], none, []⟩, ⟨3, some 6, .mv (.tmp 5), none, []⟩, ⟨4, some 7, .mv (.tmp 0), (some (6, true)), []⟩, ⟨5, some 8, .bsl 32 1 (.slice none 0 0) [(0, .tmp 7)], (some (6, true)), []⟩, ⟨6, some 9, .call n_i_areFinite [.tmp 8], (some (6, true)), []⟩, ⟨7, some 10, .pick (.tmp 6) (.tmp 9) (.const (.bool false)), none, []⟩, ⟨8, some 2, .mv (.tmp 10), none, []⟩])
  (.ret))
theorem k_i_isLong : FnOk Try.prog n_i_isLong 1 c_i_isLong [.tmp 2] := ⟨by kernel_rfl⟩
def c_i_add : ACode :=
  .seq (.ops [⟨0, some 4, .mv (.const (.complex .f32 0 0)), none, []⟩])
  (.seq (.ops [⟨0, some 5, .mv (.tmp 0), none, []⟩, ⟨1, some 6, .re (.tmp 5), none, []⟩, ⟨2, some 7, .mv (.tmp 1), none, []⟩, ⟨3, some 8, .re (.tmp 7), none, []⟩, ⟨4, some 9, .bin .add (.tmp 6) (.tmp 8), none, []⟩, ⟨5, some 10, .mv (.tmp 0), none, []⟩, ⟨6, some 11, .im (.tmp 10), none, []⟩, ⟨7, some 12, .mv (.tmp 1), none, []⟩, ⟨8, some 13, .im (.tmp 12), none, []⟩, ⟨9, some 14, .bin .add (.tmp 11) (.tmp 13), none, []⟩, ⟨10, some 15, .cx (.tmp 9) (.tmp 14), none, []⟩, ⟨11, some 4, .mv (.tmp 15), none, []⟩])
  (.ret))
theorem k_i_add : FnOk Try.prog n_i_add 2 c_i_add [.tmp 4] := ⟨by kernel_rfl⟩
def c_i_ScaleComplex : ACode :=
  .seq (.ops [⟨0, some 4, .mv (.const (.complex .f32 0 0)), none, []⟩])
  (.seq (.ops [⟨0, some 5, .mv (.tmp 0), none, []⟩, ⟨1, some 6, .re (.tmp 5), none, []⟩, ⟨2, some 7, .mv (.tmp 1), none, []⟩, ⟨3, some 8, .bin .mul (.tmp 6) (.tmp 7), none, []⟩, ⟨4, some 9, .mv (.tmp 0), none, []⟩, ⟨5, some 10, .im (.tmp 9), none, []⟩, ⟨6, some 11, .mv (.tmp 1), none, []⟩, ⟨7, some 12, .bin .mul (.tmp 10) (.tmp 11), none, []⟩, ⟨8, some 13, .cx (.tmp 8) (.tmp 12), none, []⟩, ⟨9, some 4, .mv (.tmp 13), none, []⟩])
  (.ret))
theorem k_i_ScaleComplex : FnOk Try.prog n_i_ScaleComplex 2 c_i_ScaleComplex [.tmp 4] := ⟨by kernel_rfl⟩
def c_i_ConjugateOf : ACode :=
  .seq (.ops [⟨0, some 2, .mv (.const (.complex .f32 0 0)), none, []⟩])
  (.seq (.ops [⟨0, some 3, .mv (.tmp 0), none, []⟩, ⟨1, some 4, .re (.tmp 3), none, []⟩, ⟨2, some 5, .mv (.tmp 0), none, []⟩, ⟨3, some 6, .im (.tmp 5), none, []⟩, ⟨4, some 7, .un .neg (.tmp 6), none, []⟩, ⟨5, some 8, .cx (.tmp 4) (.tmp 7), none, []⟩, ⟨6, some 2, .mv (.tmp 8), none, []⟩])
  (.ret))
theorem k_i_ConjugateOf : FnOk Try.prog n_i_ConjugateOf 1 c_i_ConjugateOf [.tmp 2] := ⟨by kernel_rfl⟩
def c_s_l02Finite : ACode :=
  .seq (.ops [⟨0, some 2, .mv (.const (.bool false)), none, []⟩])
  (.seq (.seq (.ops [⟨0, some 3, .mv (.const (.int .i64 0)), none, []⟩])
  (.block 0 (.loop [0, 3] (.seq (.seq (.ops [⟨0, some 4, .mv (.tmp 3), none, []⟩, ⟨1, some 5, .mv (.tmp 0), none, []⟩, ⟨2, some 6, .len (.tmp 5), none, []⟩, ⟨3, some 7, .bin .lss (.tmp 4) (.tmp 6), none, []⟩])
  (.cond (.tmp 7) (.skip) (.exit 0)))
  (.seq (.block 1 (.seq (.ops [⟨0, some 10, .mv (.tmp 0), none, []⟩, ⟨1, some 11, .mv (.tmp 3), none, []⟩, ⟨2, some 12, .ia (.tmp 10) (.tmp 11), none, []⟩, ⟨3, some 13, .ld (.tmp 12), none, []⟩, ⟨4, some 14, .call n_s_l01Finite [.tmp 13], none, []⟩, ⟨5, some 15, .un .not (.tmp 14), none, []⟩])
  (.cond (.tmp 15) (.seq (.keep [] (.ops [⟨0, some 2, .mv (.const (.bool false)), none, []⟩]))
  (.ret)) (.skip))))
  (.keep [0, 3] (.ops [⟨0, some 8, .mv (.tmp 3), none, []⟩, ⟨1, some 9, .bin .add (.tmp 8) (.const (.int .i64 1)), none, []⟩, ⟨2, some 3, .mv (.tmp 9), none, []⟩])))))))
  (.seq (.keep [] (.ops [⟨0, some 2, .mv (.const (.bool true)), none, []⟩]))
  (.ret)))
theorem k_s_l02Finite : FnOk Try.prog n_s_l02Finite 1 c_s_l02Finite [.tmp 2] := ⟨by kernel_rfl⟩
def c_s_l01Narrow : ACode :=
  .seq (.ops [⟨0, some 2, .mv (.const (.float .f32 0)), none, []⟩])
  (.seq (.ops [⟨0, some 3, .mv (.tmp 0), none, []⟩, ⟨1, some 4, .cv (.f .f32) (.tmp 3), none, []⟩, ⟨2, some 2, .mv (.tmp 4), none, []⟩])
  (.ret))
theorem k_s_l01Narrow : FnOk Try.prog n_s_l01Narrow 1 c_s_l01Narrow [.tmp 2] := ⟨by kernel_rfl⟩
def c_s_l01Finite : ACode :=
  .seq (.ops [⟨0, some 2, .mv (.const (.bool false)), none, []⟩])
  (.seq (.ops [⟨0, some 3, .mv (.tmp 0), none, []⟩, ⟨1, some 4, .mv (.tmp 0), none, []⟩, ⟨2, some 5, .bin .sub (.tmp 3) (.tmp 4), none, []⟩, ⟨3, some 6, .bin .eql (.tmp 5) (.const (.float .f32 0)), none, []⟩, ⟨4, some 2, .mv (.tmp 6), none, []⟩])
  (.ret))
theorem k_s_l01Finite : FnOk Try.prog n_s_l01Finite 1 c_s_l01Finite [.tmp 2] := ⟨by kernel_rfl⟩
def c_m_Inf : ACode :=
  .seq (.ops [⟨0, some 2, .mv (.const (.float .f64 0)), none, []⟩])
  (.seq (.ops [⟨0, some 3, .mv (.const (.int .u64 0)), none, []⟩])
  (.seq (.seq (.ops [⟨0, some 4, .mv (.tmp 0), none, []⟩, ⟨1, some 5, .bin .geq (.tmp 4) (.const (.int .i64 0)), none, []⟩])
  (.cond (.tmp 5) (.keep [] (.ops [⟨0, some 3, .mv (.const (.int .u64 9218868437227405312)), none, []⟩])) (.keep [] (.ops [⟨0, some 3, .mv (.const (.int .u64 18442240474082181120)), none, []⟩]))))
  (.seq (.ops [⟨0, some 6, .mv (.tmp 3), none, []⟩, ⟨1, some 7, .f64from (.tmp 6), none, []⟩, ⟨2, some 2, .mv (.tmp 7), none, []⟩])
  (.ret))))
theorem k_m_Inf : FnOk Try.prog n_m_Inf 1 c_m_Inf [.tmp 2] := ⟨by kernel_rfl⟩
def c_m_NaN : ACode :=
  .seq (.ops [⟨0, some 0, .mv (.const (.float .f64 0)), none, []⟩])
  (.seq (.ops [⟨0, some 1, .f64from (.const (.int .u64 9221120237041090561)), none, []⟩, ⟨1, some 0, .mv (.tmp 1), none, []⟩])
  (.ret))
theorem k_m_NaN : FnOk Try.prog n_m_NaN 0 c_m_NaN [.tmp 0] := ⟨by kernel_rfl⟩
def c_i_IsFinite : ACode :=
  .seq (.ops [⟨0, some 2, .mv (.const (.bool false)), none, []⟩])
  (.seq (.ops [⟨0, some 3, .mv (.tmp 0), none, []⟩, ⟨1, some 4, .mv (.tmp 0), none, []⟩, ⟨2, some 5, .bin .sub (.tmp 3) (.tmp 4), none, []⟩, ⟨3, some 6, .bin .eql (.tmp 5) (.const (.float .f32 0)), none, []⟩, ⟨4, some 2, .mv (.tmp 6), none, []⟩])
  (.ret))
theorem k_i_IsFinite : FnOk Try.prog n_i_IsFinite 1 c_i_IsFinite [.tmp 2] := ⟨by kernel_rfl⟩
def c_i_areFinite : ACode :=
  .seq (.ops [⟨0, some 2, .mv (.const (.bool false)), none, []⟩])
  (.seq (.seq (.ops [⟨0, some 7, .mv (.tmp 0), none, []⟩, ⟨1, some 8, .len (.tmp 7), none, []⟩, ⟨2, some 9, .mv (.const (.int .i64 0)), none, []⟩])
  (.block 0 (.loop [7, 8, 9] (.seq (.ops [⟨0, some 10, .bin .lss (.tmp 9) (.tmp 8), none, []⟩])
  (.seq (.cond (.tmp 10) (.skip) (.exit 0))
  (.seq (.block 1 (.seq (.ops [⟨0, some 11, .ia (.tmp 7) (.tmp 9), none, []⟩, ⟨1, some 12, .ld (.tmp 11), none, []⟩, ⟨2, some 4, .mv (.tmp 12), none, []⟩])
  (.seq (.ops [⟨0, some 13, .mv (.tmp 4), none, []⟩, ⟨1, some 14, .len (.tmp 13), none, []⟩, ⟨2, some 15, .mv (.const (.int .i64 0)), none, []⟩])
  (.block 2 (.loop [7, 8, 9, 13, 14, 15] (.seq (.ops [⟨0, some 16, .bin .lss (.tmp 15) (.tmp 14), none, []⟩])
  (.seq (.cond (.tmp 16) (.skip) (.exit 2))
  (.seq (.block 3 (.seq (.ops [⟨0, some 17, .ia (.tmp 13) (.tmp 15), none, []⟩, ⟨1, some 18, .ld (.tmp 17), none, []⟩, ⟨2, some 6, .mv (.tmp 18), none, []⟩])
  (.seq (.ops [⟨0, some 19, .mv (.tmp 6), none, []⟩, ⟨1, some 20, .call n_i_IsFinite [.tmp 19], none, []⟩, ⟨2, some 21, .un .not (.tmp 20), none, []⟩])
  (.cond (.tmp 21) (.seq (.keep [] (.ops [⟨0, some 2, .mv (.const (.bool false)), none, []⟩]))
  (.ret)) (.skip)))))
  (.keep [7, 8, 9, 13, 14, 15] (.ops [⟨0, some 22, .bin .add (.tmp 15) (.const (.int .i64 1)), none, []⟩, ⟨1, some 15, .mv (.tmp 22), none, []⟩]))))))))))
  (.ops [⟨0, some 23, .bin .add (.tmp 9) (.const (.int .i64 1)), none, []⟩, ⟨1, some 9, .mv (.tmp 23), none, []⟩])))))))
  (.seq (.ops [⟨0, some 2, .mv (.const (.bool true)), none, []⟩])
  (.ret)))
theorem k_i_areFinite : FnOk Try.prog n_i_areFinite 1 c_i_areFinite [.tmp 2] := ⟨by kernel_rfl⟩
def c_m_Ceil : ACode :=
  .seq (.ops [⟨0, some 2, .mv (.const (.float .f64 0)), none, []⟩])
  (.seq (.cond (.const (.bool true)) (.seq (.ops [⟨0, some 3, .mv (.tmp 0), none, []⟩, ⟨1, some 4, .fint 1 (.tmp 3), none, []⟩, ⟨2, some 2, .mv (.tmp 4), none, []⟩])
  (.ret)) (.skip))
  (.seq (.ops [⟨0, some 5, .mv (.tmp 0), none, []⟩, ⟨1, some 6, .call n_m_ceil [.tmp 5], none, []⟩, ⟨2, some 2, .mv (.tmp 6), none, []⟩])
  (.ret)))
theorem k_m_Ceil : FnOk Try.prog n_m_Ceil 1 c_m_Ceil [.tmp 2] := ⟨by kernel_rfl⟩
def c_s_l01Exp : ACode :=
  .seq (.ops [⟨0, some 2, .mv (.const (.float .f32 0)), none, []⟩])
  (.seq (.ops [⟨0, some 3, .mv (.tmp 0), none, []⟩, ⟨1, some 4, .cv (.f .f64) (.tmp 3), none, []⟩, ⟨2, some 5, .call n_s_l01ExpWide [.tmp 4], none, []⟩, ⟨3, some 6, .call n_s_l01Narrow [.tmp 5], none, []⟩, ⟨4, some 2, .mv (.tmp 6), none, []⟩])
  (.ret))
theorem k_s_l01Exp : FnOk Try.prog n_s_l01Exp 1 c_s_l01Exp [.tmp 2] := ⟨by kernel_rfl⟩
def c_s_l01Scale : ACode :=
  .seq (.ops [⟨0, some 4, .mv (.const (.complex .f32 0 0)), none, []⟩])
  (.seq (.ops [⟨0, some 5, .mv (.tmp 0), none, []⟩, ⟨1, some 6, .re (.tmp 5), none, []⟩, ⟨2, some 7, .mv (.tmp 1), none, []⟩, ⟨3, some 8, .bin .mul (.tmp 6) (.tmp 7), none, []⟩, ⟨4, some 9, .mv (.tmp 0), none, []⟩, ⟨5, some 10, .im (.tmp 9), none, []⟩, ⟨6, some 11, .mv (.tmp 1), none, []⟩, ⟨7, some 12, .bin .mul (.tmp 10) (.tmp 11), none, []⟩, ⟨8, some 13, .cx (.tmp 8) (.tmp 12), none, []⟩, ⟨9, some 4, .mv (.tmp 13), none, []⟩])
  (.ret))
theorem k_s_l01Scale : FnOk Try.prog n_s_l01Scale 2 c_s_l01Scale [.tmp 4] := ⟨by kernel_rfl⟩
def c_s_l01Phasor : ACode :=
  .seq (.ops [⟨0, some 2, .mv (.const (.complex .f32 0 0)), none, []⟩])
  (.seq (.seq (.ops [⟨0, some 7, .mv (.tmp 0), none, []⟩, ⟨1, some 8, .mv (.tmp 0), none, []⟩, ⟨2, some 9, .bin .sub (.tmp 7) (.tmp 8), none, []⟩, ⟨3, some 10, .bin .neq (.tmp 9) (.const (.float .f64 0)), none, []⟩])
  (.cond (.tmp 10) (.seq (.keep [] (.ops [⟨0, some 11, .call n_s_l01From [.const (.int .i64 2143289344)], none, []⟩, ⟨1, some 12, .call n_s_l01From [.const (.int .i64 2143289344)], none, []⟩, ⟨2, some 13, .cx (.tmp 11) (.tmp 12), none, []⟩, ⟨3, some 2, .mv (.tmp 13), none, []⟩]))
  (.ret)) (.skip)))
  (.seq (.seq (.keep [0] (.ops [⟨0, some 14, .mv (.tmp 0), none, []⟩, ⟨1, some 15, .bin .geq (.tmp 14) (.const (.float .f64 4841369599423283200)), none, []⟩, ⟨2, some 16, .mv (.tmp 15), none, []⟩, ⟨3, some 17, .mv (.tmp 0), (some (16, false)), []⟩, ⟨4, some 18, .bin .leq (.tmp 17) (.const (.float .f64 14064741636278059008)), (some (16, false)), []⟩, ⟨5, some 19, .pick (.tmp 16) (.const (.bool true)) (.tmp 18), none, []⟩]))
  (.cond (.tmp 19) (.seq (.keep [] (.ops [⟨0, some 2, .mv (.const (.complex .f32 1065353216 0)), none, []⟩]))
  (.ret)) (.skip)))
  (.seq (.keep [0] (.ops [⟨0, some 20, .mv (.tmp 0), none, []⟩, ⟨1, some 21, .mv (.tmp 0), none, []⟩, ⟨2, some 22, .cv (.i .i64) (.tmp 21), none, []⟩, ⟨3, some 23, .cv (.f .f64) (.tmp 22), none, []⟩, ⟨4, some 24, .bin .sub (.tmp 20) (.tmp 23), none, []⟩, ⟨5, some 3, .mv (.tmp 24), none, []⟩]))
  (.seq (.seq (.keep [3] (.ops [⟨0, some 25, .mv (.tmp 3), none, []⟩, ⟨1, some 26, .bin .lss (.tmp 25) (.const (.float .f64 0)), none, []⟩]))
  (.cond (.tmp 26) (.ops [⟨0, some 27, .mv (.tmp 3), none, []⟩, ⟨1, some 28, .bin .add (.tmp 27) (.const (.float .f64 4607182418800017408)), none, []⟩, ⟨2, some 3, .mv (.tmp 28), none, []⟩]) (.skip)))
  (.seq (.ops [⟨0, some 4, .mv (.const (.int .i64 0)), none, []⟩])
  (.seq (.block 0 (.loop [3, 4] (.seq (.seq (.ops [⟨0, some 29, .mv (.tmp 3), none, []⟩, ⟨1, some 30, .bin .geq (.tmp 29) (.const (.float .f64 4598175219545276416)), none, []⟩])
  (.cond (.tmp 30) (.skip) (.exit 0)))
  (.block 1 (.seq (.ops [⟨0, some 31, .mv (.tmp 3), none, []⟩, ⟨1, some 32, .bin .sub (.tmp 31) (.const (.float .f64 4598175219545276416)), none, []⟩, ⟨2, some 3, .mv (.tmp 32), none, []⟩])
  (.ops [⟨0, some 33, .mv (.tmp 4), none, []⟩, ⟨1, some 34, .bin .add (.tmp 33) (.const (.int .i64 1)), none, []⟩, ⟨2, some 4, .mv (.tmp 34), none, []⟩]))))))
  (.seq (.ops [⟨0, some 35, .mv (.tmp 3), none, []⟩, ⟨1, some 36, .bin .sub (.const (.float .f64 4598175219545276416)) (.tmp 35), none, []⟩, ⟨2, some 37, .call n_s_l01SineWide [.tmp 36], none, []⟩, ⟨3, some 5, .mv (.tmp 37), none, []⟩])
  (.seq (.keep [3, 4, 5] (.ops [⟨0, some 38, .mv (.tmp 3), none, []⟩, ⟨1, some 39, .call n_s_l01SineWide [.tmp 38], none, []⟩, ⟨2, some 6, .mv (.tmp 39), none, []⟩]))
  (.seq (.seq (.ops [⟨0, some 40, .mv (.tmp 4), none, []⟩])
  (.block 2 (.seq (.ops [⟨0, some 42, .bin .eql (.tmp 40) (.const (.int .i64 1)), none, []⟩, ⟨1, some 41, .mv (.tmp 42), none, []⟩])
  (.cond (.tmp 41) (.seq (.keep [5, 6] (.ops [⟨0, some 43, .mv (.tmp 6), none, []⟩, ⟨1, some 44, .bin .sub (.const (.float .f64 0)) (.tmp 43), none, []⟩, ⟨2, some 45, .call n_s_l01Narrow [.tmp 44], none, []⟩, ⟨3, some 46, .mv (.tmp 5), none, []⟩, ⟨4, some 47, .call n_s_l01Narrow [.tmp 46], none, []⟩, ⟨5, some 48, .cx (.tmp 45) (.tmp 47), none, []⟩, ⟨6, some 2, .mv (.tmp 48), none, []⟩]))
  (.ret)) (.seq (.keep [5, 6, 40] (.ops [⟨0, some 50, .bin .eql (.tmp 40) (.const (.int .i64 2)), none, []⟩, ⟨1, some 49, .mv (.tmp 50), none, []⟩]))
  (.cond (.tmp 49) (.seq (.ops [⟨0, some 51, .mv (.tmp 5), none, []⟩, ⟨1, some 52, .bin .sub (.const (.float .f64 0)) (.tmp 51), none, []⟩, ⟨2, some 53, .call n_s_l01Narrow [.tmp 52], none, []⟩, ⟨3, some 54, .mv (.tmp 6), none, []⟩, ⟨4, some 55, .bin .sub (.const (.float .f64 0)) (.tmp 54), none, []⟩, ⟨5, some 56, .call n_s_l01Narrow [.tmp 55], none, []⟩, ⟨6, some 57, .cx (.tmp 53) (.tmp 56), none, []⟩, ⟨7, some 2, .mv (.tmp 57), none, []⟩])
  (.ret)) (.seq (.ops [⟨0, some 59, .bin .eql (.tmp 40) (.const (.int .i64 3)), none, []⟩, ⟨1, some 58, .mv (.tmp 59), none, []⟩])
  (.cond (.tmp 58) (.seq (.keep [5, 6] (.ops [⟨0, some 60, .mv (.tmp 6), none, []⟩, ⟨1, some 61, .call n_s_l01Narrow [.tmp 60], none, []⟩, ⟨2, some 62, .mv (.tmp 5), none, []⟩, ⟨3, some 63, .bin .sub (.const (.float .f64 0)) (.tmp 62), none, []⟩, ⟨4, some 64, .call n_s_l01Narrow [.tmp 63], none, []⟩, ⟨5, some 65, .cx (.tmp 61) (.tmp 64), none, []⟩, ⟨6, some 2, .mv (.tmp 65), none, []⟩]))
  (.ret)) (.skip)))))))))
  (.seq (.keep [5, 6] (.ops [⟨0, some 66, .mv (.tmp 5), none, []⟩, ⟨1, some 67, .call n_s_l01Narrow [.tmp 66], none, []⟩, ⟨2, some 68, .mv (.tmp 6), none, []⟩, ⟨3, some 69, .call n_s_l01Narrow [.tmp 68], none, []⟩, ⟨4, some 70, .cx (.tmp 67) (.tmp 69), none, []⟩, ⟨5, some 2, .mv (.tmp 70), none, []⟩]))
  (.ret)))))))))))
theorem k_s_l01Phasor : FnOk Try.prog n_s_l01Phasor 1 c_s_l01Phasor [.tmp 2] := ⟨by kernel_rfl⟩
def c_i_ExpNumber : ACode :=
  .seq (.ops [⟨0, some 2, .mv (.const (.float .f32 0)), none, []⟩])
  (.seq (.ops [⟨0, some 3, .mv (.tmp 0), none, []⟩, ⟨1, some 4, .call n_i_expOf [.tmp 3], none, []⟩, ⟨2, some 5, .cv (.f .f32) (.tmp 4), none, []⟩, ⟨3, some 2, .mv (.tmp 5), none, []⟩])
  (.ret))
theorem k_i_ExpNumber : FnOk Try.prog n_i_ExpNumber 1 c_i_ExpNumber [.tmp 2] := ⟨by kernel_rfl⟩
def c_i_PhasorOf : ACode :=
  .seq (.ops [⟨0, some 2, .mv (.const (.complex .f32 0 0)), none, []⟩])
  (.seq (.seq (.ops [⟨0, some 8, .mv (.tmp 0), none, []⟩, ⟨1, some 9, .call n_i_isFinite64 [.tmp 8], none, []⟩, ⟨2, some 10, .un .not (.tmp 9), none, []⟩])
  (.cond (.tmp 10) (.seq (.keep [] (.ops [⟨0, some 11, .call n_m_NaN [], none, []⟩, ⟨1, some 12, .cv (.f .f32) (.tmp 11), none, []⟩, ⟨2, some 3, .mv (.tmp 12), none, []⟩]))
  (.seq (.ops [⟨0, some 13, .mv (.tmp 3), none, []⟩, ⟨1, some 14, .mv (.tmp 3), none, []⟩, ⟨2, some 15, .cx (.tmp 13) (.tmp 14), none, []⟩, ⟨3, some 2, .mv (.tmp 15), none, []⟩])
  (.ret))) (.skip)))
  (.seq (.seq (.ops [⟨0, some 16, .mv (.tmp 0), none, []⟩, ⟨1, some 17, .call n_m_Abs [.tmp 16], none, []⟩, ⟨2, some 18, .bin .geq (.tmp 17) (.const (.float .f64 4841369599423283200)), none, []⟩])
  (.cond (.tmp 18) (.seq (.keep [] (.ops [⟨0, some 2, .mv (.const (.complex .f32 1065353216 0)), none, []⟩]))
  (.ret)) (.skip)))
  (.seq (.keep [0] (.ops [⟨0, some 19, .mv (.tmp 0), none, []⟩, ⟨1, some 20, .call n_i_fraction [.tmp 19], none, []⟩, ⟨2, some 4, .mv (.tmp 20), none, []⟩]))
  (.seq (.ops [⟨0, some 5, .mv (.const (.int .i64 0)), none, []⟩])
  (.seq (.block 0 (.loop [4, 5] (.seq (.seq (.ops [⟨0, some 21, .mv (.tmp 4), none, []⟩, ⟨1, some 22, .bin .geq (.tmp 21) (.const (.float .f64 4598175219545276416)), none, []⟩])
  (.cond (.tmp 22) (.skip) (.exit 0)))
  (.block 1 (.seq (.ops [⟨0, some 23, .mv (.tmp 4), none, []⟩, ⟨1, some 24, .bin .sub (.tmp 23) (.const (.float .f64 4598175219545276416)), none, []⟩, ⟨2, some 4, .mv (.tmp 24), none, []⟩])
  (.ops [⟨0, some 25, .mv (.tmp 5), none, []⟩, ⟨1, some 26, .bin .add (.tmp 25) (.const (.int .i64 1)), none, []⟩, ⟨2, some 5, .mv (.tmp 26), none, []⟩]))))))
  (.seq (.ops [⟨0, some 27, .mv (.tmp 4), none, []⟩, ⟨1, some 28, .bin .sub (.const (.float .f64 4598175219545276416)) (.tmp 27), none, []⟩, ⟨2, some 29, .call n_i_sine [.tmp 28], none, []⟩, ⟨3, some 30, .mv (.tmp 4), none, []⟩, ⟨4, some 31, .call n_i_sine [.tmp 30], none, []⟩, ⟨5, some 6, .mv (.tmp 29), none, []⟩, ⟨6, some 7, .mv (.tmp 31), none, []⟩])
  (.seq (.seq (.keep [5, 6, 7] (.ops [⟨0, some 32, .mv (.tmp 5), none, []⟩]))
  (.block 2 (.seq (.ops [⟨0, some 34, .bin .eql (.tmp 32) (.const (.int .i64 1)), none, []⟩, ⟨1, some 33, .mv (.tmp 34), none, []⟩])
  (.cond (.tmp 33) (.ops [⟨0, some 35, .mv (.tmp 7), none, []⟩, ⟨1, some 36, .bin .sub (.const (.float .f64 0)) (.tmp 35), none, []⟩, ⟨2, some 37, .mv (.tmp 6), none, []⟩, ⟨3, some 6, .mv (.tmp 36), none, []⟩, ⟨4, some 7, .mv (.tmp 37), none, []⟩]) (.seq (.ops [⟨0, some 39, .bin .eql (.tmp 32) (.const (.int .i64 2)), none, []⟩, ⟨1, some 38, .mv (.tmp 39), none, []⟩])
  (.cond (.tmp 38) (.keep [6, 7] (.ops [⟨0, some 40, .mv (.tmp 6), none, []⟩, ⟨1, some 41, .bin .sub (.const (.float .f64 0)) (.tmp 40), none, []⟩, ⟨2, some 42, .mv (.tmp 7), none, []⟩, ⟨3, some 43, .bin .sub (.const (.float .f64 0)) (.tmp 42), none, []⟩, ⟨4, some 6, .mv (.tmp 41), none, []⟩, ⟨5, some 7, .mv (.tmp 43), none, []⟩])) (.seq (.keep [6, 7, 32] (.ops [⟨0, some 45, .bin .eql (.tmp 32) (.const (.int .i64 3)), none, []⟩, ⟨1, some 44, .mv (.tmp 45), none, []⟩]))
  (.cond (.tmp 44) (.ops [⟨0, some 46, .mv (.tmp 7), none, []⟩, ⟨1, some 47, .mv (.tmp 6), none, []⟩, ⟨2, some 48, .bin .sub (.const (.float .f64 0)) (.tmp 47), none, []⟩, ⟨3, some 6, .mv (.tmp 46), none, []⟩, ⟨4, some 7, .mv (.tmp 48), none, []⟩]) (.skip)))))))))
  (.seq (.keep [6, 7] (.ops [⟨0, some 49, .mv (.tmp 6), none, []⟩, ⟨1, some 50, .cv (.f .f32) (.tmp 49), none, []⟩, ⟨2, some 51, .mv (.tmp 7), none, []⟩, ⟨3, some 52, .cv (.f .f32) (.tmp 51), none, []⟩, ⟨4, some 53, .cx (.tmp 50) (.tmp 52), none, []⟩, ⟨5, some 2, .mv (.tmp 53), none, []⟩]))
  (.ret)))))))))
theorem k_i_PhasorOf : FnOk Try.prog n_i_PhasorOf 1 c_i_PhasorOf [.tmp 2] := ⟨by kernel_rfl⟩
def c_i_IsFiniteComplex : ACode :=
  .seq (.ops [⟨0, some 2, .mv (.const (.bool false)), none, []⟩])
  (.seq (.ops [⟨0, some 3, .mv (.tmp 0), none, []⟩, ⟨1, some 4, .re (.tmp 3), none, []⟩, ⟨2, some 5, .call n_i_IsFinite [.tmp 4], none, []⟩, ⟨3, some 6, .mv (.tmp 5), none, []⟩, ⟨4, some 7, .mv (.tmp 0), (some (6, true)), []⟩, ⟨5, some 8, .im (.tmp 7), (some (6, true)), []⟩, ⟨6, some 9, .call n_i_IsFinite [.tmp 8], (some (6, true)), []⟩, ⟨7, some 10, .pick (.tmp 6) (.tmp 9) (.const (.bool false)), none, []⟩, ⟨8, some 2, .mv (.tmp 10), none, []⟩])
  (.ret))
theorem k_i_IsFiniteComplex : FnOk Try.prog n_i_IsFiniteComplex 1 c_i_IsFiniteComplex [.tmp 2] := ⟨by kernel_rfl⟩
def c_s_l01Conj : ACode :=
  .seq (.ops [⟨0, some 2, .mv (.const (.complex .f32 0 0)), none, []⟩])
  (.seq (.ops [⟨0, some 3, .mv (.tmp 0), none, []⟩, ⟨1, some 4, .re (.tmp 3), none, []⟩, ⟨2, some 5, .mv (.tmp 0), none, []⟩, ⟨3, some 6, .im (.tmp 5), none, []⟩, ⟨4, some 7, .un .neg (.tmp 6), none, []⟩, ⟨5, some 8, .cx (.tmp 4) (.tmp 7), none, []⟩, ⟨6, some 2, .mv (.tmp 8), none, []⟩])
  (.ret))
theorem k_s_l01Conj : FnOk Try.prog n_s_l01Conj 1 c_s_l01Conj [.tmp 2] := ⟨by kernel_rfl⟩
def c_s_l01CFinite : ACode :=
  .seq (.ops [⟨0, some 2, .mv (.const (.bool false)), none, []⟩])
  (.seq (.ops [⟨0, some 3, .mv (.tmp 0), none, []⟩, ⟨1, some 4, .re (.tmp 3), none, []⟩, ⟨2, some 5, .call n_s_l01Finite [.tmp 4], none, []⟩, ⟨3, some 6, .mv (.tmp 5), none, []⟩, ⟨4, some 7, .mv (.tmp 0), (some (6, true)), []⟩, ⟨5, some 8, .im (.tmp 7), (some (6, true)), []⟩, ⟨6, some 9, .call n_s_l01Finite [.tmp 8], (some (6, true)), []⟩, ⟨7, some 10, .pick (.tmp 6) (.tmp 9) (.const (.bool false)), none, []⟩, ⟨8, some 2, .mv (.tmp 10), none, []⟩])
  (.ret))
theorem k_s_l01CFinite : FnOk Try.prog n_s_l01CFinite 1 c_s_l01CFinite [.tmp 2] := ⟨by kernel_rfl⟩
def c_m_IsInf : ACode :=
  .seq (.ops [⟨0, some 4, .mv (.const (.bool false)), none, []⟩])
  (.seq (.seq (.ops [⟨0, some 5, .mv (.tmp 1), none, []⟩, ⟨1, some 6, .bin .eql (.tmp 5) (.const (.int .i64 0)), none, []⟩])
  (.cond (.tmp 6) (.ops [⟨0, some 7, .mv (.tmp 0), none, []⟩, ⟨1, some 8, .call n_m_Abs [.tmp 7], none, []⟩, ⟨2, some 0, .mv (.tmp 8), none, []⟩]) (.seq (.ops [⟨0, some 9, .mv (.tmp 1), none, []⟩, ⟨1, some 10, .bin .lss (.tmp 9) (.const (.int .i64 0)), none, []⟩])
  (.cond (.tmp 10) (.keep [0] (.ops [⟨0, some 11, .mv (.tmp 0), none, []⟩, ⟨1, some 12, .un .neg (.tmp 11), none, []⟩, ⟨2, some 0, .mv (.tmp 12), none, []⟩])) (.skip)))))
  (.seq (.keep [0] (.ops [⟨0, some 13, .mv (.tmp 0), none, []⟩, ⟨1, some 14, .bin .gtr (.tmp 13) (.const (.float .f64 9218868437227405311)), none, []⟩, ⟨2, some 4, .mv (.tmp 14), none, []⟩]))
  (.ret)))
theorem k_m_IsInf : FnOk Try.prog n_m_IsInf 2 c_m_IsInf [.tmp 4] := ⟨by kernel_rfl⟩
def c_m_ceil : ACode :=
  .seq (.ops [⟨0, some 2, .mv (.const (.float .f64 0)), none, []⟩])
  (.seq (.ops [⟨0, some 3, .mv (.tmp 0), none, []⟩, ⟨1, some 4, .un .neg (.tmp 3), none, []⟩, ⟨2, some 5, .call n_m_Floor [.tmp 4], none, []⟩, ⟨3, some 6, .un .neg (.tmp 5), none, []⟩, ⟨4, some 2, .mv (.tmp 6), none, []⟩])
  (.ret))
theorem k_m_ceil : FnOk Try.prog n_m_ceil 1 c_m_ceil [.tmp 2] := ⟨by kernel_rfl⟩
def c_s_l01ExpWide : ACode :=
  .seq (.ops [⟨0, some 2, .mv (.const (.float .f64 0)), none, []⟩])
  (.seq (.seq (.ops [⟨0, some 7, .mv (.tmp 0), none, []⟩, ⟨1, some 8, .mv (.tmp 0), none, []⟩, ⟨2, some 9, .bin .neq (.tmp 7) (.tmp 8), none, []⟩])
  (.cond (.tmp 9) (.seq (.ops [⟨0, some 10, .mv (.tmp 0), none, []⟩, ⟨1, some 2, .mv (.tmp 10), none, []⟩])
  (.ret)) (.skip)))
  (.seq (.seq (.ops [⟨0, some 11, .mv (.tmp 0), none, []⟩, ⟨1, some 12, .bin .gtr (.tmp 11) (.const (.float .f64 4641240890982006784)), none, []⟩])
  (.cond (.tmp 12) (.seq (.keep [] (.ops [⟨0, some 13, .call n_m_Inf [.const (.int .i64 1)], none, []⟩, ⟨1, some 2, .mv (.tmp 13), none, []⟩]))
  (.ret)) (.skip)))
  (.seq (.seq (.keep [0] (.ops [⟨0, some 14, .mv (.tmp 0), none, []⟩, ⟨1, some 15, .bin .lss (.tmp 14) (.const (.float .f64 13864612927836782592)), none, []⟩]))
  (.cond (.tmp 15) (.seq (.ops [⟨0, some 2, .mv (.const (.float .f64 0)), none, []⟩])
  (.ret)) (.skip)))
  (.seq (.ops [⟨0, some 16, .mv (.tmp 0), none, []⟩, ⟨1, some 17, .bin .quo (.tmp 16) (.const (.float .f64 4643211215818981376)), none, []⟩, ⟨2, some 3, .mv (.tmp 17), none, []⟩])
  (.seq (.keep [3] (.ops [⟨0, some 4, .mv (.const (.float .f64 4607182418800017408)), none, []⟩]))
  (.seq (.seq (.ops [⟨0, some 5, .mv (.const (.int .i64 12)), none, []⟩])
  (.block 0 (.loop [3, 4, 5] (.seq (.seq (.ops [⟨0, some 18, .mv (.tmp 5), none, []⟩, ⟨1, some 19, .bin .geq (.tmp 18) (.const (.int .i64 1)), none, []⟩])
  (.cond (.tmp 19) (.skip) (.exit 0)))
  (.seq (.block 1 (.ops [⟨0, some 22, .mv (.tmp 3), none, []⟩, ⟨1, some 23, .mv (.tmp 4), none, []⟩, ⟨2, some 24, .bin .mul (.tmp 22) (.tmp 23), none, []⟩, ⟨3, some 25, .mv (.tmp 5), none, []⟩, ⟨4, some 26, .cv (.f .f64) (.tmp 25), none, []⟩, ⟨5, some 27, .bin .quo (.tmp 24) (.tmp 26), none, []⟩, ⟨6, some 28, .bin .add (.const (.float .f64 4607182418800017408)) (.tmp 27), none, []⟩, ⟨7, some 4, .mv (.tmp 28), none, []⟩]))
  (.keep [3, 4, 5] (.ops [⟨0, some 20, .mv (.tmp 5), none, []⟩, ⟨1, some 21, .bin .sub (.tmp 20) (.const (.int .i64 1)), none, []⟩, ⟨2, some 5, .mv (.tmp 21), none, []⟩])))))))
  (.seq (.seq (.ops [⟨0, some 6, .mv (.const (.int .i64 0)), none, []⟩])
  (.block 2 (.loop [4, 6] (.seq (.seq (.ops [⟨0, some 29, .mv (.tmp 6), none, []⟩, ⟨1, some 30, .bin .lss (.tmp 29) (.const (.int .i64 8)), none, []⟩])
  (.cond (.tmp 30) (.skip) (.exit 2)))
  (.seq (.block 3 (.ops [⟨0, some 33, .mv (.tmp 4), none, []⟩, ⟨1, some 34, .mv (.tmp 4), none, []⟩, ⟨2, some 35, .bin .mul (.tmp 33) (.tmp 34), none, []⟩, ⟨3, some 4, .mv (.tmp 35), none, []⟩]))
  (.keep [4, 6] (.ops [⟨0, some 31, .mv (.tmp 6), none, []⟩, ⟨1, some 32, .bin .add (.tmp 31) (.const (.int .i64 1)), none, []⟩, ⟨2, some 6, .mv (.tmp 32), none, []⟩])))))))
  (.seq (.ops [⟨0, some 36, .mv (.tmp 4), none, []⟩, ⟨1, some 2, .mv (.tmp 36), none, []⟩])
  (.ret)))))))))
theorem k_s_l01ExpWide : FnOk Try.prog n_s_l01ExpWide 1 c_s_l01ExpWide [.tmp 2] := ⟨by kernel_rfl⟩
def c_s_l01From : ACode :=
  .seq (.ops [⟨0, some 2, .mv (.const (.float .f32 0)), none, []⟩])
  (.seq (.ops [⟨0, some 3, .mv (.tmp 0), none, []⟩, ⟨1, some 4, .cv (.i .u32) (.tmp 3), none, []⟩, ⟨2, some 5, .f32from (.tmp 4), none, []⟩, ⟨3, some 2, .mv (.tmp 5), none, []⟩])
  (.ret))
theorem k_s_l01From : FnOk Try.prog n_s_l01From 1 c_s_l01From [.tmp 2] := ⟨by kernel_rfl⟩
def c_s_l01SineWide : ACode :=
  .seq (.ops [⟨0, some 2, .mv (.const (.float .f64 0)), none, []⟩])
  (.seq (.seq (.ops [⟨0, some 9, .mv (.tmp 0), none, []⟩, ⟨1, some 10, .mv (.tmp 0), none, []⟩, ⟨2, some 11, .bin .sub (.tmp 9) (.tmp 10), none, []⟩, ⟨3, some 12, .bin .neq (.tmp 11) (.const (.float .f64 0)), none, []⟩])
  (.cond (.tmp 12) (.seq (.keep [] (.ops [⟨0, some 13, .call n_m_NaN [], none, []⟩, ⟨1, some 2, .mv (.tmp 13), none, []⟩]))
  (.ret)) (.skip)))
  (.seq (.seq (.keep [0] (.ops [⟨0, some 14, .mv (.tmp 0), none, []⟩, ⟨1, some 15, .bin .geq (.tmp 14) (.const (.float .f64 4841369599423283200)), none, []⟩, ⟨2, some 16, .mv (.tmp 15), none, []⟩, ⟨3, some 17, .mv (.tmp 0), (some (16, false)), []⟩, ⟨4, some 18, .bin .leq (.tmp 17) (.const (.float .f64 14064741636278059008)), (some (16, false)), []⟩, ⟨5, some 19, .pick (.tmp 16) (.const (.bool true)) (.tmp 18), none, []⟩]))
  (.cond (.tmp 19) (.seq (.keep [] (.ops [⟨0, some 2, .mv (.const (.float .f64 0)), none, []⟩]))
  (.ret)) (.skip)))
  (.seq (.keep [0] (.ops [⟨0, some 20, .mv (.tmp 0), none, []⟩, ⟨1, some 21, .mv (.tmp 0), none, []⟩, ⟨2, some 22, .cv (.i .i64) (.tmp 21), none, []⟩, ⟨3, some 23, .cv (.f .f64) (.tmp 22), none, []⟩, ⟨4, some 24, .bin .sub (.tmp 20) (.tmp 23), none, []⟩, ⟨5, some 3, .mv (.tmp 24), none, []⟩]))
  (.seq (.seq (.keep [3] (.ops [⟨0, some 25, .mv (.tmp 3), none, []⟩, ⟨1, some 26, .bin .lss (.tmp 25) (.const (.float .f64 0)), none, []⟩]))
  (.cond (.tmp 26) (.ops [⟨0, some 27, .mv (.tmp 3), none, []⟩, ⟨1, some 28, .bin .add (.tmp 27) (.const (.float .f64 4607182418800017408)), none, []⟩, ⟨2, some 3, .mv (.tmp 28), none, []⟩]) (.skip)))
  (.seq (.ops [⟨0, some 29, .mv (.tmp 3), none, []⟩, ⟨1, some 30, .bin .geq (.tmp 29) (.const (.float .f64 4602678819172646912)), none, []⟩, ⟨2, some 4, .mv (.tmp 30), none, []⟩])
  (.seq (.seq (.keep [3, 4] (.ops [⟨0, some 31, .mv (.tmp 4), none, []⟩]))
  (.cond (.tmp 31) (.ops [⟨0, some 32, .mv (.tmp 3), none, []⟩, ⟨1, some 33, .bin .sub (.tmp 32) (.const (.float .f64 4602678819172646912)), none, []⟩, ⟨2, some 3, .mv (.tmp 33), none, []⟩]) (.skip)))
  (.seq (.seq (.ops [⟨0, some 34, .mv (.tmp 3), none, []⟩, ⟨1, some 35, .bin .gtr (.tmp 34) (.const (.float .f64 4598175219545276416)), none, []⟩])
  (.cond (.tmp 35) (.keep [3, 4] (.ops [⟨0, some 36, .mv (.tmp 3), none, []⟩, ⟨1, some 37, .bin .sub (.const (.float .f64 4602678819172646912)) (.tmp 36), none, []⟩, ⟨2, some 3, .mv (.tmp 37), none, []⟩])) (.skip)))
  (.seq (.keep [3, 4] (.ops [⟨0, some 38, .mv (.tmp 3), none, []⟩, ⟨1, some 39, .bin .mul (.tmp 38) (.const (.float .f64 4618760256179416344)), none, []⟩, ⟨2, some 5, .mv (.tmp 39), none, []⟩]))
  (.seq (.ops [⟨0, some 40, .mv (.tmp 5), none, []⟩, ⟨1, some 41, .mv (.tmp 5), none, []⟩, ⟨2, some 42, .bin .mul (.tmp 40) (.tmp 41), none, []⟩, ⟨3, some 6, .mv (.tmp 42), none, []⟩])
  (.seq (.keep [4, 5, 6] (.ops [⟨0, some 7, .mv (.const (.float .f64 4607182418800017408)), none, []⟩]))
  (.seq (.seq (.ops [⟨0, some 8, .mv (.const (.int .i64 8)), none, []⟩])
  (.block 0 (.loop [4, 5, 6, 7, 8] (.seq (.seq (.ops [⟨0, some 43, .mv (.tmp 8), none, []⟩, ⟨1, some 44, .bin .geq (.tmp 43) (.const (.int .i64 1)), none, []⟩])
  (.cond (.tmp 44) (.skip) (.exit 0)))
  (.seq (.block 1 (.ops [⟨0, some 47, .mv (.tmp 6), none, []⟩, ⟨1, some 48, .mv (.tmp 7), none, []⟩, ⟨2, some 49, .bin .mul (.tmp 47) (.tmp 48), none, []⟩, ⟨3, some 50, .mv (.tmp 8), none, []⟩, ⟨4, some 51, .bin .mul (.const (.int .i64 2)) (.tmp 50), none, []⟩, ⟨5, some 52, .mv (.tmp 8), none, []⟩, ⟨6, some 53, .bin .mul (.const (.int .i64 2)) (.tmp 52), none, []⟩, ⟨7, some 54, .bin .add (.tmp 53) (.const (.int .i64 1)), none, []⟩, ⟨8, some 55, .bin .mul (.tmp 51) (.tmp 54), none, []⟩, ⟨9, some 56, .cv (.f .f64) (.tmp 55), none, []⟩, ⟨10, some 57, .bin .quo (.tmp 49) (.tmp 56), none, []⟩, ⟨11, some 58, .bin .sub (.const (.float .f64 4607182418800017408)) (.tmp 57), none, []⟩, ⟨12, some 7, .mv (.tmp 58), none, []⟩]))
  (.keep [4, 5, 6, 7, 8] (.ops [⟨0, some 45, .mv (.tmp 8), none, []⟩, ⟨1, some 46, .bin .sub (.tmp 45) (.const (.int .i64 1)), none, []⟩, ⟨2, some 8, .mv (.tmp 46), none, []⟩])))))))
  (.seq (.seq (.ops [⟨0, some 59, .mv (.tmp 4), none, []⟩])
  (.cond (.tmp 59) (.seq (.keep [5, 7] (.ops [⟨0, some 60, .mv (.tmp 5), none, []⟩, ⟨1, some 61, .mv (.tmp 7), none, []⟩, ⟨2, some 62, .bin .mul (.tmp 60) (.tmp 61), none, []⟩, ⟨3, some 63, .un .neg (.tmp 62), none, []⟩, ⟨4, some 2, .mv (.tmp 63), none, []⟩]))
  (.ret)) (.skip)))
  (.seq (.keep [5, 7] (.ops [⟨0, some 64, .mv (.tmp 5), none, []⟩, ⟨1, some 65, .mv (.tmp 7), none, []⟩, ⟨2, some 66, .bin .mul (.tmp 64) (.tmp 65), none, []⟩, ⟨3, some 2, .mv (.tmp 66), none, []⟩]))
  (.ret))))))))))))))
theorem k_s_l01SineWide : FnOk Try.prog n_s_l01SineWide 1 c_s_l01SineWide [.tmp 2] := ⟨by kernel_rfl⟩
def c_i_expOf : ACode :=
  .seq (.ops [⟨0, some 2, .mv (.const (.float .f64 0)), none, []⟩])
  (.seq (.ops [⟨0, some 3, .mv (.tmp 0), none, []⟩, ⟨1, some 4, .cv (.f .f64) (.tmp 3), none, []⟩, ⟨2, some 5, .call n_i_expWide [.tmp 4], none, []⟩, ⟨3, some 2, .mv (.tmp 5), none, []⟩])
  (.ret))
theorem k_i_expOf : FnOk Try.prog n_i_expOf 1 c_i_expOf [.tmp 2] := ⟨by kernel_rfl⟩
def c_i_isFinite64 : ACode :=
  .seq (.ops [⟨0, some 2, .mv (.const (.bool false)), none, []⟩])
  (.seq (.ops [⟨0, some 3, .mv (.tmp 0), none, []⟩, ⟨1, some 4, .mv (.tmp 0), none, []⟩, ⟨2, some 5, .bin .sub (.tmp 3) (.tmp 4), none, []⟩, ⟨3, some 6, .bin .eql (.tmp 5) (.const (.float .f64 0)), none, []⟩, ⟨4, some 2, .mv (.tmp 6), none, []⟩])
  (.ret))
theorem k_i_isFinite64 : FnOk Try.prog n_i_isFinite64 1 c_i_isFinite64 [.tmp 2] := ⟨by kernel_rfl⟩
def c_m_Abs : ACode :=
  .seq (.ops [⟨0, some 2, .mv (.const (.float .f64 0)), none, []⟩])
  (.seq (.ops [⟨0, some 3, .mv (.tmp 0), none, []⟩, ⟨1, some 4, .f64bits (.tmp 3), none, []⟩, ⟨2, some 5, .bin .andNot (.tmp 4) (.const (.int .u64 9223372036854775808)), none, []⟩, ⟨3, some 6, .f64from (.tmp 5), none, []⟩, ⟨4, some 2, .mv (.tmp 6), none, []⟩])
  (.ret))
theorem k_m_Abs : FnOk Try.prog n_m_Abs 1 c_m_Abs [.tmp 2] := ⟨by kernel_rfl⟩
def c_i_fraction : ACode :=
  .seq (.ops [⟨0, some 2, .mv (.const (.float .f64 0)), none, []⟩])
  (.seq (.ops [⟨0, some 4, .mv (.tmp 0), none, []⟩, ⟨1, some 5, .mv (.tmp 0), none, []⟩, ⟨2, some 6, .cv (.i .i64) (.tmp 5), none, []⟩, ⟨3, some 7, .cv (.f .f64) (.tmp 6), none, []⟩, ⟨4, some 8, .bin .sub (.tmp 4) (.tmp 7), none, []⟩, ⟨5, some 3, .mv (.tmp 8), none, []⟩])
  (.seq (.seq (.keep [3] (.ops [⟨0, some 9, .mv (.tmp 3), none, []⟩, ⟨1, some 10, .bin .lss (.tmp 9) (.const (.float .f64 0)), none, []⟩]))
  (.cond (.tmp 10) (.ops [⟨0, some 11, .mv (.tmp 3), none, []⟩, ⟨1, some 12, .bin .add (.tmp 11) (.const (.float .f64 4607182418800017408)), none, []⟩, ⟨2, some 3, .mv (.tmp 12), none, []⟩]) (.skip)))
  (.seq (.ops [⟨0, some 13, .mv (.tmp 3), none, []⟩, ⟨1, some 2, .mv (.tmp 13), none, []⟩])
  (.ret))))
theorem k_i_fraction : FnOk Try.prog n_i_fraction 1 c_i_fraction [.tmp 2] := ⟨by kernel_rfl⟩
def c_i_sine : ACode :=
  .seq (.ops [⟨0, some 2, .mv (.const (.float .f64 0)), none, []⟩])
  (.seq (.ops [⟨0, some 9, .mv (.tmp 0), none, []⟩, ⟨1, some 10, .call n_i_fraction [.tmp 9], none, []⟩, ⟨2, some 3, .mv (.tmp 10), none, []⟩])
  (.seq (.ops [⟨0, some 11, .mv (.tmp 3), none, []⟩, ⟨1, some 12, .bin .geq (.tmp 11) (.const (.float .f64 4602678819172646912)), none, []⟩, ⟨2, some 4, .mv (.tmp 12), none, []⟩])
  (.seq (.seq (.keep [3, 4] (.ops [⟨0, some 13, .mv (.tmp 4), none, []⟩]))
  (.cond (.tmp 13) (.ops [⟨0, some 14, .mv (.tmp 3), none, []⟩, ⟨1, some 15, .bin .sub (.tmp 14) (.const (.float .f64 4602678819172646912)), none, []⟩, ⟨2, some 3, .mv (.tmp 15), none, []⟩]) (.skip)))
  (.seq (.seq (.ops [⟨0, some 16, .mv (.tmp 3), none, []⟩, ⟨1, some 17, .bin .gtr (.tmp 16) (.const (.float .f64 4598175219545276416)), none, []⟩])
  (.cond (.tmp 17) (.keep [3, 4] (.ops [⟨0, some 18, .mv (.tmp 3), none, []⟩, ⟨1, some 19, .bin .sub (.const (.float .f64 4602678819172646912)) (.tmp 18), none, []⟩, ⟨2, some 3, .mv (.tmp 19), none, []⟩])) (.skip)))
  (.seq (.keep [3, 4] (.ops [⟨0, some 20, .mv (.tmp 3), none, []⟩, ⟨1, some 21, .bin .mul (.tmp 20) (.const (.float .f64 4618760256179416344)), none, []⟩, ⟨2, some 5, .mv (.tmp 21), none, []⟩]))
  (.seq (.ops [⟨0, some 22, .mv (.tmp 5), none, []⟩, ⟨1, some 23, .mv (.tmp 5), none, []⟩, ⟨2, some 24, .bin .mul (.tmp 22) (.tmp 23), none, []⟩, ⟨3, some 6, .mv (.tmp 24), none, []⟩])
  (.seq (.keep [4, 5, 6] (.ops [⟨0, some 7, .mv (.const (.float .f64 4607182418800017408)), none, []⟩]))
  (.seq (.seq (.ops [⟨0, some 8, .mv (.const (.float .f64 4620693217682128896)), none, []⟩])
  (.block 0 (.loop [4, 5, 6, 7, 8] (.seq (.seq (.ops [⟨0, some 25, .mv (.tmp 8), none, []⟩, ⟨1, some 26, .bin .geq (.tmp 25) (.const (.float .f64 4607182418800017408)), none, []⟩])
  (.cond (.tmp 26) (.skip) (.exit 0)))
  (.seq (.block 1 (.ops [⟨0, some 29, .mv (.tmp 6), none, []⟩, ⟨1, some 30, .mv (.tmp 7), none, []⟩, ⟨2, some 31, .bin .mul (.tmp 29) (.tmp 30), none, []⟩, ⟨3, some 32, .mv (.tmp 8), none, []⟩, ⟨4, some 33, .bin .mul (.const (.float .f64 4611686018427387904)) (.tmp 32), none, []⟩, ⟨5, some 34, .mv (.tmp 8), none, []⟩, ⟨6, some 35, .bin .mul (.const (.float .f64 4611686018427387904)) (.tmp 34), none, []⟩, ⟨7, some 36, .bin .add (.tmp 35) (.const (.float .f64 4607182418800017408)), none, []⟩, ⟨8, some 37, .bin .mul (.tmp 33) (.tmp 36), none, []⟩, ⟨9, some 38, .bin .quo (.tmp 31) (.tmp 37), none, []⟩, ⟨10, some 39, .bin .sub (.const (.float .f64 4607182418800017408)) (.tmp 38), none, []⟩, ⟨11, some 7, .mv (.tmp 39), none, []⟩]))
  (.keep [4, 5, 6, 7, 8] (.ops [⟨0, some 27, .mv (.tmp 8), none, []⟩, ⟨1, some 28, .bin .sub (.tmp 27) (.const (.float .f64 4607182418800017408)), none, []⟩, ⟨2, some 8, .mv (.tmp 28), none, []⟩])))))))
  (.seq (.seq (.ops [⟨0, some 40, .mv (.tmp 4), none, []⟩])
  (.cond (.tmp 40) (.seq (.keep [5, 7] (.ops [⟨0, some 41, .mv (.tmp 5), none, []⟩, ⟨1, some 42, .mv (.tmp 7), none, []⟩, ⟨2, some 43, .bin .mul (.tmp 41) (.tmp 42), none, []⟩, ⟨3, some 44, .un .neg (.tmp 43), none, []⟩, ⟨4, some 2, .mv (.tmp 44), none, []⟩]))
  (.ret)) (.skip)))
  (.seq (.keep [5, 7] (.ops [⟨0, some 45, .mv (.tmp 5), none, []⟩, ⟨1, some 46, .mv (.tmp 7), none, []⟩, ⟨2, some 47, .bin .mul (.tmp 45) (.tmp 46), none, []⟩, ⟨3, some 2, .mv (.tmp 47), none, []⟩]))
  (.ret)))))))))))
theorem k_i_sine : FnOk Try.prog n_i_sine 1 c_i_sine [.tmp 2] := ⟨by kernel_rfl⟩
def c_m_Floor : ACode :=
  .seq (.ops [⟨0, some 2, .mv (.const (.float .f64 0)), none, []⟩])
  (.seq (.cond (.const (.bool true)) (.seq (.ops [⟨0, some 3, .mv (.tmp 0), none, []⟩, ⟨1, some 4, .fint 0 (.tmp 3), none, []⟩, ⟨2, some 2, .mv (.tmp 4), none, []⟩])
  (.ret)) (.skip))
  (.seq (.ops [⟨0, some 5, .mv (.tmp 0), none, []⟩, ⟨1, some 6, .call n_m_floor [.tmp 5], none, []⟩, ⟨2, some 2, .mv (.tmp 6), none, []⟩])
  (.ret)))
theorem k_m_Floor : FnOk Try.prog n_m_Floor 1 c_m_Floor [.tmp 2] := ⟨by kernel_rfl⟩
def c_i_expWide : ACode :=
  .seq (.ops [⟨0, some 2, .mv (.const (.float .f64 0)), none, []⟩])
  (.seq (.block 0 (.seq (.ops [⟨0, some 7, .mv (.tmp 0), none, []⟩, ⟨1, some 8, .bin .gtr (.tmp 7) (.const (.float .f64 4641240890982006784)), none, []⟩, ⟨2, some 6, .mv (.tmp 8), none, []⟩])
  (.cond (.tmp 6) (.seq (.keep [] (.ops [⟨0, some 9, .call n_m_Inf [.const (.int .i64 1)], none, []⟩, ⟨1, some 2, .mv (.tmp 9), none, []⟩]))
  (.ret)) (.seq (.ops [⟨0, some 11, .mv (.tmp 0), none, []⟩, ⟨1, some 12, .bin .lss (.tmp 11) (.const (.float .f64 13864612927836782592)), none, []⟩, ⟨2, some 10, .mv (.tmp 12), none, []⟩])
  (.cond (.tmp 10) (.seq (.keep [] (.ops [⟨0, some 2, .mv (.const (.float .f64 0)), none, []⟩]))
  (.ret)) (.skip))))))
  (.seq (.keep [0] (.ops [⟨0, some 13, .mv (.tmp 0), none, []⟩, ⟨1, some 14, .bin .quo (.tmp 13) (.const (.float .f64 4643211215818981376)), none, []⟩, ⟨2, some 3, .mv (.tmp 14), none, []⟩]))
  (.seq (.ops [⟨0, some 4, .mv (.const (.float .f64 4607182418800017408)), none, []⟩])
  (.seq (.seq (.ops [⟨0, some 5, .mv (.const (.float .f64 4622945017495814144)), none, []⟩])
  (.block 1 (.loop [3, 4, 5] (.seq (.seq (.ops [⟨0, some 15, .mv (.tmp 5), none, []⟩, ⟨1, some 16, .bin .geq (.tmp 15) (.const (.float .f64 4607182418800017408)), none, []⟩])
  (.cond (.tmp 16) (.skip) (.exit 1)))
  (.seq (.block 2 (.ops [⟨0, some 19, .mv (.tmp 3), none, []⟩, ⟨1, some 20, .mv (.tmp 4), none, []⟩, ⟨2, some 21, .bin .mul (.tmp 19) (.tmp 20), none, []⟩, ⟨3, some 22, .mv (.tmp 5), none, []⟩, ⟨4, some 23, .bin .quo (.tmp 21) (.tmp 22), none, []⟩, ⟨5, some 24, .bin .add (.const (.float .f64 4607182418800017408)) (.tmp 23), none, []⟩, ⟨6, some 4, .mv (.tmp 24), none, []⟩]))
  (.keep [3, 4, 5] (.ops [⟨0, some 17, .mv (.tmp 5), none, []⟩, ⟨1, some 18, .bin .sub (.tmp 17) (.const (.float .f64 4607182418800017408)), none, []⟩, ⟨2, some 5, .mv (.tmp 18), none, []⟩])))))))
  (.seq (.seq (.ops [⟨0, some 25, .mv (.const (.int .i64 0)), none, []⟩])
  (.block 3 (.loop [4, 25] (.seq (.ops [⟨0, some 26, .bin .lss (.tmp 25) (.const (.int .i64 8)), none, []⟩])
  (.seq (.cond (.tmp 26) (.skip) (.exit 3))
  (.seq (.block 4 (.ops [⟨0, some 27, .mv (.tmp 4), none, []⟩, ⟨1, some 28, .mv (.tmp 4), none, []⟩, ⟨2, some 29, .bin .mul (.tmp 27) (.tmp 28), none, []⟩, ⟨3, some 4, .mv (.tmp 29), none, []⟩]))
  (.ops [⟨0, some 30, .bin .add (.tmp 25) (.const (.int .i64 1)), none, []⟩, ⟨1, some 25, .mv (.tmp 30), none, []⟩])))))))
  (.seq (.ops [⟨0, some 31, .mv (.tmp 4), none, []⟩, ⟨1, some 2, .mv (.tmp 31), none, []⟩])
  (.ret)))))))
theorem k_i_expWide : FnOk Try.prog n_i_expWide 1 c_i_expWide [.tmp 2] := ⟨by kernel_rfl⟩
def c_m_floor : ACode :=
  .seq (.ops [⟨0, some 2, .mv (.const (.float .f64 0)), none, []⟩])
  (.seq (.seq (.ops [⟨0, some 7, .mv (.tmp 0), none, []⟩, ⟨1, some 8, .bin .eql (.tmp 7) (.const (.float .f64 0)), none, []⟩, ⟨2, some 9, .mv (.tmp 8), none, []⟩, ⟨3, some 10, .mv (.tmp 0), (some (9, false)), []⟩, ⟨4, some 11, .call n_m_IsNaN [.tmp 10], (some (9, false)), []⟩, ⟨5, some 12, .pick (.tmp 9) (.const (.bool true)) (.tmp 11), none, []⟩, ⟨6, some 13, .mv (.tmp 12), none, []⟩, ⟨7, some 14, .mv (.tmp 0), (some (13, false)), []⟩, ⟨8, some 15, .call n_m_IsInf [.tmp 14, .const (.int .i64 0)], (some (13, false)), []⟩, ⟨9, some 16, .pick (.tmp 13) (.const (.bool true)) (.tmp 15), none, []⟩])
  (.cond (.tmp 16) (.seq (.keep [0] (.ops [⟨0, some 17, .mv (.tmp 0), none, []⟩, ⟨1, some 2, .mv (.tmp 17), none, []⟩]))
  (.ret)) (.skip)))
  (.seq (.seq (.keep [0] (.ops [⟨0, some 18, .mv (.tmp 0), none, []⟩, ⟨1, some 19, .bin .lss (.tmp 18) (.const (.float .f64 0)), none, []⟩]))
  (.cond (.tmp 19) (.seq (.ops [⟨0, some 21, .mv (.tmp 0), none, []⟩, ⟨1, some 22, .un .neg (.tmp 21), none, []⟩, ⟨2, some 23, .call n_m_Modf [.tmp 22], none, []⟩, ⟨3, some 20, .mv (.tmp 23), none, []⟩, ⟨4, some 24, .ext (.tmp 20) 0, none, []⟩, ⟨5, some 25, .ext (.tmp 20) 1, none, []⟩, ⟨6, some 3, .mv (.tmp 24), none, []⟩, ⟨7, some 4, .mv (.tmp 25), none, []⟩])
  (.seq (.seq (.keep [3, 4] (.ops [⟨0, some 26, .mv (.tmp 4), none, []⟩, ⟨1, some 27, .bin .neq (.tmp 26) (.const (.float .f64 0)), none, []⟩]))
  (.cond (.tmp 27) (.ops [⟨0, some 28, .mv (.tmp 3), none, []⟩, ⟨1, some 29, .bin .add (.tmp 28) (.const (.float .f64 4607182418800017408)), none, []⟩, ⟨2, some 3, .mv (.tmp 29), none, []⟩]) (.skip)))
  (.seq (.keep [3] (.ops [⟨0, some 30, .mv (.tmp 3), none, []⟩, ⟨1, some 31, .un .neg (.tmp 30), none, []⟩, ⟨2, some 2, .mv (.tmp 31), none, []⟩]))
  (.ret)))) (.skip)))
  (.seq (.ops [⟨0, some 33, .mv (.tmp 0), none, []⟩, ⟨1, some 34, .call n_m_Modf [.tmp 33], none, []⟩, ⟨2, some 32, .mv (.tmp 34), none, []⟩, ⟨3, some 35, .ext (.tmp 32) 0, none, []⟩, ⟨4, some 36, .ext (.tmp 32) 1, none, []⟩, ⟨5, some 5, .mv (.tmp 35), none, []⟩, ⟨6, some 6, .mv (.tmp 36), none, []⟩])
  (.seq (.keep [5] (.ops [⟨0, some 37, .mv (.tmp 5), none, []⟩, ⟨1, some 2, .mv (.tmp 37), none, []⟩]))
  (.ret)))))
theorem k_m_floor : FnOk Try.prog n_m_floor 1 c_m_floor [.tmp 2] := ⟨by kernel_rfl⟩
def c_m_IsNaN : ACode :=
  .seq (.ops [⟨0, some 2, .mv (.const (.bool false)), none, []⟩])
  (.seq (.ops [⟨0, some 3, .mv (.tmp 0), none, []⟩, ⟨1, some 4, .mv (.tmp 0), none, []⟩, ⟨2, some 5, .bin .neq (.tmp 3) (.tmp 4), none, []⟩, ⟨3, some 2, .mv (.tmp 5), none, []⟩])
  (.ret))
theorem k_m_IsNaN : FnOk Try.prog n_m_IsNaN 1 c_m_IsNaN [.tmp 2] := ⟨by kernel_rfl⟩
def c_m_Modf : ACode :=
  .seq (.ops [⟨0, some 2, .mv (.const (.float .f64 0)), none, []⟩, ⟨1, some 3, .mv (.const (.float .f64 0)), none, []⟩])
  (.seq (.ops [⟨0, some 4, .mv (.tmp 0), none, []⟩, ⟨1, some 5, .call n_m_Trunc [.tmp 4], none, []⟩, ⟨2, some 2, .mv (.tmp 5), none, []⟩])
  (.seq (.ops [⟨0, some 6, .mv (.tmp 0), none, []⟩, ⟨1, some 7, .mv (.tmp 2), none, []⟩, ⟨2, some 8, .bin .sub (.tmp 6) (.tmp 7), none, []⟩, ⟨3, some 9, .mv (.tmp 0), none, []⟩, ⟨4, some 10, .call n_m_Copysign [.tmp 8, .tmp 9], none, []⟩, ⟨5, some 3, .mv (.tmp 10), none, []⟩])
  (.ret)))
theorem k_m_Modf : FnOk Try.prog n_m_Modf 1 c_m_Modf [.tmp 2, .tmp 3] := ⟨by kernel_rfl⟩
def c_m_Trunc : ACode :=
  .seq (.ops [⟨0, some 2, .mv (.const (.float .f64 0)), none, []⟩])
  (.seq (.cond (.const (.bool true)) (.seq (.ops [⟨0, some 3, .mv (.tmp 0), none, []⟩, ⟨1, some 4, .fint 2 (.tmp 3), none, []⟩, ⟨2, some 2, .mv (.tmp 4), none, []⟩])
  (.ret)) (.skip))
  (.seq (.ops [⟨0, some 5, .mv (.tmp 0), none, []⟩, ⟨1, some 6, .call n_m_trunc [.tmp 5], none, []⟩, ⟨2, some 2, .mv (.tmp 6), none, []⟩])
  (.ret)))
theorem k_m_Trunc : FnOk Try.prog n_m_Trunc 1 c_m_Trunc [.tmp 2] := ⟨by kernel_rfl⟩
def c_m_Copysign : ACode :=
  .seq (.ops [⟨0, some 4, .mv (.const (.float .f64 0)), none, []⟩])
  (.seq (.ops [⟨0, some 5, .mv (.tmp 0), none, []⟩, ⟨1, some 6, .f64bits (.tmp 5), none, []⟩, ⟨2, some 7, .bin .andNot (.tmp 6) (.const (.int .u64 9223372036854775808)), none, []⟩, ⟨3, some 8, .mv (.tmp 1), none, []⟩, ⟨4, some 9, .f64bits (.tmp 8), none, []⟩, ⟨5, some 10, .bin .and (.tmp 9) (.const (.int .u64 9223372036854775808)), none, []⟩, ⟨6, some 11, .bin .or (.tmp 7) (.tmp 10), none, []⟩, ⟨7, some 12, .f64from (.tmp 11), none, []⟩, ⟨8, some 4, .mv (.tmp 12), none, []⟩])
  (.ret))
theorem k_m_Copysign : FnOk Try.prog n_m_Copysign 2 c_m_Copysign [.tmp 4] := ⟨by kernel_rfl⟩
def c_m_trunc : ACode :=
  .seq (.ops [⟨0, some 2, .mv (.const (.float .f64 0)), none, []⟩])
  (.seq (.seq (.ops [⟨0, some 5, .mv (.tmp 0), none, []⟩, ⟨1, some 6, .call n_m_Abs [.tmp 5], none, []⟩, ⟨2, some 7, .bin .lss (.tmp 6) (.const (.float .f64 4607182418800017408)), none, []⟩])
  (.cond (.tmp 7) (.seq (.ops [⟨0, some 8, .mv (.tmp 0), none, []⟩, ⟨1, some 9, .call n_m_Copysign [.const (.float .f64 0), .tmp 8], none, []⟩, ⟨2, some 2, .mv (.tmp 9), none, []⟩])
  (.ret)) (.skip)))
  (.seq (.ops [⟨0, some 10, .mv (.tmp 0), none, []⟩, ⟨1, some 11, .f64bits (.tmp 10), none, []⟩, ⟨2, some 3, .mv (.tmp 11), none, []⟩])
  (.seq (.keep [3] (.ops [⟨0, some 12, .mv (.tmp 3), none, []⟩, ⟨1, some 13, .bin .shr (.tmp 12) (.const (.int .u64 52)), none, []⟩, ⟨2, some 14, .bin .and (.tmp 13) (.const (.int .u64 2047)), none, []⟩, ⟨3, some 15, .bin .sub (.tmp 14) (.const (.int .u64 1023)), none, []⟩, ⟨4, some 4, .mv (.tmp 15), none, []⟩]))
  (.seq (.seq (.ops [⟨0, some 16, .mv (.tmp 4), none, []⟩, ⟨1, some 17, .bin .lss (.tmp 16) (.const (.int .u64 52)), none, []⟩])
  (.cond (.tmp 17) (.keep [3, 4] (.ops [⟨0, some 18, .mv (.tmp 3), none, []⟩, ⟨1, some 19, .mv (.tmp 4), none, []⟩, ⟨2, some 20, .bin .sub (.const (.int .u64 52)) (.tmp 19), none, []⟩, ⟨3, some 21, .bin .shl (.const (.int .u64 1)) (.tmp 20), none, []⟩, ⟨4, some 22, .bin .sub (.tmp 21) (.const (.int .u64 1)), none, []⟩, ⟨5, some 23, .bin .andNot (.tmp 18) (.tmp 22), none, []⟩, ⟨6, some 3, .mv (.tmp 23), none, []⟩])) (.skip)))
  (.seq (.keep [3] (.ops [⟨0, some 24, .mv (.tmp 3), none, []⟩, ⟨1, some 25, .f64from (.tmp 24), none, []⟩, ⟨2, some 2, .mv (.tmp 25), none, []⟩]))
  (.ret))))))
theorem k_m_trunc : FnOk Try.prog n_m_trunc 1 c_m_trunc [.tmp 2] := ⟨by kernel_rfl⟩
end Go.Proofs.Ytkojmlpaamdhoae

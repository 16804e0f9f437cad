/- Facts on types and functions: what each holds, and that it can be called. -/
import Derived.Test.YtflljnaojghifaaRwz
import Derived.Test.YtflljnaojghifaaRwn
import Derived.Test.YtflljnaojghifaaProg
namespace Go.Proofs.Ytflljnaojghifaa
open Go Go.RowKit Go.Proofs.Ytflljnaojghifaa.R
theorem ty_3 : tyS Try.prog 3 = some (false, 1) := by kernel_rfl
theorem ty_4 : tyS Try.prog 4 = some (false, 1) := by kernel_rfl
theorem ty_23 : tyS Try.prog 23 = some (true, 4) := by kernel_rfl
theorem ty_24 : tyS Try.prog 24 = some (false, 1) := by kernel_rfl
theorem ty_28 : tyS Try.prog 28 = some (false, 1) := by kernel_rfl
theorem ty_47 : tyS Try.prog 47 = some (true, 7) := by kernel_rfl
theorem ty_60 : tyS Try.prog 60 = some (false, 1) := by kernel_rfl
theorem ty_62 : tyS Try.prog 62 = some (true, 3) := by kernel_rfl
theorem ty_82 : tyS Try.prog 82 = some (true, 4) := by kernel_rfl
theorem ty_83 : tyS Try.prog 83 = some (true, 7) := by kernel_rfl
theorem ty_94 : tyS Try.prog 94 = some (true, 2) := by kernel_rfl
theorem ty_103 : tyS Try.prog 103 = some (true, 4) := by kernel_rfl
theorem ty_105 : tyS Try.prog 105 = some (true, 2) := by kernel_rfl
theorem fo_23_0 : fieldOff Try.prog 23 0 = some 0 := by kernel_rfl
theorem fo_23_1 : fieldOff Try.prog 23 1 = some 1 := by kernel_rfl
theorem fo_23_2 : fieldOff Try.prog 23 2 = some 2 := by kernel_rfl
theorem fo_23_3 : fieldOff Try.prog 23 3 = some 3 := by kernel_rfl
theorem fo_47_0 : fieldOff Try.prog 47 0 = some 0 := by kernel_rfl
theorem fo_47_1 : fieldOff Try.prog 47 1 = some 1 := by kernel_rfl
theorem fo_47_2 : fieldOff Try.prog 47 2 = some 2 := by kernel_rfl
theorem fo_47_3 : fieldOff Try.prog 47 3 = some 3 := by kernel_rfl
theorem fo_47_4 : fieldOff Try.prog 47 4 = some 4 := by kernel_rfl
theorem fo_47_5 : fieldOff Try.prog 47 5 = some 5 := by kernel_rfl
theorem fo_47_6 : fieldOff Try.prog 47 6 = some 6 := by kernel_rfl
theorem fo_62_0 : fieldOff Try.prog 62 0 = some 0 := by kernel_rfl
theorem fo_62_1 : fieldOff Try.prog 62 1 = some 1 := by kernel_rfl
theorem fo_62_2 : fieldOff Try.prog 62 2 = some 2 := by kernel_rfl
theorem fo_82_2 : fieldOff Try.prog 82 2 = some 2 := by kernel_rfl
theorem fo_82_3 : fieldOff Try.prog 82 3 = some 3 := by kernel_rfl
theorem fo_83_0 : fieldOff Try.prog 83 0 = some 0 := by kernel_rfl
theorem fo_83_1 : fieldOff Try.prog 83 1 = some 1 := by kernel_rfl
theorem fo_83_2 : fieldOff Try.prog 83 2 = some 2 := by kernel_rfl
theorem fo_83_3 : fieldOff Try.prog 83 3 = some 3 := by kernel_rfl
theorem fo_83_4 : fieldOff Try.prog 83 4 = some 4 := by kernel_rfl
theorem fo_83_5 : fieldOff Try.prog 83 5 = some 5 := by kernel_rfl
theorem fo_83_6 : fieldOff Try.prog 83 6 = some 6 := by kernel_rfl
theorem fo_94_0 : fieldOff Try.prog 94 0 = some 0 := by kernel_rfl
theorem fo_94_1 : fieldOff Try.prog 94 1 = some 1 := by kernel_rfl
theorem el_24 : elemOff Try.prog 24 = some (none, 1) := by kernel_rfl
theorem el_25 : elemOff Try.prog 25 = some (none, 1) := by kernel_rfl
theorem el_31 : elemOff Try.prog 31 = some (none, 4) := by kernel_rfl
theorem el_32 : elemOff Try.prog 32 = some (none, 1) := by kernel_rfl
theorem el_103 : elemOff Try.prog 103 = some (some 4, 1) := by kernel_rfl
theorem el_105 : elemOff Try.prog 105 = some (some 2, 1) := by kernel_rfl
theorem el_106 : elemOff Try.prog 106 = some (some 6, 1) := by kernel_rfl
theorem tz_23 : tyZ Try.prog 23 = some [.int .i64 0, .int .i64 0, .int .i64 0, .int .i64 0] := by kernel_rfl
theorem tz_47 : tyZ Try.prog 47 = some [.int .i64 0, .int .i64 0, .int .i64 0, .bool false, .bool false, .int .i64 0, .int .i64 0] := by kernel_rfl
theorem tz_62 : tyZ Try.prog 62 = some [.bool false, .int .u64 0, .int .u64 0] := by kernel_rfl
theorem tz_83 : tyZ Try.prog 83 = some [.int .i64 0, .int .i64 0, .int .i64 0, .bool false, .bool false, .int .i64 0, .int .i64 0] := by kernel_rfl
theorem tz_94 : tyZ Try.prog 94 = some [.int .u64 0, .int .u64 0] := by kernel_rfl
theorem tz_103 : tyZ Try.prog 103 = some [.int .u64 0, .int .u64 0, .int .u64 0, .int .u64 0] := by kernel_rfl
theorem tz_105 : tyZ Try.prog 105 = some [.int .u64 0, .int .u64 0] := by kernel_rfl
theorem tz_106 : tyZ Try.prog 106 = some [.int .u64 0, .int .u64 0, .int .u64 0, .int .u64 0, .int .u64 0, .int .u64 0] := by kernel_rfl
theorem fk_23 : flatKs Try.prog 23 = some [some .i64, some .i64, some .i64, some .i64] := by kernel_rfl
theorem fk_47 : flatKs Try.prog 47 = some [some .i64, some .i64, some .i64, none, none, some .i64, some .i64] := by kernel_rfl
theorem fk_62 : flatKs Try.prog 62 = some [none, some .u64, some .u64] := by kernel_rfl
theorem fk_94 : flatKs Try.prog 94 = some [some .u64, some .u64] := by kernel_rfl
theorem bd_23 : bldS Try.prog 23 = some ([.int .i64 0, .int .i64 0, .int .i64 0, .int .i64 0], [(0, 1), (1, 1), (2, 1), (3, 1)]) := by kernel_rfl
theorem bd_47 : bldS Try.prog 47 = some ([.int .i64 0, .int .i64 0, .int .i64 0, .bool false, .bool false, .int .i64 0, .int .i64 0], [(0, 1), (1, 1), (2, 1), (3, 1), (4, 1), (5, 1), (6, 1)]) := by kernel_rfl
theorem bd_62 : bldS Try.prog 62 = some ([.bool false, .int .u64 0, .int .u64 0], [(0, 1), (1, 1), (2, 1)]) := by kernel_rfl
theorem bd_94 : bldS Try.prog 94 = some ([.int .u64 0, .int .u64 0], [(0, 1), (1, 1)]) := by kernel_rfl
theorem bd_103 : bldS Try.prog 103 = some ([.int .u64 0, .int .u64 0, .int .u64 0, .int .u64 0], [(0, 1), (1, 1), (2, 1), (3, 1)]) := by kernel_rfl
theorem bd_105 : bldS Try.prog 105 = some ([.int .u64 0, .int .u64 0], [(0, 1), (1, 1)]) := by kernel_rfl
theorem bl_24 {t : TypeId} {cs : Array Bool} {K : Value → Prop} {a : Option Addr} {n c : Nat} : builtW Try.prog (builtin .len #[24] t cs #[.slice a n c]) K = K (.int .i64 n) := built_len_slice Try.underlying24
theorem bl_25 {t : TypeId} {cs : Array Bool} {K : Value → Prop} {a : Option Addr} {n c : Nat} : builtW Try.prog (builtin .len #[25] t cs #[.slice a n c]) K = K (.int .i64 n) := built_len_slice Try.underlying25
theorem bl_31 {t : TypeId} {cs : Array Bool} {K : Value → Prop} {a : Option Addr} {n c : Nat} : builtW Try.prog (builtin .len #[31] t cs #[.slice a n c]) K = K (.int .i64 n) := built_len_slice Try.underlying31
theorem bl_32 {t : TypeId} {cs : Array Bool} {K : Value → Prop} {a : Option Addr} {n c : Nat} : builtW Try.prog (builtin .len #[32] t cs #[.slice a n c]) K = K (.int .i64 n) := built_len_slice Try.underlying32
theorem cv_3_60 {k : IntKind} {a : Int} {K : Value → Prop} : pureW Try.prog (Go.convert 3 60 (.int k a)) K = K (.int .u64 (wr .u64 a)) := cw_int Try.underlying3 Try.underlying60
theorem cv_5_3 {k : IntKind} {a : Int} {K : Value → Prop} : pureW Try.prog (Go.convert 5 3 (.int k a)) K = K (.int .i64 (wr .i64 a)) := cw_int Try.underlying5 Try.underlying3
theorem cv_42_3 {k : IntKind} {a : Int} {K : Value → Prop} : pureW Try.prog (Go.convert 42 3 (.int k a)) K = K (.int .i64 (wr .i64 a)) := cw_int Try.underlying42 Try.underlying3
theorem cv_60_5 {k : IntKind} {a : Int} {K : Value → Prop} : pureW Try.prog (Go.convert 60 5 (.int k a)) K = K (.int .u8 (wr .u8 a)) := cw_int Try.underlying60 Try.underlying5
theorem g_law20_awake : goes Try.prog 21 := goes_of Try.func21 rfl rfl
theorem g_ref20_Few : goes Try.prog 22 := goes_of Try.func22 rfl rfl
theorem g_event_Decode : goes Try.prog 23 := goes_of Try.func23 rfl rfl
theorem g_ref20_Decode : goes Try.prog 24 := goes_of Try.func24 rfl rfl
theorem g_event_All : goes Try.prog 25 := goes_of Try.func25 rfl rfl
theorem g_ref20_All : goes Try.prog 26 := goes_of Try.func26 rfl rfl
theorem g_event_Encode : goes Try.prog 27 := goes_of Try.func27 rfl rfl
theorem g_event_Check : goes Try.prog 28 := goes_of Try.func28 rfl rfl
theorem g_ref20_Check : goes Try.prog 29 := goes_of Try.func29 rfl rfl
theorem g_ref20_Same : goes Try.prog 30 := goes_of Try.func30 rfl rfl
theorem g_ref16_Same : goes Try.prog 31 := goes_of Try.func31 rfl rfl
theorem g_law10_awake : goes Try.prog 32 := goes_of Try.func32 rfl rfl
theorem g_law10_step : goes Try.prog 33 := goes_of Try.func33 rfl rfl
theorem g_ref10_Step : goes Try.prog 34 := goes_of Try.func34 rfl rfl
theorem g_hystart_Check : goes Try.prog 35 := goes_of Try.func35 rfl rfl
theorem g_ref10_Check : goes Try.prog 36 := goes_of Try.func36 rfl rfl
theorem g_hystart_Thresh : goes Try.prog 37 := goes_of Try.func37 rfl rfl
theorem g_ref10_Thresh : goes Try.prog 38 := goes_of Try.func38 rfl rfl
theorem g_hystart_Part : goes Try.prog 39 := goes_of Try.func39 rfl rfl
theorem g_ref10_Part : goes Try.prog 40 := goes_of Try.func40 rfl rfl
theorem g_law10_all : goes Try.prog 41 := goes_of Try.func41 rfl rfl
theorem g_hystart_Sample : goes Try.prog 42 := goes_of Try.func42 rfl rfl
theorem g_hystart_Round : goes Try.prog 43 := goes_of Try.func43 rfl rfl
theorem g_law03_awake : goes Try.prog 44 := goes_of Try.func44 rfl rfl
theorem g_root_Cube : goes Try.prog 45 := goes_of Try.func45 rfl rfl
theorem g_ref03_Cube : goes Try.prog 46 := goes_of Try.func46 rfl rfl
theorem g_root_Square : goes Try.prog 47 := goes_of Try.func47 rfl rfl
theorem g_ref03_Square : goes Try.prog 48 := goes_of Try.func48 rfl rfl
theorem g_root_Third : goes Try.prog 49 := goes_of Try.func49 rfl rfl
theorem g_ref03_Third : goes Try.prog 50 := goes_of Try.func50 rfl rfl
theorem g_root_Half : goes Try.prog 51 := goes_of Try.func51 rfl rfl
theorem g_ref03_Half : goes Try.prog 52 := goes_of Try.func52 rfl rfl
theorem g_big_Cmp : goes Try.prog 53 := goes_of Try.func53 rfl rfl
theorem g_big_Scale : goes Try.prog 54 := goes_of Try.func54 rfl rfl
theorem g_big_Add : goes Try.prog 55 := goes_of Try.func55 rfl rfl
theorem g_big_Of : goes Try.prog 56 := goes_of Try.func56 rfl rfl
theorem g_clock_Step : goes Try.prog 57 := goes_of Try.func57 rfl rfl
theorem g_event_kinds : goes Try.prog 58 := goes_of Try.func58 rfl rfl
theorem g_clock_Check : goes Try.prog 59 := goes_of Try.func59 rfl rfl
theorem g_ref10_Round : goes Try.prog 60 := goes_of Try.func60 rfl rfl
theorem g_ref10_Sample : goes Try.prog 61 := goes_of Try.func61 rfl rfl
theorem g_hystart_state_phase : goes Try.prog 62 := goes_of Try.func62 rfl rfl
theorem g_hystart_may : goes Try.prog 63 := goes_of Try.func63 rfl rfl
theorem g_hystart_state_swift : goes Try.prog 64 := goes_of Try.func64 rfl rfl
theorem g_hystart_state_mild : goes Try.prog 65 := goes_of Try.func65 rfl rfl
theorem g_hystart_state_over : goes Try.prog 66 := goes_of Try.func66 rfl rfl
theorem g_ref02_Scale : goes Try.prog 67 := goes_of Try.func67 rfl rfl
theorem g_root_long : goes Try.prog 68 := goes_of Try.func68 rfl rfl
theorem g_root_greatest : goes Try.prog 69 := goes_of Try.func69 rfl rfl
theorem g_root_Third_1 : goes Try.prog 70 := goes_of Try.func70 rfl rfl
theorem g_ref03_power : goes Try.prog 71 := goes_of Try.func71 rfl rfl
theorem g_ref02_Cmp : goes Try.prog 72 := goes_of Try.func72 rfl rfl
theorem g_root_Half_1 : goes Try.prog 73 := goes_of Try.func73 rfl rfl
theorem g_big_of : goes Try.prog 74 := goes_of Try.func74 rfl rfl
theorem g_big_size_with : goes Try.prog 75 := goes_of Try.func75 rfl rfl
theorem g_big_size_cmp : goes Try.prog 76 := goes_of Try.func76 rfl rfl
theorem g_math_bits_Mul64 : goes Try.prog 77 := goes_of Try.func77 rfl rfl
theorem g_big_size_minus : goes Try.prog 79 := goes_of Try.func79 rfl rfl
theorem g_big_far : goes Try.prog 80 := goes_of Try.func80 rfl rfl
theorem g_clock_Step_1 : goes Try.prog 81 := goes_of Try.func81 rfl rfl
theorem g_event_what_full : goes Try.prog 82 := goes_of Try.func82 rfl rfl
theorem g_event_what_bytes : goes Try.prog 83 := goes_of Try.func83 rfl rfl
theorem g_event_what_bare : goes Try.prog 84 := goes_of Try.func84 rfl rfl
theorem g_ref02_digits : goes Try.prog 85 := goes_of Try.func85 rfl rfl
theorem g_ref02_whole : goes Try.prog 86 := goes_of Try.func86 rfl rfl
theorem g_math_bits_Len64 : goes Try.prog 87 := goes_of Try.func87 rfl rfl
theorem g_ref02_below : goes Try.prog 88 := goes_of Try.func88 rfl rfl
theorem g_ref02_less : goes Try.prog 89 := goes_of Try.func89 rfl rfl
theorem g_cmp_Or_int : goes Try.prog 90 := goes_of Try.func90 rfl rfl
theorem g_cmp_Compare_uint64 : goes Try.prog 91 := goes_of Try.func91 rfl rfl
theorem g_event_what_some : goes Try.prog 93 := goes_of Try.func93 rfl rfl
theorem g_cmp_isNaN_uint64 : goes Try.prog 94 := goes_of Try.func94 rfl rfl
theorem lx_3_9 : lxF Try.f3 9 = true := by kernel_rfl
theorem rs_3 : Try.f3.results.toList = [ResultVar.tmp 6] := rfl
theorem lx_4_10 : lxF Try.f4 10 = true := by kernel_rfl
theorem rs_4 : Try.f4.results.toList = [ResultVar.tmp 4] := rfl
theorem lx_5_14 : lxF Try.f5 14 = true := by kernel_rfl
theorem rs_5 : Try.f5.results.toList = [ResultVar.tmp 2] := rfl
theorem rs_6 : Try.f6.results.toList = [ResultVar.tmp 6] := rfl
theorem rs_7 : Try.f7.results.toList = [ResultVar.tmp 4] := rfl
theorem lx_8_19 : lxF Try.f8 19 = true := by kernel_rfl
theorem rs_8 : Try.f8.results.toList = [ResultVar.tmp 4] := rfl
theorem lx_9_9 : lxL Try.f9 9 9 = true := by kernel_rfl
theorem lx_9_10 : lxL Try.f9 10 9 = true := by kernel_rfl
theorem lx_9_15 : lxF Try.f9 15 = true := by kernel_rfl
theorem rs_9 : Try.f9.results.toList = [ResultVar.tmp 8] := rfl
theorem lx_10_7 : lxL Try.f10 7 9 = true := by kernel_rfl
theorem rs_10 : Try.f10.results.toList = [ResultVar.tmp 4] := rfl
theorem rs_11 : Try.f11.results.toList = [ResultVar.tmp 2] := rfl
theorem lx_12_5 : lxF Try.f12 5 = true := by kernel_rfl
theorem rs_12 : Try.f12.results.toList = [ResultVar.tmp 4] := rfl
theorem lx_13_11 : lxL Try.f13 11 9 = true := by kernel_rfl
theorem rs_13 : Try.f13.results.toList = [ResultVar.tmp 2] := rfl
theorem lx_14_7 : lxF Try.f14 7 = true := by kernel_rfl
theorem rs_14 : Try.f14.results.toList = [ResultVar.tmp 6] := rfl
theorem lx_15_4 : lxF Try.f15 4 = true := by kernel_rfl
theorem rs_15 : Try.f15.results.toList = [ResultVar.tmp 4] := rfl
theorem lx_16_8 : lxF Try.f16 8 = true := by kernel_rfl
theorem rs_16 : Try.f16.results.toList = [ResultVar.tmp 2] := rfl
theorem lx_17_4 : lxF Try.f17 4 = true := by kernel_rfl
theorem lx_17_5 : lxF Try.f17 5 = true := by kernel_rfl
theorem rs_17 : Try.f17.results.toList = [ResultVar.tmp 4] := rfl
theorem rs_18 : Try.f18.results.toList = [ResultVar.tmp 4] := rfl
theorem lx_19_5 : lxF Try.f19 5 = true := by kernel_rfl
theorem lx_19_6 : lxF Try.f19 6 = true := by kernel_rfl
theorem rs_19 : Try.f19.results.toList = [ResultVar.tmp 2] := rfl
theorem lx_20_4 : lxL Try.f20 4 6 = true := by kernel_rfl
theorem lx_20_6 : lxL Try.f20 6 6 = true := by kernel_rfl
theorem rs_20 : Try.f20.results.toList = [ResultVar.tmp 4] := rfl
theorem rs_21 : Try.f21.results.toList = [ResultVar.tmp 0] := rfl
theorem rs_22 : Try.f22.results.toList = [ResultVar.tmp 4] := rfl
theorem lx_23_3 : lxL Try.f23 3 13 = true := by kernel_rfl
theorem rs_23 : Try.f23.results.toList = [ResultVar.cell 2 23, ResultVar.tmp 3] := rfl
theorem lx_24_3 : lxL Try.f24 3 13 = true := by kernel_rfl
theorem rs_24 : Try.f24.results.toList = [ResultVar.cell 2 23, ResultVar.tmp 3] := rfl
theorem rs_25 : Try.f25.results.toList = [ResultVar.tmp 2, ResultVar.tmp 3] := rfl
theorem lx_26_7 : lxF Try.f26 7 = true := by kernel_rfl
theorem rs_26 : Try.f26.results.toList = [ResultVar.tmp 2, ResultVar.tmp 3] := rfl
theorem rs_27 : Try.f27.results.toList = [ResultVar.tmp 2] := rfl

theorem lm_28_1 : lxM Try.f28 1 [(1, true), (2, true), (0, false), (3, true), (4, true), (5, true), (6, true), (7, true), (8, true)] = true := by kernel_rfl
theorem rs_28 : Try.f28.results.toList = [ResultVar.tmp 2] := rfl
theorem rs_29 : Try.f29.results.toList = [ResultVar.tmp 2] := rfl
theorem lx_30_6 : lxF Try.f30 6 = true := by kernel_rfl
theorem rs_30 : Try.f30.results.toList = [ResultVar.tmp 4] := rfl
theorem lx_31_6 : lxF Try.f31 6 = true := by kernel_rfl
theorem rs_31 : Try.f31.results.toList = [ResultVar.tmp 4] := rfl
theorem rs_32 : Try.f32.results.toList = [ResultVar.tmp 0] := rfl
theorem rs_33 : Try.f33.results.toList = [ResultVar.cell 4 47, ResultVar.tmp 5] := rfl
theorem rs_34 : Try.f34.results.toList = [ResultVar.cell 4 47, ResultVar.tmp 5] := rfl
theorem rs_35 : Try.f35.results.toList = [ResultVar.tmp 2] := rfl
theorem rs_36 : Try.f36.results.toList = [ResultVar.tmp 2] := rfl
theorem rs_37 : Try.f37.results.toList = [ResultVar.tmp 2] := rfl
theorem rs_38 : Try.f38.results.toList = [ResultVar.tmp 2] := rfl
theorem rs_39 : Try.f39.results.toList = [ResultVar.tmp 4] := rfl
theorem rs_40 : Try.f40.results.toList = [ResultVar.tmp 4] := rfl
theorem lx_41_4 : lxL Try.f41 4 9 = true := by kernel_rfl
theorem rs_41 : Try.f41.results.toList = [ResultVar.cell 4 47] := rfl
theorem lx_42_9 : lxT Try.f42 9 6 = true := by kernel_rfl
theorem rs_42 : Try.f42.results.toList = [ResultVar.cell 4 47, ResultVar.tmp 5] := rfl
theorem rs_43 : Try.f43.results.toList = [ResultVar.cell 2 47, ResultVar.tmp 3] := rfl
theorem rs_44 : Try.f44.results.toList = [ResultVar.tmp 0] := rfl
theorem rs_45 : Try.f45.results.toList = [ResultVar.cell 2 62, ResultVar.tmp 3] := rfl
theorem rs_46 : Try.f46.results.toList = [ResultVar.cell 2 62, ResultVar.tmp 3] := rfl
theorem rs_47 : Try.f47.results.toList = [ResultVar.cell 2 62] := rfl
theorem rs_48 : Try.f48.results.toList = [ResultVar.cell 2 62] := rfl
theorem rs_49 : Try.f49.results.toList = [ResultVar.tmp 2] := rfl
theorem rs_50 : Try.f50.results.toList = [ResultVar.tmp 2] := rfl
theorem rs_51 : Try.f51.results.toList = [ResultVar.tmp 2] := rfl
theorem lx_52_6 : lxF Try.f52 6 = true := by kernel_rfl
theorem rs_52 : Try.f52.results.toList = [ResultVar.tmp 2] := rfl
theorem lx_53_1 : lxT Try.f53 1 10 = true := by kernel_rfl
theorem lx_53_9 : lxF Try.f53 9 = true := by kernel_rfl
theorem lx_53_10 : lxF Try.f53 10 = true := by kernel_rfl
theorem rs_53 : Try.f53.results.toList = [ResultVar.tmp 4] := rfl
theorem rs_54 : Try.f54.results.toList = [ResultVar.cell 4 62, ResultVar.tmp 5] := rfl

theorem lx_55_4 : lxT Try.f55 4 6 = true := by kernel_rfl
theorem lx_55_5 : lxT Try.f55 5 6 = true := by kernel_rfl
theorem rs_55 : Try.f55.results.toList = [ResultVar.cell 4 62, ResultVar.tmp 5] := rfl
theorem rs_56 : Try.f56.results.toList = [ResultVar.cell 2 62] := rfl
theorem rs_57 : Try.f57.results.toList = [ResultVar.tmp 4, ResultVar.tmp 5] := rfl
theorem rs_58 : Try.f58.results.toList = [ResultVar.tmp 0] := rfl
theorem rs_59 : Try.f59.results.toList = [ResultVar.tmp 2] := rfl
theorem rs_60 : Try.f60.results.toList = [ResultVar.cell 2 47, ResultVar.tmp 3] := rfl
theorem lx_61_13 : lxF Try.f61 13 = true := by kernel_rfl
theorem rs_61 : Try.f61.results.toList = [ResultVar.cell 4 47, ResultVar.tmp 5] := rfl
theorem rs_62 : Try.f62.results.toList = [ResultVar.tmp 2] := rfl
theorem rs_63 : Try.f63.results.toList = [ResultVar.tmp 2] := rfl
theorem lx_64_1 : lxF Try.f64 1 = true := by kernel_rfl
theorem rs_64 : Try.f64.results.toList = [ResultVar.cell 2 83] := rfl
theorem rs_65 : Try.f65.results.toList = [ResultVar.cell 2 83] := rfl
theorem rs_66 : Try.f66.results.toList = [ResultVar.cell 2 83] := rfl
theorem lx_67_11 : lxF Try.f67 11 = true := by kernel_rfl
theorem rs_67 : Try.f67.results.toList = [ResultVar.cell 4 62, ResultVar.tmp 5] := rfl
theorem rs_68 : Try.f68.results.toList = [ResultVar.tmp 2] := rfl
theorem lx_69_1 : lxF Try.f69 1 = true := by kernel_rfl
theorem rs_69 : Try.f69.results.toList = [ResultVar.tmp 4] := rfl
theorem rs_70 : Try.f70.results.toList = [ResultVar.tmp 3] := rfl
theorem rs_71 : Try.f71.results.toList = [ResultVar.tmp 2] := rfl
theorem lx_72_3 : lxF Try.f72 3 = true := by kernel_rfl
theorem lx_72_7 : lxF Try.f72 7 = true := by kernel_rfl
theorem lx_72_9 : lxF Try.f72 9 = true := by kernel_rfl
theorem rs_72 : Try.f72.results.toList = [ResultVar.tmp 4] := rfl
theorem lx_73_1 : lxF Try.f73 1 = true := by kernel_rfl
theorem rs_73 : Try.f73.results.toList = [ResultVar.tmp 3] := rfl
theorem rs_74 : Try.f74.results.toList = [ResultVar.cell 2 94] := rfl
theorem lx_75_1 : lxT Try.f75 1 11 = true := by kernel_rfl
theorem rs_75 : Try.f75.results.toList = [ResultVar.cell 4 62] := rfl
theorem lx_76_1 : lxL Try.f76 1 10 = true := by kernel_rfl
theorem rs_76 : Try.f76.results.toList = [ResultVar.tmp 4] := rfl
theorem rs_77 : Try.f77.results.toList = [ResultVar.tmp 4, ResultVar.tmp 5] := rfl
theorem rs_79 : Try.f79.results.toList = [ResultVar.cell 4 94] := rfl
theorem rs_80 : Try.f80.results.toList = [ResultVar.tmp 2] := rfl
theorem rs_81 : Try.f81.results.toList = [ResultVar.tmp 3, ResultVar.tmp 4] := rfl
theorem rs_82 : Try.f82.results.toList = [ResultVar.tmp 2] := rfl
theorem rs_83 : Try.f83.results.toList = [ResultVar.tmp 2] := rfl
theorem rs_84 : Try.f84.results.toList = [ResultVar.tmp 2] := rfl
theorem rs_85 : Try.f85.results.toList = [ResultVar.cell 2 103] := rfl
theorem rs_86 : Try.f86.results.toList = [ResultVar.cell 4 62] := rfl
theorem rs_87 : Try.f87.results.toList = [ResultVar.tmp 2] := rfl
theorem rs_88 : Try.f88.results.toList = [ResultVar.tmp 2] := rfl
theorem lx_89_4 : lxF Try.f89 4 = true := by kernel_rfl
theorem lx_89_5 : lxF Try.f89 5 = true := by kernel_rfl
theorem rs_89 : Try.f89.results.toList = [ResultVar.tmp 4] := rfl
theorem rs_90 : Try.f90.results.toList = [ResultVar.tmp 2] := rfl
theorem rs_91 : Try.f91.results.toList = [ResultVar.tmp 4] := rfl
theorem rs_93 : Try.f93.results.toList = [ResultVar.tmp 2] := rfl
theorem rs_94 : Try.f94.results.toList = [ResultVar.tmp 2] := rfl
theorem own_ : ownKnob Try.prog.godebug = none := by kernel_rfl
theorem laidOut_ : laidOutB Try.prog = true := by kernel_rfl
theorem mixed_ : Try.prog.follows .mixedOrders = true := by kernel_rfl
end Go.Proofs.Ytflljnaojghifaa

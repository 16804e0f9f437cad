/- Facts on types and functions: what each holds, and that it can be called. -/
import Derived.Test.YtohafkjgdlhmbaaRwz
import Derived.Test.YtohafkjgdlhmbaaProg
namespace Go.Proofs.Ytohafkjgdlhmbaa
open Go Go.RowKit Go.Proofs.Ytohafkjgdlhmbaa.R
theorem ty_3 : tyS Try.prog 3 = some (false, 1) := by kernel_rfl
theorem ty_4 : tyS Try.prog 4 = some (false, 1) := by kernel_rfl
theorem ty_23 : tyS Try.prog 23 = some (true, 3) := by kernel_rfl
theorem ty_40 : tyS Try.prog 40 = some (true, 7) := by kernel_rfl
theorem ty_60 : tyS Try.prog 60 = some (true, 3) := by kernel_rfl
theorem fo_23_0 : fieldOff Try.prog 23 0 = some 0 := by kernel_rfl
theorem fo_23_1 : fieldOff Try.prog 23 1 = some 1 := by kernel_rfl
theorem fo_23_2 : fieldOff Try.prog 23 2 = some 2 := by kernel_rfl
theorem fo_40_3 : fieldOff Try.prog 40 3 = some 3 := by kernel_rfl
theorem fo_40_4 : fieldOff Try.prog 40 4 = some 4 := by kernel_rfl
theorem fo_40_5 : fieldOff Try.prog 40 5 = some 5 := by kernel_rfl
theorem fo_60_0 : fieldOff Try.prog 60 0 = some 0 := by kernel_rfl
theorem el_24 : elemOff Try.prog 24 = some (none, 1) := by kernel_rfl
theorem tz_23 : tyZ Try.prog 23 = some [.bool false, .int .i64 0, .int .i64 0] := by kernel_rfl
theorem tz_40 : tyZ Try.prog 40 = some [.int .i64 0, .int .i64 0, .int .i64 0, .int .i64 0, .int .i64 0, .int .i64 0, .int .i64 0] := by kernel_rfl
theorem tz_60 : tyZ Try.prog 60 = some [.bool false, .int .i64 0, .int .i64 0] := by kernel_rfl
theorem fk_23 : flatKs Try.prog 23 = some [none, some .i64, some .i64] := by kernel_rfl
theorem bd_23 : bldS Try.prog 23 = some ([.bool false, .int .i64 0, .int .i64 0], [(0, 1), (1, 1), (2, 1)]) := by kernel_rfl
theorem bd_40 : bldS Try.prog 40 = some ([.int .i64 0, .int .i64 0, .int .i64 0, .int .i64 0, .int .i64 0, .int .i64 0, .int .i64 0], [(0, 1), (1, 1), (2, 1), (3, 1), (4, 1), (5, 1), (6, 1)]) := by kernel_rfl
theorem bd_60 : bldS Try.prog 60 = some ([.bool false, .int .i64 0, .int .i64 0], [(0, 3)]) := by kernel_rfl
theorem bl_24 {t : TypeId} {cs : Array Bool} {K : Value → Prop} {a : Option Addr} {n c : Nat} : builtW Try.prog (builtin .len #[24] t cs #[.slice a n c]) K = K (.int .i64 n) := built_len_slice Try.underlying24
theorem cv_5_3 {k : IntKind} {a : Int} {K : Value → Prop} : pureW Try.prog (Go.convert 5 3 (.int k a)) K = K (.int .i64 (wr .i64 a)) := cw_int Try.underlying5 Try.underlying3
theorem cv_21_3 {k : IntKind} {a : Int} {K : Value → Prop} : pureW Try.prog (Go.convert 21 3 (.int k a)) K = K (.int .i64 (wr .i64 a)) := cw_int Try.underlying21 Try.underlying3
theorem cv_33_3 {k : IntKind} {a : Int} {K : Value → Prop} : pureW Try.prog (Go.convert 33 3 (.int k a)) K = K (.int .i64 (wr .i64 a)) := cw_int Try.underlying33 Try.underlying3
theorem cv_57_3 {k : IntKind} {a : Int} {K : Value → Prop} : pureW Try.prog (Go.convert 57 3 (.int k a)) K = K (.int .i64 (wr .i64 a)) := cw_int Try.underlying57 Try.underlying3
theorem g_law06_awake : goes Try.prog 20 := goes_of Try.func20 rfl rfl
theorem g_rtt_Sample : goes Try.prog 21 := goes_of Try.func21 rfl rfl
theorem g_ref06_Sample : goes Try.prog 22 := goes_of Try.func22 rfl rfl
theorem g_rtt_Check : goes Try.prog 23 := goes_of Try.func23 rfl rfl
theorem g_ref06_Check : goes Try.prog 24 := goes_of Try.func24 rfl rfl
theorem g_rtt_Mean : goes Try.prog 25 := goes_of Try.func25 rfl rfl
theorem g_ref06_Mean : goes Try.prog 26 := goes_of Try.func26 rfl rfl
theorem g_rtt_Far : goes Try.prog 27 := goes_of Try.func27 rfl rfl
theorem g_ref06_Far : goes Try.prog 28 := goes_of Try.func28 rfl rfl
theorem g_law06_all : goes Try.prog 29 := goes_of Try.func29 rfl rfl
theorem g_law07_awake : goes Try.prog 30 := goes_of Try.func30 rfl rfl
theorem g_rto_All : goes Try.prog 31 := goes_of Try.func31 rfl rfl
theorem g_rto_Base : goes Try.prog 32 := goes_of Try.func32 rfl rfl
theorem g_ref07_Base : goes Try.prog 33 := goes_of Try.func33 rfl rfl
theorem g_ref07_Of : goes Try.prog 34 := goes_of Try.func34 rfl rfl
theorem g_rto_Of : goes Try.prog 35 := goes_of Try.func35 rfl rfl
theorem g_rto_Back : goes Try.prog 36 := goes_of Try.func36 rfl rfl
theorem g_ref07_Back : goes Try.prog 37 := goes_of Try.func37 rfl rfl
theorem g_law05_awake : goes Try.prog 38 := goes_of Try.func38 rfl rfl
theorem g_clock_Step : goes Try.prog 39 := goes_of Try.func39 rfl rfl
theorem g_ref05_Step : goes Try.prog 40 := goes_of Try.func40 rfl rfl
theorem g_clock_Check : goes Try.prog 41 := goes_of Try.func41 rfl rfl
theorem g_ref05_Check : goes Try.prog 42 := goes_of Try.func42 rfl rfl
theorem g_clock_After : goes Try.prog 43 := goes_of Try.func43 rfl rfl
theorem g_ref05_After : goes Try.prog 44 := goes_of Try.func44 rfl rfl
theorem g_clock_Grain : goes Try.prog 45 := goes_of Try.func45 rfl rfl
theorem g_ref05_Grain : goes Try.prog 46 := goes_of Try.func46 rfl rfl
theorem g_clock_Kind : goes Try.prog 47 := goes_of Try.func47 rfl rfl
theorem g_ref05_Kind : goes Try.prog 48 := goes_of Try.func48 rfl rfl
theorem g_rtt_first : goes Try.prog 49 := goes_of Try.func49 rfl rfl
theorem g_rtt_known_next : goes Try.prog 50 := goes_of Try.func50 rfl rfl
theorem g_rto_within : goes Try.prog 51 := goes_of Try.func51 rfl rfl
theorem g_ref07_within : goes Try.prog 52 := goes_of Try.func52 rfl rfl
theorem g_clock_Step_1 : goes Try.prog 53 := goes_of Try.func53 rfl rfl
theorem g_ref01_Clamp : goes Try.prog 54 := goes_of Try.func54 rfl rfl
theorem g_ref01_Add : goes Try.prog 55 := goes_of Try.func55 rfl rfl
theorem g_ref01_Plus : goes Try.prog 56 := goes_of Try.func56 rfl rfl
theorem lx_3_9 : lxL Try.f3 9 9 = true := by kernel_rfl
theorem lx_3_10 : lxL Try.f3 10 9 = true := by kernel_rfl
theorem lx_3_15 : lxF Try.f3 15 = true := by kernel_rfl
theorem rs_3 : Try.f3.results.toList = [ResultVar.tmp 4] := rfl
theorem lx_4_9 : lxF Try.f4 9 = true := by kernel_rfl
theorem rs_4 : Try.f4.results.toList = [ResultVar.tmp 4] := rfl
theorem rs_5 : Try.f5.results.toList = [ResultVar.tmp 4] := rfl
theorem lx_6_4 : lxF Try.f6 4 = true := by kernel_rfl
theorem rs_6 : Try.f6.results.toList = [ResultVar.tmp 6] := rfl
theorem rs_7 : Try.f7.results.toList = [ResultVar.tmp 2] := rfl
theorem rs_8 : Try.f8.results.toList = [ResultVar.tmp 4] := rfl
theorem lx_9_5 : lxF Try.f9 5 = true := by kernel_rfl
theorem lx_9_10 : lxF Try.f9 10 = true := by kernel_rfl
theorem lx_9_11 : lxF Try.f9 11 = true := by kernel_rfl
theorem rs_9 : Try.f9.results.toList = [ResultVar.tmp 6] := rfl
theorem rs_10 : Try.f10.results.toList = [ResultVar.tmp 6] := rfl
theorem rs_11 : Try.f11.results.toList = [ResultVar.tmp 6] := rfl
theorem rs_12 : Try.f12.results.toList = [ResultVar.tmp 4] := rfl
theorem lx_13_5 : lxF Try.f13 5 = true := by kernel_rfl
theorem rs_13 : Try.f13.results.toList = [ResultVar.tmp 10] := rfl
theorem rs_14 : Try.f14.results.toList = [ResultVar.tmp 4] := rfl
theorem rs_15 : Try.f15.results.toList = [ResultVar.tmp 2] := rfl
theorem rs_16 : Try.f16.results.toList = [ResultVar.tmp 4] := rfl
theorem rs_17 : Try.f17.results.toList = [ResultVar.tmp 6] := rfl
theorem rs_18 : Try.f18.results.toList = [ResultVar.tmp 4] := rfl
theorem lx_19_12 : lxF Try.f19 12 = true := by kernel_rfl
theorem rs_19 : Try.f19.results.toList = [ResultVar.tmp 4] := rfl
theorem rs_20 : Try.f20.results.toList = [ResultVar.tmp 0] := rfl
theorem rs_21 : Try.f21.results.toList = [ResultVar.cell 4 23, ResultVar.tmp 5] := rfl
theorem lx_22_9 : lxT Try.f22 9 15 = true := by kernel_rfl
theorem rs_22 : Try.f22.results.toList = [ResultVar.cell 4 23, ResultVar.tmp 5] := rfl
theorem rs_23 : Try.f23.results.toList = [ResultVar.tmp 2] := rfl
theorem rs_24 : Try.f24.results.toList = [ResultVar.tmp 2] := rfl
theorem rs_25 : Try.f25.results.toList = [ResultVar.tmp 2] := rfl
theorem rs_26 : Try.f26.results.toList = [ResultVar.tmp 2] := rfl
theorem rs_27 : Try.f27.results.toList = [ResultVar.tmp 2] := rfl
theorem rs_28 : Try.f28.results.toList = [ResultVar.tmp 2] := rfl
theorem lx_29_4 : lxL Try.f29 4 9 = true := by kernel_rfl
theorem rs_29 : Try.f29.results.toList = [ResultVar.cell 4 23] := rfl
theorem rs_30 : Try.f30.results.toList = [ResultVar.tmp 0] := rfl
theorem rs_31 : Try.f31.results.toList = [ResultVar.tmp 6] := rfl
theorem lx_32_3 : lxF Try.f32 3 = true := by kernel_rfl
theorem rs_32 : Try.f32.results.toList = [ResultVar.tmp 4] := rfl
theorem rs_33 : Try.f33.results.toList = [ResultVar.tmp 4] := rfl
theorem rs_34 : Try.f34.results.toList = [ResultVar.tmp 6] := rfl
theorem lx_35_2 : lxF Try.f35 2 = true := by kernel_rfl
theorem rs_35 : Try.f35.results.toList = [ResultVar.tmp 6] := rfl
theorem lx_36_3 : lxF Try.f36 3 = true := by kernel_rfl
theorem rs_36 : Try.f36.results.toList = [ResultVar.tmp 6] := rfl
theorem lx_37_3 : lxF Try.f37 3 = true := by kernel_rfl
theorem rs_37 : Try.f37.results.toList = [ResultVar.tmp 6] := rfl
theorem rs_38 : Try.f38.results.toList = [ResultVar.tmp 0] := rfl
theorem rs_39 : Try.f39.results.toList = [ResultVar.tmp 4, ResultVar.tmp 5] := rfl
theorem rs_40 : Try.f40.results.toList = [ResultVar.tmp 4, ResultVar.tmp 5] := rfl
theorem rs_41 : Try.f41.results.toList = [ResultVar.tmp 2] := rfl
theorem rs_42 : Try.f42.results.toList = [ResultVar.tmp 2] := rfl
theorem rs_43 : Try.f43.results.toList = [ResultVar.tmp 4] := rfl
theorem rs_44 : Try.f44.results.toList = [ResultVar.tmp 4] := rfl
theorem rs_45 : Try.f45.results.toList = [ResultVar.tmp 4] := rfl
theorem rs_46 : Try.f46.results.toList = [ResultVar.tmp 4] := rfl
theorem rs_47 : Try.f47.results.toList = [ResultVar.tmp 2] := rfl
theorem rs_48 : Try.f48.results.toList = [ResultVar.tmp 2] := rfl
theorem rs_49 : Try.f49.results.toList = [ResultVar.cell 2 60] := rfl
theorem lx_50_1 : lxF Try.f50 1 = true := by kernel_rfl
theorem rs_50 : Try.f50.results.toList = [ResultVar.cell 4 60] := rfl
theorem rs_51 : Try.f51.results.toList = [ResultVar.tmp 2] := rfl
theorem rs_52 : Try.f52.results.toList = [ResultVar.tmp 2] := rfl
theorem rs_53 : Try.f53.results.toList = [ResultVar.tmp 3, ResultVar.tmp 4] := rfl
theorem rs_54 : Try.f54.results.toList = [ResultVar.tmp 6] := rfl
theorem rs_55 : Try.f55.results.toList = [ResultVar.tmp 4] := rfl
theorem rs_56 : Try.f56.results.toList = [ResultVar.tmp 4, ResultVar.tmp 5] := rfl
theorem own_ : ownKnob Try.prog.godebug = none := by kernel_rfl
theorem laidOut_ : laidOutB Try.prog = true := by kernel_rfl
theorem mixed_ : Try.prog.follows .mixedOrders = true := by kernel_rfl
end Go.Proofs.Ytohafkjgdlhmbaa

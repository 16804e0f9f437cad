/- The framework and the contracts of the program's functions, part 3: what each answers. Conditions: those that each names. -/
import Derived.Test.YtkokohkbhlnjkaaGreatDoorMa2
import Derived.Test.YtkokohkbhlnjkaaGreatDoorProg
import Derived.WalkKit
import Derived.ProofKit
import Derived.OpenShut
import Derived.ShutString
import Derived.ChangeOld
import Derived.Below
import Derived.SizedLaws
import Derived.Laws.MathBits
import Derived.Conc.AtomicLaws
import Derived.Shelf.Spec.BitsCarry
import Derived.Laws.Bits64b
namespace Go.Proofs.YtkokohkbhlnjkaaGreatDoor
set_option linter.unusedVariables false
set_option linter.unusedSimpArgs false
open Go Go.Proofs.YtkokohkbhlnjkaaGreatDoor.R
namespace R
set_option maxRecDepth 10000
theorem WE : type_of% (And.intro (And.intro (And.intro (And.intro (And.intro (And.intro (And.intro (And.intro @hold_eq.{1} @tailW_nil) (And.intro @tailW_none @preX_nil)) (And.intro (And.intro @preX_cons @cW_skip) (And.intro @cW_label (And.intro @cW_exit @cW_goto)))) (And.intro (And.intro (And.intro @cW_ret @cW_seq) (And.intro @cW_cond @cW_block)) (And.intro (And.intro @cW_scope @cW_lit) (And.intro @condW_bool (And.intro @thenW_normal @thenW_ret))))) (And.intro (And.intro (And.intro (And.intro @thenW_exit @thenW_goto) (And.intro @thenW_panic @inBlockW_normal)) (And.intro (And.intro @inBlockW_ret @inBlockW_exit) (And.intro @inBlockW_goto (And.intro @inBlockW_panic @noGotoW_normal)))) (And.intro (And.intro (And.intro @noGotoW_ret @noGotoW_exit) (And.intro @noGotoW_panic (And.intro @panW_eq @opsW_nil))) (And.intro (And.intro @opsW_none @opsW_some) (And.intro @headW_nil (And.intro @headW_none @headW_some)))))) (And.intro (And.intro (And.intro (And.intro (And.intro @gdW_no @gdW_yes) (And.intro @gv_eq @getX_eq)) (And.intro (And.intro @exv_ext @getsX_eq) (And.intro @bind_some (And.intro @op_move @op_assign)))) (And.intro (And.intro (And.intro @op_pick @pickW_bool) (And.intro @op_nilCheck @nilW_ext)) (And.intro (And.intro @nilW_ptr @nilW_clos) (And.intro @op_binOp (And.intro @op_unOp @op_convert))))) (And.intro (And.intro (And.intro (And.intro @op_makeInterface @op_typeAssert) (And.intro @op_extract @op_field)) (And.intro (And.intro @op_index @List.take_succ_cons.{0}) (And.intro @List.take_zero.{0} (And.intro @List.drop_succ_cons.{0} @List.drop_zero.{0})))) (And.intro (And.intro (And.intro @op_build @fillW_nil) (And.intro @fillW_cons (And.intro @List.map_map.{0, 0, 0} @op_slice))) (And.intro (And.intro @op_makeFunc @funcW_caps) (And.intro @funcW_none (And.intro @op_fieldAddr @faW_ptr))))))) (And.intro (And.intro (And.intro (And.intro (And.intro (And.intro @faW_ext @op_indexAddr) (And.intro @idxW_sl @idxW_ptr)) (And.intro (And.intro @idxW_ext @op_load) (And.intro @loadW_ptr (And.intro @loadW_ext @cellW_eq)))) (And.intro (And.intro (And.intro @loadR_agg @loadR_one) (And.intro @mixW_nil @mixW_q)) (And.intro (And.intro @mixW_l @loudW_none) (And.intro @xsub_refl (And.intro @planV_end @planV_fin))))) (And.intro (And.intro (And.intro (And.intro @planV_q @planV_p) (And.intro @planV_alt @loudV_none)) (And.intro (And.intro @keepV_t @keepV_f) (And.intro @List.contains_cons.{0} (And.intro @List.contains_nil.{0} @Bool.or_false)))) (And.intro (And.intro (And.intro @Bool.false_or @Bool.true_or) (And.intro @Bool.or_true (And.intro @planW_end @planW_fin))) (And.intro (And.intro @planW_q @planW_alt) (And.intro @ploudW_none (And.intro @op_lookup @mapOb_mp)))))) (And.intro (And.intro (And.intro (And.intro (And.intro @mapOb_ext @mpW_eq) (And.intro @objW_eq @op_built)) (And.intro (And.intro @lenW_sl @lenW_app) (And.intro @lenW_copy (And.intro @lenW_len @lenW_max)))) (And.intro (And.intro (And.intro @lenW_min @op_call) (And.intro @op_invoke (And.intro @op_alloc @op_box))) (And.intro (And.intro @op_buildSlice @op_makeSlice) (And.intro @op_store (And.intro @storeW_ptr @op_makeMap))))) (And.intro (And.intro (And.intro (And.intro @op_mapUpdate @op_insert) (And.intro @op_panic @ifaceW_eq)) (And.intro (And.intro @put_some @put_none) (And.intro @ev_tmp (And.intro @ev_const @ev_func)))) (And.intro (And.intro (And.intro @ev_global @lk_step) (And.intro @selX_true (And.intro @selX_false @bw_add))) (And.intro (And.intro @bw_sub @bw_mul) (And.intro @bw_and (And.intro @bw_quo @bw_rem)))))))) (And.intro (And.intro (And.intro (And.intro (And.intro (And.intro (And.intro @bw_eql @bw_neq) (And.intro @bw_lss @bw_leq)) (And.intro (And.intro @bw_gtr @bw_geq) (And.intro @bw_shl (And.intro @bw_shr @bw_beq)))) (And.intro (And.intro (And.intro @bw_bne @bw_seq) (And.intro @bw_sne @Back_normal)) (And.intro (And.intro @Back_ret @resL_nil) (And.intro @resL_cons (And.intro @res1_tmp @res1_cell))))) (And.intro (And.intro (And.intro (And.intro @resW_eq @resV_one) (And.intro @resV_two @resV_three)) (And.intro (And.intro @resV_none @nilOK_ptr) (And.intro @nilOK_func (And.intro @nilOK_iface @nilOK_map)))) (And.intro (And.intro (And.intro @tgt_func @tgt_clos) (And.intro @ptrV_eq (And.intro @slV_eq @one_int))) (And.intro (And.intro @one_bool @one_string) (And.intro @one_pointer (And.intro @one_slice @one_map)))))) (And.intro (And.intro (And.intro (And.intro (And.intro @one_func @one_nilFunc) (And.intro @one_iface @one_nilIface)) (And.intro (And.intro @one_ptr @one_clos) (And.intro @one_mp (And.intro @one_sl @ikEq_self)))) (And.intro (And.intro (And.intro @fitsK_nil @fitsK_bool) (And.intro @fitsK_int @eqL_nil)) (And.intro (And.intro @eqL_bool @eqL_int) (And.intro @cells_agg (And.intro @cells_int @cells_bool))))) (And.intro (And.intro (And.intro (And.intro @cells_string @cells_pointer) (And.intro @cells_slice @cells_map)) (And.intro (And.intro @cells_func @cells_nilFunc) (And.intro @cells_iface (And.intro @cells_nilIface @ydV_bool)))) (And.intro (And.intro (And.intro @ydV_undef @flat_ext) (And.intro @flat_ptr (And.intro @flat_sl @flat_clos))) (And.intro (And.intro @flat_mp @takeX_zero) (And.intro @takeX_succ (And.intro @dropX_zero @dropX_succ))))))) (And.intro (And.intro (And.intro (And.intro (And.intro (And.intro @nthX_zero @nthX_succ) (And.intro @setX_zero @setX_succ)) (And.intro (And.intro @putX_nil @putX_zero) (And.intro @putX_succ (And.intro @toExts_nil @toExts_ext)))) (And.intro (And.intro (And.intro @getsR_nil @consX_some) (And.intro @getsR_cons @ptrs_nil)) (And.intro (And.intro @ptrs_ptr @mkT_nil) (And.intro @mkT_cons (And.intro @yd_lit @ydO_some))))) (And.intro (And.intro (And.intro (And.intro @un_not @uw_neg) (And.intro @cw_int @extract_of)) (And.intro (And.intro @built_max @built_min) (And.intro @built_len_slice (And.intro @built_len_string @ifB_true)))) (And.intro (And.intro (And.intro @ifB_false @cond_t.{1}) (And.intro @cond_f.{1} (And.intro @List.map_cons.{0, 0} @List.map_nil.{0, 0}))) (And.intro (And.intro @List.length_cons.{0} @List.length_nil.{0}) (And.intro @List.length_append.{0} (And.intro @List.nil_append.{0} @List.cons_append.{0})))))) (And.intro (And.intro (And.intro (And.intro (And.intro @List.append_nil.{0} @Nat.add_zero) (And.intro @Nat.zero_add @List.all_cons.{0})) (And.intro (And.intro @List.all_nil.{0} @Bool.and_self) (And.intro @Bool.and_true (And.intro @Bool.true_and @true_and)))) (And.intro (And.intro (And.intro @and_true @and_self) (And.intro @Option.map_some.{0, 0} (And.intro @Option.bind_some.{0, 0} @Option.map_none.{0, 0}))) (And.intro (And.intro @List.getElem?_toArray.{0} @List.getElem?_cons_zero.{0}) (And.intro @List.getElem?_cons_succ.{0} (And.intro @Option.toList_some.{0} @Option.toList_none.{0}))))) (And.intro (And.intro (And.intro (And.intro @ne_eq.{1} @not_false_eq_true) (And.intro @Bool.not_true @Bool.not_false)) (And.intro (And.intro @beq_self_eq_true.{0} @Bool.true_beq) (And.intro @Bool.false_beq (And.intro @decide_true @decide_false)))) (And.intro (And.intro (And.intro @Option.some.injEq.{0} @bits_i64) (And.intro @bits_u64 (And.intro @bits_i32 @bits_u32))) (And.intro (And.intro @bits_u16 @bits_u8) (And.intro @Nat.min_def (And.intro @if_true.{1} @if_false.{1}))))))))) :=
  (And.intro (And.intro (And.intro (And.intro (And.intro (And.intro (And.intro (And.intro @hold_eq.{1} @tailW_nil) (And.intro @tailW_none @preX_nil)) (And.intro (And.intro @preX_cons @cW_skip) (And.intro @cW_label (And.intro @cW_exit @cW_goto)))) (And.intro (And.intro (And.intro @cW_ret @cW_seq) (And.intro @cW_cond @cW_block)) (And.intro (And.intro @cW_scope @cW_lit) (And.intro @condW_bool (And.intro @thenW_normal @thenW_ret))))) (And.intro (And.intro (And.intro (And.intro @thenW_exit @thenW_goto) (And.intro @thenW_panic @inBlockW_normal)) (And.intro (And.intro @inBlockW_ret @inBlockW_exit) (And.intro @inBlockW_goto (And.intro @inBlockW_panic @noGotoW_normal)))) (And.intro (And.intro (And.intro @noGotoW_ret @noGotoW_exit) (And.intro @noGotoW_panic (And.intro @panW_eq @opsW_nil))) (And.intro (And.intro @opsW_none @opsW_some) (And.intro @headW_nil (And.intro @headW_none @headW_some)))))) (And.intro (And.intro (And.intro (And.intro (And.intro @gdW_no @gdW_yes) (And.intro @gv_eq @getX_eq)) (And.intro (And.intro @exv_ext @getsX_eq) (And.intro @bind_some (And.intro @op_move @op_assign)))) (And.intro (And.intro (And.intro @op_pick @pickW_bool) (And.intro @op_nilCheck @nilW_ext)) (And.intro (And.intro @nilW_ptr @nilW_clos) (And.intro @op_binOp (And.intro @op_unOp @op_convert))))) (And.intro (And.intro (And.intro (And.intro @op_makeInterface @op_typeAssert) (And.intro @op_extract @op_field)) (And.intro (And.intro @op_index @List.take_succ_cons.{0}) (And.intro @List.take_zero.{0} (And.intro @List.drop_succ_cons.{0} @List.drop_zero.{0})))) (And.intro (And.intro (And.intro @op_build @fillW_nil) (And.intro @fillW_cons (And.intro @List.map_map.{0, 0, 0} @op_slice))) (And.intro (And.intro @op_makeFunc @funcW_caps) (And.intro @funcW_none (And.intro @op_fieldAddr @faW_ptr))))))) (And.intro (And.intro (And.intro (And.intro (And.intro (And.intro @faW_ext @op_indexAddr) (And.intro @idxW_sl @idxW_ptr)) (And.intro (And.intro @idxW_ext @op_load) (And.intro @loadW_ptr (And.intro @loadW_ext @cellW_eq)))) (And.intro (And.intro (And.intro @loadR_agg @loadR_one) (And.intro @mixW_nil @mixW_q)) (And.intro (And.intro @mixW_l @loudW_none) (And.intro @xsub_refl (And.intro @planV_end @planV_fin))))) (And.intro (And.intro (And.intro (And.intro @planV_q @planV_p) (And.intro @planV_alt @loudV_none)) (And.intro (And.intro @keepV_t @keepV_f) (And.intro @List.contains_cons.{0} (And.intro @List.contains_nil.{0} @Bool.or_false)))) (And.intro (And.intro (And.intro @Bool.false_or @Bool.true_or) (And.intro @Bool.or_true (And.intro @planW_end @planW_fin))) (And.intro (And.intro @planW_q @planW_alt) (And.intro @ploudW_none (And.intro @op_lookup @mapOb_mp)))))) (And.intro (And.intro (And.intro (And.intro (And.intro @mapOb_ext @mpW_eq) (And.intro @objW_eq @op_built)) (And.intro (And.intro @lenW_sl @lenW_app) (And.intro @lenW_copy (And.intro @lenW_len @lenW_max)))) (And.intro (And.intro (And.intro @lenW_min @op_call) (And.intro @op_invoke (And.intro @op_alloc @op_box))) (And.intro (And.intro @op_buildSlice @op_makeSlice) (And.intro @op_store (And.intro @storeW_ptr @op_makeMap))))) (And.intro (And.intro (And.intro (And.intro @op_mapUpdate @op_insert) (And.intro @op_panic @ifaceW_eq)) (And.intro (And.intro @put_some @put_none) (And.intro @ev_tmp (And.intro @ev_const @ev_func)))) (And.intro (And.intro (And.intro @ev_global @lk_step) (And.intro @selX_true (And.intro @selX_false @bw_add))) (And.intro (And.intro @bw_sub @bw_mul) (And.intro @bw_and (And.intro @bw_quo @bw_rem)))))))) (And.intro (And.intro (And.intro (And.intro (And.intro (And.intro (And.intro @bw_eql @bw_neq) (And.intro @bw_lss @bw_leq)) (And.intro (And.intro @bw_gtr @bw_geq) (And.intro @bw_shl (And.intro @bw_shr @bw_beq)))) (And.intro (And.intro (And.intro @bw_bne @bw_seq) (And.intro @bw_sne @Back_normal)) (And.intro (And.intro @Back_ret @resL_nil) (And.intro @resL_cons (And.intro @res1_tmp @res1_cell))))) (And.intro (And.intro (And.intro (And.intro @resW_eq @resV_one) (And.intro @resV_two @resV_three)) (And.intro (And.intro @resV_none @nilOK_ptr) (And.intro @nilOK_func (And.intro @nilOK_iface @nilOK_map)))) (And.intro (And.intro (And.intro @tgt_func @tgt_clos) (And.intro @ptrV_eq (And.intro @slV_eq @one_int))) (And.intro (And.intro @one_bool @one_string) (And.intro @one_pointer (And.intro @one_slice @one_map)))))) (And.intro (And.intro (And.intro (And.intro (And.intro @one_func @one_nilFunc) (And.intro @one_iface @one_nilIface)) (And.intro (And.intro @one_ptr @one_clos) (And.intro @one_mp (And.intro @one_sl @ikEq_self)))) (And.intro (And.intro (And.intro @fitsK_nil @fitsK_bool) (And.intro @fitsK_int @eqL_nil)) (And.intro (And.intro @eqL_bool @eqL_int) (And.intro @cells_agg (And.intro @cells_int @cells_bool))))) (And.intro (And.intro (And.intro (And.intro @cells_string @cells_pointer) (And.intro @cells_slice @cells_map)) (And.intro (And.intro @cells_func @cells_nilFunc) (And.intro @cells_iface (And.intro @cells_nilIface @ydV_bool)))) (And.intro (And.intro (And.intro @ydV_undef @flat_ext) (And.intro @flat_ptr (And.intro @flat_sl @flat_clos))) (And.intro (And.intro @flat_mp @takeX_zero) (And.intro @takeX_succ (And.intro @dropX_zero @dropX_succ))))))) (And.intro (And.intro (And.intro (And.intro (And.intro (And.intro @nthX_zero @nthX_succ) (And.intro @setX_zero @setX_succ)) (And.intro (And.intro @putX_nil @putX_zero) (And.intro @putX_succ (And.intro @toExts_nil @toExts_ext)))) (And.intro (And.intro (And.intro @getsR_nil @consX_some) (And.intro @getsR_cons @ptrs_nil)) (And.intro (And.intro @ptrs_ptr @mkT_nil) (And.intro @mkT_cons (And.intro @yd_lit @ydO_some))))) (And.intro (And.intro (And.intro (And.intro @un_not @uw_neg) (And.intro @cw_int @extract_of)) (And.intro (And.intro @built_max @built_min) (And.intro @built_len_slice (And.intro @built_len_string @ifB_true)))) (And.intro (And.intro (And.intro @ifB_false @cond_t.{1}) (And.intro @cond_f.{1} (And.intro @List.map_cons.{0, 0} @List.map_nil.{0, 0}))) (And.intro (And.intro @List.length_cons.{0} @List.length_nil.{0}) (And.intro @List.length_append.{0} (And.intro @List.nil_append.{0} @List.cons_append.{0})))))) (And.intro (And.intro (And.intro (And.intro (And.intro @List.append_nil.{0} @Nat.add_zero) (And.intro @Nat.zero_add @List.all_cons.{0})) (And.intro (And.intro @List.all_nil.{0} @Bool.and_self) (And.intro @Bool.and_true (And.intro @Bool.true_and @true_and)))) (And.intro (And.intro (And.intro @and_true @and_self) (And.intro @Option.map_some.{0, 0} (And.intro @Option.bind_some.{0, 0} @Option.map_none.{0, 0}))) (And.intro (And.intro @List.getElem?_toArray.{0} @List.getElem?_cons_zero.{0}) (And.intro @List.getElem?_cons_succ.{0} (And.intro @Option.toList_some.{0} @Option.toList_none.{0}))))) (And.intro (And.intro (And.intro (And.intro @ne_eq.{1} @not_false_eq_true) (And.intro @Bool.not_true @Bool.not_false)) (And.intro (And.intro @beq_self_eq_true.{0} @Bool.true_beq) (And.intro @Bool.false_beq (And.intro @decide_true @decide_false)))) (And.intro (And.intro (And.intro @Option.some.injEq.{0} @bits_i64) (And.intro @bits_u64 (And.intro @bits_i32 @bits_u32))) (And.intro (And.intro @bits_u16 @bits_u8) (And.intro @Nat.min_def (And.intro @if_true.{1} @if_false.{1})))))))))
class Stk (p : Prop) : Prop where
  ok : True
theorem stk {p : Prop} [Stk p] (h : p) : p := h
instance {a b c d e} : Stk (cW a b (.loop c) d e) := ⟨trivial⟩
instance {a b c d e} : Stk (Sd a b c d e) := ⟨trivial⟩
instance {a b c d e f} : Stk (cW a b (.region c d true) e f) := ⟨trivial⟩
instance {a b c d e f} : Stk (callW a b c (some d) e f) := ⟨trivial⟩
instance {a b c} : Stk (rowW a b c) := ⟨trivial⟩
instance {a b c d e f g} : Stk (bldW a b c d e f g) := ⟨trivial⟩
instance {a b c d e f} : Stk (lookW a b c d e f) := ⟨trivial⟩
instance {a b c d e f} : Stk (updW a b c d e f) := ⟨trivial⟩
instance {a b c d e f} : Stk (extW a b c d e f) := ⟨trivial⟩
instance {a b c} : Stk (inW a b c) := ⟨trivial⟩
instance {a b c d e f} : Stk (appW a b c d e f) := ⟨trivial⟩
instance {a b c d e f} : Stk (copyW a b c d e f) := ⟨trivial⟩
instance {a b c} : Stk (extM a b c) := ⟨trivial⟩
instance {a b c d e f g h} : Stk (binW a b c d e f g h) := ⟨trivial⟩
instance {a b c} : Stk (pureW a b c) := ⟨trivial⟩
instance {a b c} : Stk (builtW a b c) := ⟨trivial⟩
instance {a b c d} : Stk (invokeW a b c d) := ⟨trivial⟩
end R
end Go.Proofs.YtkokohkbhlnjkaaGreatDoor
namespace Go.Proofs.YtkokohkbhlnjkaaGreatDoor
set_option linter.unusedVariables false
set_option linter.unusedSimpArgs false
open Go Go.RowKit Go.Proofs.YtkokohkbhlnjkaaGreatDoor.R
theorem ty_3 : tyS Tryz.prog 3 = some (false, 1) := by kernel_rfl
theorem ty_4 : tyS Tryz.prog 4 = some (false, 1) := by kernel_rfl
theorem ty_23 : tyS Tryz.prog 23 = some (true, 7) := by kernel_rfl
theorem ty_30 : tyS Tryz.prog 30 = some (false, 1) := by kernel_rfl
theorem ty_36 : tyS Tryz.prog 36 = some (true, 3) := by kernel_rfl
theorem ty_38 : tyS Tryz.prog 38 = some (true, 3) := by kernel_rfl
theorem ty_39 : tyS Tryz.prog 39 = some (false, 1) := by kernel_rfl
theorem ty_41 : tyS Tryz.prog 41 = some (true, 2) := by kernel_rfl
theorem ty_43 : tyS Tryz.prog 43 = some (true, 7) := by kernel_rfl
theorem ty_45 : tyS Tryz.prog 45 = some (true, 6) := by kernel_rfl
theorem ty_47 : tyS Tryz.prog 47 = some (true, 2) := by kernel_rfl
theorem ty_49 : tyS Tryz.prog 49 = some (true, 39) := by kernel_rfl
theorem ty_54 : tyS Tryz.prog 54 = some (true, 6) := by kernel_rfl
theorem ty_64 : tyS Tryz.prog 64 = some (true, 4) := by kernel_rfl
theorem ty_93 : tyS Tryz.prog 93 = some (true, 2) := by kernel_rfl
theorem ty_111 : tyS Tryz.prog 111 = some (true, 39) := by kernel_rfl
theorem ty_133 : tyS Tryz.prog 133 = some (true, 2) := by kernel_rfl
theorem ty_135 : tyS Tryz.prog 135 = some (true, 7) := by kernel_rfl
theorem ty_144 : tyS Tryz.prog 144 = some (false, 1) := by kernel_rfl
theorem ty_150 : tyS Tryz.prog 150 = some (true, 4) := by kernel_rfl
theorem ty_174 : tyS Tryz.prog 174 = some (false, 1) := by kernel_rfl
theorem ty_183 : tyS Tryz.prog 183 = some (true, 4) := by kernel_rfl
theorem ty_196 : tyS Tryz.prog 196 = some (true, 3) := by kernel_rfl
theorem ty_221 : tyS Tryz.prog 221 = some (true, 2) := by kernel_rfl
theorem ty_225 : tyS Tryz.prog 225 = some (true, 2) := by kernel_rfl
theorem ty_233 : tyS Tryz.prog 233 = some (true, 3) := by kernel_rfl
theorem ty_241 : tyS Tryz.prog 241 = some (true, 2) := by kernel_rfl
theorem ty_243 : tyS Tryz.prog 243 = some (true, 1) := by kernel_rfl
theorem ty_270 : tyS Tryz.prog 270 = some (false, 1) := by kernel_rfl
theorem fo_23_0 : fieldOff Tryz.prog 23 0 = some 0 := by kernel_rfl
theorem fo_23_1 : fieldOff Tryz.prog 23 1 = some 1 := by kernel_rfl
theorem fo_23_2 : fieldOff Tryz.prog 23 2 = some 2 := by kernel_rfl
theorem fo_23_3 : fieldOff Tryz.prog 23 3 = some 3 := by kernel_rfl
theorem fo_23_4 : fieldOff Tryz.prog 23 4 = some 4 := by kernel_rfl
theorem fo_23_5 : fieldOff Tryz.prog 23 5 = some 5 := by kernel_rfl
theorem fo_23_6 : fieldOff Tryz.prog 23 6 = some 6 := by kernel_rfl
theorem fo_36_0 : fieldOff Tryz.prog 36 0 = some 0 := by kernel_rfl
theorem fo_36_1 : fieldOff Tryz.prog 36 1 = some 1 := by kernel_rfl
theorem fo_36_2 : fieldOff Tryz.prog 36 2 = some 2 := by kernel_rfl
theorem fo_38_0 : fieldOff Tryz.prog 38 0 = some 0 := by kernel_rfl
theorem fo_38_1 : fieldOff Tryz.prog 38 1 = some 1 := by kernel_rfl
theorem fo_38_2 : fieldOff Tryz.prog 38 2 = some 2 := by kernel_rfl
theorem fo_41_0 : fieldOff Tryz.prog 41 0 = some 0 := by kernel_rfl
theorem fo_41_1 : fieldOff Tryz.prog 41 1 = some 1 := by kernel_rfl
theorem fo_43_0 : fieldOff Tryz.prog 43 0 = some 0 := by kernel_rfl
theorem fo_43_1 : fieldOff Tryz.prog 43 1 = some 1 := by kernel_rfl
theorem fo_43_2 : fieldOff Tryz.prog 43 2 = some 2 := by kernel_rfl
theorem fo_43_3 : fieldOff Tryz.prog 43 3 = some 3 := by kernel_rfl
theorem fo_43_4 : fieldOff Tryz.prog 43 4 = some 4 := by kernel_rfl
theorem fo_43_5 : fieldOff Tryz.prog 43 5 = some 5 := by kernel_rfl
theorem fo_43_6 : fieldOff Tryz.prog 43 6 = some 6 := by kernel_rfl
theorem fo_45_0 : fieldOff Tryz.prog 45 0 = some 0 := by kernel_rfl
theorem fo_45_1 : fieldOff Tryz.prog 45 1 = some 1 := by kernel_rfl
theorem fo_45_2 : fieldOff Tryz.prog 45 2 = some 2 := by kernel_rfl
theorem fo_45_3 : fieldOff Tryz.prog 45 3 = some 3 := by kernel_rfl
theorem fo_45_4 : fieldOff Tryz.prog 45 4 = some 4 := by kernel_rfl
theorem fo_45_5 : fieldOff Tryz.prog 45 5 = some 5 := by kernel_rfl
theorem fo_47_0 : fieldOff Tryz.prog 47 0 = some 0 := by kernel_rfl
theorem fo_47_1 : fieldOff Tryz.prog 47 1 = some 1 := by kernel_rfl
theorem fo_49_0 : fieldOff Tryz.prog 49 0 = some 0 := by kernel_rfl
theorem fo_49_1 : fieldOff Tryz.prog 49 1 = some 7 := by kernel_rfl
theorem fo_49_2 : fieldOff Tryz.prog 49 2 = some 8 := by kernel_rfl
theorem fo_49_3 : fieldOff Tryz.prog 49 3 = some 9 := by kernel_rfl
theorem fo_49_4 : fieldOff Tryz.prog 49 4 = some 10 := by kernel_rfl
theorem fo_49_5 : fieldOff Tryz.prog 49 5 = some 11 := by kernel_rfl
theorem fo_49_6 : fieldOff Tryz.prog 49 6 = some 12 := by kernel_rfl
theorem fo_49_7 : fieldOff Tryz.prog 49 7 = some 15 := by kernel_rfl
theorem fo_49_8 : fieldOff Tryz.prog 49 8 = some 18 := by kernel_rfl
theorem fo_49_9 : fieldOff Tryz.prog 49 9 = some 19 := by kernel_rfl
theorem fo_49_10 : fieldOff Tryz.prog 49 10 = some 21 := by kernel_rfl
theorem fo_49_11 : fieldOff Tryz.prog 49 11 = some 28 := by kernel_rfl
theorem fo_49_12 : fieldOff Tryz.prog 49 12 = some 34 := by kernel_rfl
theorem fo_49_13 : fieldOff Tryz.prog 49 13 = some 35 := by kernel_rfl
theorem fo_49_14 : fieldOff Tryz.prog 49 14 = some 36 := by kernel_rfl
theorem fo_49_15 : fieldOff Tryz.prog 49 15 = some 38 := by kernel_rfl
theorem fo_54_1 : fieldOff Tryz.prog 54 1 = some 1 := by kernel_rfl
theorem fo_54_3 : fieldOff Tryz.prog 54 3 = some 3 := by kernel_rfl
theorem fo_54_4 : fieldOff Tryz.prog 54 4 = some 4 := by kernel_rfl
theorem fo_54_5 : fieldOff Tryz.prog 54 5 = some 5 := by kernel_rfl
theorem fo_64_0 : fieldOff Tryz.prog 64 0 = some 0 := by kernel_rfl
theorem fo_64_1 : fieldOff Tryz.prog 64 1 = some 1 := by kernel_rfl
theorem fo_64_2 : fieldOff Tryz.prog 64 2 = some 2 := by kernel_rfl
theorem fo_64_3 : fieldOff Tryz.prog 64 3 = some 3 := by kernel_rfl
theorem fo_93_0 : fieldOff Tryz.prog 93 0 = some 0 := by kernel_rfl
theorem fo_93_1 : fieldOff Tryz.prog 93 1 = some 1 := by kernel_rfl
theorem fo_111_0 : fieldOff Tryz.prog 111 0 = some 0 := by kernel_rfl
theorem fo_135_0 : fieldOff Tryz.prog 135 0 = some 0 := by kernel_rfl
theorem fo_135_1 : fieldOff Tryz.prog 135 1 = some 1 := by kernel_rfl
theorem fo_135_2 : fieldOff Tryz.prog 135 2 = some 2 := by kernel_rfl
theorem fo_135_3 : fieldOff Tryz.prog 135 3 = some 3 := by kernel_rfl
theorem fo_135_4 : fieldOff Tryz.prog 135 4 = some 4 := by kernel_rfl
theorem fo_135_5 : fieldOff Tryz.prog 135 5 = some 5 := by kernel_rfl
theorem fo_135_6 : fieldOff Tryz.prog 135 6 = some 6 := by kernel_rfl
theorem fo_150_2 : fieldOff Tryz.prog 150 2 = some 2 := by kernel_rfl
theorem fo_150_3 : fieldOff Tryz.prog 150 3 = some 3 := by kernel_rfl
theorem fo_176_0 : fieldOff Tryz.prog 176 0 = some 0 := by kernel_rfl
theorem fo_188_0 : fieldOff Tryz.prog 188 0 = some 0 := by kernel_rfl
theorem fo_188_1 : fieldOff Tryz.prog 188 1 = some 1 := by kernel_rfl
theorem fo_196_0 : fieldOff Tryz.prog 196 0 = some 0 := by kernel_rfl
theorem fo_196_1 : fieldOff Tryz.prog 196 1 = some 1 := by kernel_rfl
theorem fo_196_2 : fieldOff Tryz.prog 196 2 = some 2 := by kernel_rfl
theorem fo_208_0 : fieldOff Tryz.prog 208 0 = some 0 := by kernel_rfl
theorem fo_225_0 : fieldOff Tryz.prog 225 0 = some 0 := by kernel_rfl
theorem fo_225_1 : fieldOff Tryz.prog 225 1 = some 1 := by kernel_rfl
theorem fo_233_0 : fieldOff Tryz.prog 233 0 = some 0 := by kernel_rfl
theorem fo_241_1 : fieldOff Tryz.prog 241 1 = some 1 := by kernel_rfl
theorem fo_243_0 : fieldOff Tryz.prog 243 0 = some 0 := by kernel_rfl
theorem el_28 : elemOff Tryz.prog 28 = some (none, 1) := by kernel_rfl
theorem el_39 : elemOff Tryz.prog 39 = some (none, 2) := by kernel_rfl
theorem el_133 : elemOff Tryz.prog 133 = some (some 2, 1) := by kernel_rfl
theorem el_183 : elemOff Tryz.prog 183 = some (some 2, 2) := by kernel_rfl
theorem el_184 : elemOff Tryz.prog 184 = some (none, 4) := by kernel_rfl
theorem tz_23 : tyZ Tryz.prog 23 = some [.int .i64 0, .int .i64 0, .int .i64 0, .int .i64 0, .int .i64 0, .int .i64 0, .int .i64 0] := by kernel_rfl
theorem tz_30 : tyZ Tryz.prog 30 = some [.int .i64 0] := by kernel_rfl
theorem tz_36 : tyZ Tryz.prog 36 = some [.int .i64 0, .int .i64 0, .int .i64 0] := by kernel_rfl
theorem tz_38 : tyZ Tryz.prog 38 = some [.bool false, .int .i64 0, .int .i64 0] := by kernel_rfl
theorem tz_41 : tyZ Tryz.prog 41 = some [.int .i64 0, .int .i64 0] := by kernel_rfl
theorem tz_43 : tyZ Tryz.prog 43 = some [.int .i64 0, .int .i64 0, .int .i64 0, .bool false, .bool false, .int .i64 0, .int .i64 0] := by kernel_rfl
theorem tz_45 : tyZ Tryz.prog 45 = some [.bool false, .int .i64 0, .int .i64 0, .int .i64 0, .int .i64 0, .int .i64 0] := by kernel_rfl
theorem tz_47 : tyZ Tryz.prog 47 = some [.int .i64 0, .int .i64 0] := by kernel_rfl
theorem tz_49 : tyZ Tryz.prog 49 = some [.int .i64 0, .int .i64 0, .int .i64 0, .int .i64 0, .int .i64 0, .int .i64 0, .int .i64 0, .int .i64 0, .int .i64 0, .int .i64 0, .int .i64 0, .int .i64 0, .int .i64 0, .int .i64 0, .int .i64 0, .bool false, .int .i64 0, .int .i64 0, .slice none 0 0, .int .i64 0, .int .i64 0, .int .i64 0, .int .i64 0, .int .i64 0, .bool false, .bool false, .int .i64 0, .int .i64 0, .bool false, .int .i64 0, .int .i64 0, .int .i64 0, .int .i64 0, .int .i64 0, .int .i64 0, .int .i64 0, .int .i64 0, .int .i64 0, .bool false] := by kernel_rfl
theorem tz_54 : tyZ Tryz.prog 54 = some [.int .i64 0, .int .i64 0, .int .i64 0, .int .i64 0, .int .i64 0, .int .i64 0] := by kernel_rfl
theorem tz_93 : tyZ Tryz.prog 93 = some [.int .i64 0, .int .i64 0] := by kernel_rfl
theorem tz_111 : tyZ Tryz.prog 111 = some [.int .i64 0, .int .i64 0, .int .i64 0, .int .i64 0, .int .i64 0, .int .i64 0, .int .i64 0, .int .i64 0, .int .i64 0, .int .i64 0, .int .i64 0, .int .i64 0, .int .i64 0, .int .i64 0, .int .i64 0, .bool false, .int .i64 0, .int .i64 0, .slice none 0 0, .int .i64 0, .int .i64 0, .int .i64 0, .int .i64 0, .int .i64 0, .bool false, .bool false, .int .i64 0, .int .i64 0, .bool false, .int .i64 0, .int .i64 0, .int .i64 0, .int .i64 0, .int .i64 0, .int .i64 0, .int .i64 0, .int .i64 0, .int .i64 0, .bool false] := by kernel_rfl
theorem tz_133 : tyZ Tryz.prog 133 = some [.int .i64 0, .int .i64 0] := by kernel_rfl
theorem tz_135 : tyZ Tryz.prog 135 = some [.int .i64 0, .int .i64 0, .int .i64 0, .bool false, .bool false, .int .i64 0, .int .i64 0] := by kernel_rfl
theorem tz_183 : tyZ Tryz.prog 183 = some [.int .i64 0, .int .i64 0, .int .i64 0, .int .i64 0] := by kernel_rfl
theorem tz_196 : tyZ Tryz.prog 196 = some [.bool false, .int .u64 0, .int .u64 0] := by kernel_rfl
theorem tz_225 : tyZ Tryz.prog 225 = some [.int .u64 0, .int .u64 0] := by kernel_rfl
theorem tz_233 : tyZ Tryz.prog 233 = some [.bool false, .int .i64 0, .int .i64 0] := by kernel_rfl
theorem tz_241 : tyZ Tryz.prog 241 = some [.nilIface, .int .i64 0] := by kernel_rfl
theorem tz_243 : tyZ Tryz.prog 243 = some [.int .i64 0] := by kernel_rfl
theorem fk_23 : flatKs Tryz.prog 23 = some [some .i64, some .i64, some .i64, some .i64, some .i64, some .i64, some .i64] := by kernel_rfl
theorem fk_36 : flatKs Tryz.prog 36 = some [some .i64, some .i64, some .i64] := by kernel_rfl
theorem fk_38 : flatKs Tryz.prog 38 = some [none, some .i64, some .i64] := by kernel_rfl
theorem fk_41 : flatKs Tryz.prog 41 = some [some .i64, some .i64] := by kernel_rfl
theorem fk_43 : flatKs Tryz.prog 43 = some [some .i64, some .i64, some .i64, none, none, some .i64, some .i64] := by kernel_rfl
theorem fk_45 : flatKs Tryz.prog 45 = some [none, some .i64, some .i64, some .i64, some .i64, some .i64] := by kernel_rfl
theorem fk_47 : flatKs Tryz.prog 47 = some [some .i64, some .i64] := by kernel_rfl
theorem fk_93 : flatKs Tryz.prog 93 = some [some .i64, some .i64] := by kernel_rfl
theorem fk_196 : flatKs Tryz.prog 196 = some [none, some .u64, some .u64] := by kernel_rfl
theorem fk_225 : flatKs Tryz.prog 225 = some [some .u64, some .u64] := by kernel_rfl
theorem bd_23 : bldS Tryz.prog 23 = some ([.int .i64 0, .int .i64 0, .int .i64 0, .int .i64 0, .int .i64 0, .int .i64 0, .int .i64 0], [(0, 1), (1, 1), (2, 1), (3, 1), (4, 1), (5, 1), (6, 1)]) := by kernel_rfl
theorem bd_38 : bldS Tryz.prog 38 = some ([.bool false, .int .i64 0, .int .i64 0], [(0, 1), (1, 1), (2, 1)]) := by kernel_rfl
theorem bd_41 : bldS Tryz.prog 41 = some ([.int .i64 0, .int .i64 0], [(0, 1), (1, 1)]) := by kernel_rfl
theorem bd_43 : bldS Tryz.prog 43 = some ([.int .i64 0, .int .i64 0, .int .i64 0, .bool false, .bool false, .int .i64 0, .int .i64 0], [(0, 1), (1, 1), (2, 1), (3, 1), (4, 1), (5, 1), (6, 1)]) := by kernel_rfl
theorem bd_45 : bldS Tryz.prog 45 = some ([.bool false, .int .i64 0, .int .i64 0, .int .i64 0, .int .i64 0, .int .i64 0], [(0, 1), (1, 1), (2, 1), (3, 1), (4, 1), (5, 1)]) := by kernel_rfl
theorem bd_47 : bldS Tryz.prog 47 = some ([.int .i64 0, .int .i64 0], [(0, 1), (1, 1)]) := by kernel_rfl
theorem bd_49 : bldS Tryz.prog 49 = some ([.int .i64 0, .int .i64 0, .int .i64 0, .int .i64 0, .int .i64 0, .int .i64 0, .int .i64 0, .int .i64 0, .int .i64 0, .int .i64 0, .int .i64 0, .int .i64 0, .int .i64 0, .int .i64 0, .int .i64 0, .bool false, .int .i64 0, .int .i64 0, .slice none 0 0, .int .i64 0, .int .i64 0, .int .i64 0, .int .i64 0, .int .i64 0, .bool false, .bool false, .int .i64 0, .int .i64 0, .bool false, .int .i64 0, .int .i64 0, .int .i64 0, .int .i64 0, .int .i64 0, .int .i64 0, .int .i64 0, .int .i64 0, .int .i64 0, .bool false], [(0, 7), (7, 1), (8, 1), (9, 1), (10, 1), (11, 1), (12, 3), (15, 3), (18, 1), (19, 2), (21, 7), (28, 6), (34, 1), (35, 1), (36, 2), (38, 1)]) := by kernel_rfl
theorem bd_54 : bldS Tryz.prog 54 = some ([.int .i64 0, .int .i64 0, .int .i64 0, .int .i64 0, .int .i64 0, .int .i64 0], [(0, 1), (1, 1), (2, 1), (3, 1), (4, 1), (5, 1)]) := by kernel_rfl
theorem bd_64 : bldS Tryz.prog 64 = some ([.int .i64 0, .int .i64 0, .int .i64 0, .int .i64 0], [(0, 1), (1, 1), (2, 1), (3, 1)]) := by kernel_rfl
theorem bd_93 : bldS Tryz.prog 93 = some ([.int .i64 0, .int .i64 0], [(0, 1), (1, 1)]) := by kernel_rfl
theorem bd_111 : bldS Tryz.prog 111 = some ([.int .i64 0, .int .i64 0, .int .i64 0, .int .i64 0, .int .i64 0, .int .i64 0, .int .i64 0, .int .i64 0, .int .i64 0, .int .i64 0, .int .i64 0, .int .i64 0, .int .i64 0, .int .i64 0, .int .i64 0, .bool false, .int .i64 0, .int .i64 0, .slice none 0 0, .int .i64 0, .int .i64 0, .int .i64 0, .int .i64 0, .int .i64 0, .bool false, .bool false, .int .i64 0, .int .i64 0, .bool false, .int .i64 0, .int .i64 0, .int .i64 0, .int .i64 0, .int .i64 0, .int .i64 0, .int .i64 0, .int .i64 0, .int .i64 0, .bool false], [(0, 39)]) := by kernel_rfl
theorem bd_176 : bldS Tryz.prog 176 = some ([.nilFunc], [(0, 1)]) := by kernel_rfl
theorem bd_188 : bldS Tryz.prog 188 = some ([.int .i64 0, .int .i64 0], [(0, 1), (1, 1)]) := by kernel_rfl
theorem bd_196 : bldS Tryz.prog 196 = some ([.bool false, .int .u64 0, .int .u64 0], [(0, 1), (1, 1), (2, 1)]) := by kernel_rfl
theorem bd_208 : bldS Tryz.prog 208 = some ([.int .i64 0, .int .i64 0, .int .i64 0, .bool false, .bool false, .int .i64 0, .int .i64 0], [(0, 7)]) := by kernel_rfl
theorem bd_225 : bldS Tryz.prog 225 = some ([.int .u64 0, .int .u64 0], [(0, 1), (1, 1)]) := by kernel_rfl
theorem bd_233 : bldS Tryz.prog 233 = some ([.bool false, .int .i64 0, .int .i64 0], [(0, 3)]) := by kernel_rfl
theorem bd_241 : bldS Tryz.prog 241 = some ([.nilIface, .int .i64 0], [(0, 1), (1, 1)]) := by kernel_rfl
theorem bd_243 : bldS Tryz.prog 243 = some ([.int .i64 0], [(0, 1)]) := by kernel_rfl
theorem bd_133 : bldS Tryz.prog 133 = some ([.int .i64 0, .int .i64 0], [(0, 1), (1, 1)]) := by kernel_rfl
theorem bd_183 : bldS Tryz.prog 183 = some ([.int .i64 0, .int .i64 0, .int .i64 0, .int .i64 0], [(0, 2), (2, 2)]) := by kernel_rfl
theorem bl_28 {t : TypeId} {cs : Array Bool} {K : Value → Prop} {a : Option Addr} {n c : Nat} : builtW Tryz.prog (builtin .len #[28] t cs #[.slice a n c]) K = K (.int .i64 n) := built_len_slice Tryz.underlying28
theorem bl_39 {t : TypeId} {cs : Array Bool} {K : Value → Prop} {a : Option Addr} {n c : Nat} : builtW Tryz.prog (builtin .len #[39] t cs #[.slice a n c]) K = K (.int .i64 n) := built_len_slice Tryz.underlying39
theorem bl_184 {t : TypeId} {cs : Array Bool} {K : Value → Prop} {a : Option Addr} {n c : Nat} : builtW Tryz.prog (builtin .len #[184] t cs #[.slice a n c]) K = K (.int .i64 n) := built_len_slice Tryz.underlying184
theorem cv_3_144 {k : IntKind} {a : Int} {K : Value → Prop} : pureW Tryz.prog (Go.convert 3 144 (.int k a)) K = K (.int .u64 (wr .u64 a)) := cw_int Tryz.underlying3 Tryz.underlying144
theorem cv_3_145 {k : IntKind} {a : Int} {K : Value → Prop} : pureW Tryz.prog (Go.convert 3 145 (.int k a)) K = K (.int .u64 (wr .u64 a)) := cw_int Tryz.underlying3 Tryz.underlying145
theorem cv_5_3 {k : IntKind} {a : Int} {K : Value → Prop} : pureW Tryz.prog (Go.convert 5 3 (.int k a)) K = K (.int .i64 (wr .i64 a)) := cw_int Tryz.underlying5 Tryz.underlying3
theorem cv_144_3 {k : IntKind} {a : Int} {K : Value → Prop} : pureW Tryz.prog (Go.convert 144 3 (.int k a)) K = K (.int .i64 (wr .i64 a)) := cw_int Tryz.underlying144 Tryz.underlying3
theorem cv_144_5 {k : IntKind} {a : Int} {K : Value → Prop} : pureW Tryz.prog (Go.convert 144 5 (.int k a)) K = K (.int .u8 (wr .u8 a)) := cw_int Tryz.underlying144 Tryz.underlying5
theorem g_engine_New : goes Tryz.prog 22 := goes_of Tryz.func22 rfl rfl
theorem g_ref21_Same : goes Tryz.prog 24 := goes_of Tryz.func24 rfl rfl
theorem g_engine_Check : goes Tryz.prog 25 := goes_of Tryz.func25 rfl rfl
theorem g_engine_Do : goes Tryz.prog 29 := goes_of Tryz.func29 rfl rfl
theorem g_engine_Look : goes Tryz.prog 30 := goes_of Tryz.func30 rfl rfl
theorem g_law21_awake : goes Tryz.prog 32 := goes_of Tryz.func32 rfl rfl
theorem g_engine_Resolved : goes Tryz.prog 34 := goes_of Tryz.func34 rfl rfl
theorem g_frac_Bytes : goes Tryz.prog 37 := goes_of Tryz.func37 rfl rfl
theorem g_bucket_Fill : goes Tryz.prog 38 := goes_of Tryz.func38 rfl rfl
theorem g_bucket_Bytes : goes Tryz.prog 39 := goes_of Tryz.func39 rfl rfl
theorem g_guide_Check : goes Tryz.prog 50 := goes_of Tryz.func50 rfl rfl
theorem g_guide_First : goes Tryz.prog 51 := goes_of Tryz.func51 rfl rfl
theorem g_ref08_Same : goes Tryz.prog 53 := goes_of Tryz.func53 rfl rfl
theorem g_engine_Check_1 : goes Tryz.prog 54 := goes_of Tryz.func54 rfl rfl
theorem g_engine_between : goes Tryz.prog 55 := goes_of Tryz.func55 rfl rfl
theorem g_clock_Check : goes Tryz.prog 56 := goes_of Tryz.func56 rfl rfl
theorem g_flight_Check : goes Tryz.prog 57 := goes_of Tryz.func57 rfl rfl
theorem g_rtt_Check : goes Tryz.prog 58 := goes_of Tryz.func58 rfl rfl
theorem g_least_Check : goes Tryz.prog 59 := goes_of Tryz.func59 rfl rfl
theorem g_slices_ContainsFunc_api_Mark_api_Mark : goes Tryz.prog 60 := goes_of Tryz.func60 rfl rfl
theorem g_round_Check : goes Tryz.prog 61 := goes_of Tryz.func61 rfl rfl
theorem g_hystart_Check : goes Tryz.prog 62 := goes_of Tryz.func62 rfl rfl
theorem g_epoch_Check : goes Tryz.prog 63 := goes_of Tryz.func63 rfl rfl
theorem g_bucket_Check : goes Tryz.prog 64 := goes_of Tryz.func64 rfl rfl
theorem g_event_Check : goes Tryz.prog 67 := goes_of Tryz.func67 rfl rfl
theorem g_engine_Do_1 : goes Tryz.prog 68 := goes_of Tryz.func68 rfl rfl
theorem g_engine_own : goes Tryz.prog 69 := goes_of Tryz.func69 rfl rfl
theorem g_engine_must : goes Tryz.prog 70 := goes_of Tryz.func70 rfl rfl
theorem g_engine_got_int : goes Tryz.prog 71 := goes_of Tryz.func71 rfl rfl
theorem g_clock_Step : goes Tryz.prog 72 := goes_of Tryz.func72 rfl rfl
theorem g_engine_got_api_Bucket : goes Tryz.prog 73 := goes_of Tryz.func73 rfl rfl
theorem g_engine_line_rate : goes Tryz.prog 74 := goes_of Tryz.func74 rfl rfl
theorem g_engine_line_burst : goes Tryz.prog 75 := goes_of Tryz.func75 rfl rfl
theorem g_engine_line_send : goes Tryz.prog 76 := goes_of Tryz.func76 rfl rfl
theorem g_engine_line_ack : goes Tryz.prog 77 := goes_of Tryz.func77 rfl rfl
theorem g_engine_line_lose : goes Tryz.prog 78 := goes_of Tryz.func78 rfl rfl
theorem g_engine_line_ecn : goes Tryz.prog 79 := goes_of Tryz.func79 rfl rfl
theorem g_engine_line_late : goes Tryz.prog 80 := goes_of Tryz.func80 rfl rfl
theorem g_engine_line_idle : goes Tryz.prog 81 := goes_of Tryz.func81 rfl rfl
theorem g_engine_line_tick : goes Tryz.prog 82 := goes_of Tryz.func82 rfl rfl
theorem g_engine_line_timeout : goes Tryz.prog 83 := goes_of Tryz.func83 rfl rfl
theorem g_engine_line_phase : goes Tryz.prog 84 := goes_of Tryz.func84 rfl rfl
theorem g_engine_line_resolved : goes Tryz.prog 89 := goes_of Tryz.func89 rfl rfl
theorem g_frac_Floor : goes Tryz.prog 100 := goes_of Tryz.func100 rfl rfl
theorem g_bucket_taken : goes Tryz.prog 101 := goes_of Tryz.func101 rfl rfl
theorem g_safe_Add : goes Tryz.prog 102 := goes_of Tryz.func102 rfl rfl
theorem g_safe_Mul : goes Tryz.prog 103 := goes_of Tryz.func103 rfl rfl
theorem g_guide_bounds : goes Tryz.prog 107 := goes_of Tryz.func107 rfl rfl
theorem g_least_is : goes Tryz.prog 108 := goes_of Tryz.func108 rfl rfl
theorem g_slices_IndexFunc_api_Mark_api_Mark : goes Tryz.prog 109 := goes_of Tryz.func109 rfl rfl
theorem g_hystart_state_phase : goes Tryz.prog 110 := goes_of Tryz.func110 rfl rfl
theorem g_hystart_may : goes Tryz.prog 111 := goes_of Tryz.func111 rfl rfl
theorem g_epoch_Begin : goes Tryz.prog 112 := goes_of Tryz.func112 rfl rfl
theorem g_epoch_window : goes Tryz.prog 113 := goes_of Tryz.func113 rfl rfl
theorem g_event_kinds : goes Tryz.prog 117 := goes_of Tryz.func117 rfl rfl
theorem g_slices_Clone_api_Mark_api_Mark : goes Tryz.prog 118 := goes_of Tryz.func118 rfl rfl
theorem g_clock_Step_1 : goes Tryz.prog 119 := goes_of Tryz.func119 rfl rfl
theorem g_rate_Of : goes Tryz.prog 120 := goes_of Tryz.func120 rfl rfl
theorem g_engine_line_slow : goes Tryz.prog 121 := goes_of Tryz.func121 rfl rfl
theorem g_guide_Idle : goes Tryz.prog 122 := goes_of Tryz.func122 rfl rfl
theorem g_guide_Pause : goes Tryz.prog 123 := goes_of Tryz.func123 rfl rfl
theorem g_engine_got_api_Flight : goes Tryz.prog 124 := goes_of Tryz.func124 rfl rfl
theorem g_flight_Send : goes Tryz.prog 125 := goes_of Tryz.func125 rfl rfl
theorem g_bucket_Take : goes Tryz.prog 126 := goes_of Tryz.func126 rfl rfl
theorem g_guide_Used : goes Tryz.prog 127 := goes_of Tryz.func127 rfl rfl
theorem g_flight_Ack : goes Tryz.prog 128 := goes_of Tryz.func128 rfl rfl
theorem g_engine_line_times : goes Tryz.prog 129 := goes_of Tryz.func129 rfl rfl
theorem g_round_Ack : goes Tryz.prog 130 := goes_of Tryz.func130 rfl rfl
theorem g_engine_got_api_Hystart : goes Tryz.prog 131 := goes_of Tryz.func131 rfl rfl
theorem g_hystart_Round : goes Tryz.prog 132 := goes_of Tryz.func132 rfl rfl
theorem g_engine_line_recovers : goes Tryz.prog 133 := goes_of Tryz.func133 rfl rfl
theorem g_frac_Segs : goes Tryz.prog 134 := goes_of Tryz.func134 rfl rfl
theorem g_grow_Limit : goes Tryz.prog 135 := goes_of Tryz.func135 rfl rfl
theorem g_grow_Slow : goes Tryz.prog 136 := goes_of Tryz.func136 rfl rfl
theorem g_engine_line_calm : goes Tryz.prog 137 := goes_of Tryz.func137 rfl rfl
theorem g_flight_Lose : goes Tryz.prog 138 := goes_of Tryz.func138 rfl rfl
theorem g_engine_line_cut : goes Tryz.prog 139 := goes_of Tryz.func139 rfl rfl
theorem g_rto_Back : goes Tryz.prog 140 := goes_of Tryz.func140 rfl rfl
theorem g_cut_Timeout : goes Tryz.prog 141 := goes_of Tryz.func141 rfl rfl
theorem g_round_Begin : goes Tryz.prog 142 := goes_of Tryz.func142 rfl rfl
theorem g_rto_Of : goes Tryz.prog 143 := goes_of Tryz.func143 rfl rfl
theorem g_frac_Floor_1 : goes Tryz.prog 162 := goes_of Tryz.func162 rfl rfl
theorem g_frac_way_part : goes Tryz.prog 163 := goes_of Tryz.func163 rfl rfl
theorem g_safe_Clamp : goes Tryz.prog 164 := goes_of Tryz.func164 rfl rfl
theorem g_safe_held : goes Tryz.prog 165 := goes_of Tryz.func165 rfl rfl
theorem g_safe_Plus : goes Tryz.prog 166 := goes_of Tryz.func166 rfl rfl
theorem g_safe_Add_1 : goes Tryz.prog 167 := goes_of Tryz.func167 rfl rfl
theorem g_safe_Times : goes Tryz.prog 168 := goes_of Tryz.func168 rfl rfl
theorem g_safe_Mul_1 : goes Tryz.prog 169 := goes_of Tryz.func169 rfl rfl
theorem g_guide_bounds_1 : goes Tryz.prog 172 := goes_of Tryz.func172 rfl rfl
theorem g_epoch_time : goes Tryz.prog 173 := goes_of Tryz.func173 rfl rfl
theorem g_epoch_K : goes Tryz.prog 174 := goes_of Tryz.func174 rfl rfl
theorem g_event_what_full : goes Tryz.prog 176 := goes_of Tryz.func176 rfl rfl
theorem g_event_what_bytes : goes Tryz.prog 177 := goes_of Tryz.func177 rfl rfl
theorem g_event_what_bare : goes Tryz.prog 178 := goes_of Tryz.func178 rfl rfl
theorem g_rate_bounds_int_take : goes Tryz.prog 179 := goes_of Tryz.func179 rfl rfl
theorem g_rate_Gain : goes Tryz.prog 180 := goes_of Tryz.func180 rfl rfl
theorem g_rate_time : goes Tryz.prog 181 := goes_of Tryz.func181 rfl rfl
theorem g_safe_Sub : goes Tryz.prog 182 := goes_of Tryz.func182 rfl rfl
theorem g_epoch_Shift : goes Tryz.prog 183 := goes_of Tryz.func183 rfl rfl
theorem g_flight_Room : goes Tryz.prog 184 := goes_of Tryz.func184 rfl rfl
theorem g_big_Cmp : goes Tryz.prog 185 := goes_of Tryz.func185 rfl rfl
theorem g_big_Mul : goes Tryz.prog 186 := goes_of Tryz.func186 rfl rfl
theorem g_flight_back : goes Tryz.prog 187 := goes_of Tryz.func187 rfl rfl
theorem g_engine_got_api_Rtt : goes Tryz.prog 188 := goes_of Tryz.func188 rfl rfl
theorem g_rtt_Sample : goes Tryz.prog 189 := goes_of Tryz.func189 rfl rfl
theorem g_engine_got_api_Mark : goes Tryz.prog 190 := goes_of Tryz.func190 rfl rfl
theorem g_least_Put : goes Tryz.prog 191 := goes_of Tryz.func191 rfl rfl
theorem g_hystart_Sample : goes Tryz.prog 192 := goes_of Tryz.func192 rfl rfl
theorem g_round_Ack_1 : goes Tryz.prog 193 := goes_of Tryz.func193 rfl rfl
theorem g_grow_given : goes Tryz.prog 194 := goes_of Tryz.func194 rfl rfl
theorem g_grow_after : goes Tryz.prog 195 := goes_of Tryz.func195 rfl rfl
theorem g_engine_got_api_Epoch : goes Tryz.prog 196 := goes_of Tryz.func196 rfl rfl
theorem g_reno_Step : goes Tryz.prog 197 := goes_of Tryz.func197 rfl rfl
theorem g_cubic_Target : goes Tryz.prog 198 := goes_of Tryz.func198 rfl rfl
theorem g_clock_After : goes Tryz.prog 199 := goes_of Tryz.func199 rfl rfl
theorem g_rtt_Mean : goes Tryz.prog 200 := goes_of Tryz.func200 rfl rfl
theorem g_grow_Both : goes Tryz.prog 201 := goes_of Tryz.func201 rfl rfl
theorem g_cut_Loss : goes Tryz.prog 202 := goes_of Tryz.func202 rfl rfl
theorem g_rto_within : goes Tryz.prog 203 := goes_of Tryz.func203 rfl rfl
theorem g_rto_Base : goes Tryz.prog 204 := goes_of Tryz.func204 rfl rfl
theorem g_big_Div : goes Tryz.prog 224 := goes_of Tryz.func224 rfl rfl
theorem g_big_Add : goes Tryz.prog 225 := goes_of Tryz.func225 rfl rfl
theorem g_big_Of : goes Tryz.prog 226 := goes_of Tryz.func226 rfl rfl
theorem g_big_Int : goes Tryz.prog 227 := goes_of Tryz.func227 rfl rfl
theorem g_big_Scale : goes Tryz.prog 228 := goes_of Tryz.func228 rfl rfl
theorem g_root_Third : goes Tryz.prog 229 := goes_of Tryz.func229 rfl rfl
theorem g_event_what_some : goes Tryz.prog 230 := goes_of Tryz.func230 rfl rfl
theorem g_safe_unit : goes Tryz.prog 231 := goes_of Tryz.func231 rfl rfl
theorem g_big_of : goes Tryz.prog 232 := goes_of Tryz.func232 rfl rfl
theorem g_big_size_with : goes Tryz.prog 233 := goes_of Tryz.func233 rfl rfl
theorem g_big_size_cmp : goes Tryz.prog 234 := goes_of Tryz.func234 rfl rfl
theorem g_math_bits_Mul64 : goes Tryz.prog 235 := goes_of Tryz.func235 rfl rfl
theorem g_big_far : goes Tryz.prog 236 := goes_of Tryz.func236 rfl rfl
theorem g_rtt_first : goes Tryz.prog 237 := goes_of Tryz.func237 rfl rfl
theorem g_rtt_known_next : goes Tryz.prog 238 := goes_of Tryz.func238 rfl rfl
theorem g_least_own : goes Tryz.prog 239 := goes_of Tryz.func239 rfl rfl
theorem g_least_Put_1 : goes Tryz.prog 240 := goes_of Tryz.func240 rfl rfl
theorem g_least_Put_2 : goes Tryz.prog 241 := goes_of Tryz.func241 rfl rfl
theorem g_hystart_state_swift : goes Tryz.prog 242 := goes_of Tryz.func242 rfl rfl
theorem g_hystart_state_mild : goes Tryz.prog 243 := goes_of Tryz.func243 rfl rfl
theorem g_hystart_state_over : goes Tryz.prog 244 := goes_of Tryz.func244 rfl rfl
theorem g_reno_Part : goes Tryz.prog 245 := goes_of Tryz.func245 rfl rfl
theorem g_reno_between_int : goes Tryz.prog 246 := goes_of Tryz.func246 rfl rfl
theorem g_cubic_is : goes Tryz.prog 247 := goes_of Tryz.func247 rfl rfl
theorem g_cubic_At : goes Tryz.prog 248 := goes_of Tryz.func248 rfl rfl
theorem g_cut_Least : goes Tryz.prog 249 := goes_of Tryz.func249 rfl rfl
theorem g_epoch_Fast : goes Tryz.prog 250 := goes_of Tryz.func250 rfl rfl
theorem g_cut_of : goes Tryz.prog 251 := goes_of Tryz.func251 rfl rfl
theorem g_math_bits_Div64 : goes Tryz.prog 282 := goes_of Tryz.func282 rfl rfl
theorem g_big_size_minus : goes Tryz.prog 283 := goes_of Tryz.func283 rfl rfl
theorem g_root_long : goes Tryz.prog 285 := goes_of Tryz.func285 rfl rfl
theorem g_root_greatest : goes Tryz.prog 286 := goes_of Tryz.func286 rfl rfl
theorem g_root_Third_1 : goes Tryz.prog 287 := goes_of Tryz.func287 rfl rfl
theorem g_root_Cube : goes Tryz.prog 288 := goes_of Tryz.func288 rfl rfl
theorem g_cmp_Or_int : goes Tryz.prog 289 := goes_of Tryz.func289 rfl rfl
theorem g_cmp_Compare_uint64 : goes Tryz.prog 290 := goes_of Tryz.func290 rfl rfl
theorem g_rtt_Far : goes Tryz.prog 291 := goes_of Tryz.func291 rfl rfl
theorem g_hystart_Thresh : goes Tryz.prog 292 := goes_of Tryz.func292 rfl rfl
theorem g_cubic_law : goes Tryz.prog 293 := goes_of Tryz.func293 rfl rfl
theorem g_cut_window_least : goes Tryz.prog 294 := goes_of Tryz.func294 rfl rfl
theorem g_math_bits_LeadingZeros64 : goes Tryz.prog 308 := goes_of Tryz.func308 rfl rfl
theorem g_math_bits_Len64 : goes Tryz.prog 310 := goes_of Tryz.func310 rfl rfl
theorem g_root_Square : goes Tryz.prog 311 := goes_of Tryz.func311 rfl rfl
theorem g_cmp_isNaN_uint64 : goes Tryz.prog 312 := goes_of Tryz.func312 rfl rfl
theorem g_cubic_Rise : goes Tryz.prog 313 := goes_of Tryz.func313 rfl rfl
theorem g_cut_window_tenths : goes Tryz.prog 314 := goes_of Tryz.func314 rfl rfl
theorem g_safe_Abs : goes Tryz.prog 316 := goes_of Tryz.func316 rfl rfl
theorem g_hystart_Part : goes Tryz.prog 334 := goes_of Tryz.func334 rfl rfl
theorem rs_7 : Tryz.f7.results.toList = [ResultVar.tmp 4] := rfl
theorem lx_8_8 : lxL Tryz.f8 8 18 = true := by kernel_rfl
theorem lx_8_9 : lxF Tryz.f8 9 = true := by kernel_rfl
theorem rs_8 : Tryz.f8.results.toList = [ResultVar.tmp 4] := rfl
theorem rs_9 : Tryz.f9.results.toList = [ResultVar.tmp 8] := rfl
theorem lx_10_8 : lxF Tryz.f10 8 = true := by kernel_rfl
theorem rs_10 : Tryz.f10.results.toList = [ResultVar.tmp 4] := rfl
theorem rs_11 : Tryz.f11.results.toList = [ResultVar.tmp 4] := rfl
theorem lx_22_4 : lxL Tryz.f22 4 4 = true := by kernel_rfl
theorem rs_22 : Tryz.f22.results.toList = [ResultVar.cell 2 49, ResultVar.tmp 3] := rfl
theorem rs_24 : Tryz.f24.results.toList = [ResultVar.tmp 4] := rfl
theorem rs_25 : Tryz.f25.results.toList = [ResultVar.tmp 2] := rfl
theorem lv_29_7 : lxV Tryz.f29 7 [12] (.p 0 (.p 1 (.p 3 (.q 2 (.alt 4 (.alt 5 (.q 6 (.p 7 (.p 8 (.alt 9 (.p 10 (.p 11 (.alt 12 .fin .fin))) .fin)))) .fin) .fin))))) = true := by kernel_rfl
theorem lm_29_7 : lxM Tryz.f29 7 [(0, true), (1, true), (2, true), (3, true), (4, false), (5, false), (6, true), (7, true), (8, true), (9, true), (10, true), (11, true), (12, false)] = true := by kernel_rfl
theorem rs_29 : Tryz.f29.results.toList = [ResultVar.cell 4 49, ResultVar.cell 5 30] := rfl
theorem lv_30_4 : lxV Tryz.f30 4 [10] (.p 0 (.p 1 (.p 3 (.p 4 (.q 2 (.q 5 (.alt 6 (.alt 7 (.alt 8 (.p 9 (.alt 10 .fin .fin)) .fin) .fin) .fin))))))) = true := by kernel_rfl
theorem rs_30 : Tryz.f30.results.toList = [ResultVar.cell 2 54] := rfl
theorem rs_32 : Tryz.f32.results.toList = [ResultVar.tmp 0] := rfl
theorem rs_34 : Tryz.f34.results.toList = [ResultVar.tmp 2] := rfl
theorem rs_37 : Tryz.f37.results.toList = [ResultVar.tmp 4, ResultVar.tmp 5] := rfl
theorem lx_38_9 : lxT Tryz.f38 9 13 = true := by kernel_rfl
theorem rs_38 : Tryz.f38.results.toList = [ResultVar.cell 8 47, ResultVar.tmp 9] := rfl
theorem rs_39 : Tryz.f39.results.toList = [ResultVar.tmp 2] := rfl
theorem rs_50 : Tryz.f50.results.toList = [ResultVar.cell 2 30] := rfl
theorem rs_51 : Tryz.f51.results.toList = [ResultVar.tmp 2] := rfl
theorem lx_53_6 : lxF Tryz.f53 6 = true := by kernel_rfl
theorem rs_53 : Tryz.f53.results.toList = [ResultVar.tmp 4] := rfl
theorem rs_54 : Tryz.f54.results.toList = [ResultVar.tmp 3] := rfl
theorem rs_55 : Tryz.f55.results.toList = [ResultVar.tmp 6] := rfl
theorem rs_56 : Tryz.f56.results.toList = [ResultVar.tmp 2] := rfl
theorem rs_57 : Tryz.f57.results.toList = [ResultVar.tmp 2] := rfl
theorem rs_58 : Tryz.f58.results.toList = [ResultVar.tmp 2] := rfl
theorem lx_59_4 : lxF Tryz.f59 4 = true := by kernel_rfl
theorem rs_59 : Tryz.f59.results.toList = [ResultVar.tmp 2] := rfl
theorem rs_60 : Tryz.f60.results.toList = [ResultVar.tmp 4] := rfl
theorem rs_61 : Tryz.f61.results.toList = [ResultVar.tmp 2] := rfl
theorem rs_62 : Tryz.f62.results.toList = [ResultVar.tmp 2] := rfl
theorem rs_63 : Tryz.f63.results.toList = [ResultVar.tmp 2] := rfl
theorem rs_64 : Tryz.f64.results.toList = [ResultVar.tmp 2] := rfl
theorem lm_67_1 : lxM Tryz.f67 1 [(1, true), (2, true), (0, false), (3, true), (4, true), (5, true), (6, true), (7, true), (8, true)] = true := by kernel_rfl
theorem rs_67 : Tryz.f67.results.toList = [ResultVar.tmp 2] := rfl
theorem rs_68 : Tryz.f68.results.toList = [] := rfl
theorem rs_69 : Tryz.f69.results.toList = [ResultVar.cell 2 111] := rfl
theorem rs_70 : Tryz.f70.results.toList = [] := rfl
theorem rs_71 : Tryz.f71.results.toList = [ResultVar.tmp 4] := rfl
theorem rs_72 : Tryz.f72.results.toList = [ResultVar.tmp 4, ResultVar.tmp 5] := rfl
theorem rs_73 : Tryz.f73.results.toList = [ResultVar.cell 4 47] := rfl
theorem lm_74_1 : lxM Tryz.f74 1 [(0, true), (1, true), (2, true), (3, true), (4, true), (5, true), (6, true), (7, true), (8, true), (9, true), (10, true), (11, true), (12, true), (13, true), (14, true), (15, true), (16, true), (17, false), (18, true), (19, true)] = true := by kernel_rfl
theorem rs_74 : Tryz.f74.results.toList = [ResultVar.tmp 2] := rfl
theorem lx_75_1 : lxF Tryz.f75 1 = true := by kernel_rfl
theorem rs_75 : Tryz.f75.results.toList = [ResultVar.tmp 2] := rfl
theorem lx_76_3 : lxT Tryz.f76 3 17 = true := by kernel_rfl
theorem lx_76_4 : lxF Tryz.f76 4 = true := by kernel_rfl
theorem lx_76_6 : lxT Tryz.f76 6 16 = true := by kernel_rfl
theorem lx_76_7 : lxT Tryz.f76 7 15 = true := by kernel_rfl
theorem lv_76_2 : lxV Tryz.f76 2 [24] (.p 0 (.p 1 (.p 2 (.p 3 (.p 4 (.p 6 (.p 7 (.p 8 (.p 9 (.p 11 (.p 13 (.p 15 (.p 16 (.p 17 (.p 18 (.q 5 (.q 10 (.q 12 (.q 19 (.alt 14 (.q 20 (.p 21 (.p 22 (.p 23 (.alt 24 .fin .fin))))) .fin)))))))))))))))))))) = true := by kernel_rfl
theorem lv_76_6 : lxV Tryz.f76 6 [16] (.p 0 (.p 1 (.p 2 (.p 3 (.p 4 (.p 6 (.p 8 (.q 5 (.q 7 (.q 9 (.p 10 (.p 11 (.alt 12 (.p 13 (.p 14 (.p 15 (.alt 16 .fin .fin)))) .fin))))))))))))) = true := by kernel_rfl
theorem lv_76_7 : lxV Tryz.f76 7 [15] (.p 0 (.p 1 (.p 2 (.p 3 (.p 4 (.p 6 (.q 5 (.q 7 (.q 8 (.p 9 (.p 10 (.alt 11 (.p 12 (.p 13 (.p 14 (.alt 15 .fin .fin)))) .fin)))))))))))) = true := by kernel_rfl
theorem lv_76_8 : lxV Tryz.f76 8 [26, 30] (.p 0 (.p 1 (.p 2 (.p 4 (.p 5 (.p 6 (.p 7 (.p 9 (.p 10 (.p 11 (.p 12 (.p 13 (.p 15 (.p 16 (.p 17 (.p 18 (.p 19 (.q 3 (.q 8 (.q 14 (.q 20 (.q 21 (.p 22 (.p 23 (.p 24 (.p 25 (.alt 26 (.p 27 (.p 28 (.p 29 (.alt 30 .fin .fin)))) .fin))))))))))))))))))))))))))) = true := by kernel_rfl
theorem rs_76 : Tryz.f76.results.toList = [] := rfl
theorem lx_77_1 : lxT Tryz.f77 1 15 = true := by kernel_rfl
theorem lx_77_9 : lxF Tryz.f77 9 = true := by kernel_rfl
theorem lx_77_11 : lxT Tryz.f77 11 24 = true := by kernel_rfl
theorem lv_77_1 : lxV Tryz.f77 1 [15] (.p 0 (.p 1 (.p 2 (.p 3 (.p 4 (.p 6 (.q 5 (.q 7 (.q 8 (.p 9 (.p 10 (.alt 11 (.p 12 (.p 13 (.p 14 (.alt 15 .fin .fin)))) .fin)))))))))))) = true := by kernel_rfl
theorem lv_77_5 : lxV Tryz.f77 5 [22] (.p 0 (.p 1 (.p 2 (.p 3 (.p 4 (.p 6 (.p 8 (.p 9 (.p 10 (.p 11 (.p 12 (.q 5 (.q 13 (.alt 7 (.q 14 (.p 15 (.p 16 (.p 17 (.p 18 (.p 19 (.p 20 (.p 21 (.alt 22 (.p 23 .fin) .fin))))))))) .fin)))))))))))))) = true := by kernel_rfl
theorem lv_77_9 : lxV Tryz.f77 9 [] (.p 0 (.p 2 (.p 3 (.p 4 (.p 5 (.p 6 (.q 1 (.q 7 (.q 8 (.p 9 (.p 10 (.alt 11 (.p 12 .fin) .fin)))))))))))) = true := by kernel_rfl
theorem rs_77 : Tryz.f77.results.toList = [] := rfl
theorem lx_78_1 : lxT Tryz.f78 1 15 = true := by kernel_rfl
theorem lv_78_1 : lxV Tryz.f78 1 [15] (.p 0 (.p 1 (.p 2 (.p 3 (.p 4 (.p 6 (.q 5 (.q 7 (.q 8 (.p 9 (.p 10 (.alt 11 (.p 12 (.p 13 (.p 14 (.alt 15 .fin .fin)))) .fin)))))))))))) = true := by kernel_rfl
theorem rs_78 : Tryz.f78.results.toList = [] := rfl
theorem rs_79 : Tryz.f79.results.toList = [] := rfl
theorem lx_80_3 : lxT Tryz.f80 3 20 = true := by kernel_rfl
theorem lx_80_5 : lxT Tryz.f80 5 19 = true := by kernel_rfl
theorem lv_80_4 : lxV Tryz.f80 4 [21, 25, 29] (.p 0 (.p 1 (.p 2 (.p 3 (.p 4 (.p 5 (.p 6 (.p 8 (.p 9 (.p 10 (.p 11 (.q 7 (.q 12 (.q 13 (.p 14 (.p 15 (.p 16 (.p 17 (.p 18 (.p 19 (.p 20 (.alt 21 (.p 22 (.p 23 (.p 24 (.alt 25 (.p 26 (.p 27 (.p 28 (.alt 29 .fin .fin)))) .fin)))) .fin)))))))))))))))))))))) = true := by kernel_rfl
theorem lv_80_5 : lxV Tryz.f80 5 [19] (.p 0 (.p 1 (.p 2 (.p 3 (.p 4 (.p 6 (.p 7 (.p 8 (.p 9 (.p 10 (.q 5 (.q 11 (.q 12 (.p 13 (.p 14 (.alt 15 (.p 16 (.p 17 (.p 18 (.alt 19 .fin .fin)))) .fin)))))))))))))))) = true := by kernel_rfl
theorem rs_80 : Tryz.f80.results.toList = [] := rfl
theorem rs_81 : Tryz.f81.results.toList = [] := rfl
theorem rs_82 : Tryz.f82.results.toList = [] := rfl
theorem lx_83_1 : lxF Tryz.f83 1 = true := by kernel_rfl
theorem rs_83 : Tryz.f83.results.toList = [ResultVar.tmp 2] := rfl
theorem rs_84 : Tryz.f84.results.toList = [ResultVar.tmp 2] := rfl
theorem lx_89_1 : lxF Tryz.f89 1 = true := by kernel_rfl
theorem rs_89 : Tryz.f89.results.toList = [ResultVar.tmp 2] := rfl
theorem rs_100 : Tryz.f100.results.toList = [ResultVar.tmp 6, ResultVar.tmp 7] := rfl
theorem rs_101 : Tryz.f101.results.toList = [ResultVar.tmp 2] := rfl
theorem rs_102 : Tryz.f102.results.toList = [ResultVar.tmp 4] := rfl
theorem rs_103 : Tryz.f103.results.toList = [ResultVar.tmp 4] := rfl
theorem rs_107 : Tryz.f107.results.toList = [ResultVar.tmp 2] := rfl
theorem rs_108 : Tryz.f108.results.toList = [ResultVar.tmp 2] := rfl
theorem rs_109 : Tryz.f109.results.toList = [ResultVar.tmp 4] := rfl
theorem rs_110 : Tryz.f110.results.toList = [ResultVar.tmp 2] := rfl
theorem rs_111 : Tryz.f111.results.toList = [ResultVar.tmp 2] := rfl
theorem rs_112 : Tryz.f112.results.toList = [ResultVar.cell 6 45, ResultVar.tmp 7] := rfl
theorem rs_113 : Tryz.f113.results.toList = [ResultVar.tmp 2] := rfl
theorem rs_117 : Tryz.f117.results.toList = [ResultVar.tmp 0] := rfl
theorem rs_118 : Tryz.f118.results.toList = [ResultVar.tmp 2] := rfl
theorem rs_119 : Tryz.f119.results.toList = [ResultVar.tmp 3, ResultVar.tmp 4] := rfl
theorem lx_120_3 : lxF Tryz.f120 3 = true := by kernel_rfl
theorem rs_120 : Tryz.f120.results.toList = [ResultVar.tmp 8] := rfl
theorem lx_121_1 : lxF Tryz.f121 1 = true := by kernel_rfl
theorem rs_121 : Tryz.f121.results.toList = [ResultVar.tmp 2] := rfl
theorem rs_122 : Tryz.f122.results.toList = [ResultVar.tmp 10] := rfl
theorem lx_123_1 : lxT Tryz.f123 1 5 = true := by kernel_rfl
theorem rs_123 : Tryz.f123.results.toList = [ResultVar.cell 6 45] := rfl
theorem rs_124 : Tryz.f124.results.toList = [ResultVar.cell 4 36] := rfl
theorem rs_125 : Tryz.f125.results.toList = [ResultVar.cell 6 36, ResultVar.tmp 7] := rfl
theorem rs_126 : Tryz.f126.results.toList = [ResultVar.cell 4 47, ResultVar.tmp 5] := rfl
theorem rs_127 : Tryz.f127.results.toList = [ResultVar.tmp 6] := rfl
theorem rs_128 : Tryz.f128.results.toList = [ResultVar.cell 4 36, ResultVar.tmp 5] := rfl
theorem lx_129_2 : lxT Tryz.f129 2 15 = true := by kernel_rfl
theorem lx_129_5 : lxT Tryz.f129 5 15 = true := by kernel_rfl
theorem lv_129_2 : lxV Tryz.f129 2 [15] (.p 0 (.p 1 (.p 2 (.p 3 (.p 4 (.p 6 (.q 5 (.q 7 (.q 8 (.p 9 (.p 10 (.alt 11 (.p 12 (.p 13 (.p 14 (.alt 15 .fin .fin)))) .fin)))))))))))) = true := by kernel_rfl
theorem lv_129_3 : lxV Tryz.f129 3 [17] (.p 0 (.p 1 (.p 2 (.p 3 (.p 4 (.p 6 (.p 8 (.q 5 (.q 7 (.q 9 (.alt 10 (.p 11 (.p 12 (.alt 13 (.p 14 (.p 15 (.p 16 (.alt 17 .fin .fin)))) .fin))) .fin))))))))))) = true := by kernel_rfl
theorem lv_129_5 : lxV Tryz.f129 5 [15] (.p 0 (.p 1 (.p 2 (.p 3 (.p 4 (.p 6 (.q 5 (.q 7 (.q 8 (.p 9 (.p 10 (.alt 11 (.p 12 (.p 13 (.p 14 (.alt 15 .fin .fin)))) .fin)))))))))))) = true := by kernel_rfl
theorem lm_129_3 : lxM Tryz.f129 3 [(0, true), (1, true), (2, true), (3, true), (4, true), (5, true), (6, true), (7, true), (8, true), (9, true), (10, false), (11, true), (12, true), (13, true), (14, true), (15, true), (16, true), (17, false)] = true := by kernel_rfl
theorem rs_129 : Tryz.f129.results.toList = [] := rfl
theorem rs_130 : Tryz.f130.results.toList = [ResultVar.cell 6 41, ResultVar.tmp 7, ResultVar.tmp 8] := rfl
theorem rs_131 : Tryz.f131.results.toList = [ResultVar.cell 4 43] := rfl
theorem rs_132 : Tryz.f132.results.toList = [ResultVar.cell 2 43, ResultVar.tmp 3] := rfl
theorem lm_133_1 : lxM Tryz.f133 1 [(0, true), (2, true), (3, true), (4, true), (5, true), (6, true), (1, false), (7, true), (8, true)] = true := by kernel_rfl
theorem rs_133 : Tryz.f133.results.toList = [ResultVar.tmp 2] := rfl
theorem rs_134 : Tryz.f134.results.toList = [ResultVar.tmp 4, ResultVar.tmp 5] := rfl
theorem rs_135 : Tryz.f135.results.toList = [ResultVar.tmp 4] := rfl
theorem rs_136 : Tryz.f136.results.toList = [ResultVar.tmp 6] := rfl
theorem lx_137_2 : lxT Tryz.f137 2 20 = true := by kernel_rfl
theorem lx_137_3 : lxT Tryz.f137 3 24 = true := by kernel_rfl
theorem lx_137_4 : lxF Tryz.f137 4 = true := by kernel_rfl
theorem lx_137_5 : lxT Tryz.f137 5 26 = true := by kernel_rfl
theorem lv_137_2 : lxV Tryz.f137 2 [20] (.p 0 (.p 1 (.p 3 (.p 4 (.p 5 (.p 6 (.p 8 (.p 9 (.p 10 (.p 11 (.q 2 (.q 7 (.q 12 (.q 13 (.p 14 (.p 15 (.alt 16 (.p 17 (.p 18 (.p 19 (.alt 20 .fin .fin)))) .fin))))))))))))))))) = true := by kernel_rfl
theorem rs_137 : Tryz.f137.results.toList = [] := rfl
theorem rs_138 : Tryz.f138.results.toList = [ResultVar.cell 4 36, ResultVar.tmp 5] := rfl
theorem lv_139_1 : lxV Tryz.f139 1 [19, 23] (.p 0 (.p 1 (.p 2 (.p 3 (.p 4 (.p 5 (.p 7 (.p 8 (.p 9 (.p 10 (.q 6 (.q 11 (.q 12 (.p 13 (.p 14 (.p 15 (.p 16 (.p 17 (.p 18 (.alt 19 (.p 20 (.p 21 (.p 22 (.alt 23 .fin .fin)))) .fin)))))))))))))))))))) = true := by kernel_rfl
theorem lv_139_2 : lxV Tryz.f139 2 [16, 20] (.p 0 (.p 1 (.p 2 (.p 3 (.p 4 (.p 5 (.p 7 (.p 8 (.p 9 (.p 10 (.p 11 (.q 6 (.q 12 (.p 13 (.p 14 (.p 15 (.alt 16 (.p 17 (.p 18 (.p 19 (.alt 20 .fin .fin)))) .fin))))))))))))))))) = true := by kernel_rfl
theorem rs_139 : Tryz.f139.results.toList = [] := rfl
theorem lx_140_3 : lxF Tryz.f140 3 = true := by kernel_rfl
theorem rs_140 : Tryz.f140.results.toList = [ResultVar.tmp 6] := rfl
theorem rs_141 : Tryz.f141.results.toList = [ResultVar.tmp 4, ResultVar.tmp 5, ResultVar.tmp 6] := rfl
theorem rs_142 : Tryz.f142.results.toList = [ResultVar.cell 2 41] := rfl
theorem lx_143_2 : lxF Tryz.f143 2 = true := by kernel_rfl
theorem rs_143 : Tryz.f143.results.toList = [ResultVar.tmp 6] := rfl
theorem rs_162 : Tryz.f162.results.toList = [ResultVar.tmp 4] := rfl
theorem lx_163_8 : lxF Tryz.f163 8 = true := by kernel_rfl
theorem lv_163_6 : lxV Tryz.f163 6 [6] (.q 0 (.q 1 (.q 2 (.p 3 (.p 4 (.p 5 (.alt 6 (.p 7 .fin) .fin))))))) = true := by kernel_rfl
theorem rs_163 : Tryz.f163.results.toList = [ResultVar.tmp 8, ResultVar.tmp 9] := rfl
theorem rs_164 : Tryz.f164.results.toList = [ResultVar.tmp 6] := rfl
theorem rs_165 : Tryz.f165.results.toList = [ResultVar.tmp 8] := rfl
theorem rs_166 : Tryz.f166.results.toList = [ResultVar.tmp 4, ResultVar.tmp 5] := rfl
theorem rs_167 : Tryz.f167.results.toList = [ResultVar.tmp 1] := rfl
theorem rs_168 : Tryz.f168.results.toList = [ResultVar.tmp 4, ResultVar.tmp 5] := rfl
theorem rs_169 : Tryz.f169.results.toList = [ResultVar.tmp 2] := rfl
theorem rs_172 : Tryz.f172.results.toList = [] := rfl
theorem rs_173 : Tryz.f173.results.toList = [ResultVar.tmp 2] := rfl
theorem rs_174 : Tryz.f174.results.toList = [ResultVar.tmp 2] := rfl
theorem rs_176 : Tryz.f176.results.toList = [ResultVar.tmp 2] := rfl
theorem rs_177 : Tryz.f177.results.toList = [ResultVar.tmp 2] := rfl
theorem rs_178 : Tryz.f178.results.toList = [ResultVar.tmp 2] := rfl
theorem rs_179 : Tryz.f179.results.toList = [ResultVar.tmp 4] := rfl
theorem rs_180 : Tryz.f180.results.toList = [ResultVar.tmp 2, ResultVar.tmp 3] := rfl
theorem rs_181 : Tryz.f181.results.toList = [ResultVar.tmp 2] := rfl
theorem rs_182 : Tryz.f182.results.toList = [ResultVar.tmp 4] := rfl
theorem rs_183 : Tryz.f183.results.toList = [ResultVar.cell 4 45] := rfl
theorem rs_184 : Tryz.f184.results.toList = [ResultVar.tmp 4] := rfl
theorem lx_185_1 : lxT Tryz.f185 1 10 = true := by kernel_rfl
theorem lx_185_9 : lxF Tryz.f185 9 = true := by kernel_rfl
theorem lx_185_10 : lxF Tryz.f185 10 = true := by kernel_rfl
theorem rs_185 : Tryz.f185.results.toList = [ResultVar.tmp 4] := rfl
theorem rs_186 : Tryz.f186.results.toList = [ResultVar.cell 4 196] := rfl
theorem rs_187 : Tryz.f187.results.toList = [ResultVar.cell 6 36, ResultVar.tmp 7] := rfl
theorem rs_188 : Tryz.f188.results.toList = [ResultVar.cell 4 38] := rfl
theorem rs_189 : Tryz.f189.results.toList = [ResultVar.cell 4 38, ResultVar.tmp 5] := rfl
theorem rs_190 : Tryz.f190.results.toList = [ResultVar.tmp 4] := rfl
theorem lx_191_3 : lxF Tryz.f191 3 = true := by kernel_rfl
theorem lv_191_8 : lxV Tryz.f191 8 [] (.p 0 (.p 1 (.p 2 (.p 3 (.q 5 (.q 6 (.p 7 (.alt 4 (.alt 8 (.alt 9 (.p 10 .fin) .fin) .fin) (.alt 8 (.alt 4 (.alt 9 (.p 10 .fin) .fin) .fin) .fin))))))))) = true := by kernel_rfl
theorem rs_191 : Tryz.f191.results.toList = [ResultVar.tmp 8, ResultVar.tmp 9] := rfl
theorem lx_192_9 : lxT Tryz.f192 9 6 = true := by kernel_rfl
theorem rs_192 : Tryz.f192.results.toList = [ResultVar.cell 4 43, ResultVar.tmp 5] := rfl
theorem rs_193 : Tryz.f193.results.toList = [ResultVar.cell 3 41, ResultVar.tmp 4, ResultVar.tmp 5] := rfl
theorem rs_194 : Tryz.f194.results.toList = [ResultVar.tmp 2] := rfl
theorem rs_195 : Tryz.f195.results.toList = [ResultVar.tmp 6] := rfl
theorem rs_196 : Tryz.f196.results.toList = [ResultVar.cell 4 45] := rfl
theorem rs_197 : Tryz.f197.results.toList = [ResultVar.tmp 8] := rfl
theorem rs_198 : Tryz.f198.results.toList = [ResultVar.tmp 6] := rfl
theorem rs_199 : Tryz.f199.results.toList = [ResultVar.tmp 4] := rfl
theorem rs_200 : Tryz.f200.results.toList = [ResultVar.tmp 2] := rfl
theorem rs_201 : Tryz.f201.results.toList = [ResultVar.tmp 8] := rfl
theorem rs_202 : Tryz.f202.results.toList = [ResultVar.tmp 4, ResultVar.tmp 5] := rfl
theorem rs_203 : Tryz.f203.results.toList = [ResultVar.tmp 2] := rfl
theorem lx_204_3 : lxF Tryz.f204 3 = true := by kernel_rfl
theorem rs_204 : Tryz.f204.results.toList = [ResultVar.tmp 4] := rfl
theorem lx_224_3 : lxF Tryz.f224 3 = true := by kernel_rfl
theorem rs_224 : Tryz.f224.results.toList = [ResultVar.cell 4 196, ResultVar.tmp 5, ResultVar.tmp 6] := rfl
theorem lx_225_4 : lxT Tryz.f225 4 6 = true := by kernel_rfl
theorem lx_225_5 : lxT Tryz.f225 5 6 = true := by kernel_rfl
theorem rs_225 : Tryz.f225.results.toList = [ResultVar.cell 4 196, ResultVar.tmp 5] := rfl
theorem rs_226 : Tryz.f226.results.toList = [ResultVar.cell 2 196] := rfl
theorem lx_227_1 : lxF Tryz.f227 1 = true := by kernel_rfl
theorem lx_227_3 : lxF Tryz.f227 3 = true := by kernel_rfl
theorem rs_227 : Tryz.f227.results.toList = [ResultVar.tmp 2] := rfl
theorem rs_228 : Tryz.f228.results.toList = [ResultVar.cell 4 196, ResultVar.tmp 5] := rfl
theorem rs_229 : Tryz.f229.results.toList = [ResultVar.tmp 2] := rfl
theorem rs_230 : Tryz.f230.results.toList = [ResultVar.tmp 2] := rfl
theorem rs_231 : Tryz.f231.results.toList = [ResultVar.tmp 2] := rfl
theorem rs_232 : Tryz.f232.results.toList = [ResultVar.cell 2 225] := rfl
theorem lx_233_1 : lxT Tryz.f233 1 11 = true := by kernel_rfl
theorem rs_233 : Tryz.f233.results.toList = [ResultVar.cell 4 196] := rfl
theorem lx_234_1 : lxL Tryz.f234 1 10 = true := by kernel_rfl
theorem rs_234 : Tryz.f234.results.toList = [ResultVar.tmp 4] := rfl
theorem rs_235 : Tryz.f235.results.toList = [ResultVar.tmp 4, ResultVar.tmp 5] := rfl
theorem rs_236 : Tryz.f236.results.toList = [ResultVar.tmp 2] := rfl
theorem rs_237 : Tryz.f237.results.toList = [ResultVar.cell 2 233] := rfl
theorem lx_238_1 : lxF Tryz.f238 1 = true := by kernel_rfl
theorem rs_238 : Tryz.f238.results.toList = [ResultVar.cell 4 233] := rfl
theorem rs_239 : Tryz.f239.results.toList = [ResultVar.tmp 2] := rfl
theorem rs_240 : Tryz.f240.results.toList = [ResultVar.tmp 3] := rfl
theorem rs_241 : Tryz.f241.results.toList = [ResultVar.tmp 4] := rfl
theorem lx_242_1 : lxF Tryz.f242 1 = true := by kernel_rfl
theorem rs_242 : Tryz.f242.results.toList = [ResultVar.cell 2 135] := rfl
theorem rs_243 : Tryz.f243.results.toList = [ResultVar.cell 2 135] := rfl
theorem rs_244 : Tryz.f244.results.toList = [ResultVar.cell 2 135] := rfl
theorem rs_245 : Tryz.f245.results.toList = [ResultVar.tmp 4, ResultVar.tmp 5] := rfl
theorem rs_246 : Tryz.f246.results.toList = [ResultVar.tmp 6] := rfl
theorem rs_247 : Tryz.f247.results.toList = [ResultVar.tmp 2] := rfl
theorem lx_248_3 : lxF Tryz.f248 3 = true := by kernel_rfl
theorem rs_248 : Tryz.f248.results.toList = [ResultVar.tmp 4] := rfl
theorem rs_249 : Tryz.f249.results.toList = [ResultVar.tmp 2] := rfl
theorem rs_250 : Tryz.f250.results.toList = [ResultVar.tmp 4] := rfl
theorem rs_251 : Tryz.f251.results.toList = [ResultVar.tmp 2] := rfl
theorem lx_282_6 : lxF Tryz.f282 6 = true := by kernel_rfl
theorem rs_282 : Tryz.f282.results.toList = [ResultVar.tmp 6, ResultVar.tmp 7] := rfl
theorem rs_283 : Tryz.f283.results.toList = [ResultVar.cell 4 225] := rfl
theorem rs_285 : Tryz.f285.results.toList = [ResultVar.tmp 2] := rfl
theorem lx_286_1 : lxF Tryz.f286 1 = true := by kernel_rfl
theorem rs_286 : Tryz.f286.results.toList = [ResultVar.tmp 4] := rfl
theorem rs_287 : Tryz.f287.results.toList = [ResultVar.tmp 3] := rfl
theorem rs_288 : Tryz.f288.results.toList = [ResultVar.cell 2 196, ResultVar.tmp 3] := rfl
theorem rs_289 : Tryz.f289.results.toList = [ResultVar.tmp 2] := rfl
theorem rs_290 : Tryz.f290.results.toList = [ResultVar.tmp 4] := rfl
theorem rs_291 : Tryz.f291.results.toList = [ResultVar.tmp 2] := rfl
theorem rs_292 : Tryz.f292.results.toList = [ResultVar.tmp 2] := rfl
theorem lx_293_1 : lxF Tryz.f293 1 = true := by kernel_rfl
theorem rs_293 : Tryz.f293.results.toList = [ResultVar.tmp 4] := rfl
theorem rs_294 : Tryz.f294.results.toList = [ResultVar.tmp 2] := rfl
theorem rs_308 : Tryz.f308.results.toList = [ResultVar.tmp 2] := rfl
theorem rs_310 : Tryz.f310.results.toList = [ResultVar.tmp 2] := rfl
theorem rs_311 : Tryz.f311.results.toList = [ResultVar.cell 2 196] := rfl
theorem rs_312 : Tryz.f312.results.toList = [ResultVar.tmp 2] := rfl
theorem rs_313 : Tryz.f313.results.toList = [ResultVar.tmp 2] := rfl
theorem rs_314 : Tryz.f314.results.toList = [ResultVar.tmp 4] := rfl
theorem rs_316 : Tryz.f316.results.toList = [ResultVar.tmp 2] := rfl
theorem rs_333 : Tryz.f333.results.toList = [ResultVar.tmp 6] := rfl
theorem rs_334 : Tryz.f334.results.toList = [ResultVar.tmp 4] := rfl
theorem rs_335 : Tryz.f335.results.toList = [ResultVar.tmp 6] := rfl
theorem own_ : ownKnob Tryz.prog.godebug = none := by kernel_rfl
theorem laidOut_ : laidOutB Tryz.prog = true := by kernel_rfl
theorem mixed_ : Tryz.prog.follows .mixedOrders = true := by kernel_rfl
end Go.Proofs.YtkokohkbhlnjkaaGreatDoor
namespace Go.Proofs.YtkokohkbhlnjkaaGreatDoor.R
open Go Go.RowKit Go.ChangeShapes Go.WideShapes
mutual
inductive Ty where
  | i (k : IntKind)
  | b
  | s
  | r (l : Tys)
  | v (n : Nat) (e : Ty)
inductive Tys where
  | nil
  | cons (n : Nat) (t : Ty) (r : Tys)
end
def fieldsOf (P : Program) (F : TypeId → Option Ty) (tot : Nat) : Nat → List Field → Option Tys
  | off, [] => if off = tot then some .nil else none
  | off, f :: fs => if f.offset = off then match F f.type, fieldsOf P F tot (off + P.cellsOf f.type) fs with
      | some t, some r => some (.cons (P.cellsOf f.type) t r)
      | _, _ => none
    else none
def tyOf (P : Program) : Nat → TypeId → Option Ty
  | 0, _ => none
  | n + 1, t => match P.underlying t with
    | some .bool => some .b
    | some (.int k) => some (.i k)
    | some .string => some .s
    | some (.slice e) => match tyOf P n e with
      | some y => some (.v (P.cellsOf e) y)
      | none => none
    | some (.struct fs) => match fieldsOf P (tyOf P n) (P.cellsOf t) 0 fs.toList with
      | some l => some (.r l)
      | none => none
    | _ => none
mutual
def Sh (x : Nat → Obj → Prop) : Ty → List Value → Prop
  | .i k, cs => ∃ n, cs = [.int k n] ∧ (Lit.int k n).wf = true
  | .b, cs => ∃ b, cs = [.bool b]
  | .s, cs => ∃ s : ByteArray, cs = [.string s] ∧ s.size ≤ maxLen
  | .r l, cs => Shs x l cs
  | .v n e, cs => ∃ a len cap, cs = [.slice a len cap] ∧ len ≤ cap ∧ cap ≤ maxLen ∧
      ∀ i, i < len → ∃ ds, ds.length = n ∧ Sh x e ds ∧ ∀ j, j < n → ∃ b off c T f, a = some ⟨b, off, none⟩ ∧ x b (.cells c T f) ∧ c[off + i * n + j]? = ds[j]?
def Shs (x : Nat → Obj → Prop) : Tys → List Value → Prop
  | .nil, cs => cs = []
  | .cons n t r, cs => ∃ a b, cs = a ++ b ∧ a.length = n ∧ Sh x t a ∧ Shs x r b
end
section
variable {H : Type} {enc : TypeId × Value → H} {P : Program} {w : World} {base : Nat} {sp : Nat → Bool} {held : Bool}
theorem add_plain (b o n : Nat) : Addr.add ⟨b, o, none⟩ n = ⟨b, o + n, none⟩ := by
  unfold Addr.add
  split
  · subst_vars; rfl
  · rfl
theorem cell_some {b o : Nat} {u : Value} (h : w.cell? ⟨b, o, none⟩ = some u) : ∃ c T f, w.heap[b]? = some (.cells c T f) ∧ c[o]? = some u := by
  unfold World.cell? at h
  simp only at h
  split at h
  · rename_i c T f hb
    exact ⟨c, T, f, hb, by simpa using h⟩
  · cases h
theorem sh_trod : ∀ (fuel m : Nat) (t : TypeId) (y : Ty) (cs : List Value) (z : DataW H × List MemPlace), tyOf P m t = some y → DataW.trod enc P w base sp held fuel t cs = some z →
    Sh (fun b o => w.heap[b]? = some o) y cs := by
  intro fuel
  induction fuel with
  | zero => intro m t y cs z _ h; simp [DataW.trod] at h
  | succ fuel ih =>
    intro m t y cs z hy h
    cases m with
    | zero => simp [tyOf] at hy
    | succ m =>
      unfold tyOf at hy
      split at hy
      · rename_i ht
        cases hy
        obtain ⟨b, rfl, _⟩ := DataW.trod_bool ht h
        exact ⟨b, rfl⟩
      · rename_i k ht
        cases hy
        obtain ⟨n, rfl, _, hw⟩ := DataW.trod_int ht h
        exact ⟨n, rfl, hw⟩
      · rename_i ht
        cases hy
        obtain ⟨s, rfl, _, hw⟩ := DataW.trod_string ht h
        exact ⟨s, rfl, hw⟩
      · rename_i e ht
        split at hy
        · rename_i y' hy'
          cases hy
          rcases DataW.trod_slice ht h with ⟨rfl, _⟩ | ⟨a, len, cap, elems, rest, n, hn, rfl, _, _, hl, hm, hlen, hel, _⟩
          · exact ⟨none, 0, 0, rfl, Nat.le_refl _, Nat.zero_le _, fun i hi => absurd hi (Nat.not_lt_zero _)⟩
          · cases hn
            have at1 : ∀ i, i < len → ∃ ds q, World.cells? w base (a.add (i * P.cellsOf e)) (P.cellsOf e) = some ds ∧ DataW.trod enc P w base sp held fuel e ds = some q := fun i hi => by
              have h1 := hel i hi
              cases hz : elems[i]? with
              | none => rw [List.getElem?_eq_none_iff] at hz; omega
              | some q =>
                rw [hz, Option.bind_eq_some_iff] at h1
                obtain ⟨ds, hd, hq⟩ := h1
                exact ⟨ds, q, hd, hq⟩
            have at2 : ∀ i, i < len → ∀ ds, World.cells? w base (a.add (i * P.cellsOf e)) (P.cellsOf e) = some ds → ds.length = P.cellsOf e ∧ ∀ j, j < P.cellsOf e → w.cell? ((a.add (i * P.cellsOf e)).add j) = ds[j]? := fun i hi ds hd => by
              unfold World.cells? at hd
              split at hd
              · have hln := mapM_some_length hd
                simp only [List.length_range] at hln
                exact ⟨hln, fun j hj => mapM_some_get hd j j (by rw [List.getElem?_range hj])⟩
              · cases hd
            have spot : 0 < len → 0 < P.cellsOf e → a.spot = none := fun h1 h2 => by
              obtain ⟨ds, q, hd, _⟩ := at1 0 h1
              obtain ⟨hln, hg⟩ := at2 0 h1 ds hd
              have hg0 := hg 0 h2
              rw [List.getElem?_eq_getElem (by omega)] at hg0
              have := World.cell?_spot hg0
              simpa [Addr.add] using this
            refine ⟨some a, len, cap, rfl, hl, hm, fun i hi => ?_⟩
            obtain ⟨ds, q, hd, hq⟩ := at1 i hi
            obtain ⟨hln, hg⟩ := at2 i hi ds hd
            refine ⟨ds, hln, ih m e y' ds q hy' hq, fun j hj => ?_⟩
            have hsp := spot (by omega) (by omega)
            obtain ⟨ab, ao, asp⟩ := a
            simp only at hsp
            subst hsp
            have hgj := hg j hj
            have hdj : ds[j]? = some ds[j] := List.getElem?_eq_getElem (by omega)
            rw [hdj] at hgj
            have e0 : (Addr.add (Addr.add ⟨ab, ao, none⟩ (i * P.cellsOf e)) j) = ⟨ab, ao + i * P.cellsOf e + j, none⟩ := by
              simp only [add_plain]
            rw [e0] at hgj
            obtain ⟨c, T, f, hb, hc⟩ := cell_some hgj
            exact ⟨ab, ao, c, T, f, rfl, hb, by rw [hdj]; exact hc⟩
        · cases hy
      · rename_i fs ht
        split at hy
        · rename_i l hl
          cases hy
          obtain ⟨xs, n, hn, _, hlen, hxl, hf⟩ := DataW.trod_struct ht h
          cases hn
          have key : ∀ (gs : List Field) (off k : Nat) (l : Tys), fieldsOf P (tyOf P m) (P.cellsOf t) off gs = some l → gs = fs.toList.drop k → Shs (fun b o => w.heap[b]? = some o) l (cs.drop off) := by
            intro gs
            induction gs with
            | nil =>
              intro off k l hl' _
              unfold fieldsOf at hl'
              split at hl'
              · cases hl'
                subst off
                simp only [Shs]
                rw [← hlen, List.drop_length]
              · cases hl'
            | cons g gs ihg =>
              intro off k l hl' hk
              unfold fieldsOf at hl'
              split at hl'
              · rename_i hoff
                split at hl'
                · rename_i t' r' ht' hr'
                  cases hl'
                  have hgk : fs[k]? = some g := by
                    have := congrArg (·[0]?) hk
                    simpa using this.symm
                  have hkx : ∃ q, xs[k]? = some q := by
                    have : k < fs.size := by
                      rcases Nat.lt_or_ge k fs.size with h' | h'
                      · exact h'
                      · rw [Array.getElem?_eq_none h'] at hgk; cases hgk
                    exact ⟨xs[k], List.getElem?_eq_getElem (by omega)⟩
                  obtain ⟨q, hq⟩ := hkx
                  have h1 := hf k g hgk
                  rw [hq] at h1
                  have h2 := ih m g.type t' _ q ht' h1
                  have h3 := ihg _ (k + 1) _ hr' (by have := congrArg List.tail hk; simpa using this)
                  refine ⟨(cs.drop off).take (P.cellsOf g.type), (cs.drop off).drop (P.cellsOf g.type), (List.take_append_drop _ _).symm, ?_, by rw [← hoff]; exact h2, by rw [List.drop_drop]; exact h3⟩
                  have : off + P.cellsOf g.type ≤ cs.length := by
                    rw [hlen]
                    clear h3 ihg h2 h1 hq hgk hk
                    have : ∀ (gs : List Field) (off : Nat) (l : Tys), fieldsOf P (tyOf P m) (P.cellsOf t) off gs = some l → off ≤ P.cellsOf t := by
                      intro gs
                      induction gs with
                      | nil => intro off l h; unfold fieldsOf at h; split at h <;> simp_all
                      | cons g gs ihg =>
                        intro off l h
                        unfold fieldsOf at h
                        split at h
                        · split at h
                          · rename_i hr; have := ihg _ _ hr; omega
                          · cases h
                        · cases h
                    exact this _ _ _ hr'
                  simp; omega
                · cases hl'
              · cases hl'
          exact key _ 0 0 _ hl rfl
        · cases hy
      · cases hy
end
def Shv (x : Nat → Obj → Prop) : Ty → Value → Prop
  | .i k, v => ∃ n, v = .int k n ∧ (Lit.int k n).wf = true
  | .b, v => ∃ b, v = .bool b
  | .s, v => ∃ s : ByteArray, v = .string s ∧ s.size ≤ maxLen
  | .r l, v => ∃ cs, v = .agg cs ∧ Shs x l cs.toList
  | .v n e, v => ∃ a len cap, v = .slice a len cap ∧ len ≤ cap ∧ cap ≤ maxLen ∧
      ∀ i, i < len → ∃ ds, ds.length = n ∧ Sh x e ds ∧ ∀ j, j < n → ∃ b off c T f, a = some ⟨b, off, none⟩ ∧ x b (.cells c T f) ∧ c[off + i * n + j]? = ds[j]?
theorem shv {H : Type} {enc : TypeId × Value → H} {P : Program} {w : World} {r : Reach} {b0 base : Nat} {sp : Nat → Bool} {held : Bool} {m : Nat} {t : TypeId} {y : Ty} {v : Value} {d : DataW H} {ps : List MemPlace}
    (hy : tyOf P m t = some y) (hval : Value.okWide P w r b0 t v) (hd : DataW.Trod enc P w base sp held t v d ps) : Shv (fun b o => w.heap[b]? = some o) y v := by
  obtain ⟨fuel, hf⟩ := hd
  have hs := sh_trod fuel m t y _ _ hy hf
  cases m with
  | zero => simp [tyOf] at hy
  | succ m =>
    unfold tyOf at hy
    split at hy
    · rename_i ht
      cases hy
      obtain ⟨b, rfl⟩ := okWide_bool ht hval
      exact ⟨b, rfl⟩
    · rename_i k ht
      cases hy
      obtain ⟨n, rfl⟩ := okWide_int ht hval
      obtain ⟨n', h1, h2⟩ := hs
      simp [Value.cells] at h1
      subst h1
      exact ⟨n, rfl, h2⟩
    · rename_i ht
      cases hy
      obtain ⟨s, rfl⟩ := okWide_string ht hval
      obtain ⟨n', h1, h2⟩ := hs
      simp [Value.cells] at h1
      subst h1
      exact ⟨s, rfl, h2⟩
    · rename_i e ht
      split at hy
      · cases hy
        obtain ⟨a, len, cap, rfl⟩ := okWide_slice ht hval
        obtain ⟨a', len', cap', h1, h2⟩ := hs
        simp [Value.cells] at h1
        obtain ⟨rfl, rfl, rfl⟩ := h1
        exact ⟨a, len, cap, rfl, h2⟩
      · cases hy
    · rename_i fs ht
      split at hy
      · cases hy
        unfold Value.okWide at hval
        rw [ht] at hval
        obtain ⟨cs, rfl, _⟩ := hval
        exact ⟨cs, rfl, hs⟩
      · cases hy
    · cases hy
def Shvs (x : Nat → Obj → Prop) : List Ty → List Value → Prop
  | [], [] => True
  | t :: ts, v :: vs => Shv x t v ∧ Shvs x ts vs
  | _, _ => False
def tysOf (P : Program) : List TypeId → Option (List Ty)
  | [] => some []
  | t :: ts => match tyOf P 9 t, tysOf P ts with
    | some y, some ys => some (y :: ys)
    | _, _ => none
section
variable {H : Type} {enc : TypeId × Value → H} {P : Program} {w : World}
theorem shvs : ∀ (ts : List TypeId) (vs : List Value) (ds : List (DataW H)) (ps : List MemPlace) (ys : List Ty) (base : Nat), tysOf P ts = some ys →
    (∀ (j : Nat) t v, ts[j]? = some t → vs[j]? = some v → Value.okWide P w .any base t v) → DataW.TrodAll enc P w 0 (fun _ => true) true ts vs ds ps → Shvs (fun b o => w.heap[b]? = some o) ys vs := by
  intro ts
  induction ts with
  | nil =>
    intro vs ds ps ys base hy _ h
    cases hy
    cases vs with
    | nil => trivial
    | cons _ _ => cases ds <;> simp [DataW.TrodAll] at h
  | cons t ts ih =>
    intro vs ds ps ys base hy hval h
    obtain ⟨v, vs', d, ds', p, q, rfl, rfl, _, h1, h2⟩ := trodAll_cons h
    unfold tysOf at hy
    split at hy
    · rename_i y ys' e1 e2
      cases hy
      exact ⟨shv e1 (hval 0 t v rfl rfl) h1, ih vs' ds' q ys' base e2 (fun j t' v' ha hb => hval (j + 1) t' v' (by simpa using ha) (by simpa using hb)) h2⟩
    · cases hy
theorem trodAll_len : ∀ (ts : List TypeId) (vs : List Value) (ds : List (DataW H)) (ps : List MemPlace), DataW.TrodAll enc P w 0 (fun _ => true) true ts vs ds ps → ds.length = ts.length := by
  intro ts
  induction ts with
  | nil => intro vs ds ps h; cases vs <;> cases ds <;> simp_all [DataW.TrodAll]
  | cons t ts ih =>
    intro vs ds ps h
    obtain ⟨v, vs', d, ds', p, q, rfl, rfl, _, h1, h2⟩ := trodAll_cons h
    simp [ih _ _ _ h2]
theorem trodAll_below (hl : laidOutB P = true) {w' : World} (bel : Below w.heap.size w w') : ∀ (ts : List TypeId) (vs : List Value) (ds : List (DataW H)) (ps : List MemPlace),
    ts.all (fun t => P.readableRec t && decide (t < P.types.size)) = true → DataW.TrodAll enc P w 0 (fun _ => true) true ts vs ds ps → DataW.TrodAll enc P w' 0 (fun b => decide (b < w.heap.size)) true ts vs ds ps := by
  intro ts
  induction ts with
  | nil => intro vs ds ps _ h; cases vs <;> cases ds <;> simp_all [DataW.TrodAll]
  | cons t ts ih =>
    intro vs ds ps hr h
    obtain ⟨v, vs', d, ds', p, q, rfl, rfl, rfl, h1, h2⟩ := trodAll_cons h
    simp only [List.all_cons, Bool.and_eq_true, decide_eq_true_eq] at hr
    exact ⟨p, q, Below.trod hl hr.1.1 hr.1.2 h1 bel (by obtain ⟨m, hm⟩ := h1; exact DataW.trod_lt m _ _ _ hm), ih _ _ _ (by simpa using hr.2) h2, rfl⟩
end
theorem wf_out {k : IntKind} {n : Int} (h : (Lit.int k n).wf = true) : k.min ≤ n ∧ n ≤ k.max := by
  simpa [Lit.wf] using h
theorem wf_i64_out {n : Int} (h : (Lit.int .i64 n).wf = true) : -9223372036854775808 ≤ n ∧ n ≤ 9223372036854775807 := by
  have := wf_out h; simp [IntKind.min, IntKind.max, IntKind.signed, IntKind.bits] at this; exact this
theorem PureC.alone {P : Program} {W : World} {f : FuncId} {vs : List Value} {v : Value} (h : PureC P (fun b o => W.heap[b]? = some o) f vs v) : Go.Calls P f vs.toArray W fun e W' => e = .returned v ∧ Below W.heap.size W W' := by
  have h1 := h.out (WM.all W) (fun b o hb => ⟨hb, .inl (Array.getElem?_eq_some_iff.1 hb).1⟩) (fun b hb => hb.elim id False.elim)
  refine (calls_alone h1 rfl).mono fun e W' ⟨w, hw, he, hf, hn⟩ => ⟨he, ?_⟩
  subst hw
  exact ⟨hf.os, hf.tape, hf.output, hf.size, fun k hk => hf.block k (.inl hk) hk (by simp)⟩
end Go.Proofs.YtkokohkbhlnjkaaGreatDoor.R
namespace Go.Proofs.YtkokohkbhlnjkaaGreatDoor
set_option linter.unusedVariables false
set_option linter.unusedSimpArgs false
open Go Go.RowKit Go.Proofs.YtkokohkbhlnjkaaGreatDoor.R
set_option maxRecDepth 50000
set_option maxHeartbeats 1000000
theorem fd_32 (a : Int) : a.fdiv 4294967296 = a / 4294967296 := Int.fdiv_eq_ediv_of_nonneg a (by omega)
theorem fd_16 (a : Int) : a.fdiv 65536 = a / 65536 := Int.fdiv_eq_ediv_of_nonneg a (by omega)
theorem fd_8 (a : Int) : a.fdiv 256 = a / 256 := Int.fdiv_eq_ediv_of_nonneg a (by omega)
theorem c_math_bits_Mul64 {x : Nat → Obj → Prop} (a b : Int) (ha : 0 ≤ a) (ha1 : a < 18446744073709551616) (hb : 0 ≤ b) (hb1 : b < 18446744073709551616) : PureC Tryz.prog x 235 [.int .u64 a, .int .u64 b]
    (.tuple #[.int .u64 (a * b / 18446744073709551616), .int .u64 (a * b % 18446744073709551616)]) := by
  have al : ∀ z : Int, bits .and .u64 (z % 18446744073709551616) 4294967295 = (z % 18446744073709551616) % 4294967296 := fun z => and_low32 _ (by omega) (by omega)
  have la := and_low32 a ha ha1
  have lb := and_low32 b hb hb1
  refine pureC_of_Sd Tryz.func235 rfl rfl fun w => ?_
  refine Sd_of_cW (by kernel_rfl) ?_
  repeat' (first | (with_reducible refine ifB_intro (fun _ => ?_) (fun _ => ?_)) | ((fail_if_success (with_reducible refine stk ?_)); simp only [WE, Nat.reduceLeDiff, segX, Nat.reduceBEq, Nat.reduceAdd, Nat.reduceEqDiff, Int.reduceNeg, Int.reduceEq, Int.reduceBEq, Int.reduceLT, Int.reduceLE, Int.reduceBNe, Int.reduceToNat, Nat.reduceMul, Nat.reduceMod, Int.reducePow, reduceIte, rs_235, fd_32, wr_defu, al, la, lb]))
  rw [mul64_arith a b ha ha1 hb hb1]
theorem extC_of {P : Program} {f : FuncId} {fn : Func} {e : Array Value → Sem Value} {es : List Value} {v : Value} (hf : P.funcs[f]? = some fn) (hname : (fn.name == "runtime.NumGoroutine") = false) (hb : fn.body.isNone = true)
    (hn : Extern.findNext fn = none) (he : Extern.find fn = some e) (h : ∀ w, (e es.toArray).run P w = .ok v w ∧ ∀ ev, (e es.toArray).events P w ev = ev) : ExtC P f es v := fun w => by
  refine ⟨?_, fun ev hev => ?_⟩
  · rw [run_callFunc_extern hf hname hb hn he, (h w).1]; rfl
  · rw [Go.Conc.events_callFunc_extern hf hname hb hn he, (h w).2] at hev
    simp at hev
    exact ⟨f, by rw [hev]⟩
theorem c_math_bits_Add64 (a b c : Int) (ha : 0 ≤ a) (hb : 0 ≤ b) (hc : 0 ≤ c) (hc1 : c ≤ 1) : ExtC Tryz.prog 284 [.int .u64 a, .int .u64 b, .int .u64 c]
    (.tuple #[.int .u64 ((a + b + c) % 18446744073709551616), .int .u64 ((a + b + c) / 18446744073709551616)]) :=
  extC_of Tryz.func284 (by kernel_rfl) (by kernel_rfl) (by kernel_rfl) (e := add64Entry) (by kernel_rfl) fun w => ⟨run_add64 a b c ha hb hc hc1 w, fun ev => by
    have : c = 0 ∨ c = 1 := by omega
    rcases this with rfl | rfl <;> rfl⟩
theorem tab256 (t : ByteArray) (h : ((List.range 256).all fun i => t[i]? == some (UInt8.ofNat (bitLen i))) = true) (i : Nat) (hi : i < 256) : t[i]? = some (UInt8.ofNat (bitLen i)) := by
  have := List.all_eq_true.1 h i (by simpa using hi)
  simpa using this
theorem bitLen8 (i : Nat) (hi : i < 256) : (UInt8.ofNat (bitLen i)).toNat = bitLen i := by
  have := bitLen_le8 i hi
  simp only [UInt8.toNat_ofNat']
  omega
theorem cv8 (a : Int) : wr .u8 a = a % 256 := by rw [wr_eq, IntKind.wrap_u8]
theorem len_sh {a : Int} {d k : Nat} (h0 : 0 ≤ a) (hd : d = 2 ^ k) (h : (d : Int) ≤ a) : bitLen a.toNat = k + bitLen (a / (d : Int)).toNat := by
  obtain ⟨n, rfl⟩ := Int.eq_ofNat_of_zero_le h0
  have h1 : d ≤ n := by omega
  have hp : 0 < d := by rw [hd]; exact Nat.two_pow_pos k
  have e : (((n : Nat) : Int) / (d : Int)).toNat = n / d := by rw [← Int.natCast_ediv, Int.toNat_natCast]
  rw [e, Int.toNat_natCast, bitLen_shift n k (by rw [← hd]; have := Nat.div_pos h1 hp; omega), ← hd]
theorem len_32 {a : Int} (h0 : 0 ≤ a) (h : 4294967296 ≤ a) : bitLen a.toNat = 32 + bitLen (a / 4294967296).toNat := len_sh (d := 4294967296) (k := 32) h0 (by decide) h
theorem len_16 {a : Int} (h0 : 0 ≤ a) (h : 65536 ≤ a) : bitLen a.toNat = 16 + bitLen (a / 65536).toNat := len_sh (d := 65536) (k := 16) h0 (by decide) h
theorem len_8 {a : Int} (h0 : 0 ≤ a) (h : 256 ≤ a) : bitLen a.toNat = 8 + bitLen (a / 256).toNat := len_sh (d := 256) (k := 8) h0 (by decide) h
theorem len_end {z : Int} {n m : Nat} (hn : n ≤ 8) (h : z + n = m ∧ 0 ≤ z ∧ z ≤ 64) : wr .i64 (z + wr .i64 (n : Int)) = (m : Int) := by
  rw [wr_i64 (n := (n : Int)) (by omega) (by omega), wr_i64 (by omega) (by omega), h.1]
theorem c_math_bits_Len64 {x : Nat → Obj → Prop} (a : Int) (ha : 0 ≤ a) (ha1 : a < 18446744073709551616) : PureC Tryz.prog x 310 [.int .u64 a] (.int .i64 (bitLen a.toNat : Nat)) := by
  have wl : ∀ z : Int, -1000 ≤ z ∧ z ≤ 1000 → wr .i64 z = z := fun z h => wr_i64 (by omega) (by omega)
  refine pureC_of_Sd Tryz.func310 rfl rfl fun w => ?_
  refine Sd_of_cW (by kernel_rfl) ?_
  repeat' (first | (with_reducible refine (idx_str Tryz.underlying9 (UInt8.ofNat (bitLen (Int.toNat _))) ?_ (tab256 _ (by kernel_rfl) _ ?_)).symm ▸ ?_) | (with_reducible refine ifB_intro (fun _ => ?_) (fun _ => ?_)) | ((fail_if_success (with_reducible refine stk ?_)); simp only [WE, Nat.reduceLeDiff, segX, Nat.reduceBEq, Nat.reduceAdd, Nat.reduceEqDiff, Int.reduceNeg, Int.reduceEq, Int.reduceBEq, Int.reduceLT, Int.reduceLE, Int.reduceBNe, Int.reduceToNat, Nat.reduceMul, Nat.reduceMod, Int.reducePow, reduceIte, cv_5_3, cv_144_5, Tryz.underlying3, Tryz.underlying5, Tryz.underlying144, rs_310, fd_32, fd_16, fd_8, cv8]))
  all_goals simp only [decide_eq_true_eq, decide_eq_false_iff_not] at *
  all_goals first | omega | skip
  all_goals rw [Int.emod_eq_of_lt (by omega) (by omega)]
  all_goals simp (disch := omega) only [bitLen8, wl (32 + 16), wl (32 + 16 + 8), wl (0 + 16), wl (0 + 16 + 8), wl (32 + 8), wl (0 + 8)]
  all_goals refine congrArg (Value.int .i64) (len_end (bitLen_le8 _ (by omega)) ⟨?_, by omega, by omega⟩)
  all_goals (first
    | rw [len_32 ha (by omega), len_16 (a := a / 4294967296) (by omega) (by omega), len_8 (a := a / 4294967296 / 65536) (by omega) (by omega)]
    | rw [len_32 ha (by omega), len_16 (a := a / 4294967296) (by omega) (by omega)]
    | rw [len_32 ha (by omega), len_8 (a := a / 4294967296) (by omega) (by omega)]
    | rw [len_32 ha (by omega)]
    | rw [len_16 ha (by omega), len_8 (a := a / 65536) (by omega) (by omega)]
    | rw [len_16 ha (by omega)]
    | rw [len_8 ha (by omega)]
    | skip)
  all_goals omega
theorem c_cmp_isNaN_uint64 {x : Nat → Obj → Prop} (a : Int) : PureC Tryz.prog x 312 [.int .u64 a] (.bool false) := by
  refine pureC_of_Sd Tryz.func312 rfl rfl fun w => ?_
  refine Sd_of_cW (by kernel_rfl) ?_
  repeat' (first | (with_reducible refine ifB_intro (fun _ => ?_) (fun _ => ?_)) | ((fail_if_success (with_reducible refine stk ?_)); simp only [WE, Nat.reduceLeDiff, segX, Nat.reduceBEq, Nat.reduceAdd, Nat.reduceEqDiff, Int.reduceNeg, Int.reduceEq, Int.reduceBEq, Int.reduceLT, Int.reduceLE, Int.reduceBNe, Int.reduceToNat, Nat.reduceMul, Nat.reduceMod, Int.reducePow, reduceIte, Tryz.underlying144, rs_312]))
  simp
def cmpI (a b : Int) : Int := if a < b then -1 else if b < a then 1 else 0
theorem c_cmp_Compare_uint64 {x : Nat → Obj → Prop} (a b : Int) : PureC Tryz.prog x 290 [.int .u64 a, .int .u64 b] (.int .i64 (cmpI a b)) := by
  refine pureC_of_Sd Tryz.func290 rfl rfl fun w => ?_
  refine Sd_of_cW (by kernel_rfl) ?_
  repeat' (first | (with_reducible refine ifB_intro (fun _ => ?_) (fun _ => ?_)) | ((with_reducible show callW _ _ _ (some (312, _)) _ _); refine callP g_cmp_isNaN_uint64 rfl (c_cmp_isNaN_uint64 ..) ?_) | ((fail_if_success (with_reducible refine stk ?_)); simp only [WE, Nat.reduceLeDiff, segX, Nat.reduceBEq, Nat.reduceAdd, Nat.reduceEqDiff, Int.reduceNeg, Int.reduceEq, Int.reduceBEq, Int.reduceLT, Int.reduceLE, Int.reduceBNe, Int.reduceToNat, Nat.reduceMul, Nat.reduceMod, Int.reducePow, reduceIte, rs_290]))
  all_goals (simp only [decide_eq_true_eq, decide_eq_false_iff_not] at *)
  all_goals (unfold cmpI; simp only [*, if_true, if_false])
theorem c_cmp_Or_int {x : Nat → Obj → Prop} {b T : Nat} {f : Nat × Nat} (p q : Int) (hx : x b (.cells #[.int .i64 p, .int .i64 q] T f)) : PureC Tryz.prog x 289 [.slice (some ⟨b, 0, none⟩) 2 2] (.int .i64 (if p = 0 then q else p)) := by
  refine pureC_of_Sd Tryz.func289 rfl rfl fun w => ?_
  refine Sd_of_cW (by kernel_rfl) ?_
  repeat' (first | (with_reducible refine ifB_intro (fun _ => ?_) (fun _ => ?_)) | ((fail_if_success (with_reducible refine stk ?_)); simp only [WE, Nat.reduceLeDiff, segX, Nat.reduceBEq, Nat.reduceAdd, Nat.reduceEqDiff, Int.reduceNeg, Int.reduceEq, Int.reduceBEq, Int.reduceLT, Int.reduceLE, Int.reduceBNe, Int.reduceToNat, Nat.reduceMul, Nat.reduceMod, Int.reducePow, reduceIte, ty_3, el_28, bl_28, Tryz.underlying3, Tryz.underlying28, rs_289, appX_nil]))
  refine cW_loopA (α := Nat) (fun j => ⟨[(3, .ext (.int .i64 0)), (6, .ext (.slice (some ⟨b, 0, none⟩) 2 2)), (7, .ext (.int .i64 2)), (8, .ext (.int .i64 j))], [], x⟩)
    (fun j => j ≤ 2 ∧ (1 ≤ j → p = 0) ∧ (2 ≤ j → q = 0)) (fun j => 2 - j)
    ⟨0, Wk_of' ⟨⟨rfl, rfl⟩, ⟨rfl, rfl⟩, ⟨rfl, rfl⟩, ⟨rfl, rfl⟩, trivial⟩ trivial rfl, by omega, by omega, by omega⟩ (by kernel_rfl) ?_
  rintro j ⟨hj, hp, hq⟩
  have hl0 : loadX false 1 0 #[.int .i64 p, .int .i64 q] = some (.int .i64 p) := rfl
  have hl1 : loadX false 1 1 #[.int .i64 p, .int .i64 q] = some (.int .i64 q) := rfl
  rcases (by omega : j = 0 ∨ j = 1 ∨ j = 2) with rfl | rfl | rfl
  · have ht : decide (((0 : Nat) : Int) < 2) = true := by decide
    have h0 : 0 + (((0 : Nat) : Int)).toNat * 1 = 0 := rfl
    have e : wr .i64 (((0 : Nat) : Int) + 1) = ((1 : Nat) : Int) := wr_i64 (by omega) (by omega)
    repeat' (first | (with_reducible refine inW_of ⟨by omega, by omega⟩ ?_) | (with_reducible refine extW_of hx hl0 ?_) | (with_reducible refine ifB_intro (fun _ => ?_) (fun _ => ?_)) | ((fail_if_success (with_reducible refine stk ?_)); simp only [WE, Nat.reduceLeDiff, segX, Nat.reduceBEq, Nat.reduceAdd, Nat.reduceEqDiff, Int.reduceNeg, Int.reduceEq, Int.reduceBEq, Int.reduceLT, Int.reduceLE, Int.reduceBNe, Int.reduceToNat, Nat.reduceMul, Nat.reduceMod, Int.reducePow, reduceIte, ty_3, el_28, bl_28, Tryz.underlying3, Tryz.underlying28, rs_289, appX_nil, ht, h0, e]))
    · rename_i h; simp only [bne_iff_ne, ne_eq] at h; simp only [h, if_false]
    · rename_i h
      have h : p = 0 := by simpa using h
      exact ⟨1, Wk_of' ⟨⟨rfl, rfl⟩, ⟨rfl, rfl⟩, ⟨rfl, rfl⟩, ⟨rfl, rfl⟩, trivial⟩ trivial rfl, ⟨by omega, fun _ => h, by omega⟩, by omega⟩
  · have hp := hp (by omega)
    have ht : decide (((1 : Nat) : Int) < 2) = true := by decide
    have h0 : 0 + (((1 : Nat) : Int)).toNat * 1 = 1 := rfl
    have e : wr .i64 (((1 : Nat) : Int) + 1) = ((2 : Nat) : Int) := wr_i64 (by omega) (by omega)
    repeat' (first | (with_reducible refine inW_of ⟨by omega, by omega⟩ ?_) | (with_reducible refine extW_of hx hl1 ?_) | (with_reducible refine ifB_intro (fun _ => ?_) (fun _ => ?_)) | ((fail_if_success (with_reducible refine stk ?_)); simp only [WE, Nat.reduceLeDiff, segX, Nat.reduceBEq, Nat.reduceAdd, Nat.reduceEqDiff, Int.reduceNeg, Int.reduceEq, Int.reduceBEq, Int.reduceLT, Int.reduceLE, Int.reduceBNe, Int.reduceToNat, Nat.reduceMul, Nat.reduceMod, Int.reducePow, reduceIte, ty_3, el_28, bl_28, Tryz.underlying3, Tryz.underlying28, rs_289, appX_nil, ht, h0, e]))
    · simp only [hp, if_true]
    · rename_i h
      have h : q = 0 := by simpa using h
      exact ⟨2, Wk_of' ⟨⟨rfl, rfl⟩, ⟨rfl, rfl⟩, ⟨rfl, rfl⟩, ⟨rfl, rfl⟩, trivial⟩ trivial rfl, ⟨by omega, fun _ => hp, fun _ => h⟩, by omega⟩
  · have hp := hp (by omega)
    have hq := hq (by omega)
    have ht : decide (((2 : Nat) : Int) < 2) = false := by decide
    repeat' (first | (with_reducible refine ifB_intro (fun _ => ?_) (fun _ => ?_)) | ((fail_if_success (with_reducible refine stk ?_)); simp only [WE, Nat.reduceLeDiff, segX, Nat.reduceBEq, Nat.reduceAdd, Nat.reduceEqDiff, Int.reduceNeg, Int.reduceEq, Int.reduceBEq, Int.reduceLT, Int.reduceLE, Int.reduceBNe, Int.reduceToNat, Nat.reduceMul, Nat.reduceMod, Int.reducePow, reduceIte, ty_3, el_28, bl_28, Tryz.underlying3, Tryz.underlying28, rs_289, appX_nil, ht]))
    simp only [hp, hq, if_true]
theorem c_big_of {x : Nat → Obj → Prop} (g : Bool) (h l : Int) : PureC Tryz.prog x 232 [.agg #[.bool g, .int .u64 h, .int .u64 l]] (.agg #[.int .u64 h, .int .u64 l]) := by
  refine pureC_of_Sd Tryz.func232 rfl rfl fun w => ?_
  refine Sd_of_cW (by kernel_rfl) ?_
  repeat' (first | (with_reducible refine ifB_intro (fun _ => ?_) (fun _ => ?_)) | ((fail_if_success (with_reducible refine stk ?_)); simp only [WE, Nat.reduceLeDiff, segX, Nat.reduceBEq, Nat.reduceAdd, Nat.reduceEqDiff, Int.reduceNeg, Int.reduceEq, Int.reduceBEq, Int.reduceLT, Int.reduceLE, Int.reduceBNe, Int.reduceToNat, Nat.reduceMul, Nat.reduceMod, Int.reducePow, reduceIte, ty_144, ty_225, fo_196_1, fo_196_2, tz_225, bd_225, rs_232]))
theorem c_big_size_with {x : Nat → Obj → Prop} (g : Bool) (h l : Int) : PureC Tryz.prog x 233 [.agg #[.int .u64 h, .int .u64 l], .bool g] (.agg #[.bool (g && !(h == 0 && l == 0)), .int .u64 h, .int .u64 l]) := by
  refine pureC_of_Sd Tryz.func233 rfl rfl fun w => ?_
  refine Sd_of_cW (by kernel_rfl) ?_
  repeat' (first | (with_reducible refine ifB_intro (fun _ => ?_) (fun _ => ?_)) | ((with_reducible show cW _ _ (.region 1 _ true) _ _); refine cW_drawTF 11 lx_233_1 (by kernel_rfl) mixed_ (by kernel_rfl) ?_; intro l1 l2 e1 e2; simp only [List.take_succ_cons, List.take_zero, List.drop_succ_cons, List.drop_zero] at e1 e2; subst e1; subst e2) | ((fail_if_success (with_reducible refine stk ?_)); simp only [WE, Nat.reduceLeDiff, segX, Nat.reduceBEq, Nat.reduceAdd, Nat.reduceEqDiff, Int.reduceNeg, Int.reduceEq, Int.reduceBEq, Int.reduceLT, Int.reduceLE, Int.reduceBNe, Int.reduceToNat, Nat.reduceMul, Nat.reduceMod, Int.reducePow, reduceIte, ty_144, ty_196, ty_225, fo_225_0, fo_225_1, tz_196, fk_225, bd_196, bd_225, rs_233]))
  all_goals simp only [*, Bool.true_and, Bool.false_and]
def cmp2 (h l k m : Int) : Int := if cmpI h k = 0 then cmpI l m else cmpI h k
theorem c_big_size_cmp {x : Nat → Obj → Prop} (h l k m : Int) : PureC Tryz.prog x 234 [.agg #[.int .u64 h, .int .u64 l], .agg #[.int .u64 k, .int .u64 m]] (.int .i64 (cmp2 h l k m)) := by
  refine pureC_of_Sd Tryz.func234 rfl rfl fun w => ?_
  refine Sd_of_cW (by kernel_rfl) ?_
  repeat' (first | (((with_reducible show bldW _ _ _ _ _ _ _); refine bld_one (z := .int .i64 0) (b := 8) Tryz.underlying28 (by kernel_rfl) rfl (by decide) rfl rfl rfl ?_)) | (((with_reducible show callW _ _ _ (some (289, _)) _ _); refine callO g_cmp_Or_int (fun s => c_cmp_Or_int _ _ (.inr ⟨2, _, rfl, rfl, rfl⟩)) ?_)) | (with_reducible refine ifB_intro (fun _ => ?_) (fun _ => ?_)) | ((with_reducible show callW _ _ _ (some (289, _)) _ _); refine callP g_cmp_Or_int rfl (c_cmp_Or_int ..) ?_) | ((with_reducible show callW _ _ _ (some (290, _)) _ _); refine callP g_cmp_Compare_uint64 rfl (c_cmp_Compare_uint64 ..) ?_) | ((with_reducible show cW _ _ (.region 1 _ true) _ _); refine cW_drawLF 10 lx_234_1 (by kernel_rfl) mixed_ (by kernel_rfl) ?_; intro l1 l2 e1 e2; simp only [List.take_succ_cons, List.take_zero, List.drop_succ_cons, List.drop_zero] at e1 e2; subst e1; subst e2) | ((fail_if_success (with_reducible refine stk ?_)); simp only [WE, Nat.reduceLeDiff, segX, Nat.reduceBEq, Nat.reduceAdd, Nat.reduceEqDiff, Int.reduceNeg, Int.reduceEq, Int.reduceBEq, Int.reduceLT, Int.reduceLE, Int.reduceBNe, Int.reduceToNat, Nat.reduceMul, Nat.reduceMod, Int.reducePow, reduceIte, ty_144, fo_225_0, fo_225_1, rs_234, appX_nil]))
  rfl
theorem c_big_far {x : Nat → Obj → Prop} (n : Int) (h0 : -9223372036854775808 ≤ n) (h1 : n ≤ 9223372036854775807) : PureC Tryz.prog x 236 [.int .i64 n] (.int .u64 n.natAbs) := by
  refine pureC_of_Sd Tryz.func236 rfl rfl fun w => ?_
  refine Sd_of_cW (by kernel_rfl) ?_
  repeat' (first | (with_reducible refine ifB_intro (fun _ => ?_) (fun _ => ?_)) | ((fail_if_success (with_reducible refine stk ?_)); simp only [WE, Nat.reduceLeDiff, segX, Nat.reduceBEq, Nat.reduceAdd, Nat.reduceEqDiff, Int.reduceNeg, Int.reduceEq, Int.reduceBEq, Int.reduceLT, Int.reduceLE, Int.reduceBNe, Int.reduceToNat, Nat.reduceMul, Nat.reduceMod, Int.reducePow, reduceIte, cv_3_144, Tryz.underlying3, Tryz.underlying144, rs_236]))
  all_goals simp only [decide_eq_true_eq, decide_eq_false_iff_not] at *
  all_goals refine congrArg (Value.int .u64) ?_
  all_goals simp only [wr_defu]
  all_goals omega
theorem c_big_Of {x : Nat → Obj → Prop} (n : Int) (h0 : -9223372036854775808 ≤ n) (h1 : n ≤ 9223372036854775807) : PureC Tryz.prog x 226 [.int .i64 n] (.agg #[.bool (decide (n < 0)), .int .u64 0, .int .u64 n.natAbs]) := by
  refine pureC_of_Sd Tryz.func226 rfl rfl fun w => ?_
  refine Sd_of_cW (by kernel_rfl) ?_
  repeat' (first | (with_reducible refine ifB_intro (fun _ => ?_) (fun _ => ?_)) | ((with_reducible show callW _ _ _ (some (233, _)) _ _); refine callP g_big_size_with rfl (c_big_size_with ..) ?_) | ((with_reducible show callW _ _ _ (some (236, _)) _ _); refine callP g_big_far rfl (c_big_far _ h0 h1) ?_) | ((fail_if_success (with_reducible refine stk ?_)); simp only [WE, Nat.reduceLeDiff, segX, Nat.reduceBEq, Nat.reduceAdd, Nat.reduceEqDiff, Int.reduceNeg, Int.reduceEq, Int.reduceBEq, Int.reduceLT, Int.reduceLE, Int.reduceBNe, Int.reduceToNat, Nat.reduceMul, Nat.reduceMod, Int.reducePow, reduceIte, ty_196, tz_196, bd_225, rs_226]))
  have e : (decide (n < 0) && !((n.natAbs : Int) == 0)) = decide (n < 0) := by
    by_cases h : n < 0
    · have : ((n.natAbs : Int) == 0) = false := by simp; omega
      rw [this]; simp
    · simp [h]
  rw [e]
def ovr (Y : Int) : Bool := decide (340282366920938463463374607431768211456 ≤ Y)
def bG (g : Bool) (Y : Int) : Bool := bif ovr Y then false else g && !(Y == 0)
def bH (Y : Int) : Int := bif ovr Y then 0 else Y / 18446744073709551616
def bL (Y : Int) : Int := bif ovr Y then 0 else Y % 18446744073709551616
def bE (Y : Int) : Int := bif ovr Y then 10 else 0
theorem c_big_Scale {x : Nat → Obj → Prop} (g : Bool) (h l n : Int) (hh : 0 ≤ h) (hh1 : h < 18446744073709551616) (hl : 0 ≤ l) (hl1 : l < 18446744073709551616) (hn : 0 ≤ n) (hn1 : n < 18446744073709551616) :
    PureC Tryz.prog x 228 [.agg #[.bool g, .int .u64 h, .int .u64 l], .int .u64 n]
      (.tuple #[.agg #[.bool (bG g ((h * 18446744073709551616 + l) * n)), .int .u64 (bH ((h * 18446744073709551616 + l) * n)), .int .u64 (bL ((h * 18446744073709551616 + l) * n))], .int .i64 (bE ((h * 18446744073709551616 + l) * n))]) := by
  have pA : 0 ≤ h * n := Int.mul_nonneg hh hn
  have pB : 0 ≤ l * n := Int.mul_nonneg hl hn
  have eY : (h * 18446744073709551616 + l) * n = h * n * 18446744073709551616 + l * n := by rw [Int.add_mul, Int.mul_right_comm]
  rw [eY]
  refine pureC_of_Sd Tryz.func228 rfl rfl fun w => ?_
  refine Sd_of_cW (by kernel_rfl) ?_
  repeat' (first | (with_reducible refine ifB_intro (fun _ => ?_) (fun _ => ?_)) | ((with_reducible show callW _ _ _ (some (233, _)) _ _); refine callP g_big_size_with rfl (c_big_size_with ..) ?_) | ((with_reducible show callW _ _ _ (some (235, _)) _ _); refine callP g_math_bits_Mul64 rfl (c_math_bits_Mul64 _ _ (by assumption) (by assumption) (by assumption) (by assumption)) ?_) | ((with_reducible show callW _ _ _ (some (284, _)) _ _); refine callN rfl (c_math_bits_Add64 _ _ _ (by omega) (by omega) (by decide) (by decide)) ?_) | ((fail_if_success (with_reducible refine stk ?_)); simp only [WE, Nat.reduceLeDiff, segX, Nat.reduceBEq, Nat.reduceAdd, Nat.reduceEqDiff, Int.reduceNeg, Int.reduceEq, Int.reduceBEq, Int.reduceLT, Int.reduceLE, Int.reduceBNe, Int.reduceToNat, Nat.reduceMul, Nat.reduceMod, Int.reducePow, reduceIte, ty_4, ty_144, ty_196, fo_196_0, fo_196_1, fo_196_2, tz_196, bd_196, bd_225, rs_228, appX_nil]))
  all_goals simp only [decide_eq_true_eq, decide_eq_false_iff_not] at *
  all_goals unfold bG bH bL bE ovr
  all_goals generalize h * n = A at *
  all_goals generalize l * n = B at *
  · rw [decide_eq_true (by omega)]; rfl
  · rw [decide_eq_true (by omega)]; rfl
  · rw [decide_eq_false (by omega)]
    simp only [cond_false]
    have e1 : (A % 18446744073709551616 + B / 18446744073709551616 + 0) % 18446744073709551616 = (A * 18446744073709551616 + B) / 18446744073709551616 := by omega
    have e2 : B % 18446744073709551616 = (A * 18446744073709551616 + B) % 18446744073709551616 := by omega
    have e3 : ((A * 18446744073709551616 + B) / 18446744073709551616 == 0 && (A * 18446744073709551616 + B) % 18446744073709551616 == 0) = (A * 18446744073709551616 + B == 0) := by
      rw [Bool.eq_iff_iff]; simp only [Bool.and_eq_true, beq_iff_eq]; omega
    rw [e1, e2, e3]
def sv (g : Bool) (h l : Int) : Int := bif g then -(h * 18446744073709551616 + l) else h * 18446744073709551616 + l
theorem c_big_Cmp {x : Nat → Obj → Prop} (g g' : Bool) (h l h' l' : Int) (hh : 0 ≤ h) (hh1 : h < 18446744073709551616) (hl : 0 ≤ l) (hl1 : l < 18446744073709551616) (kh : 0 ≤ h') (kh1 : h' < 18446744073709551616) (kl : 0 ≤ l') (kl1 : l' < 18446744073709551616) :
    PureC Tryz.prog x 185 [.agg #[.bool g, .int .u64 h, .int .u64 l], .agg #[.bool g', .int .u64 h', .int .u64 l']] (.int .i64 (cmpI (sv g h l) (sv g' h' l'))) := by
  refine pureC_of_Sd Tryz.func185 rfl rfl fun w => ?_
  refine Sd_of_cW (by kernel_rfl) ?_
  repeat' (first | (with_reducible refine ifB_intro (fun _ => ?_) (fun _ => ?_)) | ((with_reducible show callW _ _ _ (some (232, _)) _ _); refine callP g_big_of rfl (c_big_of ..) ?_) | ((with_reducible show callW _ _ _ (some (233, _)) _ _); refine callP g_big_size_with rfl (c_big_size_with ..) ?_) | ((with_reducible show callW _ _ _ (some (234, _)) _ _); refine callP g_big_size_cmp rfl (c_big_size_cmp ..) ?_) | ((with_reducible show cW _ _ (.region 1 _ true) _ _); refine cW_drawTF 10 lx_185_1 (by kernel_rfl) mixed_ (by kernel_rfl) ?_; intro l1 l2 e1 e2; simp only [List.take_succ_cons, List.take_zero, List.drop_succ_cons, List.drop_zero] at e1 e2; subst e1; subst e2) | ((with_reducible show cW _ _ (.region 9 _ true) _ _); refine cW_drawF lx_185_9 (by kernel_rfl) mixed_ (by kernel_rfl) ?_) | ((with_reducible show cW _ _ (.region 10 _ true) _ _); refine cW_drawF lx_185_10 (by kernel_rfl) mixed_ (by kernel_rfl) ?_) | ((fail_if_success (with_reducible refine stk ?_)); simp only [WE, Nat.reduceLeDiff, segX, Nat.reduceBEq, Nat.reduceAdd, Nat.reduceEqDiff, Int.reduceNeg, Int.reduceEq, Int.reduceBEq, Int.reduceLT, Int.reduceLE, Int.reduceBNe, Int.reduceToNat, Nat.reduceMul, Nat.reduceMod, Int.reducePow, reduceIte, ty_4, ty_196, fo_196_0, fk_196, Tryz.underlying4, rs_185, appX_nil]))
  all_goals refine congrArg (Value.int .i64) ?_
  all_goals generalize hz : (h == 0 && l == 0) = z at *
  all_goals generalize hz' : (h' == 0 && l' == 0) = z' at *
  all_goals generalize he : (h == h' && l == l') = e at *
  all_goals cases g <;> cases g' <;> cases z <;> cases z' <;> cases e
  all_goals first | contradiction | skip
  all_goals simp only [Bool.and_eq_true, Bool.and_eq_false_iff, beq_iff_eq, beq_eq_false_iff_ne, ne_eq] at hz hz' he
  all_goals (unfold sv; try unfold cmp2)
  all_goals simp only [cond_true, cond_false, cmpI]
  all_goals first | omega | skip
  all_goals trace_state
end Go.Proofs.YtkokohkbhlnjkaaGreatDoor
namespace Go.Proofs.YtkokohkbhlnjkaaGreatDoor
set_option linter.unusedVariables false
set_option linter.unusedSimpArgs false
open Go Go.RowKit Go.Proofs.YtkokohkbhlnjkaaGreatDoor.R
set_option maxRecDepth 50000
set_option maxHeartbeats 1000000
theorem c_math_bits_Sub64 (a b c : Int) (ha : 0 ≤ a) (hb : 0 ≤ b) (hb1 : b < 18446744073709551616) (hc : 0 ≤ c) (hc1 : c ≤ 1) : ExtC Tryz.prog 309 [.int .u64 a, .int .u64 b, .int .u64 c]
    (.tuple #[.int .u64 ((a - b - c) % 18446744073709551616), .int .u64 (if a < b + c then 1 else 0)]) := by
  obtain ⟨x, rfl⟩ := Int.eq_ofNat_of_zero_le ha
  obtain ⟨y, rfl⟩ := Int.eq_ofNat_of_zero_le hb
  obtain ⟨z, rfl⟩ := Int.eq_ofNat_of_zero_le hc
  have h : ExtC Tryz.prog 309 [.int .u64 (x : Int), .int .u64 (y : Int), .int .u64 (z : Int)] _ := extC_of Tryz.func309 (by kernel_rfl) (by kernel_rfl) (by kernel_rfl) (e := sub64Entry) (by kernel_rfl) fun w => ⟨run_sub64 x y z (by omega) w, fun ev => by
    have : z = 0 ∨ z = 1 := by omega
    rcases this with rfl | rfl <;> rfl⟩
  have e1 : (((x + 18446744073709551616 - y - z) % 18446744073709551616 : Nat) : Int) = ((x : Int) - y - z) % 18446744073709551616 := by omega
  have e2 : ((if x < y + z then 1 else 0 : Nat) : Int) = if (x : Int) < y + z then 1 else 0 := by
    by_cases h : x < y + z
    · rw [if_pos h, if_pos (by omega)]; rfl
    · rw [if_neg h, if_neg (by omega)]; rfl
  rw [e1, e2] at h
  exact h
theorem c_big_size_minus {x : Nat → Obj → Prop} (h l k m : Int) (hh : 0 ≤ h) (hh1 : h < 18446744073709551616) (hl : 0 ≤ l) (hl1 : l < 18446744073709551616) (kh : 0 ≤ k) (kh1 : k < 18446744073709551616) (kl : 0 ≤ m) (kl1 : m < 18446744073709551616)
    (hle : k * 18446744073709551616 + m ≤ h * 18446744073709551616 + l) :
    PureC Tryz.prog x 283 [.agg #[.int .u64 h, .int .u64 l], .agg #[.int .u64 k, .int .u64 m]]
      (.agg #[.int .u64 ((h * 18446744073709551616 + l - (k * 18446744073709551616 + m)) / 18446744073709551616), .int .u64 ((h * 18446744073709551616 + l - (k * 18446744073709551616 + m)) % 18446744073709551616)]) := by
  have hc : 0 ≤ (if l < m + 0 then (1 : Int) else 0) ∧ (if l < m + 0 then (1 : Int) else 0) ≤ 1 := by split <;> omega
  refine pureC_of_Sd Tryz.func283 rfl rfl fun w => ?_
  refine Sd_of_cW (by kernel_rfl) ?_
  repeat' (first | (with_reducible refine ifB_intro (fun _ => ?_) (fun _ => ?_)) | ((with_reducible show callW _ _ _ (some (309, _)) _ _); refine callN rfl (c_math_bits_Sub64 l m 0 hl kl kl1 (by decide) (by decide)) ?_) | ((with_reducible show callW _ _ _ (some (309, _)) _ _); refine callN rfl (c_math_bits_Sub64 h k _ hh kh kh1 hc.1 hc.2) ?_) | ((fail_if_success (with_reducible refine stk ?_)); simp only [WE, Nat.reduceLeDiff, segX, Nat.reduceBEq, Nat.reduceAdd, Nat.reduceEqDiff, Int.reduceNeg, Int.reduceEq, Int.reduceBEq, Int.reduceLT, Int.reduceLE, Int.reduceBNe, Int.reduceToNat, Nat.reduceMul, Nat.reduceMod, Int.reducePow, reduceIte, ty_144, ty_225, fo_225_0, fo_225_1, tz_225, bd_225, rs_283, appX_nil]))
  have e1 : (h - k - if l < m + 0 then 1 else 0) % 18446744073709551616 = (h * 18446744073709551616 + l - (k * 18446744073709551616 + m)) / 18446744073709551616 := by split <;> omega
  have e2 : (l - m - 0) % 18446744073709551616 = (h * 18446744073709551616 + l - (k * 18446744073709551616 + m)) % 18446744073709551616 := by omega
  rw [e1, e2]
theorem lp_Add : lxP Tryz.f225 1 (.q 0 (.q 1 (.q 2 (.q 3 (.alt 4 (.alt 5 (.alt 6 (.alt 7 .fin .fin) .fin) .fin) (.alt 5 (.alt 4 (.alt 6 (.alt 7 .fin .fin) .fin) .fin) .fin)))))) = true := by kernel_rfl
def aG (Z : Int) : Bool := bif ovr Z.natAbs then false else decide (Z < 0)
theorem cmp2_lt {h l k m : Int} (hl : 0 ≤ l) (hl1 : l < 18446744073709551616) (kl : 0 ≤ m) (kl1 : m < 18446744073709551616) : decide (cmp2 h l k m < 0) = decide (h * 18446744073709551616 + l < k * 18446744073709551616 + m) := by
  refine decide_eq_decide.2 ?_
  unfold cmp2 cmpI
  by_cases h1 : h < k
  · rw [if_pos h1, if_neg (by omega)]; omega
  · by_cases h2 : k < h
    · rw [if_neg h1, if_pos h2, if_neg (by omega)]; omega
    · rw [if_neg h1, if_neg h2, if_pos rfl]
      by_cases h3 : l < m
      · rw [if_pos h3]; omega
      · by_cases h4 : m < l
        · rw [if_neg h3, if_pos h4]; omega
        · rw [if_neg h3, if_neg h4]; omega
theorem add_out {Z D : Int} {q : Bool} (hD : (Z.natAbs : Int) = D) (h1 : D < 340282366920938463463374607431768211456) (hq' : D ≠ 0 → (q = true ↔ Z < 0)) :
    Value.tuple #[.agg #[.bool (q && !(D / 18446744073709551616 == 0 && D % 18446744073709551616 == 0)), .int .u64 (D / 18446744073709551616), .int .u64 (D % 18446744073709551616)], .int .i64 0] =
    .tuple #[.agg #[.bool (aG Z), .int .u64 (bH Z.natAbs), .int .u64 (bL Z.natAbs)], .int .i64 (bE Z.natAbs)] := by
  have hq : D ≠ 0 → q = decide (Z < 0) := fun h => by rw [Bool.eq_iff_iff, hq' h, decide_eq_true_eq]
  rw [hD]
  unfold aG bH bL bE
  rw [hD, show ovr D = false by unfold ovr; exact decide_eq_false (by omega)]
  simp only [cond_false]
  by_cases h0 : D = 0
  · have : Z = 0 := by omega
    subst this; rw [h0]; simp
  · have e : (D / 18446744073709551616 == 0 && D % 18446744073709551616 == 0) = false := by
      rw [Bool.and_eq_false_iff]; simp only [beq_eq_false_iff_ne, ne_eq]; omega
    rw [e, hq h0]; simp
theorem lt_le1 {a b : Int} (h : decide (a < b) = true) : a ≤ b := by simp only [decide_eq_true_eq] at h; omega
theorem lt_le2 {a b : Int} (h : decide (a < b) = false) : b ≤ a := by simp only [decide_eq_false_iff_not] at h; omega
theorem c_big_Add {x : Nat → Obj → Prop} (g g' : Bool) (h l h' l' : Int) (hh : 0 ≤ h) (hh1 : h < 18446744073709551616) (hl : 0 ≤ l) (hl1 : l < 18446744073709551616) (kh : 0 ≤ h') (kh1 : h' < 18446744073709551616) (kl : 0 ≤ l') (kl1 : l' < 18446744073709551616) :
    PureC Tryz.prog x 225 [.agg #[.bool g, .int .u64 h, .int .u64 l], .agg #[.bool g', .int .u64 h', .int .u64 l']]
      (.tuple #[.agg #[.bool (aG (sv g h l + sv g' h' l')), .int .u64 (bH (sv g h l + sv g' h' l').natAbs), .int .u64 (bL (sv g h l + sv g' h' l').natAbs)], .int .i64 (bE (sv g h l + sv g' h' l').natAbs)]) := by
  have hlt := cmp2_lt (h := h) (k := h') hl hl1 kl kl1
  refine pureC_of_Sd Tryz.func225 rfl rfl fun w => ?_
  refine Sd_of_cW (by kernel_rfl) ?_
  repeat' (first | (with_reducible refine ifB_intro (fun _ => ?_) (fun _ => ?_)) | ((with_reducible show callW _ _ _ (some (232, _)) _ _); refine callP g_big_of rfl (c_big_of ..) ?_) | ((with_reducible show callW _ _ _ (some (233, _)) _ _); refine callP g_big_size_with rfl (c_big_size_with ..) ?_) | ((with_reducible show callW _ _ _ (some (234, _)) _ _); refine callP g_big_size_cmp rfl (c_big_size_cmp ..) ?_) | ((with_reducible show callW _ _ _ (some (283, _)) _ _); refine callP g_big_size_minus rfl (c_big_size_minus _ _ _ _ (by assumption) (by assumption) (by assumption) (by assumption) (by assumption) (by assumption) (by assumption) (by assumption) (lt_le1 (by assumption))) ?_) | ((with_reducible show callW _ _ _ (some (283, _)) _ _); refine callP g_big_size_minus rfl (c_big_size_minus _ _ _ _ (by assumption) (by assumption) (by assumption) (by assumption) (by assumption) (by assumption) (by assumption) (by assumption) (lt_le2 (by assumption))) ?_) | ((with_reducible show callW _ _ _ (some (284, _)) _ _); refine callN rfl (c_math_bits_Add64 l l' 0 hl kl (by decide) (by decide)) ?_) | ((with_reducible show callW _ _ _ (some (284, _)) _ _); refine callN rfl (c_math_bits_Add64 h h' _ hh kh (by omega) (by omega)) ?_) | ((with_reducible show cW _ _ (.region 1 _ true) _ _); refine cW_drawLF 4 lx_225_1 (by kernel_rfl) mixed_ (by kernel_rfl) ?_; intro l1 l2 e1 e2; simp only [List.take_succ_cons, List.take_zero, List.drop_succ_cons, List.drop_zero] at e1 e2; subst e1; subst e2) | ((with_reducible show cW _ _ (.region 4 _ true) _ _); refine cW_drawTF 6 lx_225_4 (by kernel_rfl) mixed_ (by kernel_rfl) ?_; intro l1 l2 e1 e2; simp only [List.take_succ_cons, List.take_zero, List.drop_succ_cons, List.drop_zero] at e1 e2; subst e1; subst e2) | ((with_reducible show cW _ _ (.region 5 _ true) _ _); refine cW_drawTF 6 lx_225_5 (by kernel_rfl) mixed_ (by kernel_rfl) ?_; intro l1 l2 e1 e2; simp only [List.take_succ_cons, List.take_zero, List.drop_succ_cons, List.drop_zero] at e1 e2; subst e1; subst e2) | ((fail_if_success (with_reducible refine stk ?_)); simp only [WE, Nat.reduceLeDiff, segX, Nat.reduceBEq, Nat.reduceAdd, Nat.reduceEqDiff, Int.reduceNeg, Int.reduceEq, Int.reduceBEq, Int.reduceLT, Int.reduceLE, Int.reduceBNe, Int.reduceToNat, Nat.reduceMul, Nat.reduceMod, Int.reducePow, reduceIte, ty_4, ty_144, ty_196, ty_225, fo_196_0, fo_225_0, fo_225_1, tz_196, tz_225, bd_196, bd_225, Tryz.underlying4, rs_225, appX_nil]))
  refine cW_drawPF ⟨[(2, .ptr 0 0), (3, .ptr 1 0), (4, .ptr 2 0), (5, .ext (.int .i64 0)), (6, .ptr 3 0), (7, .ptr 4 0)], [.cells 196 [.ext (.bool g), .ext (.int .u64 h), .ext (.int .u64 l)], .cells 196 [.ext (.bool g'), .ext (.int .u64 h'), .ext (.int .u64 l')], .cells 196 [.ext (.bool false), .ext (.int .u64 0), .ext (.int .u64 0)], .cells 225 [.ext (.int .u64 h), .ext (.int .u64 l)], .cells 225 [.ext (.int .u64 h'), .ext (.int .u64 l')]], x⟩ lp_Add (by kernel_rfl) mixed_ (by kernel_rfl) ?_ ?_
  · repeat' (first | (with_reducible refine ifB_intro (fun _ => ?_) (fun _ => ?_)) | ((with_reducible show callW _ _ _ (some (232, _)) _ _); refine callP g_big_of rfl (c_big_of ..) ?_) | ((with_reducible show callW _ _ _ (some (233, _)) _ _); refine callP g_big_size_with rfl (c_big_size_with ..) ?_) | ((with_reducible show callW _ _ _ (some (234, _)) _ _); refine callP g_big_size_cmp rfl (c_big_size_cmp ..) ?_) | ((with_reducible show callW _ _ _ (some (283, _)) _ _); refine callP g_big_size_minus rfl (c_big_size_minus _ _ _ _ (by assumption) (by assumption) (by assumption) (by assumption) (by assumption) (by assumption) (by assumption) (by assumption) (lt_le1 (by assumption))) ?_) | ((with_reducible show callW _ _ _ (some (283, _)) _ _); refine callP g_big_size_minus rfl (c_big_size_minus _ _ _ _ (by assumption) (by assumption) (by assumption) (by assumption) (by assumption) (by assumption) (by assumption) (by assumption) (lt_le2 (by assumption))) ?_) | ((with_reducible show callW _ _ _ (some (284, _)) _ _); refine callN rfl (c_math_bits_Add64 l l' 0 hl kl (by decide) (by decide)) ?_) | ((with_reducible show callW _ _ _ (some (284, _)) _ _); refine callN rfl (c_math_bits_Add64 h h' _ hh kh (by omega) (by omega)) ?_) | ((with_reducible show cW _ _ (.region 1 _ true) _ _); refine cW_drawLF 4 lx_225_1 (by kernel_rfl) mixed_ (by kernel_rfl) ?_; intro l1 l2 e1 e2; simp only [List.take_succ_cons, List.take_zero, List.drop_succ_cons, List.drop_zero] at e1 e2; subst e1; subst e2) | ((with_reducible show cW _ _ (.region 4 _ true) _ _); refine cW_drawTF 6 lx_225_4 (by kernel_rfl) mixed_ (by kernel_rfl) ?_; intro l1 l2 e1 e2; simp only [List.take_succ_cons, List.take_zero, List.drop_succ_cons, List.drop_zero] at e1 e2; subst e1; subst e2) | ((with_reducible show cW _ _ (.region 5 _ true) _ _); refine cW_drawTF 6 lx_225_5 (by kernel_rfl) mixed_ (by kernel_rfl) ?_; intro l1 l2 e1 e2; simp only [List.take_succ_cons, List.take_zero, List.drop_succ_cons, List.drop_zero] at e1 e2; subst e1; subst e2) | ((fail_if_success (with_reducible refine stk ?_)); simp only [WE, Nat.reduceLeDiff, segX, Nat.reduceBEq, Nat.reduceAdd, Nat.reduceEqDiff, Int.reduceNeg, Int.reduceEq, Int.reduceBEq, Int.reduceLT, Int.reduceLE, Int.reduceBNe, Int.reduceToNat, Nat.reduceMul, Nat.reduceMod, Int.reducePow, reduceIte, ty_4, ty_144, ty_196, ty_225, fo_196_0, fo_225_0, fo_225_1, tz_196, tz_225, bd_196, bd_225, Tryz.underlying4, rs_225, appX_nil, planW_end, planW_fin, planW_q, planW_alt, ploudW_none]))
    refine ⟨WkE_of [0, 1, 2, 3, 4] (fun _ _ h => h) ⟨⟨rfl, rfl⟩, ⟨rfl, rfl⟩, ⟨rfl, rfl⟩, ⟨rfl, rfl⟩, ⟨rfl, rfl⟩, ⟨rfl, rfl⟩, trivial⟩ ⟨⟨rfl, rfl⟩, ⟨rfl, rfl⟩, ⟨rfl, rfl⟩, ⟨rfl, rfl⟩, ⟨rfl, rfl⟩, trivial⟩ (by decide) (Nat.le_refl _),
      WkE_of [0, 1, 2, 4, 3] (fun _ _ h => h) ⟨⟨rfl, rfl⟩, ⟨rfl, rfl⟩, ⟨rfl, rfl⟩, ⟨rfl, rfl⟩, ⟨rfl, rfl⟩, ⟨rfl, rfl⟩, trivial⟩ ⟨⟨rfl, rfl⟩, ⟨rfl, rfl⟩, ⟨rfl, rfl⟩, ⟨rfl, rfl⟩, ⟨rfl, rfl⟩, trivial⟩ (by decide) (Nat.le_refl _)⟩
  repeat' (first | (with_reducible refine ifB_intro (fun _ => ?_) (fun _ => ?_)) | ((with_reducible show callW _ _ _ (some (232, _)) _ _); refine callP g_big_of rfl (c_big_of ..) ?_) | ((with_reducible show callW _ _ _ (some (233, _)) _ _); refine callP g_big_size_with rfl (c_big_size_with ..) ?_) | ((with_reducible show callW _ _ _ (some (234, _)) _ _); refine callP g_big_size_cmp rfl (c_big_size_cmp ..) ?_) | ((with_reducible show callW _ _ _ (some (283, _)) _ _); refine callP g_big_size_minus rfl (c_big_size_minus _ _ _ _ (by assumption) (by assumption) (by assumption) (by assumption) (by assumption) (by assumption) (by assumption) (by assumption) (lt_le1 (by assumption))) ?_) | ((with_reducible show callW _ _ _ (some (283, _)) _ _); refine callP g_big_size_minus rfl (c_big_size_minus _ _ _ _ (by assumption) (by assumption) (by assumption) (by assumption) (by assumption) (by assumption) (by assumption) (by assumption) (lt_le2 (by assumption))) ?_) | ((with_reducible show callW _ _ _ (some (284, _)) _ _); refine callN rfl (c_math_bits_Add64 l l' 0 hl kl (by decide) (by decide)) ?_) | ((with_reducible show callW _ _ _ (some (284, _)) _ _); refine callN rfl (c_math_bits_Add64 h h' _ hh kh (by omega) (by omega)) ?_) | ((with_reducible show cW _ _ (.region 1 _ true) _ _); refine cW_drawLF 4 lx_225_1 (by kernel_rfl) mixed_ (by kernel_rfl) ?_; intro l1 l2 e1 e2; simp only [List.take_succ_cons, List.take_zero, List.drop_succ_cons, List.drop_zero] at e1 e2; subst e1; subst e2) | ((with_reducible show cW _ _ (.region 4 _ true) _ _); refine cW_drawTF 6 lx_225_4 (by kernel_rfl) mixed_ (by kernel_rfl) ?_; intro l1 l2 e1 e2; simp only [List.take_succ_cons, List.take_zero, List.drop_succ_cons, List.drop_zero] at e1 e2; subst e1; subst e2) | ((with_reducible show cW _ _ (.region 5 _ true) _ _); refine cW_drawTF 6 lx_225_5 (by kernel_rfl) mixed_ (by kernel_rfl) ?_; intro l1 l2 e1 e2; simp only [List.take_succ_cons, List.take_zero, List.drop_succ_cons, List.drop_zero] at e1 e2; subst e1; subst e2) | ((fail_if_success (with_reducible refine stk ?_)); simp only [WE, Nat.reduceLeDiff, segX, Nat.reduceBEq, Nat.reduceAdd, Nat.reduceEqDiff, Int.reduceNeg, Int.reduceEq, Int.reduceBEq, Int.reduceLT, Int.reduceLE, Int.reduceBNe, Int.reduceToNat, Nat.reduceMul, Nat.reduceMod, Int.reducePow, reduceIte, ty_4, ty_144, ty_196, ty_225, fo_196_0, fo_225_0, fo_225_1, tz_196, tz_225, bd_196, bd_225, Tryz.underlying4, rs_225, appX_nil, hlt]))
  all_goals simp only [decide_eq_true_eq, decide_eq_false_iff_not] at *
  · refine add_out ?_ (by omega) ?_ <;> cases g <;> cases g' <;> first | contradiction | skip
    all_goals simp only [sv, cond_true, cond_false]
    all_goals first | omega | (intro h0; first | (refine iff_of_true (by decide) ?_; omega) | (refine iff_of_false (by decide) ?_; omega))
  · refine add_out ?_ (by omega) ?_ <;> cases g <;> cases g' <;> first | contradiction | skip
    all_goals simp only [sv, cond_true, cond_false]
    all_goals first | omega | (intro h0; first | (refine iff_of_true (by decide) ?_; omega) | (refine iff_of_false (by decide) ?_; omega))
  · have e : ovr ((sv g h l + sv g' h' l').natAbs) = true := by
      unfold ovr
      refine decide_eq_true ?_
      cases g <;> cases g' <;> first | contradiction | (simp only [sv, cond_true, cond_false]; omega)
    unfold aG bH bL bE
    rw [e]; rfl
  · have hq : ¬ 340282366920938463463374607431768211456 ≤ h * 18446744073709551616 + l + (h' * 18446744073709551616 + l') := by omega
    have e1 : (h + h' + (l + l' + 0) / 18446744073709551616) % 18446744073709551616 = (h * 18446744073709551616 + l + (h' * 18446744073709551616 + l')) / 18446744073709551616 := by omega
    have e2 : (l + l' + 0) % 18446744073709551616 = (h * 18446744073709551616 + l + (h' * 18446744073709551616 + l')) % 18446744073709551616 := by omega
    rw [e1, e2]
    refine add_out ?_ (by omega) ?_ <;> cases g <;> cases g' <;> first | contradiction | skip
    all_goals simp only [sv, cond_true, cond_false]
    all_goals first | omega | (intro h0; first | (refine iff_of_true (by decide) ?_; omega) | (refine iff_of_false (by decide) ?_; omega))
end Go.Proofs.YtkokohkbhlnjkaaGreatDoor
namespace Go.Proofs.YtkokohkbhlnjkaaGreatDoor
set_option linter.unusedVariables false
set_option linter.unusedSimpArgs false
def rtN (p : Nat → Nat) (N : Nat) : Nat → Nat
  | 0 => 0
  | b + 1 => if p (b + 1) ≤ N then b + 1 else rtN p N b
theorem rtN_le {p : Nat → Nat} (hm : ∀ a b, a ≤ b → p a ≤ p b) (h0 : p 0 = 0) {N : Nat} : ∀ {b : Nat}, (N < p (b + 1)) → ∀ n, n ≤ rtN p N b ↔ p n ≤ N
  | 0, hb, n => by
    simp only [rtN]
    constructor
    · intro h
      have : n = 0 := by omega
      subst this; omega
    · intro h
      rcases Nat.eq_zero_or_pos n with h1 | h1
      · omega
      · have := hm 1 n h1
        simp only [Nat.zero_add] at hb
        omega
  | b + 1, hb, n => by
    simp only [rtN]
    by_cases h : p (b + 1) ≤ N
    · rw [if_pos h]
      constructor
      · intro h1
        exact Nat.le_trans (hm _ _ h1) h
      · intro h1
        rcases Nat.lt_or_ge (b + 1) n with h2 | h2
        · have := hm (b + 1 + 1) n h2
          omega
        · exact h2
    · rw [if_neg h]
      exact rtN_le hm h0 (by omega) n
def cuN (n : Nat) : Nat := n * n * n
theorem cuN_mono (a b : Nat) (h : a ≤ b) : cuN a ≤ cuN b := Nat.mul_le_mul (Nat.mul_le_mul h h) h
def rt3 (N : Int) : Int := rtN cuN N.toNat 8796093022207
theorem rt3_nn (N : Int) : 0 ≤ rt3 N := Int.natCast_nonneg _
theorem rt3_le {N : Int} (h0 : 0 ≤ N) (h1 : N < 340282366920938463463374607431768211456) (n : Int) (hn : 0 ≤ n) : n ≤ rt3 N ↔ n * n * n ≤ N := by
  obtain ⟨M, rfl⟩ := Int.eq_ofNat_of_zero_le h0
  obtain ⟨m, rfl⟩ := Int.eq_ofNat_of_zero_le hn
  unfold rt3
  rw [Int.toNat_natCast, ← Int.natCast_mul, ← Int.natCast_mul, Int.ofNat_le, Int.ofNat_le]
  refine rtN_le cuN_mono rfl ?_ m
  have : cuN (8796093022207 + 1) = 680564733841876926926749214863536422912 := by decide
  rw [this]
  omega
theorem mul_mono {a b c d : Int} (h0 : 0 ≤ a) (h : a ≤ b) (h1 : 0 ≤ c) (h2 : c ≤ d) : a * c ≤ b * d :=
  Int.le_trans (Int.mul_le_mul_of_nonneg_right h h1) (Int.mul_le_mul_of_nonneg_left h2 (Int.le_trans h0 h))
theorem sq_mono {a b : Int} (h0 : 0 ≤ a) (h : a ≤ b) : a * a ≤ b * b := mul_mono h0 h h0 h
theorem cu_nn (a : Int) (h : 0 ≤ a) : 0 ≤ a * a * a := Int.mul_nonneg (Int.mul_nonneg h h) h
theorem rt3_lt {N : Int} {b : Int} (h0 : 0 ≤ N) (h1 : N < 340282366920938463463374607431768211456) (hb : 0 ≤ b) (h : N < b * b * b) : rt3 N < b := by
  have := rt3_le h0 h1 b hb
  omega
end Go.Proofs.YtkokohkbhlnjkaaGreatDoor
namespace Go.Proofs.YtkokohkbhlnjkaaGreatDoor
set_option linter.unusedVariables false
set_option linter.unusedSimpArgs false
open Go Go.RowKit Go.Proofs.YtkokohkbhlnjkaaGreatDoor.R
set_option maxRecDepth 50000
set_option maxHeartbeats 1000000
theorem ovr_no {Y : Int} (h : Y < 340282366920938463463374607431768211456) : ovr Y = false := by unfold ovr; exact decide_eq_false (by omega)
theorem bG_false (Y : Int) : bG false Y = false := by unfold bG; cases ovr Y <;> rfl
theorem sq_lt {n : Int} (h0 : 0 ≤ n) (h1 : n < 18446744073709551616) : 0 ≤ n * n ∧ n * n < 340282366920938463463374607431768211456 := by
  have := sq_mono (b := 18446744073709551615) h0 (by omega)
  exact ⟨Int.mul_nonneg h0 h0, by omega⟩
theorem c_root_Square {x : Nat → Obj → Prop} (n : Int) (h0 : 0 ≤ n) (h1 : n < 18446744073709551616) :
    PureC Tryz.prog x 311 [.int .u64 n] (.agg #[.bool false, .int .u64 (n * n / 18446744073709551616), .int .u64 (n * n % 18446744073709551616)]) := by
  have hs := sq_lt h0 h1
  have e1 : bH ((0 * 18446744073709551616 + n) * n) = n * n / 18446744073709551616 := by rw [Int.zero_mul, Int.zero_add]; unfold bH; rw [ovr_no hs.2]; rfl
  have e2 : bL ((0 * 18446744073709551616 + n) * n) = n * n % 18446744073709551616 := by rw [Int.zero_mul, Int.zero_add]; unfold bL; rw [ovr_no hs.2]; rfl
  refine pureC_of_Sd Tryz.func311 rfl rfl fun w => ?_
  refine Sd_of_cW (by kernel_rfl) ?_
  repeat' (first | (with_reducible refine ifB_intro (fun _ => ?_) (fun _ => ?_)) | ((with_reducible show callW _ _ _ (some (228, _)) _ _); refine callP g_big_Scale rfl (c_big_Scale false 0 n n (by omega) (by omega) h0 h1 h0 h1) ?_) | ((fail_if_success (with_reducible refine stk ?_)); simp only [WE, Nat.reduceLeDiff, segX, Nat.reduceBEq, Nat.reduceAdd, Nat.reduceEqDiff, Int.reduceNeg, Int.reduceEq, Int.reduceBEq, Int.reduceLT, Int.reduceLE, Int.reduceBNe, Int.reduceToNat, Nat.reduceMul, Nat.reduceMod, Int.reducePow, reduceIte, ty_196, tz_196, bd_196, rs_311, appX_nil]))
  rw [bG_false, e1, e2]
theorem c_root_Cube {x : Nat → Obj → Prop} (n : Int) (h0 : 0 ≤ n) (h1 : n < 18446744073709551616) :
    PureC Tryz.prog x 288 [.int .u64 n] (.tuple #[.agg #[.bool false, .int .u64 (bH (n * n * n)), .int .u64 (bL (n * n * n))], .int .i64 (bE (n * n * n))]) := by
  have hs := sq_lt h0 h1
  have e : n * n / 18446744073709551616 * 18446744073709551616 + n * n % 18446744073709551616 = n * n := by omega
  refine pureC_of_Sd Tryz.func288 rfl rfl fun w => ?_
  refine Sd_of_cW (by kernel_rfl) ?_
  repeat' (first | (with_reducible refine ifB_intro (fun _ => ?_) (fun _ => ?_)) | ((with_reducible show callW _ _ _ (some (228, _)) _ _); refine callP g_big_Scale rfl (c_big_Scale false _ _ n (by omega) (by omega) (by omega) (by omega) h0 h1) ?_) | ((with_reducible show callW _ _ _ (some (311, _)) _ _); refine callP g_root_Square rfl (c_root_Square n h0 h1) ?_) | ((fail_if_success (with_reducible refine stk ?_)); simp only [WE, Nat.reduceLeDiff, segX, Nat.reduceBEq, Nat.reduceAdd, Nat.reduceEqDiff, Int.reduceNeg, Int.reduceEq, Int.reduceBEq, Int.reduceLT, Int.reduceLE, Int.reduceBNe, Int.reduceToNat, Nat.reduceMul, Nat.reduceMod, Int.reducePow, reduceIte, ty_196, tz_196, rs_288, appX_nil]))
  rw [bG_false, e]
theorem bitLen_le {n k : Nat} (h : n < 2 ^ k) : bitLen n ≤ k := by
  rcases Nat.lt_or_ge k (bitLen n) with h1 | h1
  · have h2 := (bitLen_spec n).2 (by intro h3; subst h3; simp [bitLen] at h1)
    have := Nat.pow_le_pow_right (n := 2) (by decide) (show k ≤ bitLen n - 1 by omega)
    omega
  · exact h1
theorem c_root_long {x : Nat → Obj → Prop} (g : Bool) (h l : Int) (hh : 0 ≤ h) (hh1 : h < 18446744073709551616) (hl : 0 ≤ l) (hl1 : l < 18446744073709551616) :
    PureC Tryz.prog x 285 [.agg #[.bool g, .int .u64 h, .int .u64 l]] (.int .i64 (bitLen (h * 18446744073709551616 + l).toNat : Nat)) := by
  refine pureC_of_Sd Tryz.func285 rfl rfl fun w => ?_
  refine Sd_of_cW (by kernel_rfl) ?_
  repeat' (first | (with_reducible refine ifB_intro (fun _ => ?_) (fun _ => ?_)) | ((with_reducible show callW _ _ _ (some (310, _)) _ _); refine callP g_math_bits_Len64 rfl (c_math_bits_Len64 _ (by assumption) (by assumption)) ?_) | ((fail_if_success (with_reducible refine stk ?_)); simp only [WE, Nat.reduceLeDiff, segX, Nat.reduceBEq, Nat.reduceAdd, Nat.reduceEqDiff, Int.reduceNeg, Int.reduceEq, Int.reduceBEq, Int.reduceLT, Int.reduceLE, Int.reduceBNe, Int.reduceToNat, Nat.reduceMul, Nat.reduceMod, Int.reducePow, reduceIte, ty_144, fo_196_1, fo_196_2, rs_285]))
  all_goals refine congrArg (Value.int .i64) ?_
  all_goals simp only [decide_eq_true_eq, decide_eq_false_iff_not] at *
  · have hb : bitLen h.toNat ≤ 64 := bitLen_le (k := 64) (by omega)
    rw [wr_i64 (by omega) (by omega), len_sh (a := h * 18446744073709551616 + l) (d := 18446744073709551616) (k := 64) (by omega) (by decide) (by omega)]
    have : (h * 18446744073709551616 + l) / ((18446744073709551616 : Nat) : Int) = h := by omega
    rw [this]
    omega
  · have : h = 0 := by omega
    subst this
    rw [Int.zero_mul, Int.zero_add]
theorem c_root_greatest {x : Nat → Obj → Prop} (m : Nat) (f : FuncId) (p : Value) (v : Int) (hm : m ≤ 64) (h0 : 0 ≤ v) (h1 : v < 2 ^ m) (hg : goes Tryz.prog f)
    (hR : ∀ n, 0 ≤ n → n < 18446744073709551616 → PureC Tryz.prog x f [.int .u64 n, p] (.bool (decide (n ≤ v)))) :
    PureC Tryz.prog x 286 [.int .i64 (m : Int), .func (.func f) #[] #[p]] (.int .u64 v) := by
  have hp : (2 : Int) ^ m ≤ 18446744073709551616 := by
    have := Nat.pow_le_pow_right (n := 2) (by decide) hm
    have e : ((2 ^ m : Nat) : Int) = (2 : Int) ^ m := by simp
    omega
  have hp1 : (1 : Int) ≤ 2 ^ m := by have := Int.pow_pos (n := 2) (m := m) (by decide); omega
  have hbm : (0 : Int) ≤ (m : Int) := Int.natCast_nonneg m
  have e1 : wr .u64 (1 * 2 ^ m) = 2 ^ m % 18446744073709551616 := by rw [wr_defu, Int.one_mul]
  have e2 : wr .u64 ((2 : Int) ^ m % 18446744073709551616 - 1) = 2 ^ m - 1 := by rw [wr_defu]; generalize (2 : Int) ^ m = M at *; omega
  refine pureC_of_Sd Tryz.func286 rfl rfl fun w => ?_
  refine Sd_of_cW (by kernel_rfl) ?_
  repeat' (first | (with_reducible refine ifB_intro (fun _ => ?_) (fun _ => ?_)) | ((with_reducible show cW _ _ (.region 1 _ true) _ _); refine cW_drawF lx_286_1 (by kernel_rfl) mixed_ (by kernel_rfl) ?_) | ((fail_if_success (with_reducible refine stk ?_)); simp only [WE, Nat.reduceLeDiff, segX, Nat.reduceBEq, Nat.reduceAdd, Nat.reduceEqDiff, Int.reduceNeg, Int.reduceEq, Int.reduceBEq, Int.reduceLT, Int.reduceLE, Int.reduceBNe, Int.reduceToNat, Nat.reduceMul, Nat.reduceMod, Int.reducePow, reduceIte, Tryz.underlying144, rs_286, appX_nil, hbm, Int.toNat_natCast, hm, e1, e2]))
  refine cW_loopA (α := Nat × Int × Int) (fun q => ⟨[(1, .ext (.func (.func f) #[] #[p])), (4, .ext (.int .u64 0)), (5, .ext (.int .u64 q.2.1)), (6, .ext (.int .u64 q.2.2)), (11, .ext (.int .i64 (m : Int))), (12, .ext (.int .i64 (q.1 : Int)))], [], x⟩)
    (fun q => q.1 ≤ m ∧ 0 ≤ q.2.1 ∧ q.2.1 ≤ v ∧ v ≤ q.2.2 ∧ q.2.2 < 18446744073709551616 ∧ q.2.2 - q.2.1 + 1 ≤ 2 ^ (m - q.1)) (fun q => m - q.1)
    ⟨(0, 0, 2 ^ m - 1), Wk_of' ⟨⟨rfl, rfl⟩, ⟨rfl, rfl⟩, ⟨rfl, rfl⟩, ⟨rfl, rfl⟩, ⟨rfl, rfl⟩, ⟨rfl, rfl⟩, trivial⟩ trivial rfl, by simp, Int.le_refl 0, h0, by simp only; omega, by simp only; omega, by simp⟩ (by kernel_rfl) ?_
  rintro ⟨k, lo, hi⟩ ⟨hk, hl, hlv, hvh, hh, hw⟩
  simp only at hk hl hlv hvh hh hw
  have e3 : wr .u64 (hi - lo) = hi - lo := wr_u64 (by omega) (by omega)
  have e4 : wr .u64 ((hi - lo).tdiv 2) = (hi - lo) / 2 := by rw [Int.tdiv_eq_ediv_of_nonneg (by omega)]; exact wr_u64 (by omega) (by omega)
  have e5 : wr .u64 (hi - (hi - lo) / 2) = hi - (hi - lo) / 2 := wr_u64 (by omega) (by omega)
  have e7 : wr .i64 ((k : Int) + 1) = ((k + 1 : Nat) : Int) := wr_i64 (by omega) (by omega)
  repeat' (first | (((with_reducible show callW _ _ _ (some (f, _)) _ _); refine callP hg rfl (hR _ (by omega) (by omega)) ?_)) | (with_reducible refine ifB_intro (fun _ => ?_) (fun _ => ?_)) | ((with_reducible show cW _ _ (.region 1 _ true) _ _); refine cW_drawF lx_286_1 (by kernel_rfl) mixed_ (by kernel_rfl) ?_) | ((fail_if_success (with_reducible refine stk ?_)); simp only [WE, Nat.reduceLeDiff, segX, Nat.reduceBEq, Nat.reduceAdd, Nat.reduceEqDiff, Int.reduceNeg, Int.reduceEq, Int.reduceBEq, Int.reduceLT, Int.reduceLE, Int.reduceBNe, Int.reduceToNat, Nat.reduceMul, Nat.reduceMod, Int.reducePow, reduceIte, Tryz.underlying144, rs_286, appX_nil, e3, e4, e5, e7]))
  all_goals simp only [decide_eq_true_eq, decide_eq_false_iff_not, beq_iff_eq, beq_eq_false_iff_ne, ne_eq] at *
  · refine congrArg (Value.int .u64) (by omega)
  · have e : (2 : Int) ^ (m - k) = 2 ^ (m - (k + 1)) * 2 := by rw [show m - k = m - (k + 1) + 1 by omega, Int.pow_succ]
    exact ⟨(k + 1, hi - (hi - lo) / 2, hi), Wk_of' ⟨⟨rfl, rfl⟩, ⟨rfl, rfl⟩, ⟨rfl, rfl⟩, ⟨rfl, rfl⟩, ⟨rfl, rfl⟩, ⟨rfl, rfl⟩, trivial⟩ trivial rfl, ⟨by simp only; omega, by simp only; omega, by simp only; omega, by simp only; omega, by simp only; omega, by simp only; omega⟩, by simp only; omega⟩
  · have e : (2 : Int) ^ (m - k) = 2 ^ (m - (k + 1)) * 2 := by rw [show m - k = m - (k + 1) + 1 by omega, Int.pow_succ]
    have e6 : wr .u64 (hi - (hi - lo) / 2 - 1) = hi - (hi - lo) / 2 - 1 := wr_u64 (by omega) (by omega)
    rw [e6]
    exact ⟨(k + 1, lo, hi - (hi - lo) / 2 - 1), Wk_of' ⟨⟨rfl, rfl⟩, ⟨rfl, rfl⟩, ⟨rfl, rfl⟩, ⟨rfl, rfl⟩, ⟨rfl, rfl⟩, ⟨rfl, rfl⟩, trivial⟩ trivial rfl, ⟨by simp only; omega, by simp only; omega, by simp only; omega, by simp only; omega, by simp only; omega, by simp only; omega⟩, by simp only; omega⟩
  · have : k = m := by omega
    subst this
    rw [Nat.sub_self] at hw
    refine congrArg (Value.int .u64) (by omega)
theorem sv_false (h l : Int) : sv false h l = h * 18446744073709551616 + l := rfl
theorem cmpI_le {a b : Int} : decide (cmpI a b ≤ 0) = decide (a ≤ b) := by
  refine decide_eq_decide.2 ?_
  unfold cmpI
  by_cases h : a < b
  · rw [if_pos h]; omega
  · by_cases h2 : b < a
    · rw [if_neg h, if_pos h2]; omega
    · rw [if_neg h, if_neg h2]; omega
theorem bE_zero {Y : Int} : (bE Y == 0) = decide (Y < 340282366920938463463374607431768211456) := by
  unfold bE ovr
  by_cases h : 340282366920938463463374607431768211456 ≤ Y
  · rw [decide_eq_true h, decide_eq_false (by omega)]; rfl
  · rw [decide_eq_false h, decide_eq_true (by omega)]; rfl
theorem bHL {Y : Int} (h : Y < 340282366920938463463374607431768211456) : bH Y * 18446744073709551616 + bL Y = Y := by
  unfold bH bL; rw [ovr_no h]; simp only [cond_false]; omega
theorem bHL_in {Y : Int} (h0 : 0 ≤ Y) : (0 ≤ bH Y ∧ bH Y < 18446744073709551616) ∧ 0 ≤ bL Y ∧ bL Y < 18446744073709551616 := by
  unfold bH bL ovr
  by_cases hY : 340282366920938463463374607431768211456 ≤ Y
  · simp [hY]
  · rw [decide_eq_false hY]; simp only [cond_false]; omega
theorem c_root_Third_1 {x : Nat → Obj → Prop} {b T : Nat} {fr : Nat × Nat} (n h l : Int) (h0 : 0 ≤ n) (h1 : n < 18446744073709551616) (hh : 0 ≤ h) (hh1 : h < 18446744073709551616) (hl : 0 ≤ l) (hl1 : l < 18446744073709551616)
    (hx : x b (.cells #[.bool false, .int .u64 h, .int .u64 l] T fr)) :
    PureC Tryz.prog x 287 [.int .u64 n, .pointer (some ⟨b, 0, none⟩)] (.bool (decide (n ≤ rt3 (h * 18446744073709551616 + l)))) := by
  have hc : loadX true 3 0 #[.bool false, .int .u64 h, .int .u64 l] = some (.agg #[.bool false, .int .u64 h, .int .u64 l]) := rfl
  have hb := bHL_in (cu_nn n h0)
  refine pureC_of_Sd Tryz.func287 rfl rfl fun w => ?_
  refine Sd_of_cW (by kernel_rfl) ?_
  repeat' (first | (with_reducible refine extW_of hx hc ?_) | (with_reducible refine ifB_intro (fun _ => ?_) (fun _ => ?_)) | ((with_reducible show callW _ _ _ (some (185, _)) _ _); refine callP g_big_Cmp rfl (c_big_Cmp _ _ _ _ _ _ hb.1.1 hb.1.2 hb.2.1 hb.2.2 hh hh1 hl hl1) ?_) | ((with_reducible show callW _ _ _ (some (288, _)) _ _); refine callP g_root_Cube rfl (c_root_Cube n h0 h1) ?_) | ((fail_if_success (with_reducible refine stk ?_)); simp only [WE, Nat.reduceLeDiff, segX, Nat.reduceBEq, Nat.reduceAdd, Nat.reduceEqDiff, Int.reduceNeg, Int.reduceEq, Int.reduceBEq, Int.reduceLT, Int.reduceLE, Int.reduceBNe, Int.reduceToNat, Nat.reduceMul, Nat.reduceMod, Int.reducePow, reduceIte, ty_196, tz_196, Tryz.underlying30, rs_287, appX_nil]))
  all_goals rename_i hE
  all_goals rw [bE_zero] at hE
  all_goals simp only [decide_eq_true_eq, decide_eq_false_iff_not] at hE
  all_goals refine congrArg Value.bool ?_
  all_goals have hq := rt3_le (N := h * 18446744073709551616 + l) (by omega) (by omega) n h0
  · rw [cmpI_le, sv_false, sv_false, bHL hE]
    exact decide_eq_decide.2 hq.symm
  · rw [eq_comm, decide_eq_false_iff_not, hq]; omega
theorem rt3_bits {N : Int} (h0 : 0 ≤ N) (h1 : N < 340282366920938463463374607431768211456) {k : Nat} (hk : bitLen N.toNat ≤ 3 * k) : rt3 N < 2 ^ k := by
  refine rt3_lt h0 h1 (Int.le_of_lt (Int.pow_pos (by decide))) ?_
  have a := (bitLen_spec N.toNat).1
  have b := Nat.pow_le_pow_right (n := 2) (by decide) hk
  have e : (2 : Int) ^ k * 2 ^ k * 2 ^ k = ((2 ^ (3 * k) : Nat) : Int) := by
    rw [← Int.pow_add, ← Int.pow_add, show k + k + k = 3 * k by omega]; simp
  rw [e]; omega
theorem c_root_Third {x : Nat → Obj → Prop} (g : Bool) (h l : Int) (hh : 0 ≤ h) (hh1 : h < 18446744073709551616) (hl : 0 ≤ l) (hl1 : l < 18446744073709551616) :
    PureC Tryz.prog x 229 [.agg #[.bool g, .int .u64 h, .int .u64 l]] (.int .u64 (rt3 (h * 18446744073709551616 + l))) := by
  have hL : bitLen (h * 18446744073709551616 + l).toNat ≤ 128 := bitLen_le (by omega)
  have hb := rt3_bits (N := h * 18446744073709551616 + l) (by omega) (by omega) (k := (bitLen (h * 18446744073709551616 + l).toNat + 2) / 3) (by omega)
  have e1 : wr .i64 (((bitLen (h * 18446744073709551616 + l).toNat : Nat) : Int) + 2) = ((bitLen (h * 18446744073709551616 + l).toNat : Nat) : Int) + 2 := wr_i64 (by omega) (by omega)
  have e2 : wr .i64 ((((bitLen (h * 18446744073709551616 + l).toNat : Nat) : Int) + 2).tdiv 3) = (((bitLen (h * 18446744073709551616 + l).toNat + 2) / 3 : Nat) : Int) := by
    rw [Int.tdiv_eq_ediv_of_nonneg (by omega), wr_i64 (by omega) (by omega)]; omega
  refine pureC_of_Sd Tryz.func229 rfl rfl fun w => ?_
  refine Sd_of_cW (by kernel_rfl) ?_
  repeat' (first | (((with_reducible show callW _ _ _ (some (286, _)) _ _); refine callO g_root_greatest (fun s => c_root_greatest _ _ _ (rt3 (h * 18446744073709551616 + l)) (by omega) (rt3_nn _) hb (goes_of Tryz.func287 rfl rfl) fun n hn hn1 => c_root_Third_1 n h l hn hn1 hh hh1 hl hl1 (.inr ⟨0, _, rfl, rfl, rfl⟩)) ?_)) | (with_reducible refine ifB_intro (fun _ => ?_) (fun _ => ?_)) | ((with_reducible show callW _ _ _ (some (285, _)) _ _); refine callP g_root_long rfl (c_root_long false _ _ hh hh1 hl hl1) ?_) | ((with_reducible show callW _ _ _ (some (286, _)) _ _); refine callP g_root_greatest rfl (c_root_greatest ..) ?_) | ((with_reducible show callW _ _ _ (some (287, _)) _ _); refine callP g_root_Third_1 rfl (c_root_Third_1 ..) ?_) | ((fail_if_success (with_reducible refine stk ?_)); simp only [WE, Nat.reduceLeDiff, segX, Nat.reduceBEq, Nat.reduceAdd, Nat.reduceEqDiff, Int.reduceNeg, Int.reduceEq, Int.reduceBEq, Int.reduceLT, Int.reduceLE, Int.reduceBNe, Int.reduceToNat, Nat.reduceMul, Nat.reduceMod, Int.reducePow, reduceIte, ty_4, ty_196, fo_196_0, rs_229, appX_nil, e1, e2]))
end Go.Proofs.YtkokohkbhlnjkaaGreatDoor
namespace Go.Proofs.YtkokohkbhlnjkaaGreatDoor
set_option linter.unusedVariables false
set_option linter.unusedSimpArgs false
open Go Go.RowKit Go.Proofs.YtkokohkbhlnjkaaGreatDoor.R
structure DI (u d y1 y0 q r : Int) : Prop where
  er : r = u - q * y1
  lt : u * 4294967296 + d < (q + 1) * (y1 * 4294967296 + y0)
  q0 : 0 ≤ q
  q1 : q ≤ 4294967297
  r0 : 0 ≤ r
  r1 : r < 4294967296
structure DY (u d y1 y0 : Int) : Prop where
  u0 : 0 ≤ u
  u1 : u < y1 * 4294967296 + y0
  d0 : 0 ≤ d
  d1 : d < 4294967296
  a1 : 2147483648 ≤ y1
  a2 : y1 < 4294967296
  b1 : 0 ≤ y0
  b2 : y0 < 4294967296
theorem DI.start {u d y1 y0 : Int} (h : DY u d y1 y0) : DI u d y1 y0 (u / y1) (u - u / y1 * y1) := by
  obtain ⟨h1, h2, h3, h4, h5, h6, h7, h8⟩ := h
  have e := Int.mul_ediv_add_emod u y1
  have e1 := Int.emod_nonneg u (show y1 ≠ 0 by omega)
  have e2 := Int.emod_lt_of_pos u (show 0 < y1 by omega)
  have hq0 : 0 ≤ u / y1 := Int.ediv_nonneg h1 (by omega)
  rw [Int.mul_comm] at e
  refine ⟨rfl, ?_, hq0, ?_, by omega, by omega⟩
  · have : (u / y1 + 1) * (y1 * 4294967296 + y0) = (u / y1 * y1) * 4294967296 + y1 * 4294967296 + (u / y1 + 1) * y0 := by
      rw [Int.mul_add, Int.add_mul, ← Int.mul_assoc, Int.one_mul]
    rw [this]
    have : 0 ≤ (u / y1 + 1) * y0 := Int.mul_nonneg (by omega) h7
    omega
  · have h9 : u < 4294967298 * y1 := by omega
    have := Int.ediv_lt_of_lt_mul (show 0 < y1 by omega) h9
    omega
theorem DI.prod {u d y1 y0 q r : Int} (h : DI u d y1 y0 q r) : q * (y1 * 4294967296 + y0) = (u - r) * 4294967296 + q * y0 := by
  have := h.er
  rw [Int.mul_add, ← Int.mul_assoc, this]
  generalize q * y1 = A
  omega
theorem DI.small {u d y1 y0 q r : Int} (h : DI u d y1 y0 q r) (hy : DY u d y1 y0) (hq : q < 4294967296) : 0 ≤ q * y0 ∧ q * y0 < 18446744073709551616 := by
  obtain ⟨h1, h2, h3, h4, h5, h6, h7, h8⟩ := hy
  have a := Int.mul_nonneg h.q0 h7
  have b : q * y0 ≤ 4294967295 * 4294967295 := Int.mul_le_mul (by omega) (by omega) h7 (by omega)
  omega
theorem dig_of {N y q : Int} (hy : 0 < y) (h1 : q * y ≤ N) (h2 : N < (q + 1) * y) : N / y = q := by
  have a := (Int.le_ediv_iff_mul_le hy).2 h1
  have b := Int.ediv_lt_of_lt_mul hy h2
  omega
theorem DI.done {u d y1 y0 q r : Int} (h : DI u d y1 y0 q r) (hy : DY u d y1 y0) (hle : q * y0 ≤ 4294967296 * r + d) : (u * 4294967296 + d) / (y1 * 4294967296 + y0) = q := by
  have hp := h.prod
  refine dig_of (by have := hy.a1; have := hy.b1; omega) ?_ h.lt
  rw [hp]
  have := h.er
  omega
theorem DI.more {u d y1 y0 q r : Int} (h : DI u d y1 y0 q r) (hy : DY u d y1 y0) (hc : 4294967296 ≤ q ∨ 4294967296 * r + d < q * y0) :
    u * 4294967296 + d < q * (y1 * 4294967296 + y0) ∧ 1 ≤ q := by
  have hp := h.prod
  obtain ⟨h1, h2, h3, h4, h5, h6, h7, h8⟩ := hy
  rcases hc with hc | hc
  · have : 4294967296 * (y1 * 4294967296 + y0) ≤ q * (y1 * 4294967296 + y0) := Int.mul_le_mul_of_nonneg_right hc (by omega)
    exact ⟨by omega, by omega⟩
  · refine ⟨by rw [hp]; omega, ?_⟩
    rcases Int.lt_or_le 0 q with h9 | h9
    · omega
    · have : q = 0 := by have := h.q0; omega
      subst this
      have := h.r0
      rw [Int.zero_mul] at hc
      omega
theorem DI.next {u d y1 y0 q r : Int} (h : DI u d y1 y0 q r) (hy : DY u d y1 y0) (hc : 4294967296 ≤ q ∨ 4294967296 * r + d < q * y0) (hr : r + y1 < 4294967296) : DI u d y1 y0 (q - 1) (r + y1) := by
  obtain ⟨k1, k2⟩ := h.more hy hc
  have h5 := hy.a1
  have h6 := h.er
  have h7 := h.q1
  have h8 := h.r0
  refine ⟨by rw [Int.sub_mul, Int.one_mul]; omega, by rw [show q - 1 + 1 = q by omega]; exact k1, by omega, by omega, by omega, hr⟩
theorem DI.last {u d y1 y0 q r : Int} (h : DI u d y1 y0 q r) (hy : DY u d y1 y0) (hc : 4294967296 ≤ q ∨ 4294967296 * r + d < q * y0) (hr : 4294967296 ≤ r + y1) : (u * 4294967296 + d) / (y1 * 4294967296 + y0) = q - 1 := by
  obtain ⟨k1, k2⟩ := h.more hy hc
  have h6 := h.er
  have h7 := h.q1
  obtain ⟨h1, h2, h3, h4, h5, h5', h8, h9⟩ := hy
  refine dig_of (by omega) ?_ (by rw [show q - 1 + 1 = q by omega]; exact k1)
  have hb : (q - 1) * y0 ≤ 4294967296 * 4294967295 := Int.mul_le_mul (by omega) (by omega) h8 (by omega)
  have : (q - 1) * (y1 * 4294967296 + y0) = (q * y1 - y1) * 4294967296 + (q - 1) * y0 := by
    rw [Int.mul_add, ← Int.mul_assoc, Int.sub_mul q 1 y1, Int.one_mul]
  rw [this]
  generalize q * y1 = A at *
  omega
theorem dig_two {U y q p u1 u2 d1 d0 : Int} (hy : 0 < y) (e : U = u1 * 18446744073709551616 + d1 * 4294967296 + d0) (h1 : (u1 * 4294967296 + d1) / y = q) (h2 : u2 = u1 * 4294967296 + d1 - q * y) (h3 : (u2 * 4294967296 + d0) / y = p) :
    U / y = q * 4294967296 + p ∧ U % y = u2 * 4294967296 + d0 - p * y := by
  have e2 := Int.mul_ediv_add_emod (u2 * 4294967296 + d0) y
  have e3 := Int.emod_nonneg (u2 * 4294967296 + d0) (show y ≠ 0 by omega)
  have e4 := Int.emod_lt_of_pos (u2 * 4294967296 + d0) hy
  rw [h3, Int.mul_comm] at e2
  have eU : U = (q * 4294967296 + p) * y + (u2 * 4294967296 + d0) % y := by
    rw [Int.add_mul, Int.mul_right_comm]
    generalize q * y = A at *
    generalize p * y = B at *
    omega
  have hq : U / y = q * 4294967296 + p := dig_of hy (by omega) (by rw [Int.add_mul (q * 4294967296 + p) 1 y]; omega)
  refine ⟨hq, ?_⟩
  have e5 := Int.mul_ediv_add_emod U y
  rw [hq, Int.mul_comm] at e5
  omega
theorem or_add {a b k : Nat} (hk : k ≤ 64) (ha : a * 2 ^ k < 18446744073709551616) (hb : b < 2 ^ k) : bits .or .u64 ((a * 2 ^ k : Nat) : Int) ((b : Nat) : Int) = ((a * 2 ^ k + b : Nat) : Int) := by
  have h64 : (18446744073709551616 : Nat) = 2 ^ 64 := by decide
  have hs : 2 ^ 64 = 2 ^ (64 - k) * 2 ^ k := by rw [← Nat.pow_add]; congr 1; omega
  have hb2 : b < 18446744073709551616 := by
    have := Nat.pow_le_pow_right (n := 2) (by decide) hk
    omega
  rw [bits_or_u64_nat _ _ ha hb2]
  congr 1
  rw [Nat.mul_comm, ← Nat.two_pow_add_eq_or_of_lt hb]
end Go.Proofs.YtkokohkbhlnjkaaGreatDoor
namespace Go.Proofs.YtkokohkbhlnjkaaGreatDoor
set_option linter.unusedVariables false
set_option linter.unusedSimpArgs false
open Go Go.RowKit Go.Proofs.YtkokohkbhlnjkaaGreatDoor.R
set_option maxRecDepth 50000
set_option maxHeartbeats 1000000
theorem bw_or {P : Program} {T : TypeId} {x y : Operand} {k : IntKind} {a b : Int} {K : Value → Prop} : binW P .or T x y (.int k a) (.int k b) K = K (.int k (bits .or k a b)) := by
  have h : pureW P (do eqGuard .or T x y (.int k a) (.int k b); binOp .or T (.int k a) (.int k b)) K = K (.int k (bits .or k a b)) := by
    refine pureW_of fun w => ?_
    rw [Sem.run_bind, Sem.events_bind, eqGuard_int, ev_eqGuard_int]
    simp only [binOp_or, intBits_or]
    constructor <;> simp
  exact h
theorem c_math_bits_LeadingZeros64 {x : Nat → Obj → Prop} (a : Int) (k : Nat) (ha : 0 ≤ a) (ha1 : a < 18446744073709551616) (hk : bitLen a.toNat + k = 64) : PureC Tryz.prog x 308 [.int .u64 a] (.int .i64 (k : Int)) := by
  have e : wr .i64 (64 - ((bitLen a.toNat : Nat) : Int)) = (k : Int) := by rw [wr_i64 (by omega) (by omega)]; omega
  refine pureC_of_Sd Tryz.func308 rfl rfl fun w => ?_
  refine Sd_of_cW (by kernel_rfl) ?_
  repeat' (first | (with_reducible refine ifB_intro (fun _ => ?_) (fun _ => ?_)) | ((with_reducible show callW _ _ _ (some (310, _)) _ _); refine callP g_math_bits_Len64 rfl (c_math_bits_Len64 a ha ha1) ?_) | ((fail_if_success (with_reducible refine stk ?_)); simp only [WE, Nat.reduceLeDiff, segX, Nat.reduceBEq, Nat.reduceAdd, Nat.reduceEqDiff, Int.reduceNeg, Int.reduceEq, Int.reduceBEq, Int.reduceLT, Int.reduceLE, Int.reduceBNe, Int.reduceToNat, Nat.reduceMul, Nat.reduceMod, Int.reducePow, reduceIte, rs_308, appX_nil, e]))
theorem shl_norm {y : Int} (h0 : 1 ≤ y) (h1 : y < 18446744073709551616) : ∃ k, bitLen y.toNat + k = 64 ∧ k ≤ 63 ∧ 9223372036854775808 ≤ y * 2 ^ k ∧ y * 2 ^ k < 18446744073709551616 := by
  obtain ⟨n, rfl⟩ := Int.eq_ofNat_of_zero_le (show 0 ≤ y by omega)
  have hs := bitLen_spec n
  have hb : bitLen n ≤ 64 := bitLen_le (k := 64) (by omega)
  have hn : n ≠ 0 := by omega
  have hb1 : 1 ≤ bitLen n := by
    rcases Nat.eq_zero_or_pos (bitLen n) with h | h
    · rw [h] at hs; omega
    · exact h
  have h2 := hs.2 hn
  rw [Int.toNat_natCast]
  refine ⟨64 - bitLen n, by omega, by omega, ?_, ?_⟩
  · have : 2 ^ (bitLen n - 1) * 2 ^ (64 - bitLen n) ≤ n * 2 ^ (64 - bitLen n) := Nat.mul_le_mul_right _ h2
    rw [← Nat.pow_add, show bitLen n - 1 + (64 - bitLen n) = 63 by omega] at this
    have e : ((n * 2 ^ (64 - bitLen n) : Nat) : Int) = (n : Int) * 2 ^ (64 - bitLen n) := by simp
    have h63 : (2 ^ 63 : Nat) = 9223372036854775808 := by decide
    omega
  · have : n * 2 ^ (64 - bitLen n) < 2 ^ bitLen n * 2 ^ (64 - bitLen n) := Nat.mul_lt_mul_of_pos_right hs.1 (Nat.two_pow_pos _)
    rw [← Nat.pow_add, show bitLen n + (64 - bitLen n) = 64 by omega] at this
    have e : ((n * 2 ^ (64 - bitLen n) : Nat) : Int) = (n : Int) * 2 ^ (64 - bitLen n) := by simp
    have h64 : (2 ^ 64 : Nat) = 18446744073709551616 := by decide
    omega
theorem shl_parts {a l y Y : Int} {k : Nat} (ha : 0 ≤ a) (hl : 0 ≤ l) (hl1 : l < 18446744073709551616) (hay : a < y) (hk : k ≤ 63) (hY : Y = y * 2 ^ k) (hY1 : Y < 18446744073709551616) :
    ∃ U, bits .or .u64 (wr .u64 (a * 2 ^ k)) (l.fdiv (2 ^ (64 - k))) = U ∧ 0 ≤ U ∧ U < Y ∧ (a * 18446744073709551616 + l) * 2 ^ k = U * 18446744073709551616 + wr .u64 (l * 2 ^ k) ∧ 0 ≤ wr .u64 (l * 2 ^ k) ∧ wr .u64 (l * 2 ^ k) < 18446744073709551616 := by
  obtain ⟨n, rfl⟩ := Int.eq_ofNat_of_zero_le ha
  obtain ⟨m, rfl⟩ := Int.eq_ofNat_of_zero_le hl
  have hp : 2 ^ 64 = 2 ^ (64 - k) * 2 ^ k := by rw [← Nat.pow_add]; congr 1; omega
  have h64 : (2 ^ 64 : Nat) = 18446744073709551616 := by decide
  have hp0 : 0 < 2 ^ (64 - k) := Nat.two_pow_pos _
  have hpk : 0 < 2 ^ k := Nat.two_pow_pos _
  obtain ⟨d, hd⟩ : ∃ d, d = 2 ^ (64 - k) := ⟨_, rfl⟩
  obtain ⟨e, he⟩ : ∃ e, e = 2 ^ k := ⟨_, rfl⟩
  have ed : (2 : Int) ^ (64 - k) = (d : Int) := by rw [hd]; simp
  have ee : (2 : Int) ^ k = (e : Int) := by rw [he]; simp
  rw [← hd, ← he] at hp
  rw [← hd] at hp0
  rw [← he] at hpk
  rw [ee] at hY
  have hle : (n : Int) * e + e ≤ Y := by
    have : ((n : Int) + 1) * e ≤ y * e := Int.mul_le_mul_of_nonneg_right (by omega) (by omega)
    rw [Int.add_mul, Int.one_mul] at this
    omega
  have hne : ((n * e : Nat) : Int) = (n : Int) * e := by simp
  have hne1 : n * e < 18446744073709551616 := by omega
  have hde := Nat.div_add_mod m d
  have hdm := Nat.mod_lt m hp0
  have hq : m / d < e := Nat.div_lt_of_lt_mul (by rw [← hp, h64]; omega)
  have e1 : wr .u64 ((n : Int) * 2 ^ k) = ((n * 2 ^ k : Nat) : Int) := by
    rw [ee, ← he, wr_u64 (by omega) (by omega), hne]
  have e2 : ((m : Nat) : Int).fdiv (2 ^ (64 - k)) = ((m / d : Nat) : Int) := by
    rw [ed, Int.fdiv_eq_ediv_of_nonneg _ (by omega)]; simp
  refine ⟨_, rfl, ?_⟩
  rw [e1, e2, or_add (k := k) (by omega) (by rw [← he]; exact hne1) (by rw [← he]; exact hq), ← he]
  have hme : (m : Int) * e = ((m / d * (d * e) + m % d * e : Nat) : Int) := by
    rw [← Nat.mul_assoc, ← Nat.add_mul, Nat.mul_comm (m / d) d, hde]; simp
  have hmd : m % d * e < d * e := Nat.mul_lt_mul_of_pos_right hdm hpk
  rw [← hp, h64] at hme hmd
  have ew : wr .u64 ((m : Int) * 2 ^ k) = ((m % d * e : Nat) : Int) := by
    rw [ee, hme, wr_defu]
    omega
  rw [ew]
  refine ⟨by omega, by omega, ?_, by omega, by omega⟩
  rw [ee, Int.add_mul, hme, Int.mul_right_comm, ← hne]
  omega
theorem c_math_bits_Div64 {x : Nat → Obj → Prop} (a l y : Int) (ha : 0 ≤ a) (hl : 0 ≤ l) (hl1 : l < 18446744073709551616) (hay : a < y) (hy1 : y < 18446744073709551616) :
    PureC Tryz.prog x 282 [.int .u64 a, .int .u64 l, .int .u64 y] (.tuple #[.int .u64 ((a * 18446744073709551616 + l) / y), .int .u64 ((a * 18446744073709551616 + l) % y)]) := by
  obtain ⟨k, hk, hk63, hY0, hY1⟩ := shl_norm (show 1 ≤ y by omega) hy1
  obtain ⟨Y, hY⟩ : ∃ Y, Y = y * 2 ^ k := ⟨_, rfl⟩
  rw [← hY] at hY0 hY1
  obtain ⟨U, hU, hU0, hU1, hUe, hl0, hl2⟩ := shl_parts ha hl hl1 hay hk63 hY hY1
  obtain ⟨L, hL⟩ : ∃ L, wr .u64 (l * 2 ^ k) = L := ⟨_, rfl⟩
  rw [hL] at hUe hl0 hl2
  have f0 : y ≠ 0 := by omega
  have f1 : (y == 0) = false := beq_eq_false_iff_ne.2 (by omega)
  have f2 : decide (y ≤ a) = false := decide_eq_false (by omega)
  have k0 : (0 : Int) ≤ (k : Int) := Int.natCast_nonneg k
  have k1 : k ≤ 64 := by omega
  have k2 : wr .u64 (k : Int) = (k : Int) := wr_u64 (by omega) (by omega)
  have k3 : wr .u64 (64 - (k : Int)) = ((64 - k : Nat) : Int) := by rw [wr_u64 (by omega) (by omega)]; omega
  have k4 : (0 : Int) ≤ ((64 - k : Nat) : Int) := Int.natCast_nonneg _
  have k5 : 64 - k ≤ 64 := by omega
  have e1 : wr .u64 (y * 2 ^ k) = Y := by rw [← hY]; exact wr_u64 (by omega) (by omega)
  have e2 := and_low32 Y (by omega) hY1
  have e3 := and_low32 L hl0 hl2
  by_cases h0 : a = 0
  · subst h0
    have g1 : wr .u64 (l.tdiv y) = l / y := by
      rw [Int.tdiv_eq_ediv_of_nonneg hl]
      have := Int.ediv_nonneg hl (show 0 ≤ y by omega)
      have := Int.ediv_le_self y hl
      exact wr_u64 (by omega) (by omega)
    have g2 : l.tmod y = l % y := Int.tmod_eq_emod_of_nonneg hl
    refine pureC_of_Sd Tryz.func282 rfl rfl fun w => ?_
    refine Sd_of_cW (by kernel_rfl) ?_
    repeat' (first | (with_reducible refine ifB_intro (fun _ => ?_) (fun _ => ?_)) | ((with_reducible show callW _ _ _ (some (308, _)) _ _); refine callP g_math_bits_LeadingZeros64 rfl (c_math_bits_LeadingZeros64 ..) ?_) | ((with_reducible show cW _ _ (.region 6 _ true) _ _); refine cW_drawF lx_282_6 (by kernel_rfl) mixed_ (by kernel_rfl) ?_) | ((fail_if_success (with_reducible refine stk ?_)); simp only [WE, Nat.reduceLeDiff, segX, Nat.reduceBEq, Nat.reduceAdd, Nat.reduceEqDiff, Int.reduceNeg, Int.reduceEq, Int.reduceBEq, Int.reduceLT, Int.reduceLE, Int.reduceBNe, Int.reduceToNat, Nat.reduceMul, Nat.reduceMod, Int.reducePow, reduceIte, ty_270, cv_3_145, Tryz.underlying3, Tryz.underlying144, Tryz.underlying145, rs_282, appX_nil, f0, f1, f2, g1, g2]))
    simp only [Int.zero_mul, Int.zero_add]
  have f3 : (a == 0) = false := beq_eq_false_iff_ne.2 h0
  obtain ⟨y1, hy1e⟩ : ∃ y1, Y / 4294967296 = y1 := ⟨_, rfl⟩
  obtain ⟨y0, hy0e⟩ : ∃ y0, Y % 4294967296 = y0 := ⟨_, rfl⟩
  obtain ⟨d1, hd1e⟩ : ∃ d1, L / 4294967296 = d1 := ⟨_, rfl⟩
  obtain ⟨d0, hd0e⟩ : ∃ d0, L % 4294967296 = d0 := ⟨_, rfl⟩
  rw [hy0e] at e2
  rw [hd0e] at e3
  have hYe : Y = y1 * 4294967296 + y0 := by omega
  have hy : DY U d1 y1 y0 := ⟨hU0, by omega, by omega, by omega, by omega, by omega, by omega, by omega⟩
  have y10 : y1 ≠ 0 := by have := hy.a1; omega
  obtain ⟨q, hq⟩ : ∃ q, (U * 4294967296 + d1) / Y = q := ⟨_, rfl⟩
  have hYp : 0 < Y := by omega
  have hN1 := Int.mul_ediv_add_emod (U * 4294967296 + d1) Y
  have hN2 := Int.emod_nonneg (U * 4294967296 + d1) (show Y ≠ 0 by omega)
  have hN3 := Int.emod_lt_of_pos (U * 4294967296 + d1) hYp
  rw [hq, Int.mul_comm] at hN1
  obtain ⟨V, hV⟩ : ∃ V, V = U * 4294967296 + d1 - q * Y := ⟨_, rfl⟩
  have hz : DY V d0 y1 y0 := ⟨by omega, by omega, by omega, by omega, hy.a1, hy.a2, hy.b1, hy.b2⟩
  obtain ⟨p, hp⟩ : ∃ p, (V * 4294967296 + d0) / Y = p := ⟨_, rfl⟩
  obtain ⟨hQ, hR⟩ := dig_two hYp (show (a * 18446744073709551616 + l) * 2 ^ k = U * 18446744073709551616 + d1 * 4294967296 + d0 by omega) hq hV hp
  have hp2 : (0 : Int) < 2 ^ k := Int.pow_pos (by decide)
  rw [hY, Int.mul_ediv_mul_of_pos_left _ _ hp2] at hQ
  rw [hY, Int.mul_comm _ (2 ^ k), Int.mul_comm y (2 ^ k), Int.mul_emod_mul_of_pos _ _ hp2, Int.mul_comm (2 ^ k) y, ← hY] at hR
  have eV : wr .u64 (wr .u64 (wr .u64 (U * 4294967296) + d1) - wr .u64 (q * Y)) = V := by
    have h1 := hz.u0
    have h2 := hz.u1
    simp only [wr_defu]
    generalize q * Y = A at *
    omega
  have eq0 : wr .u64 (V.tdiv y1) = V / y1 := by
    have h1 := hz.u0
    have h2 := hy.a1
    rw [Int.tdiv_eq_ediv_of_nonneg h1]
    have := Int.ediv_nonneg h1 (show 0 ≤ y1 by omega)
    have := Int.ediv_le_self y1 h1
    have := hz.u1
    exact wr_u64 (by omega) (by omega)
  have er0 : wr .u64 (V - wr .u64 (V / y1 * y1)) = V - V / y1 * y1 := by
    have h := (DI.start hz)
    have h1 := h.er
    have h2 := h.r0
    have h3 := h.r1
    have h4 := Int.mul_nonneg h.q0 (show 0 ≤ y1 by have := hy.a1; omega)
    have h5 := hz.u1
    have h6 := hz.u0
    generalize V / y1 * y1 = A at *
    rw [wr_u64 (n := A) (by omega) (by omega), wr_u64 (by omega) (by omega)]
  have eQ : wr .u64 (wr .u64 (q * 4294967296) + p) = (a * 18446744073709551616 + l) / y := by
    rw [hQ]
    have b1 : 0 ≤ (a * 18446744073709551616 + l) / y := Int.ediv_nonneg (by omega) (by omega)
    have b2 : (a * 18446744073709551616 + l) / y < 18446744073709551616 := Int.ediv_lt_of_lt_mul (by omega) (by
      have : (a + 1) * 18446744073709551616 ≤ y * 18446744073709551616 := by omega
      omega)
    rw [hQ] at b1 b2
    simp only [wr_defu]
    omega
  have eR : (wr .u64 (wr .u64 (wr .u64 (V * 4294967296) + d0) - wr .u64 (p * Y))).fdiv (2 ^ k) = (a * 18446744073709551616 + l) % y := by
    have hN4 := Int.mul_ediv_add_emod (V * 4294967296 + d0) Y
    have hN5 := Int.emod_nonneg (V * 4294967296 + d0) (show Y ≠ 0 by omega)
    have hN6 := Int.emod_lt_of_pos (V * 4294967296 + d0) hYp
    rw [hp, Int.mul_comm] at hN4
    have e : wr .u64 (wr .u64 (wr .u64 (V * 4294967296) + d0) - wr .u64 (p * Y)) = V * 4294967296 + d0 - p * Y := by
      simp only [wr_defu]
      generalize p * Y = A at *
      omega
    rw [e, ← hR, Int.fdiv_eq_ediv_of_nonneg _ (by omega), Int.mul_ediv_cancel_left _ (by omega)]
  have eq1 : wr .u64 (U.tdiv y1) = U / y1 := by
    have h2 := hy.a1
    rw [Int.tdiv_eq_ediv_of_nonneg hU0]
    have := Int.ediv_nonneg hU0 (show 0 ≤ y1 by omega)
    have := Int.ediv_le_self y1 hU0
    exact wr_u64 (by omega) (by omega)
  have er1 : wr .u64 (U - wr .u64 (U / y1 * y1)) = U - U / y1 * y1 := by
    have h := (DI.start hy)
    have h1 := h.er
    have h2 := h.r0
    have h3 := h.r1
    have h4 := Int.mul_nonneg h.q0 (show 0 ≤ y1 by have := hy.a1; omega)
    generalize U / y1 * y1 = A at *
    rw [wr_u64 (n := A) (by omega) (by omega), wr_u64 (by omega) (by omega)]
  refine pureC_of_Sd Tryz.func282 rfl rfl fun w => ?_
  refine Sd_of_cW (by kernel_rfl) ?_
  repeat' (first | (with_reducible refine ifB_intro (fun _ => ?_) (fun _ => ?_)) | ((with_reducible show callW _ _ _ (some (308, _)) _ _); refine callP g_math_bits_LeadingZeros64 rfl (c_math_bits_LeadingZeros64 y k (by omega) hy1 hk) ?_) | ((with_reducible show cW _ _ (.region 6 _ true) _ _); refine cW_drawF lx_282_6 (by kernel_rfl) mixed_ (by kernel_rfl) ?_) | ((fail_if_success (with_reducible refine stk ?_)); simp only [WE, Nat.reduceLeDiff, segX, Nat.reduceBEq, Nat.reduceAdd, Nat.reduceEqDiff, Int.reduceNeg, Int.reduceEq, Int.reduceBEq, Int.reduceLT, Int.reduceLE, Int.reduceBNe, Int.reduceToNat, Nat.reduceMul, Nat.reduceMod, Int.reducePow, reduceIte, ty_270, cv_3_145, Tryz.underlying3, Tryz.underlying144, Tryz.underlying145, rs_282, appX_nil, bw_or, f1, f2, f3, k0, k1, k2, k3, k4, k5, e1, fd_32, hy1e, e2, Int.toNat_natCast, hL, hU, hd1e, e3, y10, eq1, er1]))
  refine cW_loopA (α := Int × Int) (fun z => ⟨[(2, .ext (.int .u64 Y)), (8, .ext (.int .u64 k)), (9, .ext (.int .u64 y1)), (10, .ext (.int .u64 y0)), (11, .ext (.int .u64 U)), (13, .ext (.int .u64 d1)), (14, .ext (.int .u64 d0)), (15, .ext (.int .u64 z.1)), (16, .ext (.int .u64 z.2))], [], x⟩)
    (fun z => DI U d1 y1 y0 z.1 z.2) (fun z => (4294967296 - z.2).toNat)
    ⟨(U / y1, U - U / y1 * y1), Wk_of' ⟨⟨rfl, rfl⟩, ⟨rfl, rfl⟩, ⟨rfl, rfl⟩, ⟨rfl, rfl⟩, ⟨rfl, rfl⟩, ⟨rfl, rfl⟩, ⟨rfl, rfl⟩, ⟨rfl, rfl⟩, ⟨rfl, rfl⟩, trivial⟩ trivial rfl, DI.start hy⟩ (by kernel_rfl) ?_
  rintro ⟨q', r'⟩ hD
  dsimp only at hD ⊢
  have g1 := hD.q0
  have g2 := hD.q1
  have g3 := hD.r0
  have g4 := hD.r1
  have g5 := hy.a1
  have g6 := hy.a2
  have g7 := hy.d0
  have g8 := hy.d1
  have er : wr .u64 (r' + y1) = r' + y1 := wr_u64 (by omega) (by omega)
  by_cases hc1 : 4294967296 ≤ q'
  · have t1 : decide (4294967296 ≤ q') = true := decide_eq_true hc1
    have e9 : wr .u64 (q' - 1) = q' - 1 := by have := (hD.more hy (.inl hc1)).2; exact wr_u64 (by omega) (by omega)
    by_cases hr : r' + y1 < 4294967296
    · have t3 : decide (4294967296 ≤ r' + y1) = false := decide_eq_false (by omega)
      repeat' (first | (with_reducible refine ifB_intro (fun _ => ?_) (fun _ => ?_)) | ((with_reducible show callW _ _ _ (some (308, _)) _ _); refine callP g_math_bits_LeadingZeros64 rfl (c_math_bits_LeadingZeros64 y k (by omega) hy1 hk) ?_) | ((with_reducible show cW _ _ (.region 6 _ true) _ _); refine cW_drawF lx_282_6 (by kernel_rfl) mixed_ (by kernel_rfl) ?_) | ((fail_if_success (with_reducible refine stk ?_)); simp only [WE, Nat.reduceLeDiff, segX, Nat.reduceBEq, Nat.reduceAdd, Nat.reduceEqDiff, Int.reduceNeg, Int.reduceEq, Int.reduceBEq, Int.reduceLT, Int.reduceLE, Int.reduceBNe, Int.reduceToNat, Nat.reduceMul, Nat.reduceMod, Int.reducePow, reduceIte, ty_270, cv_3_145, Tryz.underlying3, Tryz.underlying144, Tryz.underlying145, rs_282, appX_nil, t1, e9, er, t3, eV, eq0, er0, y10]))
      exact ⟨(q' - 1, r' + y1), Wk_of' ⟨⟨rfl, rfl⟩, ⟨rfl, rfl⟩, ⟨rfl, rfl⟩, ⟨rfl, rfl⟩, ⟨rfl, rfl⟩, ⟨rfl, rfl⟩, ⟨rfl, rfl⟩, ⟨rfl, rfl⟩, ⟨rfl, rfl⟩, trivial⟩ trivial rfl, hD.next hy (.inl hc1) hr, by dsimp only; omega⟩
    · have t3 : decide (4294967296 ≤ r' + y1) = true := decide_eq_true (by omega)
      have e8 : wr .u64 (q' - 1) = q := e9.trans ((hD.last hy (.inl hc1) (by omega)).symm.trans (by rw [← hYe]; exact hq))
      repeat' (first | (with_reducible refine ifB_intro (fun _ => ?_) (fun _ => ?_)) | ((with_reducible show callW _ _ _ (some (308, _)) _ _); refine callP g_math_bits_LeadingZeros64 rfl (c_math_bits_LeadingZeros64 y k (by omega) hy1 hk) ?_) | ((with_reducible show cW _ _ (.region 6 _ true) _ _); refine cW_drawF lx_282_6 (by kernel_rfl) mixed_ (by kernel_rfl) ?_) | ((fail_if_success (with_reducible refine stk ?_)); simp only [WE, Nat.reduceLeDiff, segX, Nat.reduceBEq, Nat.reduceAdd, Nat.reduceEqDiff, Int.reduceNeg, Int.reduceEq, Int.reduceBEq, Int.reduceLT, Int.reduceLE, Int.reduceBNe, Int.reduceToNat, Nat.reduceMul, Nat.reduceMod, Int.reducePow, reduceIte, ty_270, cv_3_145, Tryz.underlying3, Tryz.underlying144, Tryz.underlying145, rs_282, appX_nil, t1, er, t3, e8, eV, eq0, er0, y10]))
      refine cW_loopA (α := Int × Int) (fun z => ⟨[(2, .ext (.int .u64 Y)), (8, .ext (.int .u64 k)), (9, .ext (.int .u64 y1)), (10, .ext (.int .u64 y0)), (14, .ext (.int .u64 d0)), (15, .ext (.int .u64 q)), (16, .ext (.int .u64 z.2)), (17, .ext (.int .u64 V)), (18, .ext (.int .u64 z.1))], [], x⟩)
        (fun z => DI V d0 y1 y0 z.1 z.2) (fun z => (4294967296 - z.2).toNat)
        ⟨(V / y1, V - V / y1 * y1), Wk_of' ⟨⟨rfl, rfl⟩, ⟨rfl, rfl⟩, ⟨rfl, rfl⟩, ⟨rfl, rfl⟩, ⟨rfl, rfl⟩, ⟨rfl, rfl⟩, ⟨rfl, rfl⟩, ⟨rfl, rfl⟩, ⟨rfl, rfl⟩, trivial⟩ trivial rfl, DI.start hz⟩ (by kernel_rfl) ?_
      rintro ⟨p', s'⟩ hE
      dsimp only at hE ⊢
      have g1 := hE.q0
      have g2 := hE.q1
      have g3 := hE.r0
      have g4 := hE.r1
      have g5 := hy.a1
      have g6 := hy.a2
      have g7 := hz.d0
      have g8 := hz.d1
      have er : wr .u64 (s' + y1) = s' + y1 := wr_u64 (by omega) (by omega)
      by_cases hc1 : 4294967296 ≤ p'
      · have t1 : decide (4294967296 ≤ p') = true := decide_eq_true hc1
        have e9 : wr .u64 (p' - 1) = p' - 1 := by have := (hE.more hz (.inl hc1)).2; exact wr_u64 (by omega) (by omega)
        by_cases hr : s' + y1 < 4294967296
        · have t3 : decide (4294967296 ≤ s' + y1) = false := decide_eq_false (by omega)
          repeat' (first | (with_reducible refine ifB_intro (fun _ => ?_) (fun _ => ?_)) | ((with_reducible show callW _ _ _ (some (308, _)) _ _); refine callP g_math_bits_LeadingZeros64 rfl (c_math_bits_LeadingZeros64 y k (by omega) hy1 hk) ?_) | ((with_reducible show cW _ _ (.region 6 _ true) _ _); refine cW_drawF lx_282_6 (by kernel_rfl) mixed_ (by kernel_rfl) ?_) | ((fail_if_success (with_reducible refine stk ?_)); simp only [WE, Nat.reduceLeDiff, segX, Nat.reduceBEq, Nat.reduceAdd, Nat.reduceEqDiff, Int.reduceNeg, Int.reduceEq, Int.reduceBEq, Int.reduceLT, Int.reduceLE, Int.reduceBNe, Int.reduceToNat, Nat.reduceMul, Nat.reduceMod, Int.reducePow, reduceIte, ty_270, cv_3_145, Tryz.underlying3, Tryz.underlying144, Tryz.underlying145, rs_282, appX_nil, t1, e9, er, t3, k0, k1, Int.toNat_natCast, eQ, eR]))
          exact ⟨(p' - 1, s' + y1), Wk_of' ⟨⟨rfl, rfl⟩, ⟨rfl, rfl⟩, ⟨rfl, rfl⟩, ⟨rfl, rfl⟩, ⟨rfl, rfl⟩, ⟨rfl, rfl⟩, ⟨rfl, rfl⟩, ⟨rfl, rfl⟩, ⟨rfl, rfl⟩, trivial⟩ trivial rfl, hE.next hz (.inl hc1) hr, by dsimp only; omega⟩
        · have t3 : decide (4294967296 ≤ s' + y1) = true := decide_eq_true (by omega)
          have e8 : wr .u64 (p' - 1) = p := e9.trans ((hE.last hz (.inl hc1) (by omega)).symm.trans (by rw [← hYe]; exact hp))
          repeat' (first | (with_reducible refine ifB_intro (fun _ => ?_) (fun _ => ?_)) | ((with_reducible show callW _ _ _ (some (308, _)) _ _); refine callP g_math_bits_LeadingZeros64 rfl (c_math_bits_LeadingZeros64 y k (by omega) hy1 hk) ?_) | ((with_reducible show cW _ _ (.region 6 _ true) _ _); refine cW_drawF lx_282_6 (by kernel_rfl) mixed_ (by kernel_rfl) ?_) | ((fail_if_success (with_reducible refine stk ?_)); simp only [WE, Nat.reduceLeDiff, segX, Nat.reduceBEq, Nat.reduceAdd, Nat.reduceEqDiff, Int.reduceNeg, Int.reduceEq, Int.reduceBEq, Int.reduceLT, Int.reduceLE, Int.reduceBNe, Int.reduceToNat, Nat.reduceMul, Nat.reduceMod, Int.reducePow, reduceIte, ty_270, cv_3_145, Tryz.underlying3, Tryz.underlying144, Tryz.underlying145, rs_282, appX_nil, t1, er, t3, e8, k0, k1, Int.toNat_natCast, eQ, eR]))
          skip
      · have t1 : decide (4294967296 ≤ p') = false := decide_eq_false hc1
        have hs := hE.small hz (by omega)
        have w1 : wr .u64 (p' * y0) = p' * y0 := wr_u64 (by omega) (by omega)
        have w2 : wr .u64 (4294967296 * s') = 4294967296 * s' := wr_u64 (by omega) (by omega)
        have w3 : wr .u64 (4294967296 * s' + d0) = 4294967296 * s' + d0 := wr_u64 (by omega) (by omega)
        by_cases hc2 : 4294967296 * s' + d0 < p' * y0
        · have t2 : decide (4294967296 * s' + d0 < p' * y0) = true := decide_eq_true hc2
          have e9 : wr .u64 (p' - 1) = p' - 1 := by have := (hE.more hz (.inr hc2)).2; exact wr_u64 (by omega) (by omega)
          by_cases hr : s' + y1 < 4294967296
          · have t3 : decide (4294967296 ≤ s' + y1) = false := decide_eq_false (by omega)
            repeat' (first | (with_reducible refine ifB_intro (fun _ => ?_) (fun _ => ?_)) | ((with_reducible show callW _ _ _ (some (308, _)) _ _); refine callP g_math_bits_LeadingZeros64 rfl (c_math_bits_LeadingZeros64 y k (by omega) hy1 hk) ?_) | ((with_reducible show cW _ _ (.region 6 _ true) _ _); refine cW_drawF lx_282_6 (by kernel_rfl) mixed_ (by kernel_rfl) ?_) | ((fail_if_success (with_reducible refine stk ?_)); simp only [WE, Nat.reduceLeDiff, segX, Nat.reduceBEq, Nat.reduceAdd, Nat.reduceEqDiff, Int.reduceNeg, Int.reduceEq, Int.reduceBEq, Int.reduceLT, Int.reduceLE, Int.reduceBNe, Int.reduceToNat, Nat.reduceMul, Nat.reduceMod, Int.reducePow, reduceIte, ty_270, cv_3_145, Tryz.underlying3, Tryz.underlying144, Tryz.underlying145, rs_282, appX_nil, t1, t2, w1, w2, w3, e9, er, t3, k0, k1, Int.toNat_natCast, eQ, eR]))
            exact ⟨(p' - 1, s' + y1), Wk_of' ⟨⟨rfl, rfl⟩, ⟨rfl, rfl⟩, ⟨rfl, rfl⟩, ⟨rfl, rfl⟩, ⟨rfl, rfl⟩, ⟨rfl, rfl⟩, ⟨rfl, rfl⟩, ⟨rfl, rfl⟩, ⟨rfl, rfl⟩, trivial⟩ trivial rfl, hE.next hz (.inr hc2) hr, by dsimp only; omega⟩
          · have t3 : decide (4294967296 ≤ s' + y1) = true := decide_eq_true (by omega)
            have e8 : wr .u64 (p' - 1) = p := e9.trans ((hE.last hz (.inr hc2) (by omega)).symm.trans (by rw [← hYe]; exact hp))
            repeat' (first | (with_reducible refine ifB_intro (fun _ => ?_) (fun _ => ?_)) | ((with_reducible show callW _ _ _ (some (308, _)) _ _); refine callP g_math_bits_LeadingZeros64 rfl (c_math_bits_LeadingZeros64 y k (by omega) hy1 hk) ?_) | ((with_reducible show cW _ _ (.region 6 _ true) _ _); refine cW_drawF lx_282_6 (by kernel_rfl) mixed_ (by kernel_rfl) ?_) | ((fail_if_success (with_reducible refine stk ?_)); simp only [WE, Nat.reduceLeDiff, segX, Nat.reduceBEq, Nat.reduceAdd, Nat.reduceEqDiff, Int.reduceNeg, Int.reduceEq, Int.reduceBEq, Int.reduceLT, Int.reduceLE, Int.reduceBNe, Int.reduceToNat, Nat.reduceMul, Nat.reduceMod, Int.reducePow, reduceIte, ty_270, cv_3_145, Tryz.underlying3, Tryz.underlying144, Tryz.underlying145, rs_282, appX_nil, t1, t2, w1, w2, w3, er, t3, e8, k0, k1, Int.toNat_natCast, eQ, eR]))
            skip
        · have t2 : decide (4294967296 * s' + d0 < p' * y0) = false := decide_eq_false hc2
          have e8 : p' = p := ((hE.done hz (by omega)).symm.trans (by rw [← hYe]; exact hp))
          rw [e8] at t1 t2 w1 ⊢
          repeat' (first | (with_reducible refine ifB_intro (fun _ => ?_) (fun _ => ?_)) | ((with_reducible show callW _ _ _ (some (308, _)) _ _); refine callP g_math_bits_LeadingZeros64 rfl (c_math_bits_LeadingZeros64 y k (by omega) hy1 hk) ?_) | ((with_reducible show cW _ _ (.region 6 _ true) _ _); refine cW_drawF lx_282_6 (by kernel_rfl) mixed_ (by kernel_rfl) ?_) | ((fail_if_success (with_reducible refine stk ?_)); simp only [WE, Nat.reduceLeDiff, segX, Nat.reduceBEq, Nat.reduceAdd, Nat.reduceEqDiff, Int.reduceNeg, Int.reduceEq, Int.reduceBEq, Int.reduceLT, Int.reduceLE, Int.reduceBNe, Int.reduceToNat, Nat.reduceMul, Nat.reduceMod, Int.reducePow, reduceIte, ty_270, cv_3_145, Tryz.underlying3, Tryz.underlying144, Tryz.underlying145, rs_282, appX_nil, t1, t2, w1, w2, w3, k0, k1, Int.toNat_natCast, eQ, eR]))
          skip
  · have t1 : decide (4294967296 ≤ q') = false := decide_eq_false hc1
    have hs := hD.small hy (by omega)
    have w1 : wr .u64 (q' * y0) = q' * y0 := wr_u64 (by omega) (by omega)
    have w2 : wr .u64 (4294967296 * r') = 4294967296 * r' := wr_u64 (by omega) (by omega)
    have w3 : wr .u64 (4294967296 * r' + d1) = 4294967296 * r' + d1 := wr_u64 (by omega) (by omega)
    by_cases hc2 : 4294967296 * r' + d1 < q' * y0
    · have t2 : decide (4294967296 * r' + d1 < q' * y0) = true := decide_eq_true hc2
      have e9 : wr .u64 (q' - 1) = q' - 1 := by have := (hD.more hy (.inr hc2)).2; exact wr_u64 (by omega) (by omega)
      by_cases hr : r' + y1 < 4294967296
      · have t3 : decide (4294967296 ≤ r' + y1) = false := decide_eq_false (by omega)
        repeat' (first | (with_reducible refine ifB_intro (fun _ => ?_) (fun _ => ?_)) | ((with_reducible show callW _ _ _ (some (308, _)) _ _); refine callP g_math_bits_LeadingZeros64 rfl (c_math_bits_LeadingZeros64 y k (by omega) hy1 hk) ?_) | ((with_reducible show cW _ _ (.region 6 _ true) _ _); refine cW_drawF lx_282_6 (by kernel_rfl) mixed_ (by kernel_rfl) ?_) | ((fail_if_success (with_reducible refine stk ?_)); simp only [WE, Nat.reduceLeDiff, segX, Nat.reduceBEq, Nat.reduceAdd, Nat.reduceEqDiff, Int.reduceNeg, Int.reduceEq, Int.reduceBEq, Int.reduceLT, Int.reduceLE, Int.reduceBNe, Int.reduceToNat, Nat.reduceMul, Nat.reduceMod, Int.reducePow, reduceIte, ty_270, cv_3_145, Tryz.underlying3, Tryz.underlying144, Tryz.underlying145, rs_282, appX_nil, t1, t2, w1, w2, w3, e9, er, t3, eV, eq0, er0, y10]))
        exact ⟨(q' - 1, r' + y1), Wk_of' ⟨⟨rfl, rfl⟩, ⟨rfl, rfl⟩, ⟨rfl, rfl⟩, ⟨rfl, rfl⟩, ⟨rfl, rfl⟩, ⟨rfl, rfl⟩, ⟨rfl, rfl⟩, ⟨rfl, rfl⟩, ⟨rfl, rfl⟩, trivial⟩ trivial rfl, hD.next hy (.inr hc2) hr, by dsimp only; omega⟩
      · have t3 : decide (4294967296 ≤ r' + y1) = true := decide_eq_true (by omega)
        have e8 : wr .u64 (q' - 1) = q := e9.trans ((hD.last hy (.inr hc2) (by omega)).symm.trans (by rw [← hYe]; exact hq))
        repeat' (first | (with_reducible refine ifB_intro (fun _ => ?_) (fun _ => ?_)) | ((with_reducible show callW _ _ _ (some (308, _)) _ _); refine callP g_math_bits_LeadingZeros64 rfl (c_math_bits_LeadingZeros64 y k (by omega) hy1 hk) ?_) | ((with_reducible show cW _ _ (.region 6 _ true) _ _); refine cW_drawF lx_282_6 (by kernel_rfl) mixed_ (by kernel_rfl) ?_) | ((fail_if_success (with_reducible refine stk ?_)); simp only [WE, Nat.reduceLeDiff, segX, Nat.reduceBEq, Nat.reduceAdd, Nat.reduceEqDiff, Int.reduceNeg, Int.reduceEq, Int.reduceBEq, Int.reduceLT, Int.reduceLE, Int.reduceBNe, Int.reduceToNat, Nat.reduceMul, Nat.reduceMod, Int.reducePow, reduceIte, ty_270, cv_3_145, Tryz.underlying3, Tryz.underlying144, Tryz.underlying145, rs_282, appX_nil, t1, t2, w1, w2, w3, er, t3, e8, eV, eq0, er0, y10]))
        refine cW_loopA (α := Int × Int) (fun z => ⟨[(2, .ext (.int .u64 Y)), (8, .ext (.int .u64 k)), (9, .ext (.int .u64 y1)), (10, .ext (.int .u64 y0)), (14, .ext (.int .u64 d0)), (15, .ext (.int .u64 q)), (16, .ext (.int .u64 z.2)), (17, .ext (.int .u64 V)), (18, .ext (.int .u64 z.1))], [], x⟩)
          (fun z => DI V d0 y1 y0 z.1 z.2) (fun z => (4294967296 - z.2).toNat)
          ⟨(V / y1, V - V / y1 * y1), Wk_of' ⟨⟨rfl, rfl⟩, ⟨rfl, rfl⟩, ⟨rfl, rfl⟩, ⟨rfl, rfl⟩, ⟨rfl, rfl⟩, ⟨rfl, rfl⟩, ⟨rfl, rfl⟩, ⟨rfl, rfl⟩, ⟨rfl, rfl⟩, trivial⟩ trivial rfl, DI.start hz⟩ (by kernel_rfl) ?_
        rintro ⟨p', s'⟩ hE
        dsimp only at hE ⊢
        have g1 := hE.q0
        have g2 := hE.q1
        have g3 := hE.r0
        have g4 := hE.r1
        have g5 := hy.a1
        have g6 := hy.a2
        have g7 := hz.d0
        have g8 := hz.d1
        have er : wr .u64 (s' + y1) = s' + y1 := wr_u64 (by omega) (by omega)
        by_cases hc1 : 4294967296 ≤ p'
        · have t1 : decide (4294967296 ≤ p') = true := decide_eq_true hc1
          have e9 : wr .u64 (p' - 1) = p' - 1 := by have := (hE.more hz (.inl hc1)).2; exact wr_u64 (by omega) (by omega)
          by_cases hr : s' + y1 < 4294967296
          · have t3 : decide (4294967296 ≤ s' + y1) = false := decide_eq_false (by omega)
            repeat' (first | (with_reducible refine ifB_intro (fun _ => ?_) (fun _ => ?_)) | ((with_reducible show callW _ _ _ (some (308, _)) _ _); refine callP g_math_bits_LeadingZeros64 rfl (c_math_bits_LeadingZeros64 y k (by omega) hy1 hk) ?_) | ((with_reducible show cW _ _ (.region 6 _ true) _ _); refine cW_drawF lx_282_6 (by kernel_rfl) mixed_ (by kernel_rfl) ?_) | ((fail_if_success (with_reducible refine stk ?_)); simp only [WE, Nat.reduceLeDiff, segX, Nat.reduceBEq, Nat.reduceAdd, Nat.reduceEqDiff, Int.reduceNeg, Int.reduceEq, Int.reduceBEq, Int.reduceLT, Int.reduceLE, Int.reduceBNe, Int.reduceToNat, Nat.reduceMul, Nat.reduceMod, Int.reducePow, reduceIte, ty_270, cv_3_145, Tryz.underlying3, Tryz.underlying144, Tryz.underlying145, rs_282, appX_nil, t1, e9, er, t3, k0, k1, Int.toNat_natCast, eQ, eR]))
            exact ⟨(p' - 1, s' + y1), Wk_of' ⟨⟨rfl, rfl⟩, ⟨rfl, rfl⟩, ⟨rfl, rfl⟩, ⟨rfl, rfl⟩, ⟨rfl, rfl⟩, ⟨rfl, rfl⟩, ⟨rfl, rfl⟩, ⟨rfl, rfl⟩, ⟨rfl, rfl⟩, trivial⟩ trivial rfl, hE.next hz (.inl hc1) hr, by dsimp only; omega⟩
          · have t3 : decide (4294967296 ≤ s' + y1) = true := decide_eq_true (by omega)
            have e8 : wr .u64 (p' - 1) = p := e9.trans ((hE.last hz (.inl hc1) (by omega)).symm.trans (by rw [← hYe]; exact hp))
            repeat' (first | (with_reducible refine ifB_intro (fun _ => ?_) (fun _ => ?_)) | ((with_reducible show callW _ _ _ (some (308, _)) _ _); refine callP g_math_bits_LeadingZeros64 rfl (c_math_bits_LeadingZeros64 y k (by omega) hy1 hk) ?_) | ((with_reducible show cW _ _ (.region 6 _ true) _ _); refine cW_drawF lx_282_6 (by kernel_rfl) mixed_ (by kernel_rfl) ?_) | ((fail_if_success (with_reducible refine stk ?_)); simp only [WE, Nat.reduceLeDiff, segX, Nat.reduceBEq, Nat.reduceAdd, Nat.reduceEqDiff, Int.reduceNeg, Int.reduceEq, Int.reduceBEq, Int.reduceLT, Int.reduceLE, Int.reduceBNe, Int.reduceToNat, Nat.reduceMul, Nat.reduceMod, Int.reducePow, reduceIte, ty_270, cv_3_145, Tryz.underlying3, Tryz.underlying144, Tryz.underlying145, rs_282, appX_nil, t1, er, t3, e8, k0, k1, Int.toNat_natCast, eQ, eR]))
            skip
        · have t1 : decide (4294967296 ≤ p') = false := decide_eq_false hc1
          have hs := hE.small hz (by omega)
          have w1 : wr .u64 (p' * y0) = p' * y0 := wr_u64 (by omega) (by omega)
          have w2 : wr .u64 (4294967296 * s') = 4294967296 * s' := wr_u64 (by omega) (by omega)
          have w3 : wr .u64 (4294967296 * s' + d0) = 4294967296 * s' + d0 := wr_u64 (by omega) (by omega)
          by_cases hc2 : 4294967296 * s' + d0 < p' * y0
          · have t2 : decide (4294967296 * s' + d0 < p' * y0) = true := decide_eq_true hc2
            have e9 : wr .u64 (p' - 1) = p' - 1 := by have := (hE.more hz (.inr hc2)).2; exact wr_u64 (by omega) (by omega)
            by_cases hr : s' + y1 < 4294967296
            · have t3 : decide (4294967296 ≤ s' + y1) = false := decide_eq_false (by omega)
              repeat' (first | (with_reducible refine ifB_intro (fun _ => ?_) (fun _ => ?_)) | ((with_reducible show callW _ _ _ (some (308, _)) _ _); refine callP g_math_bits_LeadingZeros64 rfl (c_math_bits_LeadingZeros64 y k (by omega) hy1 hk) ?_) | ((with_reducible show cW _ _ (.region 6 _ true) _ _); refine cW_drawF lx_282_6 (by kernel_rfl) mixed_ (by kernel_rfl) ?_) | ((fail_if_success (with_reducible refine stk ?_)); simp only [WE, Nat.reduceLeDiff, segX, Nat.reduceBEq, Nat.reduceAdd, Nat.reduceEqDiff, Int.reduceNeg, Int.reduceEq, Int.reduceBEq, Int.reduceLT, Int.reduceLE, Int.reduceBNe, Int.reduceToNat, Nat.reduceMul, Nat.reduceMod, Int.reducePow, reduceIte, ty_270, cv_3_145, Tryz.underlying3, Tryz.underlying144, Tryz.underlying145, rs_282, appX_nil, t1, t2, w1, w2, w3, e9, er, t3, k0, k1, Int.toNat_natCast, eQ, eR]))
              exact ⟨(p' - 1, s' + y1), Wk_of' ⟨⟨rfl, rfl⟩, ⟨rfl, rfl⟩, ⟨rfl, rfl⟩, ⟨rfl, rfl⟩, ⟨rfl, rfl⟩, ⟨rfl, rfl⟩, ⟨rfl, rfl⟩, ⟨rfl, rfl⟩, ⟨rfl, rfl⟩, trivial⟩ trivial rfl, hE.next hz (.inr hc2) hr, by dsimp only; omega⟩
            · have t3 : decide (4294967296 ≤ s' + y1) = true := decide_eq_true (by omega)
              have e8 : wr .u64 (p' - 1) = p := e9.trans ((hE.last hz (.inr hc2) (by omega)).symm.trans (by rw [← hYe]; exact hp))
              repeat' (first | (with_reducible refine ifB_intro (fun _ => ?_) (fun _ => ?_)) | ((with_reducible show callW _ _ _ (some (308, _)) _ _); refine callP g_math_bits_LeadingZeros64 rfl (c_math_bits_LeadingZeros64 y k (by omega) hy1 hk) ?_) | ((with_reducible show cW _ _ (.region 6 _ true) _ _); refine cW_drawF lx_282_6 (by kernel_rfl) mixed_ (by kernel_rfl) ?_) | ((fail_if_success (with_reducible refine stk ?_)); simp only [WE, Nat.reduceLeDiff, segX, Nat.reduceBEq, Nat.reduceAdd, Nat.reduceEqDiff, Int.reduceNeg, Int.reduceEq, Int.reduceBEq, Int.reduceLT, Int.reduceLE, Int.reduceBNe, Int.reduceToNat, Nat.reduceMul, Nat.reduceMod, Int.reducePow, reduceIte, ty_270, cv_3_145, Tryz.underlying3, Tryz.underlying144, Tryz.underlying145, rs_282, appX_nil, t1, t2, w1, w2, w3, er, t3, e8, k0, k1, Int.toNat_natCast, eQ, eR]))
              skip
          · have t2 : decide (4294967296 * s' + d0 < p' * y0) = false := decide_eq_false hc2
            have e8 : p' = p := ((hE.done hz (by omega)).symm.trans (by rw [← hYe]; exact hp))
            rw [e8] at t1 t2 w1 ⊢
            repeat' (first | (with_reducible refine ifB_intro (fun _ => ?_) (fun _ => ?_)) | ((with_reducible show callW _ _ _ (some (308, _)) _ _); refine callP g_math_bits_LeadingZeros64 rfl (c_math_bits_LeadingZeros64 y k (by omega) hy1 hk) ?_) | ((with_reducible show cW _ _ (.region 6 _ true) _ _); refine cW_drawF lx_282_6 (by kernel_rfl) mixed_ (by kernel_rfl) ?_) | ((fail_if_success (with_reducible refine stk ?_)); simp only [WE, Nat.reduceLeDiff, segX, Nat.reduceBEq, Nat.reduceAdd, Nat.reduceEqDiff, Int.reduceNeg, Int.reduceEq, Int.reduceBEq, Int.reduceLT, Int.reduceLE, Int.reduceBNe, Int.reduceToNat, Nat.reduceMul, Nat.reduceMod, Int.reducePow, reduceIte, ty_270, cv_3_145, Tryz.underlying3, Tryz.underlying144, Tryz.underlying145, rs_282, appX_nil, t1, t2, w1, w2, w3, k0, k1, Int.toNat_natCast, eQ, eR]))
            skip
    · have t2 : decide (4294967296 * r' + d1 < q' * y0) = false := decide_eq_false hc2
      have e8 : q' = q := ((hD.done hy (by omega)).symm.trans (by rw [← hYe]; exact hq))
      rw [e8] at t1 t2 w1 ⊢
      repeat' (first | (with_reducible refine ifB_intro (fun _ => ?_) (fun _ => ?_)) | ((with_reducible show callW _ _ _ (some (308, _)) _ _); refine callP g_math_bits_LeadingZeros64 rfl (c_math_bits_LeadingZeros64 y k (by omega) hy1 hk) ?_) | ((with_reducible show cW _ _ (.region 6 _ true) _ _); refine cW_drawF lx_282_6 (by kernel_rfl) mixed_ (by kernel_rfl) ?_) | ((fail_if_success (with_reducible refine stk ?_)); simp only [WE, Nat.reduceLeDiff, segX, Nat.reduceBEq, Nat.reduceAdd, Nat.reduceEqDiff, Int.reduceNeg, Int.reduceEq, Int.reduceBEq, Int.reduceLT, Int.reduceLE, Int.reduceBNe, Int.reduceToNat, Nat.reduceMul, Nat.reduceMod, Int.reducePow, reduceIte, ty_270, cv_3_145, Tryz.underlying3, Tryz.underlying144, Tryz.underlying145, rs_282, appX_nil, t1, t2, w1, w2, w3, eV, eq0, er0, y10]))
      refine cW_loopA (α := Int × Int) (fun z => ⟨[(2, .ext (.int .u64 Y)), (8, .ext (.int .u64 k)), (9, .ext (.int .u64 y1)), (10, .ext (.int .u64 y0)), (14, .ext (.int .u64 d0)), (15, .ext (.int .u64 q)), (16, .ext (.int .u64 z.2)), (17, .ext (.int .u64 V)), (18, .ext (.int .u64 z.1))], [], x⟩)
        (fun z => DI V d0 y1 y0 z.1 z.2) (fun z => (4294967296 - z.2).toNat)
        ⟨(V / y1, V - V / y1 * y1), Wk_of' ⟨⟨rfl, rfl⟩, ⟨rfl, rfl⟩, ⟨rfl, rfl⟩, ⟨rfl, rfl⟩, ⟨rfl, rfl⟩, ⟨rfl, rfl⟩, ⟨rfl, rfl⟩, ⟨rfl, rfl⟩, ⟨rfl, rfl⟩, trivial⟩ trivial rfl, DI.start hz⟩ (by kernel_rfl) ?_
      rintro ⟨p', s'⟩ hE
      dsimp only at hE ⊢
      have g1 := hE.q0
      have g2 := hE.q1
      have g3 := hE.r0
      have g4 := hE.r1
      have g5 := hy.a1
      have g6 := hy.a2
      have g7 := hz.d0
      have g8 := hz.d1
      have er : wr .u64 (s' + y1) = s' + y1 := wr_u64 (by omega) (by omega)
      by_cases hc1 : 4294967296 ≤ p'
      · have t1 : decide (4294967296 ≤ p') = true := decide_eq_true hc1
        have e9 : wr .u64 (p' - 1) = p' - 1 := by have := (hE.more hz (.inl hc1)).2; exact wr_u64 (by omega) (by omega)
        by_cases hr : s' + y1 < 4294967296
        · have t3 : decide (4294967296 ≤ s' + y1) = false := decide_eq_false (by omega)
          repeat' (first | (with_reducible refine ifB_intro (fun _ => ?_) (fun _ => ?_)) | ((with_reducible show callW _ _ _ (some (308, _)) _ _); refine callP g_math_bits_LeadingZeros64 rfl (c_math_bits_LeadingZeros64 y k (by omega) hy1 hk) ?_) | ((with_reducible show cW _ _ (.region 6 _ true) _ _); refine cW_drawF lx_282_6 (by kernel_rfl) mixed_ (by kernel_rfl) ?_) | ((fail_if_success (with_reducible refine stk ?_)); simp only [WE, Nat.reduceLeDiff, segX, Nat.reduceBEq, Nat.reduceAdd, Nat.reduceEqDiff, Int.reduceNeg, Int.reduceEq, Int.reduceBEq, Int.reduceLT, Int.reduceLE, Int.reduceBNe, Int.reduceToNat, Nat.reduceMul, Nat.reduceMod, Int.reducePow, reduceIte, ty_270, cv_3_145, Tryz.underlying3, Tryz.underlying144, Tryz.underlying145, rs_282, appX_nil, t1, e9, er, t3, k0, k1, Int.toNat_natCast, eQ, eR]))
          exact ⟨(p' - 1, s' + y1), Wk_of' ⟨⟨rfl, rfl⟩, ⟨rfl, rfl⟩, ⟨rfl, rfl⟩, ⟨rfl, rfl⟩, ⟨rfl, rfl⟩, ⟨rfl, rfl⟩, ⟨rfl, rfl⟩, ⟨rfl, rfl⟩, ⟨rfl, rfl⟩, trivial⟩ trivial rfl, hE.next hz (.inl hc1) hr, by dsimp only; omega⟩
        · have t3 : decide (4294967296 ≤ s' + y1) = true := decide_eq_true (by omega)
          have e8 : wr .u64 (p' - 1) = p := e9.trans ((hE.last hz (.inl hc1) (by omega)).symm.trans (by rw [← hYe]; exact hp))
          repeat' (first | (with_reducible refine ifB_intro (fun _ => ?_) (fun _ => ?_)) | ((with_reducible show callW _ _ _ (some (308, _)) _ _); refine callP g_math_bits_LeadingZeros64 rfl (c_math_bits_LeadingZeros64 y k (by omega) hy1 hk) ?_) | ((with_reducible show cW _ _ (.region 6 _ true) _ _); refine cW_drawF lx_282_6 (by kernel_rfl) mixed_ (by kernel_rfl) ?_) | ((fail_if_success (with_reducible refine stk ?_)); simp only [WE, Nat.reduceLeDiff, segX, Nat.reduceBEq, Nat.reduceAdd, Nat.reduceEqDiff, Int.reduceNeg, Int.reduceEq, Int.reduceBEq, Int.reduceLT, Int.reduceLE, Int.reduceBNe, Int.reduceToNat, Nat.reduceMul, Nat.reduceMod, Int.reducePow, reduceIte, ty_270, cv_3_145, Tryz.underlying3, Tryz.underlying144, Tryz.underlying145, rs_282, appX_nil, t1, er, t3, e8, k0, k1, Int.toNat_natCast, eQ, eR]))
          skip
      · have t1 : decide (4294967296 ≤ p') = false := decide_eq_false hc1
        have hs := hE.small hz (by omega)
        have w1 : wr .u64 (p' * y0) = p' * y0 := wr_u64 (by omega) (by omega)
        have w2 : wr .u64 (4294967296 * s') = 4294967296 * s' := wr_u64 (by omega) (by omega)
        have w3 : wr .u64 (4294967296 * s' + d0) = 4294967296 * s' + d0 := wr_u64 (by omega) (by omega)
        by_cases hc2 : 4294967296 * s' + d0 < p' * y0
        · have t2 : decide (4294967296 * s' + d0 < p' * y0) = true := decide_eq_true hc2
          have e9 : wr .u64 (p' - 1) = p' - 1 := by have := (hE.more hz (.inr hc2)).2; exact wr_u64 (by omega) (by omega)
          by_cases hr : s' + y1 < 4294967296
          · have t3 : decide (4294967296 ≤ s' + y1) = false := decide_eq_false (by omega)
            repeat' (first | (with_reducible refine ifB_intro (fun _ => ?_) (fun _ => ?_)) | ((with_reducible show callW _ _ _ (some (308, _)) _ _); refine callP g_math_bits_LeadingZeros64 rfl (c_math_bits_LeadingZeros64 y k (by omega) hy1 hk) ?_) | ((with_reducible show cW _ _ (.region 6 _ true) _ _); refine cW_drawF lx_282_6 (by kernel_rfl) mixed_ (by kernel_rfl) ?_) | ((fail_if_success (with_reducible refine stk ?_)); simp only [WE, Nat.reduceLeDiff, segX, Nat.reduceBEq, Nat.reduceAdd, Nat.reduceEqDiff, Int.reduceNeg, Int.reduceEq, Int.reduceBEq, Int.reduceLT, Int.reduceLE, Int.reduceBNe, Int.reduceToNat, Nat.reduceMul, Nat.reduceMod, Int.reducePow, reduceIte, ty_270, cv_3_145, Tryz.underlying3, Tryz.underlying144, Tryz.underlying145, rs_282, appX_nil, t1, t2, w1, w2, w3, e9, er, t3, k0, k1, Int.toNat_natCast, eQ, eR]))
            exact ⟨(p' - 1, s' + y1), Wk_of' ⟨⟨rfl, rfl⟩, ⟨rfl, rfl⟩, ⟨rfl, rfl⟩, ⟨rfl, rfl⟩, ⟨rfl, rfl⟩, ⟨rfl, rfl⟩, ⟨rfl, rfl⟩, ⟨rfl, rfl⟩, ⟨rfl, rfl⟩, trivial⟩ trivial rfl, hE.next hz (.inr hc2) hr, by dsimp only; omega⟩
          · have t3 : decide (4294967296 ≤ s' + y1) = true := decide_eq_true (by omega)
            have e8 : wr .u64 (p' - 1) = p := e9.trans ((hE.last hz (.inr hc2) (by omega)).symm.trans (by rw [← hYe]; exact hp))
            repeat' (first | (with_reducible refine ifB_intro (fun _ => ?_) (fun _ => ?_)) | ((with_reducible show callW _ _ _ (some (308, _)) _ _); refine callP g_math_bits_LeadingZeros64 rfl (c_math_bits_LeadingZeros64 y k (by omega) hy1 hk) ?_) | ((with_reducible show cW _ _ (.region 6 _ true) _ _); refine cW_drawF lx_282_6 (by kernel_rfl) mixed_ (by kernel_rfl) ?_) | ((fail_if_success (with_reducible refine stk ?_)); simp only [WE, Nat.reduceLeDiff, segX, Nat.reduceBEq, Nat.reduceAdd, Nat.reduceEqDiff, Int.reduceNeg, Int.reduceEq, Int.reduceBEq, Int.reduceLT, Int.reduceLE, Int.reduceBNe, Int.reduceToNat, Nat.reduceMul, Nat.reduceMod, Int.reducePow, reduceIte, ty_270, cv_3_145, Tryz.underlying3, Tryz.underlying144, Tryz.underlying145, rs_282, appX_nil, t1, t2, w1, w2, w3, er, t3, e8, k0, k1, Int.toNat_natCast, eQ, eR]))
            skip
        · have t2 : decide (4294967296 * s' + d0 < p' * y0) = false := decide_eq_false hc2
          have e8 : p' = p := ((hE.done hz (by omega)).symm.trans (by rw [← hYe]; exact hp))
          rw [e8] at t1 t2 w1 ⊢
          repeat' (first | (with_reducible refine ifB_intro (fun _ => ?_) (fun _ => ?_)) | ((with_reducible show callW _ _ _ (some (308, _)) _ _); refine callP g_math_bits_LeadingZeros64 rfl (c_math_bits_LeadingZeros64 y k (by omega) hy1 hk) ?_) | ((with_reducible show cW _ _ (.region 6 _ true) _ _); refine cW_drawF lx_282_6 (by kernel_rfl) mixed_ (by kernel_rfl) ?_) | ((fail_if_success (with_reducible refine stk ?_)); simp only [WE, Nat.reduceLeDiff, segX, Nat.reduceBEq, Nat.reduceAdd, Nat.reduceEqDiff, Int.reduceNeg, Int.reduceEq, Int.reduceBEq, Int.reduceLT, Int.reduceLE, Int.reduceBNe, Int.reduceToNat, Nat.reduceMul, Nat.reduceMod, Int.reducePow, reduceIte, ty_270, cv_3_145, Tryz.underlying3, Tryz.underlying144, Tryz.underlying145, rs_282, appX_nil, t1, t2, w1, w2, w3, k0, k1, Int.toNat_natCast, eQ, eR]))
          skip
end Go.Proofs.YtkokohkbhlnjkaaGreatDoor
namespace Go.Proofs.YtkokohkbhlnjkaaGreatDoor
set_option linter.unusedVariables false
set_option linter.unusedSimpArgs false
open Go Go.RowKit Go.Proofs.YtkokohkbhlnjkaaGreatDoor.R
set_option maxRecDepth 50000
set_option maxHeartbeats 1000000
def in64 (n : Int) : Prop := -9223372036854775808 ≤ n ∧ n ≤ 9223372036854775807
theorem i64k {n : Int} (h1 : -9223372036854775808 ≤ n) (h2 : n ≤ 9223372036854775807) : in64 n := ⟨h1, h2⟩
def sat (n : Int) : Int := if n < -9223372036854775808 then -9223372036854775808 else if 9223372036854775807 < n then 9223372036854775807 else n
theorem sat_in (n : Int) : in64 (sat n) := by unfold in64 sat; (repeat' split) <;> omega
theorem sat_id {n : Int} (h : in64 n) : sat n = n := by unfold in64 at h; unfold sat; (repeat' split) <;> omega
def fitV (n : Int) : Int := if -9223372036854775808 ≤ n ∧ n ≤ 9223372036854775807 then n else 0
def fitE (n : Int) : Int := if -9223372036854775808 ≤ n ∧ n ≤ 9223372036854775807 then 0 else 10
theorem c_safe_Plus {x : Nat → Obj → Prop} (a b : Int) (ha : in64 a) (hb : in64 b) : PureC Tryz.prog x 166 [.int .i64 a, .int .i64 b] (.tuple #[.int .i64 (fitV (a + b)), .int .i64 (fitE (a + b))]) := by
  unfold in64 at ha hb
  refine pureC_of_Sd Tryz.func166 rfl rfl fun w => ?_
  refine Sd_of_cW (by kernel_rfl) ?_
  repeat' (first | (with_reducible refine ifB_intro (fun _ => ?_) (fun _ => ?_)) | ((fail_if_success (with_reducible refine stk ?_)); simp only [WE, Nat.reduceLeDiff, segX, Nat.reduceBEq, Nat.reduceAdd, Nat.reduceEqDiff, Int.reduceNeg, Int.reduceEq, Int.reduceBEq, Int.reduceLT, Int.reduceLE, Int.reduceBNe, Int.reduceToNat, Nat.reduceMul, Nat.reduceMod, Int.reducePow, reduceIte, Tryz.underlying4, rs_166]))
  all_goals simp only [decide_eq_true_eq, decide_eq_false_iff_not, wr_def64] at *
  all_goals simp only [beq_iff_eq, beq_eq_false_iff_ne, ne_eq, decide_eq_decide, Bool.not_eq_true', Bool.not_eq_false'] at *
  all_goals unfold fitV fitE
  · rw [if_neg (by omega), if_neg (by omega)]
  · rw [if_pos (by omega), if_pos (by omega), show (a + b + 9223372036854775808) % 18446744073709551616 - 9223372036854775808 = a + b by omega]
  · rw [if_pos (by omega), if_pos (by omega), show (a + b + 9223372036854775808) % 18446744073709551616 - 9223372036854775808 = a + b by omega]
theorem tdiv_over {a b n : Int} (hb : b ≠ 0) (hb1 : b ≤ 9223372036854775808) (hb2 : -9223372036854775808 ≤ b) (h : n.tdiv b = a) (hd : n - a * b ≤ -18446744073709551616 ∨ 18446744073709551616 ≤ n - a * b) : False := by
  have h1 := Int.mul_tdiv_add_tmod n b
  rw [h, Int.mul_comm b a] at h1
  have h2 : (n.tmod b).natAbs < b.natAbs := by
    rw [Int.natAbs_tmod]; exact Nat.mod_lt _ (Int.natAbs_pos.2 hb)
  generalize a * b = P at *
  omega
theorem c_safe_Times {x : Nat → Obj → Prop} (a b : Int) (ha : in64 a) (hb : in64 b) : PureC Tryz.prog x 168 [.int .i64 a, .int .i64 b] (.tuple #[.int .i64 (fitV (a * b)), .int .i64 (fitE (a * b))]) := by
  unfold in64 at ha hb
  by_cases hb0 : b = 0
  · subst hb0
    have e0 : wr .i64 (a * 0) = 0 := by rw [Int.mul_zero]; exact wr_i64 (by omega) (by omega)
    refine pureC_of_Sd Tryz.func168 rfl rfl fun w => ?_
    refine Sd_of_cW (by kernel_rfl) ?_
    repeat' (first | (with_reducible refine ifB_intro (fun _ => ?_) (fun _ => ?_)) | ((fail_if_success (with_reducible refine stk ?_)); simp only [WE, Nat.reduceLeDiff, segX, Nat.reduceBEq, Nat.reduceAdd, Nat.reduceEqDiff, Int.reduceNeg, Int.reduceEq, Int.reduceBEq, Int.reduceLT, Int.reduceLE, Int.reduceBNe, Int.reduceToNat, Nat.reduceMul, Nat.reduceMod, Int.reducePow, reduceIte, Tryz.underlying3, rs_168, appX_nil, e0]))
    all_goals simp only [Int.mul_zero] at *
    all_goals unfold fitV fitE
    all_goals first | rfl | (exfalso; simp_all; done)
  · obtain ⟨n, hn⟩ : ∃ n, wr .i64 (a * b) = n := ⟨_, rfl⟩
    have hn1 := hn
    rw [wr_def64] at hn1
    have m1 : a = -1 → a * b = -b := fun h => by subst h; omega
    have m2 : b = -1 → a * b = -a := fun h => by subst h; omega
    have hOK : (-9223372036854775808 ≤ a * b ∧ a * b ≤ 9223372036854775807) → n = a * b ∧ wr .i64 (n.tdiv b) = a := fun h => by
      have e : n = a * b := by omega
      refine ⟨e, ?_⟩
      rw [e, Int.mul_tdiv_cancel _ hb0]
      exact wr_i64 ha.1 ha.2
    have hNO : ¬ (-9223372036854775808 ≤ a * b ∧ a * b ≤ 9223372036854775807) → (a = -1 ∧ b = -9223372036854775808) ∨ (b = -1 ∧ a = -9223372036854775808) ∨ ¬ wr .i64 (n.tdiv b) = a := fun h => by
      rcases Classical.em (wr .i64 (n.tdiv b) = a) with hw | hw
      · by_cases h1 : b = -1
        · have := m2 h1
          right; left; exact ⟨h1, by omega⟩
        · exfalso
          have hq : (n.tdiv b).natAbs ≤ n.natAbs := by rw [Int.natAbs_tdiv]; exact Nat.div_le_self _ _
          have hq2 : n.tdiv b ≠ 9223372036854775808 := fun hz => by
            have h2 : 9223372036854775808 = n.natAbs / b.natAbs := by
              have := Int.natAbs_tdiv n b
              rw [hz] at this
              exact this
            have h3 : n.natAbs ≤ 9223372036854775808 := by omega
            have h4 : 1 ≤ b.natAbs := by omega
            rcases Nat.lt_or_ge 1 b.natAbs with h5 | h5
            · have := Nat.div_lt_self (n := n.natAbs) (k := b.natAbs) (by omega) h5
              omega
            · have h6 : b = 1 := by omega
              subst h6
              rw [Int.tdiv_one] at hz
              omega
          rw [wr_i64 (by omega) (by omega)] at hw
          exact tdiv_over hb0 (by omega) (by omega) hw (by omega)
      · right; right; exact hw
    refine pureC_of_Sd Tryz.func168 rfl rfl fun w => ?_
    refine Sd_of_cW (by kernel_rfl) ?_
    repeat' (first | (with_reducible refine ifB_intro (fun _ => ?_) (fun _ => ?_)) | ((fail_if_success (with_reducible refine stk ?_)); simp only [WE, Nat.reduceLeDiff, segX, Nat.reduceBEq, Nat.reduceAdd, Nat.reduceEqDiff, Int.reduceNeg, Int.reduceEq, Int.reduceBEq, Int.reduceLT, Int.reduceLE, Int.reduceBNe, Int.reduceToNat, Nat.reduceMul, Nat.reduceMod, Int.reducePow, reduceIte, Tryz.underlying3, rs_168, appX_nil, hn, hb0]))
    all_goals simp only [beq_iff_eq, beq_eq_false_iff_ne, bne_iff_ne, bne_eq_false_iff_eq, ne_eq] at *
    all_goals unfold fitV fitE
    all_goals by_cases hin : (-9223372036854775808 ≤ a * b ∧ a * b ≤ 9223372036854775807)
    all_goals first
      | (rw [if_pos hin, if_pos hin, (hOK hin).1]; done)
      | (exfalso; have := hOK hin; omega)
      | (rw [if_neg hin, if_neg hin]; done)
      | (exfalso; have := hNO hin; omega)
def lim (n : Int) : Int := if n < 0 then -9223372036854775808 else 9223372036854775807
theorem c_safe_held1 {x : Nat → Obj → Prop} (g h : FuncId) (p : Value) (a b n e : Int) (t : Bool) (hg : goes Tryz.prog g) (hG : PureC Tryz.prog x g [.int .i64 a, .int .i64 b] (.tuple #[.int .i64 n, .int .i64 e])) (hh : goes Tryz.prog h) (hH : PureC Tryz.prog x h [p] (.bool t)) :
    PureC Tryz.prog x 165 [.func (.func g) #[] #[], .int .i64 a, .int .i64 b, .func (.func h) #[] #[p]] (.int .i64 (if e = 0 then n else bif t then -9223372036854775808 else 9223372036854775807)) := by
  refine pureC_of_Sd Tryz.func165 rfl rfl fun w => ?_
  refine Sd_of_cW (by kernel_rfl) ?_
  repeat' (first | (((with_reducible show callW _ _ _ (some (g, _)) _ _); refine callP hg rfl hG ?_)) | (((with_reducible show callW _ _ _ (some (h, _)) _ _); refine callP hh rfl hH ?_)) | (with_reducible refine ifB_intro (fun _ => ?_) (fun _ => ?_)) | ((fail_if_success (with_reducible refine stk ?_)); simp only [WE, Nat.reduceLeDiff, segX, Nat.reduceBEq, Nat.reduceAdd, Nat.reduceEqDiff, Int.reduceNeg, Int.reduceEq, Int.reduceBEq, Int.reduceLT, Int.reduceLE, Int.reduceBNe, Int.reduceToNat, Nat.reduceMul, Nat.reduceMod, Int.reducePow, reduceIte, Tryz.underlying30, rs_165, appX_nil]))
  all_goals simp_all
theorem c_safe_held2 {x : Nat → Obj → Prop} (g h : FuncId) (p q : Value) (a b n e : Int) (t : Bool) (hg : goes Tryz.prog g) (hG : PureC Tryz.prog x g [.int .i64 a, .int .i64 b] (.tuple #[.int .i64 n, .int .i64 e])) (hh : goes Tryz.prog h) (hH : PureC Tryz.prog x h [p, q] (.bool t)) :
    PureC Tryz.prog x 165 [.func (.func g) #[] #[], .int .i64 a, .int .i64 b, .func (.func h) #[] #[p, q]] (.int .i64 (if e = 0 then n else bif t then -9223372036854775808 else 9223372036854775807)) := by
  refine pureC_of_Sd Tryz.func165 rfl rfl fun w => ?_
  refine Sd_of_cW (by kernel_rfl) ?_
  repeat' (first | (((with_reducible show callW _ _ _ (some (g, _)) _ _); refine callP hg rfl hG ?_)) | (((with_reducible show callW _ _ _ (some (h, _)) _ _); refine callP hh rfl hH ?_)) | (with_reducible refine ifB_intro (fun _ => ?_) (fun _ => ?_)) | ((fail_if_success (with_reducible refine stk ?_)); simp only [WE, Nat.reduceLeDiff, segX, Nat.reduceBEq, Nat.reduceAdd, Nat.reduceEqDiff, Int.reduceNeg, Int.reduceEq, Int.reduceBEq, Int.reduceLT, Int.reduceLE, Int.reduceBNe, Int.reduceToNat, Nat.reduceMul, Nat.reduceMod, Int.reducePow, reduceIte, Tryz.underlying30, rs_165, appX_nil]))
  all_goals simp_all
theorem c_safe_Add_1 {x : Nat → Obj → Prop} {b T : Nat} {f : Nat × Nat} (n : Int) (hx : x b (.cells #[.int .i64 n] T f)) : PureC Tryz.prog x 167 [.pointer (some ⟨b, 0, none⟩)] (.bool (decide (n < 0))) := by
  have hl : loadX false 1 0 #[.int .i64 n] = some (.int .i64 n) := rfl
  refine pureC_of_Sd Tryz.func167 rfl rfl fun w => ?_
  refine Sd_of_cW (by kernel_rfl) ?_
  repeat' (first | (with_reducible refine extW_of hx hl ?_) | (with_reducible refine ifB_intro (fun _ => ?_) (fun _ => ?_)) | ((fail_if_success (with_reducible refine stk ?_)); simp only [WE, Nat.reduceLeDiff, segX, Nat.reduceBEq, Nat.reduceAdd, Nat.reduceEqDiff, Int.reduceNeg, Int.reduceEq, Int.reduceBEq, Int.reduceLT, Int.reduceLE, Int.reduceBNe, Int.reduceToNat, Nat.reduceMul, Nat.reduceMod, Int.reducePow, reduceIte, ty_3, rs_167, appX_nil]))
theorem c_safe_Mul_1 {x : Nat → Obj → Prop} {b T c U : Nat} {f f' : Nat × Nat} (n m : Int) (hx : x b (.cells #[.int .i64 n] T f)) (hy : x c (.cells #[.int .i64 m] U f')) : PureC Tryz.prog x 169 [.pointer (some ⟨b, 0, none⟩), .pointer (some ⟨c, 0, none⟩)] (.bool (!(decide (n < 0) == decide (m < 0)))) := by
  have hl : loadX false 1 0 #[.int .i64 n] = some (.int .i64 n) := rfl
  have hm : loadX false 1 0 #[.int .i64 m] = some (.int .i64 m) := rfl
  refine pureC_of_Sd Tryz.func169 rfl rfl fun w => ?_
  refine Sd_of_cW (by kernel_rfl) ?_
  repeat' (first | (with_reducible refine extW_of hx hl ?_) | (with_reducible refine extW_of hy hm ?_) | (with_reducible refine ifB_intro (fun _ => ?_) (fun _ => ?_)) | ((fail_if_success (with_reducible refine stk ?_)); simp only [WE, Nat.reduceLeDiff, segX, Nat.reduceBEq, Nat.reduceAdd, Nat.reduceEqDiff, Int.reduceNeg, Int.reduceEq, Int.reduceBEq, Int.reduceLT, Int.reduceLE, Int.reduceBNe, Int.reduceToNat, Nat.reduceMul, Nat.reduceMod, Int.reducePow, reduceIte, ty_3, Tryz.underlying4, rs_169, appX_nil]))
theorem fit_sat {n : Int} {t : Bool} (h : ¬ (-9223372036854775808 ≤ n ∧ n ≤ 9223372036854775807) → t = decide (n < 0)) : (if fitE n = 0 then fitV n else bif t then -9223372036854775808 else 9223372036854775807) = sat n := by
  by_cases hin : (-9223372036854775808 ≤ n ∧ n ≤ 9223372036854775807)
  · have e1 : fitE n = 0 := if_pos hin
    have e2 : fitV n = n := if_pos hin
    rw [e1, e2, if_pos rfl, sat_id hin]
  · have e1 : fitE n = 10 := if_neg hin
    rw [e1, if_neg (by decide), h hin]
    unfold sat
    by_cases h0 : n < 0
    · rw [decide_eq_true h0, if_pos (by omega)]; rfl
    · rw [decide_eq_false h0, if_neg (by omega), if_pos (by omega)]; rfl
theorem c_safe_Add {x : Nat → Obj → Prop} (a b : Int) (ha : in64 a) (hb : in64 b) : PureC Tryz.prog x 102 [.int .i64 a, .int .i64 b] (.int .i64 (sat (a + b))) := by
  rw [← fit_sat (t := decide (a < 0)) (fun h => by unfold in64 at ha hb; exact decide_eq_decide.2 (by omega))]
  refine pureC_of_Sd Tryz.func102 rfl rfl fun w => ?_
  refine Sd_of_cW (by kernel_rfl) ?_
  repeat' (first | (((with_reducible show callW _ _ _ (some (165, _)) _ _); refine callO g_safe_held (fun s => c_safe_held1 _ _ _ a b _ _ _ g_safe_Plus (c_safe_Plus a b ha hb) (goes_of Tryz.func167 rfl rfl) (c_safe_Add_1 a (.inr ⟨0, _, rfl, rfl, rfl⟩))) ?_)) | (with_reducible refine ifB_intro (fun _ => ?_) (fun _ => ?_)) | ((with_reducible show callW _ _ _ (some (165, _)) _ _); refine callP g_safe_held rfl (c_safe_held ..) ?_) | ((with_reducible show callW _ _ _ (some (166, _)) _ _); refine callP g_safe_Plus rfl (c_safe_Plus ..) ?_) | ((with_reducible show callW _ _ _ (some (167, _)) _ _); refine callP g_safe_Add_1 rfl (c_safe_Add_1 ..) ?_) | ((fail_if_success (with_reducible refine stk ?_)); simp only [WE, Nat.reduceLeDiff, segX, Nat.reduceBEq, Nat.reduceAdd, Nat.reduceEqDiff, Int.reduceNeg, Int.reduceEq, Int.reduceBEq, Int.reduceLT, Int.reduceLE, Int.reduceBNe, Int.reduceToNat, Nat.reduceMul, Nat.reduceMod, Int.reducePow, reduceIte, ty_3, rs_102, appX_nil]))
theorem mul_neg {a b : Int} (h : a * b ≠ 0) : (!(decide (a < 0) == decide (b < 0))) = decide (a * b < 0) := by
  have ha : a ≠ 0 := fun z => h (by rw [z, Int.zero_mul])
  have hb : b ≠ 0 := fun z => h (by rw [z, Int.mul_zero])
  by_cases h1 : a < 0 <;> by_cases h2 : b < 0
  · have := Int.mul_pos_of_neg_of_neg h1 h2
    rw [decide_eq_true h1, decide_eq_true h2, decide_eq_false (by omega)]; rfl
  · have := Int.mul_neg_of_neg_of_pos h1 (show 0 < b by omega)
    rw [decide_eq_true h1, decide_eq_false h2, decide_eq_true this]; rfl
  · have := Int.mul_neg_of_pos_of_neg (show 0 < a by omega) h2
    rw [decide_eq_false h1, decide_eq_true h2, decide_eq_true this]; rfl
  · have := Int.mul_pos (show 0 < a by omega) (show 0 < b by omega)
    rw [decide_eq_false h1, decide_eq_false h2, decide_eq_false (by omega)]; rfl
theorem c_safe_Mul {x : Nat → Obj → Prop} (a b : Int) (ha : in64 a) (hb : in64 b) : PureC Tryz.prog x 103 [.int .i64 a, .int .i64 b] (.int .i64 (sat (a * b))) := by
  rw [← fit_sat (t := !(decide (a < 0) == decide (b < 0))) (fun h => mul_neg (by omega))]
  refine pureC_of_Sd Tryz.func103 rfl rfl fun w => ?_
  refine Sd_of_cW (by kernel_rfl) ?_
  repeat' (first | (((with_reducible show callW _ _ _ (some (165, _)) _ _); refine callO g_safe_held (fun s => c_safe_held2 _ _ _ _ a b _ _ _ g_safe_Times (c_safe_Times a b ha hb) (goes_of Tryz.func169 rfl rfl) (c_safe_Mul_1 a b (.inr ⟨0, _, rfl, rfl, rfl⟩) (.inr ⟨1, _, rfl, rfl, rfl⟩))) ?_)) | (with_reducible refine ifB_intro (fun _ => ?_) (fun _ => ?_)) | ((with_reducible show callW _ _ _ (some (165, _)) _ _); refine callP g_safe_held rfl (c_safe_held ..) ?_) | ((with_reducible show callW _ _ _ (some (168, _)) _ _); refine callP g_safe_Times rfl (c_safe_Times ..) ?_) | ((with_reducible show callW _ _ _ (some (169, _)) _ _); refine callP g_safe_Mul_1 rfl (c_safe_Mul_1 ..) ?_) | ((fail_if_success (with_reducible refine stk ?_)); simp only [WE, Nat.reduceLeDiff, segX, Nat.reduceBEq, Nat.reduceAdd, Nat.reduceEqDiff, Int.reduceNeg, Int.reduceEq, Int.reduceBEq, Int.reduceLT, Int.reduceLE, Int.reduceBNe, Int.reduceToNat, Nat.reduceMul, Nat.reduceMod, Int.reducePow, reduceIte, ty_3, rs_103, appX_nil]))
theorem c_safe_unit {x : Nat → Obj → Prop} (a : Int) : PureC Tryz.prog x 231 [.int .i64 a] (.int .i64 (if a < 0 then 1 else 0)) := by
  refine pureC_of_Sd Tryz.func231 rfl rfl fun w => ?_
  refine Sd_of_cW (by kernel_rfl) ?_
  repeat' (first | (with_reducible refine ifB_intro (fun _ => ?_) (fun _ => ?_)) | ((fail_if_success (with_reducible refine stk ?_)); simp only [WE, Nat.reduceLeDiff, segX, Nat.reduceBEq, Nat.reduceAdd, Nat.reduceEqDiff, Int.reduceNeg, Int.reduceEq, Int.reduceBEq, Int.reduceLT, Int.reduceLE, Int.reduceBNe, Int.reduceToNat, Nat.reduceMul, Nat.reduceMod, Int.reducePow, reduceIte, rs_231]))
  all_goals simp_all
theorem c_safe_Sub {x : Nat → Obj → Prop} (a b : Int) (ha : in64 a) (hb : in64 b) : PureC Tryz.prog x 182 [.int .i64 a, .int .i64 b] (.int .i64 (sat (a - b))) := by
  have ha' := ha
  have hb' := hb
  unfold in64 at ha' hb'
  by_cases hl : b = -9223372036854775808
  · subst hl
    have u1 : in64 (if a < 0 then 1 else 0) := by split <;> exact i64k (by omega) (by omega)
    have e1 : wr .i64 (1 * if a < 0 then 1 else 0) = if a < 0 then 1 else 0 := by rw [Int.one_mul]; exact wr_i64 (by split <;> omega) (by split <;> omega)
    refine pureC_of_Sd Tryz.func182 rfl rfl fun w => ?_
    refine Sd_of_cW (by kernel_rfl) ?_
    repeat' (first | (with_reducible refine ifB_intro (fun _ => ?_) (fun _ => ?_)) | ((with_reducible show callW _ _ _ (some (102, _)) _ _); refine callP g_safe_Add rfl (c_safe_Add _ _ ha (i64k (by omega) (by omega))) ?_) | ((with_reducible show callW _ _ _ (some (102, _)) _ _); refine callP g_safe_Add rfl (c_safe_Add _ _ (sat_in _) u1) ?_) | ((with_reducible show callW _ _ _ (some (231, _)) _ _); refine callP g_safe_unit rfl (c_safe_unit ..) ?_) | ((fail_if_success (with_reducible refine stk ?_)); simp only [WE, Nat.reduceLeDiff, segX, Nat.reduceBEq, Nat.reduceAdd, Nat.reduceEqDiff, Int.reduceNeg, Int.reduceEq, Int.reduceBEq, Int.reduceLT, Int.reduceLE, Int.reduceBNe, Int.reduceToNat, Nat.reduceMul, Nat.reduceMod, Int.reducePow, reduceIte, Tryz.underlying3, rs_182, appX_nil, e1]))
    refine congrArg (Value.int .i64) ?_
    unfold sat
    (repeat' split) <;> omega
  · have e1 : (b == -9223372036854775808) = false := by simpa using hl
    have e2 : wr .i64 (0 - b) = -b := by rw [wr_i64 (by omega) (by omega)]; omega
    refine pureC_of_Sd Tryz.func182 rfl rfl fun w => ?_
    refine Sd_of_cW (by kernel_rfl) ?_
    repeat' (first | (with_reducible refine ifB_intro (fun _ => ?_) (fun _ => ?_)) | ((with_reducible show callW _ _ _ (some (102, _)) _ _); refine callP g_safe_Add rfl (c_safe_Add _ _ ha (i64k (by omega) (by omega))) ?_) | ((with_reducible show callW _ _ _ (some (231, _)) _ _); refine callP g_safe_unit rfl (c_safe_unit ..) ?_) | ((fail_if_success (with_reducible refine stk ?_)); simp only [WE, Nat.reduceLeDiff, segX, Nat.reduceBEq, Nat.reduceAdd, Nat.reduceEqDiff, Int.reduceNeg, Int.reduceEq, Int.reduceBEq, Int.reduceLT, Int.reduceLE, Int.reduceBNe, Int.reduceToNat, Nat.reduceMul, Nat.reduceMod, Int.reducePow, reduceIte, Tryz.underlying3, rs_182, appX_nil, e1, e2]))
    rw [Int.sub_eq_add_neg]
theorem c_safe_Abs {x : Nat → Obj → Prop} (a : Int) (ha : in64 a) : PureC Tryz.prog x 316 [.int .i64 a] (.int .i64 (sat a.natAbs)) := by
  refine pureC_of_Sd Tryz.func316 rfl rfl fun w => ?_
  refine Sd_of_cW (by kernel_rfl) ?_
  repeat' (first | (with_reducible refine ifB_intro (fun _ => ?_) (fun _ => ?_)) | ((with_reducible show callW _ _ _ (some (182, _)) _ _); refine callP g_safe_Sub rfl (c_safe_Sub 0 a (i64k (by omega) (by omega)) ha) ?_) | ((fail_if_success (with_reducible refine stk ?_)); simp only [WE, Nat.reduceLeDiff, segX, Nat.reduceBEq, Nat.reduceAdd, Nat.reduceEqDiff, Int.reduceNeg, Int.reduceEq, Int.reduceBEq, Int.reduceLT, Int.reduceLE, Int.reduceBNe, Int.reduceToNat, Nat.reduceMul, Nat.reduceMod, Int.reducePow, reduceIte, rs_316]))
  all_goals refine congrArg (Value.int .i64) ?_
  unfold in64 at ha
  unfold mx sat
  (repeat' split) <;> omega
theorem c_safe_Clamp {x : Nat → Obj → Prop} (a l h : Int) : PureC Tryz.prog x 164 [.int .i64 a, .int .i64 l, .int .i64 h] (.int .i64 (if a < l then l else mn a h)) := by
  refine pureC_of_Sd Tryz.func164 rfl rfl fun w => ?_
  refine Sd_of_cW (by kernel_rfl) ?_
  repeat' (first | (with_reducible refine ifB_intro (fun _ => ?_) (fun _ => ?_)) | ((fail_if_success (with_reducible refine stk ?_)); simp only [WE, Nat.reduceLeDiff, segX, Nat.reduceBEq, Nat.reduceAdd, Nat.reduceEqDiff, Int.reduceNeg, Int.reduceEq, Int.reduceBEq, Int.reduceLT, Int.reduceLE, Int.reduceBNe, Int.reduceToNat, Nat.reduceMul, Nat.reduceMod, Int.reducePow, reduceIte, rs_164]))
  all_goals simp_all
  all_goals omega
end Go.Proofs.YtkokohkbhlnjkaaGreatDoor

/-
  The rules for rewriting, in two bundles. Proved over any program. Numbers of fixed width, within their bounds. Plain.
-/
import Derived.Test.YtcdmabenopjbhaaRwD
set_option linter.unusedSimpArgs false
set_option linter.unusedVariables false
set_option linter.defProp false

-- RwRules
section
set_option maxRecDepth 100000
set_option linter.defProp false
namespace Go.Rw
open Go
theorem zips_nil {k : Nat} : zips k [] = [] := rfl
theorem zips_cons {k : Nat} {a : AV} {r : List AV} : zips k (a :: r) = (k, a) :: zips (k + 1) r := rfl
def goRules :=
  (And.intro @vc_skip (And.intro @vc_region (And.intro @vc_drawn (And.intro @vc_seq (And.intro @vc_cond (And.intro @vc_block (And.intro @vc_exit (And.intro @vc_label (And.intro @vc_goto (And.intro @vc_ret (And.intro @thenQ_normal (And.intro @thenQ_ret (And.intro @thenQ_exit (And.intro @thenQ_goto (And.intro @blockQ_normal (And.intro @blockQ_ret (And.intro @blockQ_goto (And.intro @blockQ_same (And.intro @blockQ_other (And.intro @branchP_true (And.intro @branchP_false (And.intro @vcOps_nil (And.intro @vcOps_cons (And.intro @vcOps_guard (And.intro @opThen_eq (And.intro @skipThen_eq (And.intro @guardO_some (And.intro @gdst_zero (And.intro @gdst_succ (And.intro @guardB_tt (And.intro @guardB_ff (And.intro @guardB_tf (And.intro @guardB_ft (And.intro @guardB_u (And.intro @cont_none (And.intro @cont_some (And.intro @popC_some (And.intro @popC_if (And.intro @upd_eq (And.intro @look_cons (And.intro @look_nil (And.intro @ev_tmp (And.intro @ev_const (And.intro @ev_func (And.intro @evT_tmp (And.intro @evT_const (And.intro @evT_func (And.intro @ofV_int (And.intro @ofV_bool (And.intro @ofV_nil (And.intro @ofVh_int (And.intro @ofVh_bool (And.intro @op_move (And.intro @op_assign (And.intro @op_pick (And.intro @op_bin (And.intro @op_un (And.intro @op_convert (And.intro @op_extract (And.intro @op_fieldAddr (And.intro @op_indexAddr (And.intro @op_index (And.intro @op_load (And.intro @op_nilCheck (And.intro @ofV_sv (And.intro @ofVh_sv (And.intro @ofVh_agg (And.intro @aggA_nil (And.intro @aggA_int (And.intro @aggA_bool (And.intro @aggA_sv (And.intro @aggA_sl (And.intro @bin_add (And.intro @bin_sub (And.intro @bin_mul (And.intro @bin_quo (And.intro @bin_rem (And.intro @bin_and (And.intro @bin_or (And.intro @bin_xor (And.intro @bin_shl (And.intro @bin_shr (And.intro @bin_eql (And.intro @bin_neq (And.intro @bin_lss (And.intro @bin_leq (And.intro @bin_gtr (And.intro @bin_geq (And.intro @bin_beql (And.intro @bin_bneq (And.intro @boolB_eq (And.intro @bin_seql (And.intro @bin_sneq (And.intro @bin_sadd (And.intro @un_not (And.intro @un_neg (And.intro @conv_int (And.intro @convB_int (And.intro @conv_str (And.intro @convStr_eq (And.intro @conv_sl (And.intro @textE_eq (And.intro @textB_eq (And.intro @bytesOf_ints (And.intro @slcIn_eq (And.intro @slcSz_eq (And.intro @fieldIn_eq (And.intro @hints_eq (And.intro @hintsIn_eq (And.intro @ofVh_nil (And.intro @loadA_eq (And.intro @loadIn_int (And.intro @loadIn_str (And.intro @loadIn_slc (And.intro @loadIn_other (And.intro @loadIn_st (And.intro @loadIn_arr (And.intro @isAgg_st (And.intro @isAgg_arr (And.intro @isAgg_slc (And.intro @isAgg_int (And.intro @isAgg_str (And.intro @isAgg_other (And.intro @cells_agg (And.intro @cells_v (And.intro @cells_sl (And.intro @pickC_eq (And.intro @pickA_bool (And.intro @pickA_true (And.intro @pickA_false (And.intro @extractA_eq (And.intro @fieldAddr_ptr (And.intro @fieldAddr_ep (And.intro @indexAddr_eq (And.intro @nilCheck_ptr (And.intro @load_ep (And.intro @load_ptr (And.intro @loadO_eq (And.intro @cellsOf_int (And.intro @cellsOf_bool (And.intro @cellsOf_sv (And.intro @cellsOf_sl (And.intro @cellsOf_agg (And.intro @vc_int (And.intro @vc_bool (And.intro @vc_string (And.intro @vc_slice (And.intro @vc_agg (And.intro @maxLen_eq (And.intro @one_int (And.intro @one_bool (And.intro @one_sv (And.intro @one_sl (And.intro @er_v (And.intro @er_sl (And.intro @er_agg (And.intro @er_tup (And.intro @erL_nil (And.intro @erL_cons (And.intro @tags_v (And.intro @tags_sl (And.intro @tags_agg (And.intro @tags_tup (And.intro @tagsL_nil (And.intro @tagsL_cons (And.intro @plain_v (And.intro @plain_agg (And.intro @plain_tup (And.intro @plainL_nil (And.intro @plainL_cons (And.intro @kill_nil (And.intro @kill_eq (And.intro @updn_eq (And.intro @zeroIn_eq (And.intro @op_alloc (And.intro @op_box (And.intro @newC_eq (And.intro @op_store (And.intro @storeC_eq (And.intro @storeO_eq (And.intro @partsE_nil (And.intro @partsE_cons (And.intro @op_buildSlice (And.intro @rowE_eq (And.intro @rowC_eq (And.intro @elemsB_nil (And.intro @elemsB_cons (And.intro @snds_nil (And.intro @snds_cons (And.intro @ersP_nil (And.intro @ersP_cons (And.intro @setParts_eq (And.intro @op_append (And.intro @appE_eq (And.intro @appC_eq (And.intro @evTs_nil (And.intro @evTs_cons (And.intro @op_call (And.intro @callC_eq (And.intro @get_nil (And.intro @get_cons (And.intro @optE_none (And.intro @optE_some (And.intro @op_slice (And.intro @sliceP_nn (And.intro @sliceP_ni (And.intro @sliceP_in (And.intro @sliceP_ii (And.intro @sliceL_eq (And.intro @lenA_sl (And.intro @lenS_eq (And.intro @op_len (And.intro @lenA_str (And.intro @lenStr_eq (And.intro @retR_normal (And.intro @retR_ret (And.intro @retP_some (And.intro @oneOf_one (And.intro @oneOf_none (And.intro @oneOf_more (And.intro @resL_nil (And.intro @resL_tmp (And.intro @resL_cell (And.intro @loadPtr_eq (And.intro @consR_some (And.intro @fwd_normal (And.intro @fwd_ret (And.intro @fwd_exit (And.intro @back_normal (And.intro @back_ret (And.intro @back_exit (And.intro @back_goto (And.intro @slotsOk_nil (And.intro @slotsOk_cons (And.intro @obOk_nil (And.intro @obOk_cons (And.intro @renOo_cells (And.intro @renOo_iter (And.intro @adOk_nil (And.intro @adOk_live (And.intro @adOk_none (And.intro @lives_nil (And.intro @lives_live (And.intro @lives_none (And.intro @ren_any (And.intro @ren_v (And.intro @ren_agg (And.intro @ren_tup (And.intro @ren_sl (And.intro @ren_ptr (And.intro @renL_nil (And.intro @renL_cons (And.intro @tagOk_low (And.intro @tagOk_zero (And.intro @tagOk_one (And.intro @tagOk_more (And.intro @tagAd_live (And.intro @tagAd_nil (And.intro @turned_eq (And.intro @turn_v (And.intro @turn_any (And.intro @turn_ptr (And.intro @turn_sl (And.intro @turn_agg (And.intro @turn_tup (And.intro @turnL_nil (And.intro @turnL_cons (And.intro @turnO_cells (And.intro @turnO_iter (And.intro @zips_nil @zips_cons))))))))))))))))))))))))))))))))))))))))))))))))))))))))))))))))))))))))))))))))))))))))))))))))))))))))))))))))))))))))))))))))))))))))))))))))))))))))))))))))))))))))))))))))))))))))))))))))))))))))))))))))))))))))))))))))))))))))))))))))))))))))))))))))))))))))))))))
def coreRules :=
  (And.intro @Int.toNat_natCast (And.intro @imp_self (And.intro @Nat.mul_one (And.intro @false_or (And.intro @or_false (And.intro @or_true (And.intro @true_or (And.intro @false_and (And.intro @and_false (And.intro @false_implies (And.intro @implies_true.{1} (And.intro @Value.int.injEq (And.intro @Value.bool.injEq (And.intro @AV.v.injEq (And.intro @List.mem_cons.{0} (And.intro @or_self (And.intro @ne_eq.{1} (And.intro @not_true_eq_false (And.intro @ite_true.{1} (And.intro @ite_false.{1} (And.intro @true_and (And.intro @and_true (And.intro @eq_self.{1} (And.intro @List.getElem?_cons_zero.{0} (And.intro @List.getElem?_cons_succ.{0} (And.intro @List.getElem?_nil.{0} (And.intro @List.length_cons.{0} (And.intro @List.length_nil.{0} (And.intro @List.take_zero.{0} (And.intro @List.take_succ_cons.{0} (And.intro @List.take_nil.{0} (And.intro @List.drop_zero.{0} (And.intro @List.drop_succ_cons.{0} (And.intro @List.drop_nil.{0} (And.intro @List.nil_append.{0} (And.intro @List.cons_append.{0} (And.intro @List.append_nil.{0} (And.intro @Option.bind_some.{0,0} (And.intro @Option.bind_none.{0,0} (And.intro @Option.map_some.{0,0} (And.intro @Option.map_none.{0,0} (And.intro @decide_true (And.intro @decide_false (And.intro @Bool.not_true (And.intro @Bool.not_false (And.intro @cond_true.{1} (And.intro @cond_false.{1} (And.intro @List.getD_cons_zero.{0} (And.intro @List.getD_cons_succ.{0} (And.intro @List.replicate_zero.{0} (And.intro @List.replicate_succ.{0} (And.intro @List.foldl_nil.{0,0} (And.intro @List.foldl_cons.{0,0} (And.intro @List.set_cons_zero.{0} (And.intro @List.set_cons_succ.{0} (And.intro @List.any_nil.{0} (And.intro @List.any_cons.{0} (And.intro @List.all_nil.{0} (And.intro @List.all_cons.{0} (And.intro @Bool.or_false (And.intro @Bool.or_true (And.intro @Bool.true_and (And.intro @Bool.and_true (And.intro @Bool.false_and (And.intro @Bool.and_false (And.intro @Bool.true_or (And.intro @Bool.false_or (And.intro @Nat.zero_add (And.intro @Nat.add_zero (And.intro @List.headD_cons.{0} (And.intro @List.headD_nil.{0} (And.intro @Bool.false_eq_true (And.intro @List.nodup_nil.{0} (And.intro @List.nodup_cons.{0} (And.intro @List.not_mem_nil.{0} @not_false_eq_true)))))))))))))))))))))))))))))))))))))))))))))))))))))))))))))))))))))))))))
end Go.Rw
end

-- RwNum
section
namespace Go.Rw
open Go

theorem wrap_i64 {n : Int} (h1 : -9223372036854775808 ≤ n) (h2 : n ≤ 9223372036854775807) : IntKind.wrap .i64 n = n := by
  simp only [IntKind.wrap, IntKind.bits, IntKind.signed, Bool.true_and]
  split <;> simp_all <;> omega
theorem wrap_i32 {n : Int} (h1 : -2147483648 ≤ n) (h2 : n ≤ 2147483647) : IntKind.wrap .i32 n = n := by
  simp only [IntKind.wrap, IntKind.bits, IntKind.signed, Bool.true_and]
  split <;> simp_all <;> omega
theorem wrap_u8 {n : Int} (h1 : 0 ≤ n) (h2 : n < 256) : IntKind.wrap .u8 n = n := by
  simp only [IntKind.wrap, IntKind.bits, IntKind.signed, Bool.false_and]
  simp; omega
theorem wrap_u32 {n : Int} (h1 : 0 ≤ n) (h2 : n < 4294967296) : IntKind.wrap .u32 n = n := by
  simp only [IntKind.wrap, IntKind.bits, IntKind.signed, Bool.false_and]
  simp; omega
theorem wrap_u64 {n : Int} (h1 : 0 ≤ n) (h2 : n < 18446744073709551616) : IntKind.wrap .u64 n = n := by
  simp only [IntKind.wrap, IntKind.bits, IntKind.signed, Bool.false_and]
  simp; omega

theorem and127 {n : Int} (h1 : 0 ≤ n) (h2 : n ≤ 9223372036854775807) : IntKind.wrap .i64 ((BitVec.ofInt IntKind.i64.bits n &&& BitVec.ofInt IntKind.i64.bits 127).toNat : Nat) = n % 128 := by
  obtain ⟨m, rfl⟩ := Int.eq_ofNat_of_zero_le h1
  have e : (BitVec.ofInt IntKind.i64.bits (m : Int) &&& BitVec.ofInt IntKind.i64.bits 127).toNat = m % 128 := by
    rw [BitVec.toNat_and]
    have e1 : (BitVec.ofInt IntKind.i64.bits (m : Int)).toNat = m := by
      rw [BitVec.toNat_ofInt]; simp only [IntKind.bits]; omega
    have e2 : (BitVec.ofInt IntKind.i64.bits 127).toNat = 2 ^ 7 - 1 := rfl
    rw [e1, e2, Nat.and_two_pow_sub_one_eq_mod]
  rw [e, wrap_i64 (by omega) (by omega)]; omega
theorem or128 {n : Int} (h1 : 0 ≤ n) (h2 : n < 128) : IntKind.wrap .u8 ((BitVec.ofInt IntKind.u8.bits n ||| BitVec.ofInt IntKind.u8.bits 128).toNat : Nat) = n + 128 := by
  obtain ⟨m, rfl⟩ := Int.eq_ofNat_of_zero_le h1
  have hm : m < 128 := by omega
  have key : ∀ m : Nat, m < 128 → (BitVec.ofInt IntKind.u8.bits (m : Int) ||| BitVec.ofInt IntKind.u8.bits 128).toNat = m + 128 := by decide +kernel
  rw [key m hm, wrap_u8 (by omega) (by omega)]; omega
theorem shr7 {n : Int} : n.fdiv (2 ^ min 7 IntKind.i64.bits) = n / 128 := by
  have e : (2 ^ min 7 IntKind.i64.bits : Int) = 128 := rfl
  rw [e, Int.fdiv_eq_ediv_of_nonneg _ (by omega)]
theorem tdiv_nn {a b : Int} (h : 0 ≤ a) : a.tdiv b = a / b := Int.tdiv_eq_ediv_of_nonneg h
theorem tmod_nn {a b : Int} (h : 0 ≤ a) : a.tmod b = a % b := Int.tmod_eq_emod_of_nonneg h
theorem ints_nil {k : IntKind} : ints k [] = [] := rfl
theorem ints_len {k : IntKind} {l : List Int} : (ints k l).length = l.length := by simp [ints]
theorem ints_app {k : IntKind} {l r : List Int} : ints k l ++ ints k r = ints k (l ++ r) := by simp [ints]
theorem ints_one {k : IntKind} {x : Int} : [AV.v (.int k x)] = ints k [x] := rfl
theorem ints_getD {k : IntKind} {l : List Int} {i : Nat} (h : i < l.length) : (ints k l).getD i .any = .v (.int k (l.getD i 0)) := by
  simp [ints, List.getD_eq_getElem?_getD, List.getElem?_eq_getElem h]
theorem ints_take {k : IntKind} {l : List Int} {i : Nat} : (ints k l).take i = ints k (l.take i) := by simp [ints, List.map_take]
theorem ints_drop {k : IntKind} {l : List Int} {i : Nat} : (ints k l).drop i = ints k (l.drop i) := by simp [ints, List.map_drop]
theorem shl7 {n : Int} : n * 2 ^ min 7 IntKind.i64.bits = n * 128 := rfl
theorem and127u8 {n : Int} (h1 : 0 ≤ n) (h2 : n < 256) : IntKind.wrap .u8 ((BitVec.ofInt IntKind.u8.bits n &&& BitVec.ofInt IntKind.u8.bits 127).toNat : Nat) = n % 128 := by
  obtain ⟨m, rfl⟩ := Int.eq_ofNat_of_zero_le h1
  have hm : m < 256 := by omega
  have key : ∀ m : Nat, m < 256 → (BitVec.ofInt IntKind.u8.bits (m : Int) &&& BitVec.ofInt IntKind.u8.bits 127).toNat = m % 128 := by decide +kernel
  rw [key m hm, wrap_u8 (by omega) (by omega)]; omega
theorem orLow {n c : Int} (h1 : 0 ≤ n) (h2 : n ≤ 72057594037927935) (h3 : 0 ≤ c) (h4 : c < 128) : IntKind.wrap .i64 ((BitVec.ofInt IntKind.i64.bits (n * 128) ||| BitVec.ofInt IntKind.i64.bits c).toNat : Nat) = n * 128 + c := by
  obtain ⟨m, rfl⟩ := Int.eq_ofNat_of_zero_le h1
  obtain ⟨d, rfl⟩ := Int.eq_ofNat_of_zero_le h3
  have e : (BitVec.ofInt IntKind.i64.bits ((m : Int) * 128) ||| BitVec.ofInt IntKind.i64.bits (d : Int)).toNat = m * 128 + d := by
    rw [BitVec.toNat_or]
    have e1 : (BitVec.ofInt IntKind.i64.bits ((m : Int) * 128)).toNat = 2 ^ 7 * m := by
      rw [BitVec.toNat_ofInt]; simp only [IntKind.bits]; omega
    have e2 : (BitVec.ofInt IntKind.i64.bits (d : Int)).toNat = d := by
      rw [BitVec.toNat_ofInt]; simp only [IntKind.bits]; omega
    rw [e1, e2, ← Nat.two_pow_add_eq_or_of_lt (by omega)]; omega
  rw [e, wrap_i64 (by omega) (by omega)]; omega
end Go.Rw
end

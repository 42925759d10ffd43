/- The equations of walks, in one. -/
import Derived.Test.YtloblhhnlaaajaaGreatDoorB8
set_option linter.unusedVariables false
set_option linter.unusedSimpArgs false
set_option linter.defProp false
set_option linter.defProp false
namespace Go.Ev
open Go
def wk := And.intro @WRun_nil (And.intro @WRun_cons (And.intro @NextR_eq (And.intro @wanted_none (And.intro @wanted_some (And.intro @w_move (And.intro @w_assign (And.intro @w_pick (And.intro @w_load (And.intro @w_store (And.intro @w_bin (And.intro @w_un (And.intro @w_conv (And.intro @w_indexAddr (And.intro @w_len (And.intro @w_fieldAddr (And.intro @w_field (And.intro @w_nilCheck (And.intro @w_slice (And.intro @w_build (And.intro @w_buildSlice (And.intro @w_append (And.intro @w_copy (And.intro @w_call (And.intro @w_extract (And.intro @opd_tmp (And.intro @opd_int (And.intro @opd_bool (And.intro @opd_nils (And.intro @opd_str (And.intro @opd_fn (And.intro @opds_nil (And.intro @opds_cons (And.intro (@T.get_set V) (And.intro @get_args (And.intro @sat_rv (And.intro @sat_r1 (And.intro @sat_rh (And.intro @sat_rone (And.intro @put_none (And.intro @put_some (And.intro @bin_lss (And.intro @bin_leq (And.intro @bin_gtr (And.intro @bin_geq (And.intro @bin_eql (And.intro @bin_neq (And.intro @un_not (And.intro @fin_ret (And.intro @fin_normal (And.intro @resV_eq (And.intro @resV_nil (And.intro @resR_tmp (And.intro @resR_cell (And.intro @one_one (And.intro @one_two (And.intro @optP_some (And.intro @opdPs_nil (And.intro @opdPs_cons (And.intro @opdO_none (And.intro @opdO_some (And.intro @wcall_fn (And.intro @b_tt (And.intro @b_tf (And.intro @b_ft (@b_ff)))))))))))))))))))))))))))))))))))))))))))))))))))))))))))))))))
def wd := And.intro @WPlan_nil (And.intro @WPlan_cons (And.intro @WPOp_some (And.intro @PNe_eq (And.intro @PNr_eq (And.intro @isV_rv (And.intro @isV_r1 (And.intro @has_nil (And.intro @has_cons (And.intro @o_load (And.intro @o_bin (And.intro @o_conv (@o_len))))))))))))
def wl := And.intro @Option.bind_some.{0,0} (And.intro @List.getElem?_cons_zero.{0} (And.intro @List.getElem?_cons_succ.{0} (And.intro @cond_true.{1} (And.intro @cond_false.{1} (And.intro @Bool.or_true (And.intro @Bool.or_false (And.intro @Bool.true_or (And.intro @Bool.false_or (And.intro @List.nil_append.{0} (And.intro @List.append_nil.{0} (And.intro @List.cons_append.{0} (@Nat.beq_eq_true_eq))))))))))))
end Go.Ev

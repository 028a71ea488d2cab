/- One of the texts of the layer and the walks: it proves what its theorems say of the functions of the seat, with no condition beyond theirs. -/
import Derived.Test.YtmgcmoifdnkaoaaFwVC
import Derived.Test.YtmgcmoifdnkaoaaFwRep
set_option linter.unusedSimpArgs false
set_option linter.unusedVariables false
set_option linter.defProp false
namespace Go.Fw
def kA := @cond_true
def kB := @cond_false
def kC := @Trie.get_set
def kD := @List.getElem?_toArray
def kE := @List.append_eq
def kF := @List.cons_append
def kG := @List.nil_append
def kH := @List.getElem?_cons_zero
def kI := @List.getElem?_cons_succ
def kJ := @Option.bind_some
def kK := @beq_self_eq_true
def kL := @List.filter_nil
def kM := @List.filter_cons
def kN := @List.contains_cons
def kO := @List.contains_nil
def kS1 := And.intro @beq_dec (And.intro @fst_mk (And.intro @snd_mk (And.intro @VK_skip (And.intro @VK_ret (And.intro @VK_exit (And.intro @VK_seq (And.intro @VK_block (And.intro @VK_region (And.intro @VK_draw (And.intro @VK_cond (And.intro @KCond_true (And.intro @KCond_false (And.intro @VK_loop (And.intro @KN_nil (And.intro @KN_seq (And.intro @KN_blk (And.intro @KX_ret_nil (And.intro @KX_ret_seq (And.intro @KX_ret_blk (And.intro @KX_exit_nil (And.intro @KX_exit_seq (And.intro @KX_exit_blk (And.intro @KE_normal (And.intro @KE_ret (And.intro @KE_exit (And.intro @KO_nil (And.intro @KO_cons (And.intro @KO_app_cons (And.intro @KO_app_nil (And.intro @KO1_true (And.intro @KO1_false (And.intro @KO2_true (And.intro @KO2_false (And.intro @KO3_some (And.intro @KO4_some (And.intro @loopQ_ret (And.intro @loopQ_exit (And.intro @Nat.one_ne_zero (And.intro @Nat.zero_ne_one (And.intro @Bool.not_true (And.intro @Bool.not_false (And.intro @awrap_u8 (And.intro @Bool.true_beq (And.intro @Bool.false_beq (And.intro @beq_true (And.intro @beq_false (And.intro @decide_true (And.intro @decide_false (And.intro @Bool.not_not (And.intro @Bool.and_true (And.intro @Bool.true_and (And.intro @Bool.and_false (@Bool.false_and)))))))))))))))))))))))))))))))))))))))))))))))))))))
def kJ1 := And.intro @beq_dec (And.intro @fst_mk (And.intro @snd_mk (And.intro @VK_skip (And.intro @VK_ret (And.intro @VK_exit (And.intro @VK_seq (And.intro @VK_block (And.intro @VK_region (And.intro @VK_draw (And.intro @VK_cond (And.intro @KCond_true (And.intro @KCond_false (And.intro @VK_loop (And.intro @KN_nil (And.intro @KN_blk (And.intro @KX_ret_nil (And.intro @KX_ret_seq (And.intro @KX_ret_blk (And.intro @KX_exit_nil (And.intro @KX_exit_seq (And.intro @KX_exit_blk (And.intro @KE_normal (And.intro @KE_ret (And.intro @KE_exit (And.intro @KO_nil (And.intro @KO_cons (And.intro @KO_app_cons (And.intro @KO_app_nil (And.intro @KO1_true (And.intro @KO1_false (And.intro @KO2_true (And.intro @KO2_false (And.intro @KO3_some (And.intro @KO4_some (And.intro @loopQ_ret (And.intro @loopQ_exit (And.intro @Nat.one_ne_zero (And.intro @Nat.zero_ne_one (And.intro @Bool.not_true (And.intro @Bool.not_false (And.intro @awrap_u8 (And.intro @Bool.true_beq (And.intro @Bool.false_beq (And.intro @beq_true (And.intro @beq_false (And.intro @decide_true (And.intro @decide_false (And.intro @Bool.not_not (And.intro @Bool.and_true (And.intro @Bool.true_and (And.intro @Bool.and_false (@Bool.false_and))))))))))))))))))))))))))))))))))))))))))))))))))))
def kD1 := And.intro @Bool.or_self (And.intro @Bool.false_eq_true (And.intro @KD_done (And.intro @KD_no (And.intro @KD_fl (And.intro @KF1_some (And.intro @KF2_true (And.intro @KF2_false (And.intro @KF3_some (And.intro @KF4_some (And.intro @KD_ch (And.intro @KG1_some (And.intro @KG2_true (And.intro @KG2_false (And.intro @KG3_true (And.intro @KG3_false (And.intro @KG4_some (And.intro @KG5_some (And.intro @Holds_eq (And.intro @H1_some (And.intro @H2_true (And.intro @H2_false (And.intro @H3_some (And.intro @HD_some (And.intro @HD_none (And.intro @Bool.or_false (And.intro @Bool.false_or (And.intro @Bool.true_or (And.intro @Bool.or_true (And.intro @true_and (@and_true))))))))))))))))))))))))))))))
end Go.Fw

/-
  G, part C: the rules by which states are held against each other, as one set.
-/
import Derived.Test.YtnnpjaoddniifaaGY
set_option linter.unusedSimpArgs false
set_option linter.unusedVariables false
namespace Go.Sx
open Go.RowKit
theorem rowIs_self (e : TypeId) (cs : List SV) : rowIs (.row e cs) cs = True := eq_true rfl
theorem ble_dec (a b : Nat) : Nat.ble a b = decide (a ≤ b) := by rw [Bool.eq_iff_iff]; simp
attribute [push_cast] ble_dec cond_true cond_false Bool.and_true Bool.true_and Bool.or_true Bool.true_or Bool.or_false Bool.false_or Bool.and_false Bool.false_and Bool.and_self Bool.not_true Bool.not_false decide_true decide_false
attribute [push_cast] List.map_cons List.map_nil List.length_cons List.length_nil List.cons_append List.nil_append List.length_append List.append_nil List.length_set List.length_replicate
attribute [push_cast high] fl_take_all leS_frz
attribute [push_cast] true_or or_true false_or or_false List.all_cons List.all_nil nimC nimL
attribute [push_cast] fl_cut_pre fl_length fl_nil fl_merge fl_snoc_list fl_snoc_int fl_snoc_bool fl_cons_int renL_fl sz_int sz_bool sz_list cells_int cells_bool cells_lst memN rowIs_self mi_nil stM_mi
attribute [push_cast] leS leL leF leC leH leM getN_cons getN_nil getF_cons getF_nil getH_cons getH_nil stL SV.st stM clL SV.cl fl_st fl_cl fl_one Chunk.live eq_self Option.some.injEq and_self and_true true_and SV.nim nimL nimH nimC renS renL renC
end Go.Sx

/- The law WalNil. -/
import Derived.Test.YtppjibgophfdfaaTie
import Derived.Test.YtppjibgophfdfaaOk
import Derived.Test.YtppjibgophfdfaaRow
namespace Ps
set_option linter.unusedSimpArgs false
set_option linter.unusedVariables false
open Go

theorem lives_run : pcall T 3000 57 [] St0 = some (.bool true, St0) := by kernel_rfl
theorem fn_57 : T.fn 57 = some (.code law11_lives) := rfl
theorem lives_pval : pval T 57 [] = some (.bool true) := pval_st (cval_of 3000 lives_run) rfl rfl
theorem fn_144 : T.fn 144 = some (.code wal_Open) := rfl
theorem fn_148 : T.fn 148 = some (.code wal_Log_Append) := rfl
theorem fn_150 : T.fn 150 = some (.code wal_Log_Sync) := rfl
theorem fn_61 : T.fn 61 = some (.code wal_Log_Len) := rfl
theorem fn_62 : T.fn 62 = some (.code wal_Log_Size) := rfl
theorem fn_491 : T.fn 491 = some (.code law11_WalNil) := rfl

theorem eqnilp {i o : Nat} {b : Bool} : eqnP b .p (.ptr i o) = some (.bool b) := by cases b <;> rfl

theorem prt1 {v : PV} {l : List PV} : partOf false 1 (v :: l) = some v := by simp [partOf]

theorem nopen_val {n : List UInt8} {S : St} : cval T 144 [.nilp, .str n] S = some (.tup [.nilp, .nils, .int .i64 1], S) := by
  refine cval_ok' fn_144 rfl ?_
  have e : eqnP false .p .nilp = some (.bool true) := rfl
  simp -implicitDefEqProofs [wal_Open, pstep, e, prt1]
  exact fin_free (r := .tup [.nilp, .nils, .int .i64 1]) (Grows.objs (Grows.refl S) [[.nilp], [.str n]]) rfl

theorem fi (S : St) (n : Int) : finish false S S (.int .i64 n) = (.int .i64 n, S) := fin_gi (Grows.refl S)

theorem nappend_val {cs : List PV} (h : cs.all PV.one = true) {S : St} : cval T 148 [.nilp, .agg cs] S = some (.int .i64 1, S) := by
  refine cval_ok' fn_148 rfl ?_
  have e : eqnP false .p .nilp = some (.bool true) := rfl
  simp -implicitDefEqProofs [wal_Log_Append, pstep, e, h, fi]
theorem nsync_val {S : St} : cval T 150 [.nilp] S = some (.int .i64 1, S) := by
  refine cval_ok' fn_150 rfl ?_
  have e : eqnP false .p .nilp = some (.bool true) := rfl
  simp -implicitDefEqProofs [wal_Log_Sync, e, fi]
theorem nlen_val {S : St} : cval T 61 [.nilp] S = some (.int .i64 0, S) := by
  refine cval_ok' fn_61 rfl ?_
  have e : eqnP false .p .nilp = some (.bool true) := rfl
  simp -implicitDefEqProofs [wal_Log_Len, e, fi]
theorem nsize_val {S : St} : cval T 62 [.nilp] S = some (.int .i64 0, S) := by
  refine cval_ok' fn_62 rfl ?_
  have e : eqnP false .p .nilp = some (.bool true) := rfl
  simp -implicitDefEqProofs [wal_Log_Size, e, fi]

theorem nil_law {n : List UInt8} {cs : List PV} (h : cs.all PV.one = true) (hl : cs.length = 6) : cval T 491 [.str n, .agg cs] St0 = some (.bool true, St0) := by
  have hp : partOf true 6 cs = some (.agg cs) := by
    unfold partOf
    rw [if_pos (by omega), if_pos rfl, List.take_of_length_le (by omega)]
  have e : eqnP false .p .nilp = some (.bool true) := rfl
  refine cval_ok' fn_491 rfl ?_
  simp -implicitDefEqProofs [law11_WalNil, pstep, h, hp, e, nopen_val, nappend_val h, nsync_val, nlen_val, nsize_val, lives_pval]

abbrev tyRec' : Ty := .st (.pair (.int .i64) (.pair (.sl (.st (.pair .str (.pair .str .unit)))) (.pair (.sl (.st (.pair (.int .i64) (.pair (.st (.pair (.int .i64) (.pair (.int .i64) .unit))) .unit)))) (.pair (.sl (.int .i64)) (.pair (.int .i64) (.pair (.int .i64) .unit))))))

theorem law_WalNil (xs : denL [.str, tyRec']) (h : wfL [.str, tyRec'] xs) : ∃ S', cval T 491 (pvL [.str, tyRec'] xs) St0 = some (.bool true, S') := by
  obtain ⟨n, x, u⟩ := xs
  exact ⟨St0, nil_law (n := n) (cs := tyRec'.emb x) (emb_one tyRec' x) (emb_len tyRec' x)⟩

end Ps

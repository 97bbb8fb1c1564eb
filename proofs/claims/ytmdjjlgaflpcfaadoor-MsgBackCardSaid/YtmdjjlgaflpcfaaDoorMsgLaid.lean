/-
  WHAT A ROW's LIST GIVES: the table of powers, the two errors.
-/
import Derived.Test.YtmdjjlgaflpcfaaDoorMsgParse
import Derived.Test.YtmdjjlgaflpcfaaDoorMsgArg
import Derived.Stop.LaidErr
import Derived.MakeChecks
namespace Go.Proofs.YtmdjjlgaflpcfaaDoor
open Go.RowKit Mg

theorem row_es (u : TypeId) (h : Tryd.prog.typeName? 3 u = some "*errors.errorString") : u = 98 :=
  typeName_ptr_named (nm := "errors.errorString") (by rw [show "*" ++ "errors.errorString" = "*errors.errorString" by decide]; kernel_rfl) (by kernel_rfl) (by decide) u (by rw [show "*" ++ "errors.errorString" = "*errors.errorString" by decide]; exact h)
theorem g_pow : Tryd.prog.globalNamed "internal/strconv.uint64pow10" = some 3 := by kernel_rfl
theorem g_syn : Tryd.prog.globalNamed "strconv.ErrSyntax" = some 1 := by kernel_rfl
theorem g_ran : Tryd.prog.globalNamed "strconv.ErrRange" = some 2 := by kernel_rfl
theorem pow_data : (Rows.laid_internal_strconv_uint64pow10 : DataW Unit) = Lib.tabData .u64 Lib.pow10Tab := by kernel_rfl
theorem door_of {W : World} (h : laidMetH Tryd.prog Rows.msgTextsRow.laid W) : Door W ∧ Errs W := by
  have h1 : laidMet Tryd.prog Rows.msgTextsRow.laid W := by rw [← MakeChecks.laidMetH_plain _ _ _ (by kernel_rfl)]; exact h
  have h2 : laidMet Tryd.prog [("math/bits.deBruijn32tab", Rows.laid_math_bits_deBruijn32tab), ("math/bits.deBruijn64tab", Rows.laid_math_bits_deBruijn64tab), ("internal/strconv.uint64pow10", Rows.laid_internal_strconv_uint64pow10), ("strconv.ErrRange", Rows.laid_strconv_ErrRange), ("strconv.ErrSyntax", Rows.laid_strconv_ErrSyntax)] W := h1
  have h3 := h2.tail.tail
  have h4 := h3.tail
  have h5 := h4.tail
  rw [pow_data] at h3
  refine ⟨⟨Lib.tabIs_of_head (n := 20) g_pow (by kernel_rfl) Tryd.underlying88 Tryd.underlying49 (by kernel_rfl) (by kernel_rfl) h3⟩, ?_, ?_⟩
  · obtain ⟨a0, s0, hv0, -, -, -⟩ := laid_sentinel h5 g_syn (by kernel_rfl) Tryd.underlying59 row_es Tryd.underlying98 Tryd.underlying100 rfl rfl Tryd.underlying9 (by kernel_rfl) (by kernel_rfl)
    exact ⟨_, by have h0 := World.var?_cell g_syn hv0 0; simpa using h0, .inr ⟨_, _, rfl⟩⟩
  · obtain ⟨a0, s0, hv0, -, -, -⟩ := laid_sentinel h4 g_ran (by kernel_rfl) Tryd.underlying59 row_es Tryd.underlying98 Tryd.underlying100 rfl rfl Tryd.underlying9 (by kernel_rfl) (by kernel_rfl)
    exact ⟨_, by have h0 := World.var?_cell g_ran hv0 0; simpa using h0, .inr ⟨_, _, rfl⟩⟩
end Go.Proofs.YtmdjjlgaflpcfaaDoor

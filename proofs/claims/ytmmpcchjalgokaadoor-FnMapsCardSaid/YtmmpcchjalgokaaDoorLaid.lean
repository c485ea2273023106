/- What a row's listed variables give the walks: strconv's table, the two sentinels. -/
import Derived.Test.YtmmpcchjalgokaaDoorNum
import Derived.Test.YtmmpcchjalgokaaDoorPint
import Derived.Lib.LaidTab
import Derived.Stop.LaidErr
import Derived.MakeChecks
namespace Go.Proofs.YtmmpcchjalgokaaDoor
set_option linter.unusedVariables false
set_option linter.unusedSimpArgs false
open Go.RowKit
theorem Tab.of {d1 d2 : DataW Unit} {rest : List (String × DataW Unit)} {W : World} (h : laidMet Tryd.prog (("math/bits.deBruijn32tab", d1) :: ("math/bits.deBruijn64tab", d2) :: ("internal/strconv.uint64pow10", Rows.laid_internal_strconv_uint64pow10) :: rest) W) : Tab W := by
  have e : (Rows.laid_internal_strconv_uint64pow10 : DataW Unit) = Lib.tabData .u64 Lib.pow10Tab := by rfl
  rw [e] at h
  exact Lib.tabIs_of_head (g := 4) (t := 150) (e := 76) (n := 20) (by kernel_rfl) (by kernel_rfl) (by kernel_rfl) (by kernel_rfl) (by kernel_rfl) (by kernel_rfl) (laidMet.tail (laidMet.tail h))
theorem star_err : "*errors.errorString" = "*" ++ "errors.errorString" := by rfl
theorem row_err (u : TypeId) (h : Tryd.prog.typeName? 3 u = some "*errors.errorString") : u = 154 :=
  typeName_ptr_named (nm := "errors.errorString") (by rw [← star_err]; kernel_rfl) (by kernel_rfl) (by decide) u (by rw [← star_err]; exact h)
theorem syn_of {rest : List (String × DataW Unit)} {W : World} (h : laidMet Tryd.prog (("strconv.ErrSyntax", Rows.laid_strconv_ErrSyntax) :: rest) W) : Syn W := by
  obtain ⟨a, s, hv, _, _, _⟩ := laid_sentinel (g := 2) (ti := 91) (tp := 154) (te := 156) (ts := 9) h (by kernel_rfl) (by kernel_rfl) Tryd.underlying91 row_err Tryd.underlying154 Tryd.underlying156 rfl rfl Tryd.underlying9 (by kernel_rfl) (by kernel_rfl)
  exact ⟨_, _, hv⟩
theorem laid_Strings {W : World} (h : laidMetH Tryd.prog Rows.fnStringsRow.laid W) : Tab W ∧ Syn W := by
  rw [MakeChecks.laidMetH_plain _ _ _ (by kernel_rfl)] at h
  exact ⟨Tab.of h, syn_of (laidMet.tail (laidMet.tail (laidMet.tail (laidMet.tail h))))⟩
theorem laid_ParseRunner {W : World} (h : laidMetH Tryd.prog Rows.fnExactParseRunnerRow.laid W) : Tab W ∧ Syn W := by
  rw [MakeChecks.laidMetH_plain _ _ _ (by kernel_rfl)] at h
  exact ⟨Tab.of h, syn_of (laidMet.tail (laidMet.tail (laidMet.tail (laidMet.tail (laidMet.tail h)))))⟩
theorem laid_ParseFeature {W : World} (h : laidMetH Tryd.prog Rows.fnExactParseFeatureRow.laid W) : Tab W ∧ Syn W := by
  rw [MakeChecks.laidMetH_plain _ _ _ (by kernel_rfl)] at h
  exact ⟨Tab.of h, syn_of (laidMet.tail (laidMet.tail (laidMet.tail (laidMet.tail (laidMet.tail h)))))⟩
theorem laid_ParseMap {W : World} (h : laidMetH Tryd.prog Rows.fnExactParseMapRow.laid W) : Tab W := by
  rw [MakeChecks.laidMetH_plain _ _ _ (by kernel_rfl)] at h
  exact Tab.of h
theorem laid_Maps {W : World} (h : laidMetH Tryd.prog Rows.fnMapsRow.laid W) : Tab W := by
  rw [MakeChecks.laidMetH_plain _ _ _ (by kernel_rfl)] at h
  exact Tab.of h
end Go.Proofs.YtmmpcchjalgokaaDoor

/- NatShifts, in plain Lean: products by powers of two are the document's. -/
import Derived.Test.YtaegboehjpjfnaaPx0
import Derived.Test.YtaegboehjpjfnaaPx10
import Derived.Test.YtaegboehjpjfnaaNatShl
import Derived.Test.YtaegboehjpjfnaaAwake
set_option linter.unusedVariables false
set_option linter.unusedSimpArgs false
namespace Go.Proofs.Ytaegboehjpjfnaa.Pure
open Go.RowKit Go.Proofs.YtaegboehjpjfnaaW.PrintWords Go.Proofs.YtaegboehjpjfnaaW.PrintLast Go.Proofs.YtaegboehjpjfnaaW.PrintMore Go.Proofs.Ytaegboehjpjfnaa.P Go.Proofs.Ytaegboehjpjfnaa.Mine Go.Proofs.Ytaegboehjpjfnaa.Pl
theorem NatShifts : tableaulaw01_NatShifts.Pure := by
  intro a z la1 la2 la3 lz
  have ha := ok_wf la3
  obtain ⟨K0, h0⟩ := awake_eq
  by_cases hl : a.length ≤ 60
  · obtain ⟨K1, h1⟩ := nat_Shl_eq a z ha (by omega)
    obtain ⟨K2, h2⟩ := ref_DocShl_eq a z ha (by omega)
    have t1 := ref_Twin_eq a (by omega)
    have va := val_lt_pow hW ha (Nat.le_refl _)
    have d1 := dig_len_le hW _ _ (mul_pow_lt (n := z.toNat) va)
    generalize hX : (if z < 0 ∨ 65536 < z then ([], (1 : Int)) else if Fm a then (dig 18446744073709551616 (val 18446744073709551616 a * 2 ^ z.toNat), 0) else ([], 3)) = X at h1 h2
    have lX : X.1.length < 1000000 := by
      rw [← hX]
      by_cases hz : z < 0 ∨ 65536 < z
      · rw [if_pos hz]; simp
      · rw [if_neg hz]; split <;> simp <;> omega
    obtain ⟨K7, h7⟩ := ref_Same_self X.1 (by omega)
    refine ⟨K0 + K1 + K2 + K7, ?_⟩
    simp (disch := omega) only [tableaulaw01_NatShifts.f, h0, t1, h1, h2, h7, Option.bind_some, if_true, ite_f, beq_self_eq_true]
  · refine ⟨K0, ?_⟩
    simp (disch := omega) only [tableaulaw01_NatShifts.f, h0, Option.bind_some, if_true, ite_t]
end Go.Proofs.Ytaegboehjpjfnaa.Pure

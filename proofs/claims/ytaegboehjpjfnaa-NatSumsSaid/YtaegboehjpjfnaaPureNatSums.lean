/- NatSums, in plain Lean: the sums, the differences and the order of package nat are the document's. -/
import Derived.Test.YtaegboehjpjfnaaPx0
import Derived.Test.YtaegboehjpjfnaaPx11
import Derived.Test.YtaegboehjpjfnaaNatX
import Derived.Test.YtaegboehjpjfnaaAwake
set_option linter.unusedVariables false
set_option linter.unusedSimpArgs false
namespace Go.Proofs.Ytaegboehjpjfnaa.Pure
open Go.RowKit Go.Proofs.YtaegboehjpjfnaaW.PrintWords Go.Proofs.YtaegboehjpjfnaaW.PrintLast Go.Proofs.YtaegboehjpjfnaaW.PrintMore Go.Proofs.Ytaegboehjpjfnaa.P Go.Proofs.Ytaegboehjpjfnaa.Mine Go.Proofs.Ytaegboehjpjfnaa.Pl
theorem NatSums : tableaulaw01_NatSums.Pure := by
  intro a b la1 la2 la3 lb1 lb2 lb3
  have ha := ok_wf la3
  have hb := ok_wf lb3
  obtain ⟨K0, h0⟩ := awake_eq
  have hF := nat_Form_eq a (by omega)
  have hF' := ref_Form_eq a (by omega)
  have hL := ref_light_eq a b
  by_cases hl : a.length ≤ 60 ∧ b.length ≤ 60
  · obtain ⟨K1, h1⟩ := nat_Add_eq a b ha hb (by omega) (by omega)
    obtain ⟨K2, h2⟩ := ref_DocAdd_eq a b ha hb (by omega) (by omega)
    obtain ⟨K3, h3⟩ := nat_Sub_eq a b ha hb (by omega) (by omega)
    obtain ⟨K4, h4⟩ := ref_DocSub_eq a b ha hb (by omega) (by omega)
    obtain ⟨K5, h5⟩ := nat_Cmp_eq a b ha hb (by omega) (by omega)
    obtain ⟨K6, h6⟩ := ref_DocCmp_eq a b ha hb (by omega) (by omega)
    have t1 := ref_Twin_eq a (by omega)
    have t2 := ref_Twin_eq b (by omega)
    have va := val_lt_pow hW ha (k := a.length + b.length) (by omega)
    have vb := val_lt_pow hW hb (k := a.length + b.length) (by omega)
    have d1 := dig_len_le hW _ _ (add_lt_pow hW va vb)
    have d2 := dig_len_le hW _ _ (Nat.lt_of_le_of_lt (Nat.sub_le (val 18446744073709551616 a) (val 18446744073709551616 b)) va)
    generalize hX : (if Fm a ∧ Fm b then (dig 18446744073709551616 (val 18446744073709551616 a + val 18446744073709551616 b), (0 : Int)) else ([], 3)) = X at h1 h2
    generalize hY : (if Fm a ∧ Fm b then (if val 18446744073709551616 a < val 18446744073709551616 b then ([], (1 : Int)) else (dig 18446744073709551616 (val 18446744073709551616 a - val 18446744073709551616 b), 0)) else ([], 3)) = Y at h3 h4
    generalize hZ : (if Fm a ∧ Fm b then (sg (val 18446744073709551616 a) (val 18446744073709551616 b), (0 : Int)) else (0, 3)) = Z at h5 h6
    have lX : X.1.length < 1000 := by rw [← hX]; split <;> simp <;> omega
    have lY : Y.1.length < 1000 := by rw [← hY]; split <;> (try split) <;> simp <;> omega
    obtain ⟨K7, h7⟩ := ref_Same_self X.1 (by omega)
    obtain ⟨K8, h8⟩ := ref_Same_self Y.1 (by omega)
    simp only [hl, and_self, decide_true] at hL
    refine ⟨K0 + K1 + K2 + K3 + K4 + K5 + K6 + K7 + K8 + 3, ?_⟩
    simp (disch := omega) only [tableaulaw01_NatSums.f, h0, hF, hF', Option.bind_some, if_true, bne_self_eq_false]
    simp (disch := omega) only [tableaulaw01_NatSums.j0, hL, t1, t2, h1, h2, h7, Option.bind_some, if_true, bne_self_eq_false, Bool.false_eq_true, if_false]
    simp (disch := omega) only [tableaulaw01_NatSums.j1, hL, t1, t2, h3, h4, h8, Option.bind_some, if_true, bne_self_eq_false, Bool.false_eq_true, if_false]
    simp (disch := omega) only [tableaulaw01_NatSums.j2, hL, t1, t2, h5, h6, Option.bind_some, if_true, beq_self_eq_true, Bool.false_eq_true, if_false]
  · refine ⟨K0 + 1, ?_⟩
    simp only [hl, decide_false] at hL
    simp (disch := omega) only [tableaulaw01_NatSums.f, h0, hF, hF', Option.bind_some, if_true, bne_self_eq_false]
    simp (disch := omega) only [tableaulaw01_NatSums.j0, hL, Option.bind_some, if_true, bne_self_eq_false, Bool.false_eq_true, if_false]
end Go.Proofs.Ytaegboehjpjfnaa.Pure

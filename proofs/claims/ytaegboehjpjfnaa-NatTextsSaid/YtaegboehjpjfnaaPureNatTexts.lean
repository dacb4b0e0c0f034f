/- NatTexts, in plain Lean: texts of numbers, written and read, are the document's. -/
import Derived.Test.YtaegboehjpjfnaaPx0
import Derived.Test.YtaegboehjpjfnaaPx12
import Derived.Test.YtaegboehjpjfnaaTextB
import Derived.Test.YtaegboehjpjfnaaReadB
import Derived.Test.YtaegboehjpjfnaaAwake
set_option linter.unusedVariables false
set_option linter.unusedSimpArgs false
namespace Go.Proofs.Ytaegboehjpjfnaa.Pure
open Go.RowKit Go.Proofs.YtaegboehjpjfnaaW.PrintWords Go.Proofs.YtaegboehjpjfnaaW.PrintLast Go.Proofs.YtaegboehjpjfnaaW.PrintMore Go.Proofs.Ytaegboehjpjfnaa.P Go.Proofs.Ytaegboehjpjfnaa.Mine Go.Proofs.Ytaegboehjpjfnaa.Pl
open Classical in
theorem NatTexts : tableaulaw01_NatTexts.Pure := by
  intro a s la1 la2 la3 ls
  have ha := ok_wf la3
  obtain ⟨K0, h0⟩ := awake_eq
  have skip : Ev (fun k => tableaulaw01_NatTexts.j0 k a s true) true := by
    refine Ev.all' 1 fun m => ?_
    simp only [tableaulaw01_NatTexts.j0, if_true]
  have main : a.length ≤ 60 → Ev (fun k => tableaulaw01_NatTexts.j0 k a s false) true := by
    intro hl
    obtain ⟨K1, h1⟩ := nat_Text_eq a ha (by omega)
    obtain ⟨K2, h2⟩ := ref_DocText_eq a ha (by omega)
    obtain ⟨K3, h3⟩ := nat_Read_eq s ls
    obtain ⟨K4, h4⟩ := ref_DocRead_eq s ls
    have t1 := ref_Twin_eq a (by omega)
    generalize hX : (if Fm a then (decText (val 18446744073709551616 a), (0 : Int)) else (⟨#[]⟩, 3)) = X at h1 h2
    generalize hY : (if 1048576 < s.size then (([] : List Int), (2 : Int)) else if isNum s then (dig 18446744073709551616 (dv s s.size), 0) else ([], 11)) = Y at h3 h4
    have lY : Y.1.length < 2000000 := by
      rw [← hY]
      by_cases hb : 1048576 < s.size
      · rw [if_pos hb]; simp
      · rw [if_neg hb]
        by_cases hd : isNum s
        · rw [if_pos hd]
          have hl := dig_len_le hW s.size (dv s s.size) (Nat.lt_of_lt_of_le (dv_lt s hd.2.2 s.size (Nat.le_refl _)) (ten_pow_W _))
          show (dig 18446744073709551616 (dv s s.size)).length < 2000000
          omega
        · rw [if_neg hd]; simp
    obtain ⟨K7, h7⟩ := ref_Same_self Y.1 (by omega)
    refine ⟨K1 + K2 + K3 + K4 + K7 + 2, fun n hn => ?_⟩
    obtain ⟨m, rfl⟩ : ∃ m, n = m + 2 := ⟨n - 2, by omega⟩
    have g1 := h1 (m + 1) (by omega)
    have g2 := h2 (m + 1) (by omega)
    have g3 := h3 m (by omega)
    have g4 := h4 m (by omega)
    have g7 := h7 m (by omega)
    simp only [tableaulaw01_NatTexts.j0, Bool.false_eq_true, if_false, t1, Option.bind_some, g1, g2, if_true, bne_self_eq_false, tableaulaw01_NatTexts.j1, g3, g4, g7, beq_self_eq_true]
  obtain ⟨K5, h5⟩ := skip
  by_cases hl : a.length ≤ 60
  · obtain ⟨K6, h6⟩ := main hl
    refine ⟨K0 + K5 + K6, ?_⟩
    have g0 := h0 (K0 + K5 + K6) (by omega)
    have g5 := h5 (K0 + K5 + K6) (by omega)
    have g6 := h6 (K0 + K5 + K6) (by omega)
    by_cases h3 : (s.size : Int) > 3000
    · by_cases h4 : (s.size : Int) ≤ 1048576
      · have hd : decide ((s.size : Int) ≤ 1048576) = true := decide_eq_true h4
        simp (disch := omega) only [tableaulaw01_NatTexts.f, g0, Option.bind_some, if_true, ite_f, ite_t, hd, g5]
      · have hd : decide ((s.size : Int) ≤ 1048576) = false := decide_eq_false h4
        simp (disch := omega) only [tableaulaw01_NatTexts.f, g0, Option.bind_some, if_true, ite_f, ite_t, hd, g6]
    · simp (disch := omega) only [tableaulaw01_NatTexts.f, g0, Option.bind_some, if_true, ite_f, g6]
  · refine ⟨K0 + K5, ?_⟩
    have g0 := h0 (K0 + K5) (by omega)
    have g5 := h5 (K0 + K5) (by omega)
    simp (disch := omega) only [tableaulaw01_NatTexts.f, g0, Option.bind_some, if_true, ite_t, g5]
end Go.Proofs.Ytaegboehjpjfnaa.Pure

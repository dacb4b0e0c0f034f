/- What the document's own functions (digits to the base 2^32) compute, as numbers: from and to, sums, differences, the order. -/
import Derived.Test.YtaegboehjpjfnaaPx0
import Derived.Test.YtaegboehjpjfnaaPx1
import Derived.Test.YtaegboehjpjfnaaPx8
import Derived.Test.YtaegboehjpjfnaaNatF1
set_option linter.unusedVariables false
set_option linter.unusedSimpArgs false
namespace Go.Proofs.Ytaegboehjpjfnaa.Pl
open Go.RowKit Go.Proofs.YtaegboehjpjfnaaW.PrintWords Go.Proofs.YtaegboehjpjfnaaW.PrintLast Go.Proofs.YtaegboehjpjfnaaW.PrintMore Go.Proofs.Ytaegboehjpjfnaa.P Go.Proofs.Ytaegboehjpjfnaa.Mine

theorem hR : 1 < 4294967296 := by omega
theorem ref_Twin_eq (l : List Int) (hl : l.length < 1000000000000) : tableauref01_Twin.f l = some l := by
  unfold tableauref01_Twin.f
  rw [if_pos (by simp; omega), List.nil_append]
theorem ref_Same_loop (l : List Int) (hn : l.length < 1000000000000) : ∀ d i, i + d = l.length → Ev (fun k => tableauref01_Same.l0 k l l (l.length : Int) (i : Int)) true := by
  intro d
  induction d with
  | zero =>
    intro i hi
    refine Ev.round 0 fun m _ => ?_
    simp (disch := omega) only [tableauref01_Same.l0, ite_f]
  | succ d ih =>
    intro i hi
    obtain ⟨K, hK⟩ := ih (i + 1) (by omega)
    have e : ((i : Int) + 1) = ((i + 1 : Nat) : Int) := by omega
    refine Ev.round K fun m hm => ?_
    simp (disch := omega) only [tableauref01_Same.l0, ite_t, w64, e, hK m hm, if_true]
theorem ref_Same_self (l : List Int) (hn : l.length < 1000000000000) : Ev (fun k => tableauref01_Same.f k l l) true := by
  obtain ⟨K, hK⟩ := ref_Same_loop l hn l.length 0 (by omega)
  refine ⟨K, fun m hm => ?_⟩
  simp (disch := omega) only [tableauref01_Same.f, ite_t]
  exact hK m hm
theorem pow_WR (i : Nat) : 4294967296 ^ (2 * i) = 18446744073709551616 ^ i := by
  rw [Nat.pow_mul]
theorem dig_one {B n : Nat} (hB : 1 < B) (h0 : 0 < n) (h : n < B) : dig B n = [(n : Int)] := by
  rw [dig_pos hB h0, Nat.mod_eq_of_lt h, Nat.div_eq_of_lt h, dig_zero]
end Go.Proofs.Ytaegboehjpjfnaa.Pl

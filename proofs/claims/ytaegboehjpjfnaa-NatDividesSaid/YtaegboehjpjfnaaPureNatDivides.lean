/- NatDivides, in plain Lean: quotient and rest make the number again, and the rest is less than the divisor. -/
import Derived.Test.YtaegboehjpjfnaaPx0
import Derived.Test.YtaegboehjpjfnaaPx1
import Derived.Test.YtaegboehjpjfnaaPx7
import Derived.Test.YtaegboehjpjfnaaPx8
import Derived.Test.YtaegboehjpjfnaaPx9
import Derived.Test.YtaegboehjpjfnaaDivide
import Derived.Test.YtaegboehjpjfnaaRefA
import Derived.Test.YtaegboehjpjfnaaAwake
set_option linter.unusedVariables false
set_option linter.unusedSimpArgs false
namespace Go.Proofs.Ytaegboehjpjfnaa.Pure
open Go.RowKit Go.Proofs.YtaegboehjpjfnaaW.PrintWords Go.Proofs.YtaegboehjpjfnaaW.PrintLast Go.Proofs.YtaegboehjpjfnaaW.PrintMore Go.Proofs.Ytaegboehjpjfnaa.P Go.Proofs.Ytaegboehjpjfnaa.Mine Go.Proofs.Ytaegboehjpjfnaa.Pl
theorem divides_ok (k : Nat) (a b q r p s : List Int) (c : Int) (h0 : tableaulaw01_awake.f k = some true) (hl : tableaulaw01_light.f a b = some true) (t1 : tableauref01_Twin.f a = some a) (t2 : tableauref01_Twin.f b = some b)
    (h1 : nat_DivMod.f k a b = some (q, r, 0)) (h2 : nat_Mul.f k q b = some (p, 0)) (h3 : nat_Add.f k p r = some (s, 0)) (h4 : nat_Cmp.f k r b = some (c, 0)) (h5 : tableauref01_Same.f k s a = some true) (hc : c < 0) :
    tableaulaw01_NatDivides.f k a b = some true := by
  simp only [tableaulaw01_NatDivides.f, h0, hl, t1, t2, h1, h2, h3, h4, h5, Option.bind_some, if_true, decide_eq_true hc]
theorem divides_no (k : Nat) (a b q r : List Int) (e : Int) (h0 : tableaulaw01_awake.f k = some true) (hl : tableaulaw01_light.f a b = some true) (t1 : tableauref01_Twin.f a = some a) (t2 : tableauref01_Twin.f b = some b)
    (h1 : nat_DivMod.f k a b = some (q, r, e)) (he : ¬ e = 0) (fa fb : Bool) (h2 : nat_Form.f a = some fa) (h3 : nat_Form.f b = some fb) (hz : fa = true → fb = true → b.length = 0) :
    tableaulaw01_NatDivides.f k a b = some true := by
  simp only [tableaulaw01_NatDivides.f, h0, hl, t1, t2, h1, h2, h3, Option.bind_some, if_true, if_neg he]
  cases fa <;> cases fb <;> simp_all
theorem NatDivides : tableaulaw01_NatDivides.Pure := by
  intro a b la1 la2 la3 lb1 lb2 lb3
  have ha := ok_wf la3
  have hb := ok_wf lb3
  obtain ⟨K0, h0⟩ := awake_eq
  have hL := ref_light_eq a b
  by_cases hl : a.length ≤ 60 ∧ b.length ≤ 60
  · simp only [hl, and_self, decide_true] at hL
    have t1 := ref_Twin_eq a (by omega)
    have t2 := ref_Twin_eq b (by omega)
    have f1 := nat_Form_eq a (by omega)
    have f2 := nat_Form_eq b (by omega)
    obtain ⟨K1, h1⟩ := nat_DivMod_eq a b ha hb (by omega) (by omega)
    by_cases hf : Fm a ∧ Fm b
    · rw [if_pos hf] at h1
      by_cases hz : val 18446744073709551616 b = 0
      · rw [if_pos hz] at h1
        refine ⟨K0 + K1, ?_⟩
        refine divides_no _ a b _ _ 4 (h0 _ (by omega)) hL t1 t2 (h1 _ (by omega)) (by omega) _ _ f1 f2 ?_
        intro _ _
        rcases Nat.eq_zero_or_pos b.length with h | h
        · exact h
        · have := val_pos_of_fm hW hb hf.2 (by intro h2; simp [h2] at h)
          omega
      · rw [if_neg hz] at h1
        have hBp : 0 < val 18446744073709551616 b := Nat.pos_of_ne_zero hz
        have hAlt := val_lt_pow hW ha (Nat.le_refl _)
        have hml := Nat.mod_lt (val 18446744073709551616 a) hBp
        have hda := dig_val hW ha hf.1
        have hql := dig_len_le hW _ _ (Nat.lt_of_le_of_lt (Nat.div_le_self (val 18446744073709551616 a) (val 18446744073709551616 b)) hAlt)
        have hrl := dig_len_le hW _ _ (Nat.lt_of_le_of_lt (Nat.mod_le (val 18446744073709551616 a) (val 18446744073709551616 b)) hAlt)
        have hpl := dig_len_le hW _ _ (Nat.lt_of_le_of_lt (Nat.div_mul_le_self (val 18446744073709551616 a) (val 18446744073709551616 b)) hAlt)
        have hdm := Nat.div_add_mod' (val 18446744073709551616 a) (val 18446744073709551616 b)
        have h2 := nat_Mul_eq (dig 18446744073709551616 (val 18446744073709551616 a / val 18446744073709551616 b)) b (ok_dig hW _) hb (by omega) (by omega)
        rw [if_pos ⟨fm_dig hW _, hf.2⟩, val_dig hW] at h2
        have h3 := nat_Add_eq (dig 18446744073709551616 (val 18446744073709551616 a / val 18446744073709551616 b * val 18446744073709551616 b)) (dig 18446744073709551616 (val 18446744073709551616 a % val 18446744073709551616 b)) (ok_dig hW _) (ok_dig hW _) (by omega) (by omega)
        rw [if_pos ⟨fm_dig hW _, fm_dig hW _⟩, val_dig hW, val_dig hW, hdm, hda] at h3
        have h4 := nat_Cmp_eq (dig 18446744073709551616 (val 18446744073709551616 a % val 18446744073709551616 b)) b (ok_dig hW _) hb (by omega) (by omega)
        rw [if_pos ⟨fm_dig hW _, hf.2⟩, val_dig hW, sg_lt hml] at h4
        have h5 := ref_Same_self a (by omega)
        clear hql hrl hpl hdm hda hAlt
        obtain ⟨K2, h2⟩ := h2
        obtain ⟨K3, h3⟩ := h3
        obtain ⟨K4, h4⟩ := h4
        obtain ⟨K5, h5⟩ := h5
        refine ⟨K0 + K1 + K2 + K3 + K4 + K5, ?_⟩
        exact divides_ok _ a b _ _ _ _ _ (h0 _ (by omega)) hL t1 t2 (h1 _ (by omega)) (h2 _ (by omega)) (h3 _ (by omega)) (h4 _ (by omega)) (h5 _ (by omega)) (by omega)
    · rw [if_neg hf] at h1
      refine ⟨K0 + K1, ?_⟩
      refine divides_no _ a b _ _ 3 (h0 _ (by omega)) hL t1 t2 (h1 _ (by omega)) (by omega) _ _ f1 f2 ?_
      intro hx hy
      exact absurd ⟨of_decide_eq_true hx, of_decide_eq_true hy⟩ hf
  · simp only [hl, decide_false] at hL
    refine ⟨K0, ?_⟩
    have g0 := h0 K0 (by omega)
    simp only [tableaulaw01_NatDivides.f, g0, hL, Option.bind_some, if_true, Bool.false_eq_true, if_false]
end Go.Proofs.Ytaegboehjpjfnaa.Pure

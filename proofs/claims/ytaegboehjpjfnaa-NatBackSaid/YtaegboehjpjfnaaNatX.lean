/- The calls of package nat and the document's own: sums, differences, the order: they answer alike. -/
import Derived.Test.YtaegboehjpjfnaaPx0
import Derived.Test.YtaegboehjpjfnaaPx1
import Derived.Test.YtaegboehjpjfnaaPx2
import Derived.Test.YtaegboehjpjfnaaPx8
import Derived.Test.YtaegboehjpjfnaaRefA
set_option linter.unusedVariables false
set_option linter.unusedSimpArgs false
namespace Go.Proofs.Ytaegboehjpjfnaa.Pl
open Go.RowKit Go.Proofs.YtaegboehjpjfnaaW.PrintWords Go.Proofs.YtaegboehjpjfnaaW.PrintLast Go.Proofs.YtaegboehjpjfnaaW.PrintMore Go.Proofs.Ytaegboehjpjfnaa.P Go.Proofs.Ytaegboehjpjfnaa.Mine

theorem add_lt_pow {B m n k : Nat} (hB : 1 < B) (hm : m < B ^ k) (hn : n < B ^ k) : m + n < B ^ (k + 1) := by
  rw [Nat.pow_succ]
  have : B ^ k * 2 ≤ B ^ k * B := Nat.mul_le_mul_left _ hB
  omega
theorem pow_mono {B m n : Nat} (hB : 1 < B) (h : m ≤ n) : B ^ m ≤ B ^ n := Nat.pow_le_pow_right (by omega) h
theorem val_lt_pow {B : Nat} (hB : 1 < B) {l : List Int} (h : Ok B l) {k : Nat} (hk : l.length ≤ k) : val B l < B ^ k := Nat.lt_of_lt_of_le (val_lt (by omega) h) (pow_mono hB hk)
theorem digR_len {n k : Nat} (h : n < 18446744073709551616 ^ k) : (dig 4294967296 n).length ≤ 2 * k := dig_len_le hR _ _ (by rw [pow_WR]; exact h)

theorem nat_Add_eq (a b : List Int) (ha : Ok 18446744073709551616 a) (hb : Ok 18446744073709551616 b) (la : a.length < 1000000000) (lb : b.length < 1000000000) :
    Ev (fun k => nat_Add.f k a b) (if Fm a ∧ Fm b then (dig 18446744073709551616 (val 18446744073709551616 a + val 18446744073709551616 b), 0) else ([], 3)) := by
  obtain ⟨K0, h0⟩ := nat_forms_two a b (by omega) (by omega)
  by_cases hf : Fm a ∧ Fm b
  · rw [if_pos hf]
    simp only [if_pos hf] at h0
    by_cases hl : a.length < b.length
    · obtain ⟨K1, h1⟩ := nat_add_eq b a hb ha (by omega) (by omega)
      refine ⟨K0 + K1, fun m hm => ?_⟩
      simp (disch := omega) only [nat_Add.f, h0 m (by omega), Option.bind_some, ite_t, h1 m (by omega), if_true]
      rw [Nat.add_comm]
    · obtain ⟨K1, h1⟩ := nat_add_eq a b ha hb (by omega) (by omega)
      refine ⟨K0 + K1, fun m hm => ?_⟩
      simp (disch := omega) only [nat_Add.f, h0 m (by omega), Option.bind_some, ite_t, ite_f, h1 m (by omega), if_true]
  · rw [if_neg hf]
    simp only [if_neg hf] at h0
    refine ⟨K0, fun m hm => ?_⟩
    simp (disch := omega) only [nat_Add.f, h0 m (by omega), Option.bind_some, ite_f]
theorem nat_Sub_eq (a b : List Int) (ha : Ok 18446744073709551616 a) (hb : Ok 18446744073709551616 b) (la : a.length < 1000000000) (lb : b.length < 1000000000) :
    Ev (fun k => nat_Sub.f k a b) (if Fm a ∧ Fm b then (if val 18446744073709551616 a < val 18446744073709551616 b then ([], 1) else (dig 18446744073709551616 (val 18446744073709551616 a - val 18446744073709551616 b), 0)) else ([], 3)) := by
  obtain ⟨K0, h0⟩ := nat_forms_two a b (by omega) (by omega)
  by_cases hf : Fm a ∧ Fm b
  · rw [if_pos hf]
    simp only [if_pos hf] at h0
    obtain ⟨K2, h2⟩ := nat_cmp_eq a b ha hb hf.1 hf.2 (by omega)
    by_cases hl : val 18446744073709551616 a < val 18446744073709551616 b
    · rw [if_pos hl]
      simp only [sg_lt hl] at h2
      refine ⟨K0 + K2, fun m hm => ?_⟩
      simp (disch := omega) only [nat_Sub.f, h0 m (by omega), h2 m (by omega), Option.bind_some, ite_t, if_true]
    · rw [if_neg hl]
      have hs : ¬ sg (val 18446744073709551616 a) (val 18446744073709551616 b) < 0 := fun h => hl (sg_neg.1 h)
      obtain ⟨K1, h1⟩ := nat_sub_eq a b ha hb (by omega) (len_le_of_val hW ha hb hf.2 (by omega)) (by omega)
      refine ⟨K0 + K1 + K2, fun m hm => ?_⟩
      simp (disch := omega) only [nat_Sub.f, h0 m (by omega), h2 m (by omega), Option.bind_some, ite_t, if_neg hs, h1 m (by omega), if_true]
  · rw [if_neg hf]
    simp only [if_neg hf] at h0
    refine ⟨K0, fun m hm => ?_⟩
    simp (disch := omega) only [nat_Sub.f, h0 m (by omega), Option.bind_some, ite_f]
theorem ok_wf {l : List Int} (h : ∀ x ∈ l, (Lit.int .u64 x).wf = true) : Ok 18446744073709551616 l := fun x hx => by
  have := h x hx
  simp [Lit.wf, IntKind.min, IntKind.max, IntKind.bits, IntKind.signed] at this
  omega
theorem ref_light_eq (a b : List Int) : tableaulaw01_light.f a b = some (decide (a.length ≤ 60 ∧ b.length ≤ 60)) := by
  unfold tableaulaw01_light.f
  have e1 : ((a.length : Int) ≤ 60) ↔ a.length ≤ 60 := by omega
  have e2 : ((b.length : Int) ≤ 60) ↔ b.length ≤ 60 := by omega
  by_cases h1 : a.length ≤ 60 <;> by_cases h2 : b.length ≤ 60 <;> simp [e1, e2, h1, h2]
end Go.Proofs.Ytaegboehjpjfnaa.Pl

/- What the functions of package nat compute, as numbers. -/
import Derived.Test.YtaegboehjpjfnaaPx0
import Derived.Test.YtaegboehjpjfnaaPx1
import Derived.Test.YtaegboehjpjfnaaBase
set_option linter.unusedVariables false
set_option linter.unusedSimpArgs false
namespace Go.Proofs.Ytaegboehjpjfnaa.Pl
open Go.RowKit Go.Proofs.YtaegboehjpjfnaaW.PrintWords Go.Proofs.YtaegboehjpjfnaaW.PrintLast Go.Proofs.YtaegboehjpjfnaaW.PrintMore Go.Proofs.Ytaegboehjpjfnaa.P Go.Proofs.Ytaegboehjpjfnaa.Mine

theorem rd_int (l : List Int) (i : Int) : rd l i = l.getD i.toNat 0 := rfl
theorem hW : 1 < 18446744073709551616 := by omega
theorem val_take_succ' (B : Nat) (l : List Int) (i : Nat) : val B (l.take (i + 1)) = val B (l.take i) + B ^ i * (l.getD i 0).toNat := by
  rcases Nat.lt_or_ge i l.length with h | h
  · exact val_take_succ B l i h
  · rw [getD_of_ge l i h, List.take_of_length_le (by omega), List.take_of_length_le h]; simp

instance (l : List Int) : Decidable (Fm l) := by unfold Fm; infer_instance
theorem nat_Form_eq (l : List Int) (hl : l.length < 9223372036854775807) : nat_Form.f l = some (decide (Fm l)) := by
  unfold nat_Form.f Fm
  by_cases h0 : l.length = 0
  · simp [h0]
  · simp (disch := omega) only [w64, ite_t, ite_f]
    have e : ((l.length : Int) - 1).toNat = l.length - 1 := by omega
    simp only [rd_int, e]
    congr 1
    rw [Bool.eq_iff_iff]
    simp [h0]
theorem nat_forms_loop (a : List (List Int)) (ha : ∀ l ∈ a, l.length < 1099511627776) (hl : a.length < 1099511627776) :
    ∀ d i, i + d = a.length → Ev (fun k => nat_forms.l0 k a (a.length : Int) (i : Int)) (if ∀ l ∈ a.drop i, Fm l then 0 else 3) := by
  intro d
  induction d with
  | zero =>
    intro i hi
    refine Ev.round 0 fun m _ => ?_
    simp (disch := omega) only [nat_forms.l0, ite_f]
    rw [List.drop_of_length_le (by omega)]
    simp
  | succ d ih =>
    intro i hi
    have hlt : i < a.length := by omega
    have hget : rd_L1 a (i : Int) = a[i] := by unfold rd_L1; simp [hlt]
    have hdrop : a.drop i = a[i] :: a.drop (i + 1) := List.drop_eq_getElem_cons hlt
    have hF := nat_Form_eq a[i] (Nat.lt_trans (ha _ (List.getElem_mem hlt)) (by omega))
    obtain ⟨K, hK⟩ := ih (i + 1) (by omega)
    refine Ev.round K fun m hm => ?_
    simp (disch := omega) only [nat_forms.l0, ite_t, w64, hget, hF, Option.bind_some]
    have e : ((i : Int) + 1) = ((i + 1 : Nat) : Int) := by omega
    have hiff : (∀ l ∈ a.drop i, Fm l) ↔ (Fm a[i] ∧ ∀ l ∈ a.drop (i + 1), Fm l) := by rw [hdrop]; exact List.forall_mem_cons
    by_cases hf : Fm a[i]
    · simp only [hf, decide_true, if_true, e, hK m hm, hiff, true_and]
    · simp only [hf, decide_false, hiff, false_and, if_false]
      simp
theorem nat_forms_two (a b : List Int) (ha : a.length < 1099511627776) (hb : b.length < 1099511627776) : Ev (fun k => nat_forms.f k [a, b]) (if Fm a ∧ Fm b then 0 else 3) := by
  have h := nat_forms_loop [a, b] (by simp [ha, hb]) (by simp) 2 0 rfl
  simpa [nat_forms.f] using h
theorem nat_forms_one (a : List Int) (ha : a.length < 1099511627776) : Ev (fun k => nat_forms.f k [a]) (if Fm a then 0 else 3) := by
  have h := nat_forms_loop [a] (by simp [ha]) (by simp) 1 0 rfl
  simpa [nat_forms.f] using h
theorem nat_low_eq : ∀ (n : Nat) (l : List Int), l.length = n → n < 1099511627776 → Ok 18446744073709551616 l → Ev (fun k => nat_low.f k l) (dig 18446744073709551616 (val 18446744073709551616 l)) := by
  intro n
  induction n with
  | zero =>
    intro l hl _ hk
    obtain rfl := List.eq_nil_of_length_eq_zero hl
    refine Ev.round 0 fun m _ => ?_
    simp [nat_low.f, nat_low.l0, val_nil, dig_zero]
  | succ n ih =>
    intro l hl hn hk
    have e : ((l.length : Int) - 1).toNat = l.length - 1 := by omega
    by_cases h0 : l.getD (l.length - 1) 0 = 0
    · obtain ⟨K, hK⟩ := ih (l.take (l.length - 1)) (by rw [List.length_take]; omega) (by omega) (hk.take _)
      refine Ev.round K fun m hm => ?_
      have hr : rd l ((l.length : Int) - 1) = 0 := by rw [rd_int, e]; exact h0
      have hm' : nat_low.l0 m (l.take (l.length - 1)) = _ := hK m hm
      unfold nat_low.f
      simp (disch := omega) only [nat_low.l0, ite_t, w64, hr, e, if_true]
      rw [hm', dig_take_last hW (by omega) h0]
    · refine Ev.round 0 fun m _ => ?_
      have hr : rd l ((l.length : Int) - 1) ≠ 0 := by rw [rd_int, e]; exact h0
      unfold nat_low.f
      simp (disch := first | omega | assumption) only [nat_low.l0, ite_t, ite_f, w64]
      rw [dig_val hW hk (.inr h0)]
theorem bits_Add64_eq (x y c : Int) (h0 : 0 ≤ c) (h1 : c ≤ 1) : bits_Add64.f x y c = some ((((x.toNat + y.toNat + c.toNat) % 18446744073709551616 : Nat) : Int), (((x.toNat + y.toNat + c.toNat) / 18446744073709551616 : Nat) : Int)) := by
  unfold bits_Add64.f; rw [if_pos ⟨h0, h1⟩]
theorem nat_add_loop (a b : List Int) (ha : Ok 18446744073709551616 a) (hb : Ok 18446744073709551616 b) (hab : b.length ≤ a.length) (hn : a.length < 1000000000000) :
    ∀ d i s c, i + d = a.length → s.length = a.length + 1 → Ok 18446744073709551616 s → 0 ≤ c → c ≤ 1 →
      val 18446744073709551616 (s.take i) + 18446744073709551616 ^ i * c.toNat = val 18446744073709551616 (a.take i) + val 18446744073709551616 (b.take i) →
      Ev (fun k => nat_add.l0 k a b s c a (a.length : Int) (i : Int)) (dig 18446744073709551616 (val 18446744073709551616 a + val 18446744073709551616 b)) := by
  intro d
  induction d with
  | zero =>
    intro i s c hi hs hk hc0 hc1 hv
    obtain rfl : i = a.length := by omega
    rw [List.take_length, List.take_of_length_le hab] at hv
    have hkk : Ok 18446744073709551616 (s.set a.length c) := hk.set _ hc0 (by omega)
    obtain ⟨K, hK⟩ := nat_low_eq (a.length + 1) (s.set a.length c) (by simpa using hs) (by omega) hkk
    have hval : val 18446744073709551616 (s.set a.length c) = val 18446744073709551616 a + val 18446744073709551616 b := by
      have := val_take_set 18446744073709551616 s a.length c (by omega)
      rw [List.take_of_length_le (by simp; omega)] at this
      rw [this, hv]
    refine Ev.round K fun m hm => ?_
    simp (disch := omega) only [nat_add.l0, ite_t, ite_f, Int.toNat_natCast, hK m hm, Option.bind_some, hval]
  | succ d ih =>
    intro i s c hi hs hk hc0 hc1 hv
    have hlt : i < a.length := by omega
    have hx := ha.at (by omega) i
    have hy := hb.at (by omega) i
    have e : ((i : Int) + 1) = ((i + 1 : Nat) : Int) := by omega
    generalize hX : (a.getD i 0).toNat + (b.getD i 0).toNat + c.toNat = S
    have hS : S < 18446744073709551616 * 2 := by omega
    have h1 := val_take_set 18446744073709551616 s i ((S % 18446744073709551616 : Nat) : Int) (by omega)
    have h2 := val_take_succ' 18446744073709551616 a i
    have h3 := val_take_succ' 18446744073709551616 b i
    obtain ⟨K, hK⟩ := ih (i + 1) (s.set i ((S % 18446744073709551616 : Nat) : Int)) ((S / 18446744073709551616 : Nat) : Int) (by omega) (by simpa using hs) (hk.set _ (by omega) (by omega)) (by omega) (by omega) (by
      rw [h1, h2, h3, Nat.pow_succ, Int.toNat_natCast, Int.toNat_natCast]
      have hd := Nat.mod_add_div S 18446744073709551616
      generalize 18446744073709551616 ^ i = P at *
      have : P * (S % 18446744073709551616) + P * 18446744073709551616 * (S / 18446744073709551616) = P * S := by rw [Nat.mul_assoc, ← Nat.mul_add, hd]
      have h4 : P * S = P * (a.getD i 0).toNat + P * (b.getD i 0).toNat + P * c.toNat := by rw [← hX, Nat.mul_add, Nat.mul_add]
      omega)
    refine Ev.round K fun m hm => ?_
    by_cases hb1 : i < b.length
    · simp (disch := omega) only [nat_add.l0, ite_t, ite_f, Int.toNat_natCast, rd_nat, bits_Add64_eq, Option.bind_some, w64, hX, e, hK m hm]
    · have hz : b.getD i 0 = 0 := getD_of_ge b i (by omega)
      rw [hz] at hX
      simp (disch := omega) only [nat_add.l0, ite_t, ite_f, Int.toNat_natCast, rd_nat, bits_Add64_eq, Option.bind_some, w64, hX, e, hK m hm]
theorem nat_add_eq (a b : List Int) (ha : Ok 18446744073709551616 a) (hb : Ok 18446744073709551616 b) (hab : b.length ≤ a.length) (hn : a.length < 1000000000000) :
    Ev (fun k => nat_add.f k a b) (dig 18446744073709551616 (val 18446744073709551616 a + val 18446744073709551616 b)) := by
  have e : ((a.length : Int) + 1).toNat = a.length + 1 := by omega
  obtain ⟨K, hK⟩ := nat_add_loop a b ha hb hab hn a.length 0 (List.replicate (a.length + 1) 0) 0 (by omega) (by simp) (Ok.replicate (by omega) _) (by omega) (by omega) (by simp [val_nil])
  refine ⟨K, fun m hm => ?_⟩
  simp (disch := omega) only [nat_add.f, ite_t, w64, e]
  exact hK m hm
end Go.Proofs.Ytaegboehjpjfnaa.Pl

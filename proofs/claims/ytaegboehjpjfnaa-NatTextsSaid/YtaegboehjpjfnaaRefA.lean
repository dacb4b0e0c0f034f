/- What the document's own functions (digits to the base 2^32) compute, as numbers: from and to, sums, differences, the order. -/
import Derived.Test.YtaegboehjpjfnaaPx0
import Derived.Test.YtaegboehjpjfnaaPx1
import Derived.Test.YtaegboehjpjfnaaPx8
import Derived.Test.YtaegboehjpjfnaaPx9
import Derived.Test.YtaegboehjpjfnaaPx10
import Derived.Test.YtaegboehjpjfnaaNatF1
set_option linter.unusedVariables false
set_option linter.unusedSimpArgs false
namespace Go.Proofs.Ytaegboehjpjfnaa.Pl
open Go.RowKit Go.Proofs.YtaegboehjpjfnaaW.PrintWords Go.Proofs.YtaegboehjpjfnaaW.PrintLast Go.Proofs.YtaegboehjpjfnaaW.PrintMore Go.Proofs.Ytaegboehjpjfnaa.P Go.Proofs.Ytaegboehjpjfnaa.Mine

theorem hR : 1 < 4294967296 := by omega
theorem ref_Form_eq (l : List Int) (hl : l.length < 9223372036854775807) : tableauref01_Form.f l = some (decide (Fm l)) := by
  rw [← nat_Form_eq l hl]; rfl
theorem ref_Twin_eq (l : List Int) (hl : l.length < 1000000000000) : tableauref01_Twin.f l = some l := by
  unfold tableauref01_Twin.f
  rw [if_pos (by simp; omega), List.nil_append]
theorem ref_Same_loop (l : List Int) (hn : l.length < 1000000000000) : ∀ d i, i + d = l.length → Ev (fun k => tableauref01_Same.l0 k l l (l.length : Int) (i : Int)) true := by
  intro d
  induction d with
  | zero =>
    intro i hi
    refine Ev.round 0 fun m _ => ?_
    simp (disch := omega) only [tableauref01_Same.l0, ite_f]
  | succ d ih =>
    intro i hi
    obtain ⟨K, hK⟩ := ih (i + 1) (by omega)
    have e : ((i : Int) + 1) = ((i + 1 : Nat) : Int) := by omega
    refine Ev.round K fun m hm => ?_
    simp (disch := omega) only [tableauref01_Same.l0, ite_t, w64, e, hK m hm, if_true]
theorem ref_Same_self (l : List Int) (hn : l.length < 1000000000000) : Ev (fun k => tableauref01_Same.f k l l) true := by
  obtain ⟨K, hK⟩ := ref_Same_loop l hn l.length 0 (by omega)
  refine ⟨K, fun m hm => ?_⟩
  simp (disch := omega) only [tableauref01_Same.f, ite_t]
  exact hK m hm
theorem ref_Low_loop (l : List Int) (hn : l.length < 1000000000000) (hk : Ok 4294967296 l) : ∀ i, i ≤ l.length → Ev (fun k => tableauref01_Low.l0 k l (i : Int)) (dig 4294967296 (val 4294967296 (l.take i))) := by
  intro i
  induction i with
  | zero =>
    intro hi
    refine Ev.round 0 fun m _ => ?_
    simp (disch := omega) only [tableauref01_Low.l0, ite_t, ite_f]
    simp [val_nil, dig_zero]
  | succ i ih =>
    intro hi
    have e : ((i + 1 : Nat) : Int) - 1 = (i : Int) := by omega
    have hv := val_take_succ' 4294967296 l i
    by_cases h0 : l.getD i 0 = 0
    · obtain ⟨K, hK⟩ := ih (by omega)
      refine Ev.round K fun m hm => ?_
      have hr : rd l (i : Int) = 0 := by rw [rd_nat]; exact h0
      simp (disch := omega) only [tableauref01_Low.l0, ite_t, w64, e, hr, hK m hm]
      rw [hv, h0]
      simp
    · refine Ev.round 0 fun m _ => ?_
      have hr : rd l (i : Int) ≠ 0 := by rw [rd_nat]; exact h0
      simp (disch := first | omega | assumption) only [tableauref01_Low.l0, ite_t, ite_f, w64, e, Int.toNat_natCast]
      rw [dig_val hR (hk.take _) (.inr ?_)]
      rw [List.length_take, Nat.min_eq_left (by omega), Nat.add_sub_cancel, getD_take _ _ _ (by omega)]
      exact h0
theorem ref_Low_eq (l : List Int) (hn : l.length < 1000000000000) (hk : Ok 4294967296 l) : Ev (fun k => tableauref01_Low.f k l) (dig 4294967296 (val 4294967296 l)) := by
  have h := ref_Low_loop l hn hk l.length (by omega)
  rw [List.take_length] at h
  exact h
theorem pow_WR (i : Nat) : 4294967296 ^ (2 * i) = 18446744073709551616 ^ i := by
  rw [Nat.pow_mul]
theorem ref_From_loop (a : List Int) (ha : Ok 18446744073709551616 a) (hn : a.length < 100000000000) :
    ∀ d i s, i + d = a.length → s.length = 2 * i → Ok 4294967296 s → val 4294967296 s = val 18446744073709551616 (a.take i) →
      Ev (fun k => tableauref01_From.l0 k s a (a.length : Int) (i : Int)) (dig 4294967296 (val 18446744073709551616 a)) := by
  intro d
  induction d with
  | zero =>
    intro i s hi hs hk hv
    obtain rfl : i = a.length := by omega
    rw [List.take_length] at hv
    obtain ⟨K, hK⟩ := ref_Low_eq s (by omega) hk
    refine Ev.round K fun m hm => ?_
    simp (disch := omega) only [tableauref01_From.l0, ite_f, hK m hm, Option.bind_some, hv]
  | succ d ih =>
    intro i s hi hs hk hv
    have hx := ha.at (by omega) i
    generalize hX : a.getD i 0 = X at hx
    obtain ⟨n, rfl⟩ : ∃ n : Nat, X = (n : Int) := ⟨X.toNat, by omega⟩
    have e : ((i : Int) + 1) = ((i + 1 : Nat) : Int) := by omega
    have e1 : Int.tmod (n : Int) 4294967296 = ((n % 4294967296 : Nat) : Int) := by
      rw [Int.tmod_eq_emod_of_nonneg (by omega)]; omega
    have e2 : (n : Int) / 4294967296 = ((n / 4294967296 : Nat) : Int) := by omega
    obtain ⟨K, hK⟩ := ih (i + 1) (s ++ [((n % 4294967296 : Nat) : Int), ((n / 4294967296 : Nat) : Int)]) (by omega) (by simp; omega)
      (hk.append (Ok.cons (by omega) (by omega) (Ok.one (by omega) (by omega)))) (by
        rw [val_append, hs, pow_WR, val_cons, val_one, val_take_succ', hX, hv]
        simp only [Int.toNat_natCast]
        have := Nat.mod_add_div n 4294967296
        rw [this])
    refine Ev.round K fun m hm => ?_
    simp (disch := omega) only [tableauref01_From.l0, ite_t, Option.bind_some, rd_nat, hX, e1, e2, w64, e, List.length_cons, List.length_nil, hK m hm]
theorem ref_From_eq (a : List Int) (ha : Ok 18446744073709551616 a) (hn : a.length < 100000000000) : Ev (fun k => tableauref01_From.f k a) (dig 4294967296 (val 18446744073709551616 a)) := by
  obtain ⟨K, hK⟩ := ref_From_loop a ha hn a.length 0 [] (by omega) (by simp) (Ok.nil _) (by simp [val_nil])
  refine ⟨K, fun m hm => ?_⟩
  simp (disch := omega) only [tableauref01_From.f, ite_t, w64]
  exact hK m hm
theorem dig_one {B n : Nat} (hB : 1 < B) (h0 : 0 < n) (h : n < B) : dig B n = [(n : Int)] := by
  rw [dig_pos hB h0, Nat.mod_eq_of_lt h, Nat.div_eq_of_lt h, dig_zero]
theorem ref_To_loop (l : List Int) (hn : l.length < 1000000000000) : ∀ n i s, s.length ≤ i → i ≤ l.length + 1 → l.drop i = dig 4294967296 n → Ev (fun k => tableauref01_To.l0 k l s (i : Int)) (s ++ dig 18446744073709551616 n) := by
  intro n
  induction n using Nat.strongRecOn with
  | _ n ih =>
    intro i s hs hi hd
    have hlen : l.length - i = (dig 4294967296 n).length := by rw [← hd, List.length_drop]
    have e : ((i : Int) + 2) = ((i + 2 : Nat) : Int) := by omega
    have e' : ((i : Int) + 1) = ((i + 1 : Nat) : Int) := by omega
    rcases Nat.eq_zero_or_pos n with rfl | hp
    · refine Ev.round 0 fun m _ => ?_
      rw [dig_zero] at hlen ⊢
      have : l.length - i = 0 := hlen
      simp (disch := omega) only [tableauref01_To.l0, ite_f, List.append_nil]
    · have g0 : l.getD i 0 = (dig 4294967296 n).getD 0 0 := by rw [← hd, getD_drop, Nat.add_zero]
      rcases Nat.lt_or_ge n 4294967296 with h | h
      · rw [dig_one hR hp h] at hlen g0
        have hl1 : l.length - i = 1 := hlen
        have g : l.getD i 0 = (n : Int) := g0
        obtain ⟨K, hK⟩ := ih 0 hp (i + 2) (s ++ [(n : Int)]) (by simp; omega) (by omega) (by rw [dig_zero, List.drop_of_length_le (by omega)])
        refine Ev.round K fun m hm => ?_
        simp (disch := omega) only [tableauref01_To.l0, ite_t, ite_f, w64, e, e', rd_nat, g, hK m hm]
        rw [dig_zero, List.append_nil, dig_one hW hp (by omega)]
      · have h1 : 0 < n / 4294967296 := by omega
        rw [dig_pos hR hp, dig_pos hR h1] at hlen g0
        simp only [List.length_cons] at hlen
        have g : l.getD i 0 = ((n % 4294967296 : Nat) : Int) := g0
        have g1 : l.getD (i + 1) 0 = ((n / 4294967296 % 4294967296 : Nat) : Int) := by rw [← getD_drop, hd, dig_pos hR hp, dig_pos hR h1]; rfl
        have g2 : l.drop (i + 2) = dig 4294967296 (n / 18446744073709551616) := by
          rw [← List.drop_drop, hd, dig_pos hR hp, dig_pos hR h1, Nat.div_div_eq_div_mul]; rfl
        obtain ⟨K, hK⟩ := ih (n / 18446744073709551616) (by omega) (i + 2) (s ++ [((n % 18446744073709551616 : Nat) : Int)]) (by simp; omega) (by omega) g2
        have e3 : ((n % 4294967296 : Nat) : Int) + (((n / 4294967296 % 4294967296 : Nat) : Int) * 4294967296) = ((n % 18446744073709551616 : Nat) : Int) := by omega
        refine Ev.round K fun m hm => ?_
        simp (disch := omega) only [tableauref01_To.l0, ite_t, ite_f, w64, e, e', rd_nat, g, g1, u64w, e3, hK m hm]
        rw [dig_pos hW hp, List.append_assoc]; rfl
theorem ref_To_eq (n : Nat) (hn : (dig 4294967296 n).length < 1000000000000) : Ev (fun k => tableauref01_To.f k (dig 4294967296 n)) (dig 18446744073709551616 n) := by
  have h := ref_To_loop (dig 4294967296 n) hn n 0 [] (by simp) (by omega) (by simp)
  exact h
end Go.Proofs.Ytaegboehjpjfnaa.Pl

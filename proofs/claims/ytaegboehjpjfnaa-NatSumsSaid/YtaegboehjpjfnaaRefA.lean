/- What the document's own functions (digits to the base 2^32) compute, as numbers: from and to, sums, differences, the order. -/
import Derived.Test.YtaegboehjpjfnaaPx0
import Derived.Test.YtaegboehjpjfnaaPx1
import Derived.Test.YtaegboehjpjfnaaPx8
import Derived.Test.YtaegboehjpjfnaaPx9
import Derived.Test.YtaegboehjpjfnaaPx10
import Derived.Test.YtaegboehjpjfnaaNatF1
set_option linter.unusedVariables false
set_option linter.unusedSimpArgs false
namespace Go.Proofs.Ytaegboehjpjfnaa.Pl
open Go.RowKit Go.Proofs.YtaegboehjpjfnaaW.PrintWords Go.Proofs.YtaegboehjpjfnaaW.PrintLast Go.Proofs.YtaegboehjpjfnaaW.PrintMore Go.Proofs.Ytaegboehjpjfnaa.P Go.Proofs.Ytaegboehjpjfnaa.Mine

theorem hR : 1 < 4294967296 := by omega
theorem ref_Form_eq (l : List Int) (hl : l.length < 9223372036854775807) : tableauref01_Form.f l = some (decide (Fm l)) := by
  rw [← nat_Form_eq l hl]; rfl
theorem ref_Twin_eq (l : List Int) (hl : l.length < 1000000000000) : tableauref01_Twin.f l = some l := by
  unfold tableauref01_Twin.f
  rw [if_pos (by simp; omega), List.nil_append]
theorem ref_two_eq (a b : List Int) (ha : a.length < 9223372036854775807) (hb : b.length < 9223372036854775807) : tableauref01_two.f a b = some (if Fm a ∧ Fm b then 0 else 3) := by
  unfold tableauref01_two.f
  rw [ref_Form_eq a ha, ref_Form_eq b hb]
  by_cases h1 : Fm a <;> by_cases h2 : Fm b <;> simp [h1, h2]
theorem ref_Same_loop (l : List Int) (hn : l.length < 1000000000000) : ∀ d i, i + d = l.length → Ev (fun k => tableauref01_Same.l0 k l l (l.length : Int) (i : Int)) true := by
  intro d
  induction d with
  | zero =>
    intro i hi
    refine Ev.round 0 fun m _ => ?_
    simp (disch := omega) only [tableauref01_Same.l0, ite_f]
  | succ d ih =>
    intro i hi
    obtain ⟨K, hK⟩ := ih (i + 1) (by omega)
    have e : ((i : Int) + 1) = ((i + 1 : Nat) : Int) := by omega
    refine Ev.round K fun m hm => ?_
    simp (disch := omega) only [tableauref01_Same.l0, ite_t, w64, e, hK m hm, if_true]
theorem ref_Same_self (l : List Int) (hn : l.length < 1000000000000) : Ev (fun k => tableauref01_Same.f k l l) true := by
  obtain ⟨K, hK⟩ := ref_Same_loop l hn l.length 0 (by omega)
  refine ⟨K, fun m hm => ?_⟩
  simp (disch := omega) only [tableauref01_Same.f, ite_t]
  exact hK m hm
theorem ref_Low_loop (l : List Int) (hn : l.length < 1000000000000) (hk : Ok 4294967296 l) : ∀ i, i ≤ l.length → Ev (fun k => tableauref01_Low.l0 k l (i : Int)) (dig 4294967296 (val 4294967296 (l.take i))) := by
  intro i
  induction i with
  | zero =>
    intro hi
    refine Ev.round 0 fun m _ => ?_
    simp (disch := omega) only [tableauref01_Low.l0, ite_t, ite_f]
    simp [val_nil, dig_zero]
  | succ i ih =>
    intro hi
    have e : ((i + 1 : Nat) : Int) - 1 = (i : Int) := by omega
    have hv := val_take_succ' 4294967296 l i
    by_cases h0 : l.getD i 0 = 0
    · obtain ⟨K, hK⟩ := ih (by omega)
      refine Ev.round K fun m hm => ?_
      have hr : rd l (i : Int) = 0 := by rw [rd_nat]; exact h0
      simp (disch := omega) only [tableauref01_Low.l0, ite_t, w64, e, hr, hK m hm]
      rw [hv, h0]
      simp
    · refine Ev.round 0 fun m _ => ?_
      have hr : rd l (i : Int) ≠ 0 := by rw [rd_nat]; exact h0
      simp (disch := first | omega | assumption) only [tableauref01_Low.l0, ite_t, ite_f, w64, e, Int.toNat_natCast]
      rw [dig_val hR (hk.take _) (.inr ?_)]
      rw [List.length_take, Nat.min_eq_left (by omega), Nat.add_sub_cancel, getD_take _ _ _ (by omega)]
      exact h0
theorem ref_Low_eq (l : List Int) (hn : l.length < 1000000000000) (hk : Ok 4294967296 l) : Ev (fun k => tableauref01_Low.f k l) (dig 4294967296 (val 4294967296 l)) := by
  have h := ref_Low_loop l hn hk l.length (by omega)
  rw [List.take_length] at h
  exact h
theorem pow_WR (i : Nat) : 4294967296 ^ (2 * i) = 18446744073709551616 ^ i := by
  rw [Nat.pow_mul]
theorem ref_From_loop (a : List Int) (ha : Ok 18446744073709551616 a) (hn : a.length < 100000000000) :
    ∀ d i s, i + d = a.length → s.length = 2 * i → Ok 4294967296 s → val 4294967296 s = val 18446744073709551616 (a.take i) →
      Ev (fun k => tableauref01_From.l0 k s a (a.length : Int) (i : Int)) (dig 4294967296 (val 18446744073709551616 a)) := by
  intro d
  induction d with
  | zero =>
    intro i s hi hs hk hv
    obtain rfl : i = a.length := by omega
    rw [List.take_length] at hv
    obtain ⟨K, hK⟩ := ref_Low_eq s (by omega) hk
    refine Ev.round K fun m hm => ?_
    simp (disch := omega) only [tableauref01_From.l0, ite_f, hK m hm, Option.bind_some, hv]
  | succ d ih =>
    intro i s hi hs hk hv
    have hx := ha.at (by omega) i
    generalize hX : a.getD i 0 = X at hx
    obtain ⟨n, rfl⟩ : ∃ n : Nat, X = (n : Int) := ⟨X.toNat, by omega⟩
    have e : ((i : Int) + 1) = ((i + 1 : Nat) : Int) := by omega
    have e1 : Int.tmod (n : Int) 4294967296 = ((n % 4294967296 : Nat) : Int) := by
      rw [Int.tmod_eq_emod_of_nonneg (by omega)]; omega
    have e2 : (n : Int) / 4294967296 = ((n / 4294967296 : Nat) : Int) := by omega
    obtain ⟨K, hK⟩ := ih (i + 1) (s ++ [((n % 4294967296 : Nat) : Int), ((n / 4294967296 : Nat) : Int)]) (by omega) (by simp; omega)
      (hk.append (Ok.cons (by omega) (by omega) (Ok.one (by omega) (by omega)))) (by
        rw [val_append, hs, pow_WR, val_cons, val_one, val_take_succ', hX, hv]
        simp only [Int.toNat_natCast]
        have := Nat.mod_add_div n 4294967296
        rw [this])
    refine Ev.round K fun m hm => ?_
    simp (disch := omega) only [tableauref01_From.l0, ite_t, Option.bind_some, rd_nat, hX, e1, e2, w64, e, List.length_cons, List.length_nil, hK m hm]
theorem ref_From_eq (a : List Int) (ha : Ok 18446744073709551616 a) (hn : a.length < 100000000000) : Ev (fun k => tableauref01_From.f k a) (dig 4294967296 (val 18446744073709551616 a)) := by
  obtain ⟨K, hK⟩ := ref_From_loop a ha hn a.length 0 [] (by omega) (by simp) (Ok.nil _) (by simp [val_nil])
  refine ⟨K, fun m hm => ?_⟩
  simp (disch := omega) only [tableauref01_From.f, ite_t, w64]
  exact hK m hm
theorem dig_one {B n : Nat} (hB : 1 < B) (h0 : 0 < n) (h : n < B) : dig B n = [(n : Int)] := by
  rw [dig_pos hB h0, Nat.mod_eq_of_lt h, Nat.div_eq_of_lt h, dig_zero]
theorem ref_To_loop (l : List Int) (hn : l.length < 1000000000000) : ∀ n i s, s.length ≤ i → i ≤ l.length + 1 → l.drop i = dig 4294967296 n → Ev (fun k => tableauref01_To.l0 k l s (i : Int)) (s ++ dig 18446744073709551616 n) := by
  intro n
  induction n using Nat.strongRecOn with
  | _ n ih =>
    intro i s hs hi hd
    have hlen : l.length - i = (dig 4294967296 n).length := by rw [← hd, List.length_drop]
    have e : ((i : Int) + 2) = ((i + 2 : Nat) : Int) := by omega
    have e' : ((i : Int) + 1) = ((i + 1 : Nat) : Int) := by omega
    rcases Nat.eq_zero_or_pos n with rfl | hp
    · refine Ev.round 0 fun m _ => ?_
      rw [dig_zero] at hlen ⊢
      have : l.length - i = 0 := hlen
      simp (disch := omega) only [tableauref01_To.l0, ite_f, List.append_nil]
    · have g0 : l.getD i 0 = (dig 4294967296 n).getD 0 0 := by rw [← hd, getD_drop, Nat.add_zero]
      rcases Nat.lt_or_ge n 4294967296 with h | h
      · rw [dig_one hR hp h] at hlen g0
        have hl1 : l.length - i = 1 := hlen
        have g : l.getD i 0 = (n : Int) := g0
        obtain ⟨K, hK⟩ := ih 0 hp (i + 2) (s ++ [(n : Int)]) (by simp; omega) (by omega) (by rw [dig_zero, List.drop_of_length_le (by omega)])
        refine Ev.round K fun m hm => ?_
        simp (disch := omega) only [tableauref01_To.l0, ite_t, ite_f, w64, e, e', rd_nat, g, hK m hm]
        rw [dig_zero, List.append_nil, dig_one hW hp (by omega)]
      · have h1 : 0 < n / 4294967296 := by omega
        rw [dig_pos hR hp, dig_pos hR h1] at hlen g0
        simp only [List.length_cons] at hlen
        have g : l.getD i 0 = ((n % 4294967296 : Nat) : Int) := g0
        have g1 : l.getD (i + 1) 0 = ((n / 4294967296 % 4294967296 : Nat) : Int) := by rw [← getD_drop, hd, dig_pos hR hp, dig_pos hR h1]; rfl
        have g2 : l.drop (i + 2) = dig 4294967296 (n / 18446744073709551616) := by
          rw [← List.drop_drop, hd, dig_pos hR hp, dig_pos hR h1, Nat.div_div_eq_div_mul]; rfl
        obtain ⟨K, hK⟩ := ih (n / 18446744073709551616) (by omega) (i + 2) (s ++ [((n % 18446744073709551616 : Nat) : Int)]) (by simp; omega) (by omega) g2
        have e3 : ((n % 4294967296 : Nat) : Int) + (((n / 4294967296 % 4294967296 : Nat) : Int) * 4294967296) = ((n % 18446744073709551616 : Nat) : Int) := by omega
        refine Ev.round K fun m hm => ?_
        simp (disch := omega) only [tableauref01_To.l0, ite_t, ite_f, w64, e, e', rd_nat, g, g1, u64w, e3, hK m hm]
        rw [dig_pos hW hp, List.append_assoc]; rfl
theorem ref_To_eq (n : Nat) (hn : (dig 4294967296 n).length < 1000000000000) : Ev (fun k => tableauref01_To.f k (dig 4294967296 n)) (dig 18446744073709551616 n) := by
  have h := ref_To_loop (dig 4294967296 n) hn n 0 [] (by simp) (by omega) (by simp)
  exact h
theorem ref_Cmp_loop (a b : List Int) (ha : Ok 4294967296 a) (hb : Ok 4294967296 b) (hab : a.length = b.length) (hn : a.length < 1000000000000) :
    ∀ i, i ≤ a.length → Ev (fun k => tableauref01_Cmp.l0 k a b ((i : Int) - 1)) (sg (val 4294967296 (a.take i)) (val 4294967296 (b.take i))) := by
  intro d
  induction d with
  | zero =>
    intro hi
    refine Ev.round 0 fun m _ => ?_
    simp (disch := omega) only [tableauref01_Cmp.l0, ite_f]
    simp [sg, val]
  | succ d ih =>
    intro hi
    obtain ⟨K, hK⟩ := ih (by omega)
    have e : (((d + 1 : Nat) : Int) - 1) = ((d : Nat) : Int) := by omega
    have h2 := val_take_succ' 4294967296 a d
    have h3 := val_take_succ' 4294967296 b d
    have hx := ha.at (by omega) d
    have hy := hb.at (by omega) d
    have l2 := ok_val_take_lt (by omega) ha d (by omega)
    have l3 := ok_val_take_lt (by omega) hb d (by omega)
    refine Ev.round K fun m hm => ?_
    simp (disch := omega) only [tableauref01_Cmp.l0, ite_t, w64, e, rd_nat, hK m hm]
    rw [h2, h3]
    by_cases h : a.getD d 0 = b.getD d 0
    · rw [if_neg (by omega), if_neg (by omega), h, sg_add]
    · by_cases hl : a.getD d 0 < b.getD d 0
      · rw [if_pos hl, sg_lt (top_lt (B := 0) l2 (by omega))]
      · rw [if_neg hl, if_pos (by omega), sg_gt (top_lt (B := 0) l3 (by omega))]
theorem ref_Cmp_eq (a b : List Int) (ha : Ok 4294967296 a) (hb : Ok 4294967296 b) (fa : Fm a) (fb : Fm b) (hn : a.length < 1000000000000) :
    Ev (fun k => tableauref01_Cmp.f k a b) (sg (val 4294967296 a) (val 4294967296 b)) := by
  by_cases hab : a.length = b.length
  · obtain ⟨K, hK⟩ := ref_Cmp_loop a b ha hb hab hn a.length (by omega)
    refine ⟨K, fun m hm => ?_⟩
    have h := hK m hm
    rw [List.take_length, List.take_of_length_le (by omega)] at h
    simp (disch := omega) only [tableauref01_Cmp.f, ite_t, w64]
    exact h
  · refine Ev.all fun m => ?_
    simp (disch := omega) only [tableauref01_Cmp.f, ite_f]
    by_cases hl : a.length < b.length
    · rw [if_pos (by omega), sg_lt (len_lt_val hR ha hb fb hl)]
    · rw [if_neg (by omega), sg_gt (len_lt_val hR hb ha fa (by omega))]
theorem ref_Add_loop (a b : List Int) (ha : Ok 4294967296 a) (hb : Ok 4294967296 b) (hab : b.length ≤ a.length) (hn : a.length < 100000000000) :
    ∀ d i s (c : Nat), i + d = a.length → s.length = i → Ok 4294967296 s → c ≤ 1 →
      val 4294967296 s + 4294967296 ^ i * c = val 4294967296 (a.take i) + val 4294967296 (b.take i) →
      Ev (fun k => tableauref01_Add.l0 k b s (c : Int) a (a.length : Int) (i : Int)) (dig 4294967296 (val 4294967296 a + val 4294967296 b)) := by
  intro d
  induction d with
  | zero =>
    intro i s c hi hs hk hc1 hv
    obtain rfl : i = a.length := by omega
    rw [List.take_length, List.take_of_length_le hab] at hv
    obtain ⟨K, hK⟩ := ref_Low_eq (s ++ [(c : Int)]) (by simp; omega) (hk.append (Ok.one (by omega) (by omega)))
    have hval : val 4294967296 (s ++ [(c : Int)]) = val 4294967296 a + val 4294967296 b := by rw [val_append, val_one, hs, Int.toNat_natCast, hv]
    refine Ev.round K fun m hm => ?_
    simp (disch := omega) only [tableauref01_Add.l0, ite_t, ite_f, hK m hm, Option.bind_some, hval]
  | succ d ih =>
    intro i s c hi hs hk hc1 hv
    have hx := ha.at (by omega) i
    have hy := hb.at (by omega) i
    have e : ((i : Int) + 1) = ((i + 1 : Nat) : Int) := by omega
    generalize hX : a.getD i 0 = X at hx
    generalize hY : b.getD i 0 = Y at hy
    obtain ⟨x, rfl⟩ : ∃ n : Nat, X = (n : Int) := ⟨X.toNat, by omega⟩
    obtain ⟨y, rfl⟩ : ∃ n : Nat, Y = (n : Int) := ⟨Y.toNat, by omega⟩
    have e1 : Int.tmod ((c : Int) + (x : Int) + (y : Int)) 4294967296 = (((c + x + y) % 4294967296 : Nat) : Int) := by
      rw [Int.tmod_eq_emod_of_nonneg (by omega)]; omega
    have e2 : ((c : Int) + (x : Int) + (y : Int)) / 4294967296 = (((c + x + y) / 4294967296 : Nat) : Int) := by omega
    have e3 : Int.tmod ((c : Int) + (x : Int)) 4294967296 = (((c + x) % 4294967296 : Nat) : Int) := by
      rw [Int.tmod_eq_emod_of_nonneg (by omega)]; omega
    have e4 : ((c : Int) + (x : Int)) / 4294967296 = (((c + x) / 4294967296 : Nat) : Int) := by omega
    have h2 := val_take_succ' 4294967296 a i
    have h3 := val_take_succ' 4294967296 b i
    rw [hX, Int.toNat_natCast] at h2
    rw [hY, Int.toNat_natCast] at h3
    obtain ⟨K, hK⟩ := ih (i + 1) (s ++ [(((c + x + y) % 4294967296 : Nat) : Int)]) ((c + x + y) / 4294967296) (by omega) (by simp; omega) (hk.append (Ok.one (by omega) (by omega))) (by omega) (by
      rw [val_append, val_one, hs, h2, h3, Nat.pow_succ, Int.toNat_natCast]
      generalize 4294967296 ^ i = P at *
      have hd := Nat.mod_add_div (c + x + y) 4294967296
      have h5 : P * ((c + x + y) % 4294967296) + P * 4294967296 * ((c + x + y) / 4294967296) = P * (c + x + y) := by rw [Nat.mul_assoc, ← Nat.mul_add, hd]
      have h4 : P * (c + x + y) = P * c + P * x + P * y := by rw [Nat.mul_add, Nat.mul_add]
      omega)
    refine Ev.round K fun m hm => ?_
    by_cases hb1 : i < b.length
    · simp (disch := omega) only [tableauref01_Add.l0, ite_t, ite_f, rd_nat, hX, hY, u64w, e1, e2, w64, e, hK m hm]
    · have hz : b.getD i 0 = 0 := getD_of_ge b i (by omega)
      obtain rfl : y = 0 := by omega
      rw [Nat.add_zero] at hK
      simp (disch := omega) only [tableauref01_Add.l0, ite_t, ite_f, rd_nat, hX, hY, u64w, e3, e4, w64, e, hK m hm]
theorem ref_Add_eq (a b : List Int) (ha : Ok 4294967296 a) (hb : Ok 4294967296 b) (hn : a.length < 100000000000) (hm : b.length < 100000000000) :
    Ev (fun k => tableauref01_Add.f k a b) (dig 4294967296 (val 4294967296 a + val 4294967296 b)) := by
  by_cases h : a.length < b.length
  · obtain ⟨K, hK⟩ := ref_Add_loop b a hb ha (by omega) hm b.length 0 [] 0 (by omega) (by simp) (Ok.nil _) (by omega) (by simp [val_nil])
    refine ⟨K, fun m hm => ?_⟩
    simp (disch := omega) only [tableauref01_Add.f, ite_t, w64]
    rw [Nat.add_comm]
    exact hK m hm
  · obtain ⟨K, hK⟩ := ref_Add_loop a b ha hb (by omega) hn a.length 0 [] 0 (by omega) (by simp) (Ok.nil _) (by omega) (by simp [val_nil])
    refine ⟨K, fun m hm => ?_⟩
    simp (disch := omega) only [tableauref01_Add.f, ite_t, ite_f, w64]
    exact hK m hm
theorem ref_Sub_loop (a b : List Int) (ha : Ok 4294967296 a) (hb : Ok 4294967296 b) (hab : val 4294967296 b ≤ val 4294967296 a) (hbl : b.length ≤ a.length) (hn : a.length < 100000000000) :
    ∀ d i s (c : Nat), i + d = a.length → s.length = i → Ok 4294967296 s → c ≤ 1 →
      val 4294967296 s + val 4294967296 (b.take i) = val 4294967296 (a.take i) + 4294967296 ^ i * c →
      Ev (fun k => tableauref01_Sub.l0 k b s (c : Int) a (a.length : Int) (i : Int)) (dig 4294967296 (val 4294967296 a - val 4294967296 b)) := by
  intro d
  induction d with
  | zero =>
    intro i s c hi hs hk hc1 hv
    obtain rfl : i = a.length := by omega
    rw [List.take_length, List.take_of_length_le hbl] at hv
    have hlt := val_lt (by omega) hk
    rw [hs] at hlt
    have hc : c = 0 := by
      rcases Nat.eq_zero_or_pos c with h | h
      · exact h
      · have : 4294967296 ^ a.length * 1 ≤ 4294967296 ^ a.length * c := Nat.mul_le_mul_left _ h
        rw [Nat.mul_one] at this
        generalize 4294967296 ^ a.length * c = Q at *
        omega
    rw [hc, Nat.mul_zero, Nat.add_zero] at hv
    obtain ⟨K, hK⟩ := ref_Low_eq s (by omega) hk
    refine Ev.round K fun m hm => ?_
    simp (disch := omega) only [tableauref01_Sub.l0, ite_t, ite_f, hK m hm, Option.bind_some]
    rw [show val 4294967296 s = val 4294967296 a - val 4294967296 b by omega]
  | succ d ih =>
    intro i s c hi hs hk hc1 hv
    have hx := ha.at (by omega) i
    have hy := hb.at (by omega) i
    have e : ((i : Int) + 1) = ((i + 1 : Nat) : Int) := by omega
    generalize hX : a.getD i 0 = X at hx
    generalize hY : b.getD i 0 = Y at hy
    obtain ⟨x, rfl⟩ : ∃ n : Nat, X = (n : Int) := ⟨X.toNat, by omega⟩
    obtain ⟨y, rfl⟩ : ∃ n : Nat, Y = (n : Int) := ⟨Y.toNat, by omega⟩
    have h2 := val_take_succ' 4294967296 a i
    have h3 := val_take_succ' 4294967296 b i
    rw [hX, Int.toNat_natCast] at h2
    rw [hY, Int.toNat_natCast] at h3
    have step : ∀ (t r : Nat), t ≤ 1 → r < 4294967296 → r + y + c = x + 4294967296 * t →
        Ev (fun k => tableauref01_Sub.l0 k b (s ++ [(r : Int)]) (t : Int) a (a.length : Int) ((i + 1 : Nat) : Int)) (dig 4294967296 (val 4294967296 a - val 4294967296 b)) := by
      intro t r ht hr hrt
      refine ih (i + 1) (s ++ [(r : Int)]) t (by omega) (by simp; omega) (hk.append (Ok.one (by omega) (by omega))) ht ?_
      rw [val_append, val_one, hs, h2, h3, Nat.pow_succ, Int.toNat_natCast]
      generalize 4294967296 ^ i = P at *
      have h4 : P * (r + y + c) = P * (x + 4294967296 * t) := by rw [hrt]
      simp only [Nat.mul_add] at h4
      rw [Nat.mul_assoc]
      omega
    by_cases hlt : x < y + c
    · obtain ⟨K, hK⟩ := step 1 (x + 4294967296 - y - c) (by omega) (by omega) (by omega)
      have e5 : (x : Int) + 4294967296 - ((c : Int) + (y : Int)) = ((x + 4294967296 - y - c : Nat) : Int) := by omega
      have e6 : ((1 : Nat) : Int) = 1 := rfl
      rw [e6] at hK
      refine Ev.round K fun m hm => ?_
      by_cases hb1 : i < b.length
      · simp (disch := omega) only [tableauref01_Sub.l0, ite_t, ite_f, rd_nat, hX, hY, u64w, e5, w64, e, hK m hm]
      · have hz : b.getD i 0 = 0 := getD_of_ge b i (by omega)
        obtain rfl : y = 0 := by omega
        have e7 : (x : Int) + 4294967296 - ((c : Int)) = ((x + 4294967296 - 0 - c : Nat) : Int) := by omega
        simp (disch := omega) only [tableauref01_Sub.l0, ite_t, ite_f, rd_nat, hX, hY, u64w, e7, w64, e, hK m hm]
    · obtain ⟨K, hK⟩ := step 0 (x - y - c) (by omega) (by omega) (by omega)
      have e5 : (x : Int) - ((c : Int) + (y : Int)) = ((x - y - c : Nat) : Int) := by omega
      have e6 : ((0 : Nat) : Int) = 0 := rfl
      rw [e6] at hK
      refine Ev.round K fun m hm => ?_
      by_cases hb1 : i < b.length
      · simp (disch := omega) only [tableauref01_Sub.l0, ite_t, ite_f, rd_nat, hX, hY, u64w, e5, w64, e, hK m hm]
      · have hz : b.getD i 0 = 0 := getD_of_ge b i (by omega)
        obtain rfl : y = 0 := by omega
        have e7 : (x : Int) - ((c : Int)) = ((x - 0 - c : Nat) : Int) := by omega
        simp (disch := omega) only [tableauref01_Sub.l0, ite_t, ite_f, rd_nat, hX, hY, u64w, e7, w64, e, hK m hm]
theorem ref_Sub_eq (a b : List Int) (ha : Ok 4294967296 a) (hb : Ok 4294967296 b) (fb : Fm b) (hab : val 4294967296 b ≤ val 4294967296 a) (hn : a.length < 100000000000) :
    Ev (fun k => tableauref01_Sub.f k a b) (dig 4294967296 (val 4294967296 a - val 4294967296 b)) := by
  obtain ⟨K, hK⟩ := ref_Sub_loop a b ha hb hab (len_le_of_val hR ha hb fb hab) hn a.length 0 [] 0 (by omega) (by simp) (Ok.nil _) (by omega) (by simp [val_nil])
  refine ⟨K, fun m hm => ?_⟩
  simp (disch := omega) only [tableauref01_Sub.f, ite_t, Int.toNat_natCast]
  exact hK m hm
end Go.Proofs.Ytaegboehjpjfnaa.Pl

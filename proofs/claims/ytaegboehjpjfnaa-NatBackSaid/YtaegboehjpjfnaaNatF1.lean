/- What the functions of package nat compute, as numbers: sums, differences, the order. -/
import Derived.Test.YtaegboehjpjfnaaPx0
import Derived.Test.YtaegboehjpjfnaaPx2
import Derived.Test.YtaegboehjpjfnaaNatF0
set_option linter.unusedVariables false
set_option linter.unusedSimpArgs false
namespace Go.Proofs.Ytaegboehjpjfnaa.Pl
open Go.RowKit Go.Proofs.YtaegboehjpjfnaaW.PrintWords Go.Proofs.YtaegboehjpjfnaaW.PrintLast Go.Proofs.YtaegboehjpjfnaaW.PrintMore Go.Proofs.Ytaegboehjpjfnaa.P Go.Proofs.Ytaegboehjpjfnaa.Mine

/-- The order of two numbers, as Go's functions tell it. -/
def sg (m n : Nat) : Int := if m < n then -1 else if m = n then 0 else 1
theorem sg_self (n : Nat) : sg n n = 0 := by unfold sg; simp
theorem sg_lt {m n : Nat} (h : m < n) : sg m n = -1 := by unfold sg; simp [h]
theorem sg_gt {m n : Nat} (h : n < m) : sg m n = 1 := by unfold sg; rw [if_neg (by omega), if_neg (by omega)]
theorem sg_neg {m n : Nat} : sg m n < 0 ↔ m < n := by
  unfold sg; split
  · simp [*]
  · split <;> simp <;> omega
theorem sg_add (m n c : Nat) : sg (m + c) (n + c) = sg m n := by unfold sg; simp
theorem ok_val_take_lt {B : Nat} (hB : 0 < B) {l : List Int} (h : Ok B l) (i : Nat) (hi : i ≤ l.length) : val B (l.take i) < B ^ i := by
  have := val_lt hB (h.take i)
  rwa [List.length_take, Nat.min_eq_left hi] at this
theorem top_lt {B P x y a b : Nat} (hx : x < P) (hab : a < b) : x + P * a < y + P * b := by
  have : P * (a + 1) ≤ P * b := Nat.mul_le_mul_left P hab
  rw [Nat.mul_add] at this
  omega
theorem nat_cmp_loop (a b : List Int) (ha : Ok 18446744073709551616 a) (hb : Ok 18446744073709551616 b) (hab : a.length = b.length) (hn : a.length < 1000000000000) :
    ∀ d i, i + d = a.length → Ev (fun k => nat_cmp.l0 k a b (a.length : Int) (i : Int)) (sg (val 18446744073709551616 (a.take d)) (val 18446744073709551616 (b.take d))) := by
  intro d
  induction d with
  | zero =>
    intro i hi
    refine Ev.round 0 fun m _ => ?_
    simp (disch := omega) only [nat_cmp.l0, ite_f]
    simp [sg, val]
  | succ d ih =>
    intro i hi
    obtain ⟨K, hK⟩ := ih (i + 1) (by omega)
    have e : ((a.length : Int) - 1 - (i : Int)) = ((d : Nat) : Int) := by omega
    have e2 : ((i : Int) + 1) = ((i + 1 : Nat) : Int) := by omega
    have h2 := val_take_succ' 18446744073709551616 a d
    have h3 := val_take_succ' 18446744073709551616 b d
    have hx := ha.at (by omega) d
    have hy := hb.at (by omega) d
    have l2 := ok_val_take_lt (by omega) ha d (by omega)
    have l3 := ok_val_take_lt (by omega) hb d (by omega)
    refine Ev.round K fun m hm => ?_
    simp (disch := omega) only [nat_cmp.l0, ite_t, w64, e, rd_nat]
    rw [h2, h3]
    by_cases h : a.getD d 0 = b.getD d 0
    · rw [if_pos h]
      simp (disch := omega) only [w64, e2, hK m hm]
      rw [h, sg_add]
    · rw [if_neg h]
      by_cases hl : a.getD d 0 < b.getD d 0
      · rw [if_pos hl, sg_lt (top_lt (B := 0) l2 (by omega))]
      · rw [if_neg hl, sg_gt (top_lt (B := 0) l3 (by omega))]
theorem len_lt_val {B : Nat} (hB : 1 < B) {a b : List Int} (ha : Ok B a) (hb : Ok B b) (fb : Fm b) (h : a.length < b.length) : val B a < val B b := by
  rw [← dig_val hB hb fb] at h
  rcases Nat.lt_or_ge (val B a) (val B b) with h1 | h1
  · exact h1
  · have h2 := dig_len_le hB a.length (val B b) (Nat.lt_of_le_of_lt h1 (val_lt (by omega) ha))
    omega
theorem nat_cmp_eq (a b : List Int) (ha : Ok 18446744073709551616 a) (hb : Ok 18446744073709551616 b) (fa : Fm a) (fb : Fm b) (hn : a.length < 1000000000000) :
    Ev (fun k => nat_cmp.f k a b) (sg (val 18446744073709551616 a) (val 18446744073709551616 b)) := by
  by_cases hab : a.length = b.length
  · obtain ⟨K, hK⟩ := nat_cmp_loop a b ha hb hab hn a.length 0 (by omega)
    refine ⟨K, fun m hm => ?_⟩
    have h := hK m hm
    rw [List.take_length, List.take_of_length_le (by omega)] at h
    simp (disch := omega) only [nat_cmp.f, ite_t]
    exact h
  · refine Ev.all fun m => ?_
    simp (disch := omega) only [nat_cmp.f, ite_f]
    by_cases hl : a.length < b.length
    · rw [if_pos (by omega), sg_lt (len_lt_val hW ha hb fb hl)]
    · rw [if_neg (by omega), sg_gt (len_lt_val hW hb ha fa (by omega))]
theorem bits_Sub64_eq (x y c : Int) (h0 : 0 ≤ c) (h1 : c ≤ 1) : bits_Sub64.f x y c = some ((((x.toNat + 18446744073709551616 - y.toNat - c.toNat) % 18446744073709551616 : Nat) : Int), ((if x.toNat < y.toNat + c.toNat then 1 else 0 : Nat) : Int)) := by
  unfold bits_Sub64.f; rw [if_pos ⟨h0, h1⟩]
theorem nat_sub_loop (a b : List Int) (ha : Ok 18446744073709551616 a) (hb : Ok 18446744073709551616 b) (hab : val 18446744073709551616 b ≤ val 18446744073709551616 a) (hn : a.length < 1000000000000) (hbl : b.length ≤ a.length) :
    ∀ d i s c, i + d = a.length → s.length = a.length → Ok 18446744073709551616 s → 0 ≤ c → c ≤ 1 →
      val 18446744073709551616 (s.take i) + val 18446744073709551616 (b.take i) = val 18446744073709551616 (a.take i) + 18446744073709551616 ^ i * c.toNat →
      Ev (fun k => nat_sub.l0 k b s c a (a.length : Int) (i : Int)) (dig 18446744073709551616 (val 18446744073709551616 a - val 18446744073709551616 b)) := by
  intro d
  induction d with
  | zero =>
    intro i s c hi hs hk hc0 hc1 hv
    obtain rfl : i = a.length := by omega
    rw [List.take_length, List.take_of_length_le hbl, List.take_of_length_le (by omega)] at hv
    have hlt := val_lt (by omega) hk
    rw [hs] at hlt
    have hc : c.toNat = 0 := by
      rcases Nat.eq_zero_or_pos c.toNat with h | h
      · exact h
      · have : 18446744073709551616 ^ a.length * 1 ≤ 18446744073709551616 ^ a.length * c.toNat := Nat.mul_le_mul_left _ h
        rw [Nat.mul_one] at this
        generalize 18446744073709551616 ^ a.length * c.toNat = Q at *
        omega
    rw [hc, Nat.mul_zero, Nat.add_zero] at hv
    obtain ⟨K, hK⟩ := nat_low_eq a.length s hs (by omega) hk
    refine Ev.round K fun m hm => ?_
    simp (disch := omega) only [nat_sub.l0, ite_t, ite_f, hK m hm, Option.bind_some]
    rw [show val 18446744073709551616 s = val 18446744073709551616 a - val 18446744073709551616 b by omega]
  | succ d ih =>
    intro i s c hi hs hk hc0 hc1 hv
    have hlt : i < a.length := by omega
    have hx := ha.at (by omega) i
    have hy := hb.at (by omega) i
    have e : ((i : Int) + 1) = ((i + 1 : Nat) : Int) := by omega
    generalize hX : (a.getD i 0).toNat = X
    generalize hY : (b.getD i 0).toNat = Y
    generalize hC : c.toNat = C at hv
    generalize hR : (X + 18446744073709551616 - Y - C) % 18446744073709551616 = R
    generalize hT : (if X < Y + C then 1 else 0 : Nat) = T
    have hRT : R + Y + C = X + 18446744073709551616 * T := by rw [← hT]; split <;> omega
    have hT1 : T ≤ 1 := by rw [← hT]; split <;> omega
    have h1 := val_take_set 18446744073709551616 s i (R : Int) (by omega)
    have h2 := val_take_succ' 18446744073709551616 a i
    have h3 := val_take_succ' 18446744073709551616 b i
    obtain ⟨K, hK⟩ := ih (i + 1) (s.set i (R : Int)) (T : Int) (by omega) (by simpa using hs) (hk.set _ (by omega) (by omega)) (by omega) (by omega) (by
      rw [h1, h2, h3, Nat.pow_succ, Int.toNat_natCast, Int.toNat_natCast, hX, hY]
      generalize 18446744073709551616 ^ i = P at *
      have h4 : P * (R + Y + C) = P * (X + 18446744073709551616 * T) := by rw [hRT]
      simp only [Nat.mul_add] at h4
      rw [Nat.mul_assoc]
      omega)
    refine Ev.round K fun m hm => ?_
    by_cases hb1 : i < b.length
    · simp (disch := omega) only [nat_sub.l0, ite_t, ite_f, Int.toNat_natCast, rd_nat, bits_Sub64_eq, Option.bind_some, w64, hX, hY, hC, hR, hT, e, hK m hm]
    · have hz : b.getD i 0 = 0 := getD_of_ge b i (by omega)
      rw [hz] at hY
      simp (disch := omega) only [nat_sub.l0, ite_t, ite_f, Int.toNat_natCast, rd_nat, bits_Sub64_eq, Option.bind_some, w64, hX, hY, hC, hR, hT, e, hK m hm]
theorem nat_sub_eq (a b : List Int) (ha : Ok 18446744073709551616 a) (hb : Ok 18446744073709551616 b) (hab : val 18446744073709551616 b ≤ val 18446744073709551616 a) (hbl : b.length ≤ a.length) (hn : a.length < 30000000000000 / 100) :
    Ev (fun k => nat_sub.f k a b) (dig 18446744073709551616 (val 18446744073709551616 a - val 18446744073709551616 b)) := by
  obtain ⟨K, hK⟩ := nat_sub_loop a b ha hb hab (by omega) hbl a.length 0 (List.replicate a.length 0) 0 (by omega) (by simp) (Ok.replicate (by omega) _) (by omega) (by omega) (by simp [val_nil])
  refine ⟨K, fun m hm => ?_⟩
  simp (disch := omega) only [nat_sub.f, ite_t, Int.toNat_natCast]
  exact hK m hm
/-- b in form and no greater: it is no longer. -/
theorem len_le_of_val {B : Nat} (hB : 1 < B) {a b : List Int} (ha : Ok B a) (hb : Ok B b) (fb : Fm b) (h : val B b ≤ val B a) : b.length ≤ a.length := by
  rcases Nat.lt_or_ge a.length b.length with h1 | h1
  · have := len_lt_val hB ha hb fb h1; omega
  · exact h1
theorem nat_Clone_eq (a : List Int) (hn : a.length < 1000000000000) : slices_Clone_uint64_uint64.f a = some a := by unfold slices_Clone_uint64_uint64.f; rw [if_pos (by omega)]
end Go.Proofs.Ytaegboehjpjfnaa.Pl

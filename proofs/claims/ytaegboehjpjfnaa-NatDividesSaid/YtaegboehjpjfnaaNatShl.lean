/- Products by powers of two: package nat's shl and the document's. -/
import Derived.Test.YtaegboehjpjfnaaPx0
import Derived.Test.YtaegboehjpjfnaaPx2
import Derived.Test.YtaegboehjpjfnaaShift
import Derived.Test.YtaegboehjpjfnaaNatX
set_option linter.unusedVariables false
set_option linter.unusedSimpArgs false
namespace Go.Proofs.Ytaegboehjpjfnaa.Pl
open Go.RowKit Go.Proofs.YtaegboehjpjfnaaW.PrintWords Go.Proofs.YtaegboehjpjfnaaW.PrintLast Go.Proofs.YtaegboehjpjfnaaW.PrintMore Go.Proofs.Ytaegboehjpjfnaa.P Go.Proofs.Ytaegboehjpjfnaa.Mine

theorem tdiv_nat (n m : Nat) : Int.tdiv (n : Int) (m : Int) = ((n / m : Nat) : Int) := by rw [Int.tdiv_eq_ediv_of_nonneg (by omega)]; omega
theorem tmod_nat (n m : Nat) : Int.tmod (n : Int) (m : Int) = ((n % m : Nat) : Int) := by rw [Int.tmod_eq_emod_of_nonneg (by omega)]; omega
theorem pow_two_W (n : Nat) : 18446744073709551616 ^ (n / 64) * 2 ^ (n % 64) = 2 ^ n := by
  rw [show (18446744073709551616 : Nat) = 2 ^ 64 from rfl, ← Nat.pow_mul, ← Nat.pow_add, Nat.div_add_mod]
theorem pow_two_R (n : Nat) : 4294967296 ^ (n / 32) * 2 ^ (n % 32) = 2 ^ n := by
  rw [show (4294967296 : Nat) = 2 ^ 32 from rfl, ← Nat.pow_mul, ← Nat.pow_add, Nat.div_add_mod]
theorem two_pow_le {r k : Nat} (h : r ≤ k) : 2 ^ r ≤ 2 ^ k := Nat.pow_le_pow_right (by omega) h
theorem nat_shl_loop (a : List Int) (n : Nat) (ha : Ok 18446744073709551616 a) (hn : a.length < 1000000000) (hn2 : n < 1000000000) :
    ∀ d i s, i + d = a.length → s.length = n / 64 + a.length + 1 → Ok 18446744073709551616 s → (s.getD (n / 64 + i) 0).toNat < 2 ^ (n % 64) →
      val 18446744073709551616 (s.take (n / 64 + i + 1)) = val 18446744073709551616 (a.take i) * 2 ^ n →
      Ev (fun k => nat_shl.l0 k (n : Int) s ((n % 64 : Nat) : Int) a (a.length : Int) (i : Int)) (dig 18446744073709551616 (val 18446744073709551616 a * 2 ^ n)) := by
  have e1 : Int.tdiv (n : Int) 64 = ((n / 64 : Nat) : Int) := tdiv_nat n 64
  have hpn := pow_two_W n
  generalize hq : n / 64 = q at *
  generalize hr : n % 64 = r at *
  have hr64 : r < 64 := by omega
  have hrp : 2 ^ (64 - r) * 2 ^ r = 18446744073709551616 := by rw [← Nat.pow_add, show 64 - r + r = 64 by omega]
  intro d
  induction d with
  | zero =>
    intro i s hi hs hk hc hv
    obtain rfl : i = a.length := by omega
    rw [List.take_length, List.take_of_length_le (by omega)] at hv
    obtain ⟨K, hK⟩ := nat_low_eq _ s rfl (by omega) hk
    refine Ev.round K fun m hm => ?_
    simp (disch := omega) only [nat_shl.l0, ite_f, hK m hm, Option.bind_some, hv]
  | succ d ih =>
    intro i s hi hs hk hc hv
    have hx := ha.at (by omega) i
    generalize hX : a.getD i 0 = X at hx
    obtain ⟨x, rfl⟩ : ∃ n : Nat, X = (n : Int) := ⟨X.toNat, by omega⟩
    have hH0 := hk.at (by omega) (q + i)
    have hvt := val_take_succ' 18446744073709551616 s (q + i)
    generalize hH : s.getD (q + i) 0 = H at hH0 hc hvt
    obtain ⟨h, rfl⟩ : ∃ n : Nat, H = (n : Int) := ⟨H.toNat, by omega⟩
    rw [Int.toNat_natCast] at hc hvt
    obtain ⟨p1, p2⟩ := shl_parts x r (by omega)
    have hlt : h + x * 2 ^ r % 18446744073709551616 < 18446744073709551616 := by
      rw [p1, ← hrp]
      have h1 : x % 2 ^ (64 - r) < 2 ^ (64 - r) := Nat.mod_lt _ (Nat.two_pow_pos _)
      have h2 : (x % 2 ^ (64 - r) + 1) * 2 ^ r ≤ 2 ^ (64 - r) * 2 ^ r := Nat.mul_le_mul_right _ h1
      rw [Nat.add_mul] at h2
      omega
    have hor : Go.bits .or .u64 (h : Int) ((x * 2 ^ r % 18446744073709551616 : Nat) : Int) = ((h + x * 2 ^ r % 18446744073709551616 : Nat) : Int) :=
      or_add h _ _ r hc p1 (by omega) (by omega)
    have hcar : x * 2 ^ r / 18446744073709551616 < 2 ^ r := by
      rw [Nat.div_lt_iff_lt_mul (by omega), Nat.mul_comm]
      exact Nat.mul_lt_mul_of_pos_left (by omega) (Nat.two_pow_pos _)
    have hcar2 : x * 2 ^ r / 18446744073709551616 < 18446744073709551616 := Nat.lt_of_lt_of_le hcar (two_pow_le (show r ≤ 64 by omega))
    have hshr : shr .u64 ((x : Int) / 2) ((63 - r : Nat) : Int) = ((x * 2 ^ r / 18446744073709551616 : Nat) : Int) := by
      rw [show (x : Int) / 2 = ((x / 2 : Nat) : Int) by omega, shr64 _ _ (by omega), p2, Nat.div_div_eq_div_mul, ← Nat.pow_succ', show (63 - r).succ = 64 - r by omega]
    have hshl := shl64 x r (by omega)
    have e2 : ((q : Nat) : Int) + (i : Int) = ((q + i : Nat) : Int) := by omega
    have e3 : ((q + i : Nat) : Int) + 1 = ((q + i + 1 : Nat) : Int) := by omega
    have e4 : (63 : Int) - (r : Int) = ((63 - r : Nat) : Int) := by omega
    have e : ((i : Int) + 1) = ((i + 1 : Nat) : Int) := by omega
    have hra := val_take_succ' 18446744073709551616 a i
    rw [hX, Int.toNat_natCast] at hra
    obtain ⟨K, hK⟩ := ih (i + 1) ((s.set (q + i) ((h + x * 2 ^ r % 18446744073709551616 : Nat) : Int)).set (q + i + 1) ((x * 2 ^ r / 18446744073709551616 : Nat) : Int)) (by omega) (by simp; omega)
      ((hk.set _ (by omega) (by omega)).set _ (by omega) (by omega)) (by
        rw [show q + (i + 1) = q + i + 1 by omega, getD_set_self _ _ _ (by simp; omega), Int.toNat_natCast]
        exact hcar) (by
        rw [show q + (i + 1) + 1 = q + i + 1 + 1 by omega, val_take_set _ _ _ _ (by simp; omega), val_take_set _ _ _ _ (by omega), hra, Int.toNat_natCast, Int.toNat_natCast, Nat.add_mul]
        rw [← hv, hvt]
        have h1 := Nat.mod_add_div (x * 2 ^ r) 18446744073709551616
        have h2 : 18446744073709551616 ^ (q + i) * (x * 2 ^ r % 18446744073709551616) + 18446744073709551616 ^ (q + i + 1) * (x * 2 ^ r / 18446744073709551616) = 18446744073709551616 ^ (q + i) * (x * 2 ^ r) := by
          rw [Nat.pow_succ, Nat.mul_assoc, ← Nat.mul_add, h1]
        have h3 : 18446744073709551616 ^ (q + i) * (x * 2 ^ r) = 18446744073709551616 ^ i * x * 2 ^ n := by
          rw [Nat.pow_add, ← hpn]
          simp only [Nat.mul_comm, Nat.mul_left_comm, Nat.mul_assoc]
        rw [Nat.mul_add]
        omega)
    refine Ev.round K fun m hm => ?_
    simp (disch := omega) only [nat_shl.l0, ite_t, e1, w64, u64w, e2, e3, e4, rd_nat, hX, hH, Int.toNat_natCast, hshl, hor, hshr, e, hK m hm]
theorem nat_shl_eq (a : List Int) (n : Nat) (ha : Ok 18446744073709551616 a) (hn : a.length < 1000000000) (hn2 : n < 1000000000) :
    Ev (fun k => nat_shl.f k a (n : Int)) (dig 18446744073709551616 (val 18446744073709551616 a * 2 ^ n)) := by
  by_cases h0 : a.length = 0
  · obtain rfl := List.eq_nil_of_length_eq_zero h0
    refine Ev.all fun m => ?_
    simp [nat_shl.f, val_nil, dig_zero]
  · have e1 : Int.tdiv (n : Int) 64 = ((n / 64 : Nat) : Int) := tdiv_nat n 64
    have e2 : Int.tmod (n : Int) 64 = ((n % 64 : Nat) : Int) := tmod_nat n 64
    have e3 : ((n / 64 : Nat) : Int) + (a.length : Int) + 1 = ((n / 64 + a.length + 1 : Nat) : Int) := by omega
    obtain ⟨K, hK⟩ := nat_shl_loop a n ha hn hn2 a.length 0 (List.replicate (n / 64 + a.length + 1) 0) (by omega) (by simp) (Ok.replicate (by omega) _)
      (by simp [List.getD_eq_getElem?_getD, List.getElem?_replicate]; split <;> simp [Nat.two_pow_pos])
      (by rw [List.take_replicate, val_replicate]; simp [val_nil])
    refine ⟨K, fun m hm => ?_⟩
    have := hK m hm
    simp (disch := omega) only [nat_shl.f, ite_t, ite_f, e1, e2, w64, u64w, e3, Int.toNat_natCast]
    exact this
theorem mul_pow_lt {v k n : Nat} (h : v < 18446744073709551616 ^ k) : v * 2 ^ n < 18446744073709551616 ^ (k + n) := by
  rw [Nat.pow_add]
  have h1 : 2 ^ n ≤ 18446744073709551616 ^ n := Nat.pow_le_pow_left (by omega) n
  exact Nat.lt_of_lt_of_le (Nat.mul_lt_mul_of_pos_right h (Nat.two_pow_pos n)) (Nat.mul_le_mul_left _ h1)
end Go.Proofs.Ytaegboehjpjfnaa.Pl

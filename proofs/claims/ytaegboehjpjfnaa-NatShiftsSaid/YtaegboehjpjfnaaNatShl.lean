/- Products by powers of two: package nat's shl and the document's. -/
import Derived.Test.YtaegboehjpjfnaaPx0
import Derived.Test.YtaegboehjpjfnaaPx2
import Derived.Test.YtaegboehjpjfnaaPx8
import Derived.Test.YtaegboehjpjfnaaPx9
import Derived.Test.YtaegboehjpjfnaaShift
import Derived.Test.YtaegboehjpjfnaaNatX
set_option linter.unusedVariables false
set_option linter.unusedSimpArgs false
namespace Go.Proofs.Ytaegboehjpjfnaa.Pl
open Go.RowKit Go.Proofs.YtaegboehjpjfnaaW.PrintWords Go.Proofs.YtaegboehjpjfnaaW.PrintLast Go.Proofs.YtaegboehjpjfnaaW.PrintMore Go.Proofs.Ytaegboehjpjfnaa.P Go.Proofs.Ytaegboehjpjfnaa.Mine

theorem tdiv_nat (n m : Nat) : Int.tdiv (n : Int) (m : Int) = ((n / m : Nat) : Int) := by rw [Int.tdiv_eq_ediv_of_nonneg (by omega)]; omega
theorem tmod_nat (n m : Nat) : Int.tmod (n : Int) (m : Int) = ((n % m : Nat) : Int) := by rw [Int.tmod_eq_emod_of_nonneg (by omega)]; omega
theorem pow_two_W (n : Nat) : 18446744073709551616 ^ (n / 64) * 2 ^ (n % 64) = 2 ^ n := by
  rw [show (18446744073709551616 : Nat) = 2 ^ 64 from rfl, ← Nat.pow_mul, ← Nat.pow_add, Nat.div_add_mod]
theorem pow_two_R (n : Nat) : 4294967296 ^ (n / 32) * 2 ^ (n % 32) = 2 ^ n := by
  rw [show (4294967296 : Nat) = 2 ^ 32 from rfl, ← Nat.pow_mul, ← Nat.pow_add, Nat.div_add_mod]
theorem two_pow_le {r k : Nat} (h : r ≤ k) : 2 ^ r ≤ 2 ^ k := Nat.pow_le_pow_right (by omega) h
theorem nat_shl_loop (a : List Int) (n : Nat) (ha : Ok 18446744073709551616 a) (hn : a.length < 1000000000) (hn2 : n < 1000000000) :
    ∀ d i s, i + d = a.length → s.length = n / 64 + a.length + 1 → Ok 18446744073709551616 s → (s.getD (n / 64 + i) 0).toNat < 2 ^ (n % 64) →
      val 18446744073709551616 (s.take (n / 64 + i + 1)) = val 18446744073709551616 (a.take i) * 2 ^ n →
      Ev (fun k => nat_shl.l0 k (n : Int) s ((n % 64 : Nat) : Int) a (a.length : Int) (i : Int)) (dig 18446744073709551616 (val 18446744073709551616 a * 2 ^ n)) := by
  have e1 : Int.tdiv (n : Int) 64 = ((n / 64 : Nat) : Int) := tdiv_nat n 64
  have hpn := pow_two_W n
  generalize hq : n / 64 = q at *
  generalize hr : n % 64 = r at *
  have hr64 : r < 64 := by omega
  have hrp : 2 ^ (64 - r) * 2 ^ r = 18446744073709551616 := by rw [← Nat.pow_add, show 64 - r + r = 64 by omega]
  intro d
  induction d with
  | zero =>
    intro i s hi hs hk hc hv
    obtain rfl : i = a.length := by omega
    rw [List.take_length, List.take_of_length_le (by omega)] at hv
    obtain ⟨K, hK⟩ := nat_low_eq _ s rfl (by omega) hk
    refine Ev.round K fun m hm => ?_
    simp (disch := omega) only [nat_shl.l0, ite_f, hK m hm, Option.bind_some, hv]
  | succ d ih =>
    intro i s hi hs hk hc hv
    have hx := ha.at (by omega) i
    generalize hX : a.getD i 0 = X at hx
    obtain ⟨x, rfl⟩ : ∃ n : Nat, X = (n : Int) := ⟨X.toNat, by omega⟩
    have hH0 := hk.at (by omega) (q + i)
    have hvt := val_take_succ' 18446744073709551616 s (q + i)
    generalize hH : s.getD (q + i) 0 = H at hH0 hc hvt
    obtain ⟨h, rfl⟩ : ∃ n : Nat, H = (n : Int) := ⟨H.toNat, by omega⟩
    rw [Int.toNat_natCast] at hc hvt
    obtain ⟨p1, p2⟩ := shl_parts x r (by omega)
    have hlt : h + x * 2 ^ r % 18446744073709551616 < 18446744073709551616 := by
      rw [p1, ← hrp]
      have h1 : x % 2 ^ (64 - r) < 2 ^ (64 - r) := Nat.mod_lt _ (Nat.two_pow_pos _)
      have h2 : (x % 2 ^ (64 - r) + 1) * 2 ^ r ≤ 2 ^ (64 - r) * 2 ^ r := Nat.mul_le_mul_right _ h1
      rw [Nat.add_mul] at h2
      omega
    have hor : Go.bits .or .u64 (h : Int) ((x * 2 ^ r % 18446744073709551616 : Nat) : Int) = ((h + x * 2 ^ r % 18446744073709551616 : Nat) : Int) :=
      or_add h _ _ r hc p1 (by omega) (by omega)
    have hcar : x * 2 ^ r / 18446744073709551616 < 2 ^ r := by
      rw [Nat.div_lt_iff_lt_mul (by omega), Nat.mul_comm]
      exact Nat.mul_lt_mul_of_pos_left (by omega) (Nat.two_pow_pos _)
    have hcar2 : x * 2 ^ r / 18446744073709551616 < 18446744073709551616 := Nat.lt_of_lt_of_le hcar (two_pow_le (show r ≤ 64 by omega))
    have hshr : shr .u64 ((x : Int) / 2) ((63 - r : Nat) : Int) = ((x * 2 ^ r / 18446744073709551616 : Nat) : Int) := by
      rw [show (x : Int) / 2 = ((x / 2 : Nat) : Int) by omega, shr64 _ _ (by omega), p2, Nat.div_div_eq_div_mul, ← Nat.pow_succ', show (63 - r).succ = 64 - r by omega]
    have hshl := shl64 x r (by omega)
    have e2 : ((q : Nat) : Int) + (i : Int) = ((q + i : Nat) : Int) := by omega
    have e3 : ((q + i : Nat) : Int) + 1 = ((q + i + 1 : Nat) : Int) := by omega
    have e4 : (63 : Int) - (r : Int) = ((63 - r : Nat) : Int) := by omega
    have e : ((i : Int) + 1) = ((i + 1 : Nat) : Int) := by omega
    have hra := val_take_succ' 18446744073709551616 a i
    rw [hX, Int.toNat_natCast] at hra
    obtain ⟨K, hK⟩ := ih (i + 1) ((s.set (q + i) ((h + x * 2 ^ r % 18446744073709551616 : Nat) : Int)).set (q + i + 1) ((x * 2 ^ r / 18446744073709551616 : Nat) : Int)) (by omega) (by simp; omega)
      ((hk.set _ (by omega) (by omega)).set _ (by omega) (by omega)) (by
        rw [show q + (i + 1) = q + i + 1 by omega, getD_set_self _ _ _ (by simp; omega), Int.toNat_natCast]
        exact hcar) (by
        rw [show q + (i + 1) + 1 = q + i + 1 + 1 by omega, val_take_set _ _ _ _ (by simp; omega), val_take_set _ _ _ _ (by omega), hra, Int.toNat_natCast, Int.toNat_natCast, Nat.add_mul]
        rw [← hv, hvt]
        have h1 := Nat.mod_add_div (x * 2 ^ r) 18446744073709551616
        have h2 : 18446744073709551616 ^ (q + i) * (x * 2 ^ r % 18446744073709551616) + 18446744073709551616 ^ (q + i + 1) * (x * 2 ^ r / 18446744073709551616) = 18446744073709551616 ^ (q + i) * (x * 2 ^ r) := by
          rw [Nat.pow_succ, Nat.mul_assoc, ← Nat.mul_add, h1]
        have h3 : 18446744073709551616 ^ (q + i) * (x * 2 ^ r) = 18446744073709551616 ^ i * x * 2 ^ n := by
          rw [Nat.pow_add, ← hpn]
          simp only [Nat.mul_comm, Nat.mul_left_comm, Nat.mul_assoc]
        rw [Nat.mul_add]
        omega)
    refine Ev.round K fun m hm => ?_
    simp (disch := omega) only [nat_shl.l0, ite_t, e1, w64, u64w, e2, e3, e4, rd_nat, hX, hH, Int.toNat_natCast, hshl, hor, hshr, e, hK m hm]
theorem nat_shl_eq (a : List Int) (n : Nat) (ha : Ok 18446744073709551616 a) (hn : a.length < 1000000000) (hn2 : n < 1000000000) :
    Ev (fun k => nat_shl.f k a (n : Int)) (dig 18446744073709551616 (val 18446744073709551616 a * 2 ^ n)) := by
  by_cases h0 : a.length = 0
  · obtain rfl := List.eq_nil_of_length_eq_zero h0
    refine Ev.all fun m => ?_
    simp [nat_shl.f, val_nil, dig_zero]
  · have e1 : Int.tdiv (n : Int) 64 = ((n / 64 : Nat) : Int) := tdiv_nat n 64
    have e2 : Int.tmod (n : Int) 64 = ((n % 64 : Nat) : Int) := tmod_nat n 64
    have e3 : ((n / 64 : Nat) : Int) + (a.length : Int) + 1 = ((n / 64 + a.length + 1 : Nat) : Int) := by omega
    obtain ⟨K, hK⟩ := nat_shl_loop a n ha hn hn2 a.length 0 (List.replicate (n / 64 + a.length + 1) 0) (by omega) (by simp) (Ok.replicate (by omega) _)
      (by simp [List.getD_eq_getElem?_getD, List.getElem?_replicate]; split <;> simp [Nat.two_pow_pos])
      (by rw [List.take_replicate, val_replicate]; simp [val_nil])
    refine ⟨K, fun m hm => ?_⟩
    have := hK m hm
    simp (disch := omega) only [nat_shl.f, ite_t, ite_f, e1, e2, w64, u64w, e3, Int.toNat_natCast]
    exact this
theorem mul_pow_lt {v k n : Nat} (h : v < 18446744073709551616 ^ k) : v * 2 ^ n < 18446744073709551616 ^ (k + n) := by
  rw [Nat.pow_add]
  have h1 : 2 ^ n ≤ 18446744073709551616 ^ n := Nat.pow_le_pow_left (by omega) n
  exact Nat.lt_of_lt_of_le (Nat.mul_lt_mul_of_pos_right h (Nat.two_pow_pos n)) (Nat.mul_le_mul_left _ h1)
theorem nat_Shl_eq (a : List Int) (z : Int) (ha : Ok 18446744073709551616 a) (la : a.length < 1000000000) :
    Ev (fun k => nat_Shl.f k a z) (if z < 0 ∨ 65536 < z then ([], 1) else if Fm a then (dig 18446744073709551616 (val 18446744073709551616 a * 2 ^ z.toNat), 0) else ([], 3)) := by
  by_cases h1 : z < 0 ∨ 65536 < z
  · rw [if_pos h1]
    refine Ev.all' 1 fun m => ?_
    unfold nat_Shl.f
    by_cases h2 : z < 0
    · rw [if_pos h2]; rfl
    · rw [if_neg h2, decide_eq_true (by omega)]; rfl
  · rw [if_neg h1]
    obtain ⟨n, rfl⟩ : ∃ n : Nat, z = (n : Int) := ⟨z.toNat, by omega⟩
    obtain ⟨K0, h0⟩ := nat_forms_one a (by omega)
    have hd : decide ((n : Int) > 65536) = false := decide_eq_false (by omega)
    by_cases hf : Fm a
    · rw [if_pos hf, Int.toNat_natCast]
      simp only [if_pos hf] at h0
      obtain ⟨K1, hK1⟩ := nat_shl_eq a n ha la (by omega)
      refine Ev.round (K0 + K1) fun m hm => ?_
      simp (disch := omega) only [nat_Shl.f, ite_f, hd, nat_Shl.j0, h0 m (by omega), hK1 m (by omega), Option.bind_some, if_true, Bool.false_eq_true, if_false]
    · rw [if_neg hf]
      simp only [if_neg hf] at h0
      refine Ev.round K0 fun m hm => ?_
      simp (disch := omega) only [nat_Shl.f, ite_f, hd, nat_Shl.j0, h0 m (by omega), Option.bind_some, ite_f, Bool.false_eq_true, if_false]
theorem ref_Shl_loop (a : List Int) (n : Nat) (ha : Ok 4294967296 a) (hn : a.length < 10000000000) (hn2 : n < 1000000000) :
    ∀ d i s (c : Nat), i + d = a.length → s.length = n / 32 + i → Ok 4294967296 s → c < 4294967296 →
      val 4294967296 s + 4294967296 ^ (n / 32 + i) * c = val 4294967296 (a.take i) * 2 ^ n →
      Ev (fun k => tableauref01_Shl.l0 k (n : Int) s (c : Int) a (a.length : Int) (i : Int)) (dig 4294967296 (val 4294967296 a * 2 ^ n)) := by
  have e1 : Int.tmod (n : Int) 32 = ((n % 32 : Nat) : Int) := tmod_nat n 32
  have hpn := pow_two_R n
  generalize hq : n / 32 = q at *
  generalize hr : n % 32 = r at *
  have hr64 : r < 32 := by omega
  have h2r : 2 ^ r ≤ 2147483648 := two_pow_le (show r ≤ 31 by omega)
  intro d
  induction d with
  | zero =>
    intro i s c hi hs hk hc hv
    obtain rfl : i = a.length := by omega
    rw [List.take_length] at hv
    obtain ⟨K, hK⟩ := ref_Low_eq (s ++ [(c : Int)]) (by simp; omega) (hk.append (Ok.one (by omega) (by omega)))
    have hval : val 4294967296 (s ++ [(c : Int)]) = val 4294967296 a * 2 ^ n := by rw [val_append, val_one, hs, Int.toNat_natCast, hv]
    refine Ev.round K fun m hm => ?_
    simp (disch := omega) only [tableauref01_Shl.l0, ite_t, ite_f, hK m hm, Option.bind_some, hval]
  | succ d ih =>
    intro i s c hi hs hk hc hv
    have hx := ha.at (by omega) i
    generalize hX : a.getD i 0 = X at hx
    obtain ⟨x, rfl⟩ : ∃ n : Nat, X = (n : Int) := ⟨X.toNat, by omega⟩
    have hxx : x * 2 ^ r ≤ 4294967295 * 2147483648 := Nat.mul_le_mul (by omega) h2r
    have hshl := shl64 x r (by omega)
    rw [Nat.mod_eq_of_lt (by omega)] at hshl
    have h3 := val_take_succ' 4294967296 a i
    rw [hX, Int.toNat_natCast] at h3
    have e : ((i : Int) + 1) = ((i + 1 : Nat) : Int) := by omega
    have hpx : 4294967296 ^ (q + i) * (x * 2 ^ r) = 4294967296 ^ i * x * 2 ^ n := by
      rw [Nat.pow_add, ← hpn]
      simp only [Nat.mul_comm, Nat.mul_left_comm, Nat.mul_assoc]
    generalize hY : x * 2 ^ r = y at *
    have e5 : (c : Int) + (y : Int) = ((c + y : Nat) : Int) := by omega
    have e6 : Int.tmod ((c + y : Nat) : Int) 4294967296 = (((c + y) % 4294967296 : Nat) : Int) := tmod_nat _ _
    have e7 : ((c + y : Nat) : Int) / 4294967296 = (((c + y) / 4294967296 : Nat) : Int) := by omega
    obtain ⟨K, hK⟩ := ih (i + 1) (s ++ [(((c + y) % 4294967296 : Nat) : Int)]) ((c + y) / 4294967296) (by omega) (by simp; omega) (hk.append (Ok.one (by omega) (by omega))) (by omega) (by
      rw [val_append, val_one, hs, h3, Nat.add_mul, ← hpx, ← hv, show q + (i + 1) = q + i + 1 by omega, Nat.pow_succ, Int.toNat_natCast]
      generalize 4294967296 ^ (q + i) = P at *
      have hd := Nat.mod_add_div (c + y) 4294967296
      have h5 : P * ((c + y) % 4294967296) + P * 4294967296 * ((c + y) / 4294967296) = P * (c + y) := by rw [Nat.mul_assoc, ← Nat.mul_add, hd]
      rw [Nat.mul_add] at h5
      omega)
    refine Ev.round K fun m hm => ?_
    simp (disch := omega) only [tableauref01_Shl.l0, ite_t, e1, rd_nat, hX, hshl, e5, u64w, e6, e7, w64, e, hK m hm]
theorem ref_Shl_eq (a : List Int) (n : Nat) (ha : Ok 4294967296 a) (hn : a.length < 10000000000) (hn2 : n < 1000000000) :
    Ev (fun k => tableauref01_Shl.f k a (n : Int)) (dig 4294967296 (val 4294967296 a * 2 ^ n)) := by
  by_cases h0 : a.length = 0
  · obtain rfl := List.eq_nil_of_length_eq_zero h0
    refine Ev.all fun m => ?_
    simp [tableauref01_Shl.f, val_nil, dig_zero]
  · have e1 : Int.tdiv (n : Int) 32 = ((n / 32 : Nat) : Int) := tdiv_nat n 32
    obtain ⟨K, hK⟩ := ref_Shl_loop a n ha hn hn2 a.length 0 (List.replicate (n / 32) 0) 0 (by omega) (by simp) (Ok.replicate (by omega) _) (by omega) (by rw [val_replicate]; simp [val_nil])
    refine ⟨K, fun m hm => ?_⟩
    have := hK m hm
    simp (disch := omega) only [tableauref01_Shl.f, ite_t, ite_f, e1, w64, Int.toNat_natCast]
    exact this
theorem ref_DocShl_eq (a : List Int) (z : Int) (ha : Ok 18446744073709551616 a) (la : a.length < 1000000000) :
    Ev (fun k => tableauref01_DocShl.f k a z) (if z < 0 ∨ 65536 < z then ([], 1) else if Fm a then (dig 18446744073709551616 (val 18446744073709551616 a * 2 ^ z.toNat), 0) else ([], 3)) := by
  by_cases h1 : z < 0 ∨ 65536 < z
  · rw [if_pos h1]
    refine Ev.all' 1 fun m => ?_
    unfold tableauref01_DocShl.f
    by_cases h2 : z < 0
    · rw [if_pos h2]; rfl
    · rw [if_neg h2, decide_eq_true (by omega)]; rfl
  · rw [if_neg h1]
    obtain ⟨n, rfl⟩ : ∃ n : Nat, z = (n : Int) := ⟨z.toNat, by omega⟩
    have h0 := ref_Form_eq a (by omega)
    have hd : decide ((n : Int) > 65536) = false := decide_eq_false (by omega)
    by_cases hf : Fm a
    · rw [if_pos hf, Int.toNat_natCast]
      simp only [hf, decide_true] at h0
      have va := val_lt_pow hW ha (Nat.le_refl _)
      have l1 := digR_len va
      obtain ⟨K1, hK1⟩ := ref_From_eq a ha (by omega)
      obtain ⟨K2, hK2⟩ := ref_Shl_eq _ n (ok_dig hR (val 18446744073709551616 a)) (by omega) (by omega)
      rw [val_dig hR] at hK2
      have l2 := digR_len (mul_pow_lt (n := n) va)
      obtain ⟨K3, hK3⟩ := ref_To_eq (val 18446744073709551616 a * 2 ^ n) (by omega)
      refine Ev.round (K1 + K2 + K3) fun m hm => ?_
      have hK2' := hK2 (m + 1) (by omega)
      simp (disch := omega) only [tableauref01_DocShl.f, ite_f, hd, tableauref01_DocShl.j0, h0, hK1 m (by omega), hK2 m (by omega), hK3 m (by omega), Option.bind_some, if_true, Bool.false_eq_true, if_false]
    · rw [if_neg hf]
      simp only [hf, decide_false] at h0
      refine Ev.round 0 fun m hm => ?_
      simp (disch := omega) only [tableauref01_DocShl.f, ite_f, hd, tableauref01_DocShl.j0, h0, Option.bind_some, Bool.false_eq_true, if_false]
end Go.Proofs.Ytaegboehjpjfnaa.Pl

/- What the functions of package nat compute, as numbers: products. -/
import Derived.Test.YtaegboehjpjfnaaPx0
import Derived.Test.YtaegboehjpjfnaaPx4
import Derived.Test.YtaegboehjpjfnaaNatF1
import Derived.Laws.BitsLemmas
set_option linter.unusedVariables false
set_option linter.unusedSimpArgs false
namespace Go.Proofs.Ytaegboehjpjfnaa.Pl
open Go.RowKit Go.Proofs.YtaegboehjpjfnaaW.PrintWords Go.Proofs.YtaegboehjpjfnaaW.PrintLast Go.Proofs.YtaegboehjpjfnaaW.PrintMore Go.Proofs.Ytaegboehjpjfnaa.P Go.Proofs.Ytaegboehjpjfnaa.Mine

theorem wraps_u64' (n : Int) (h₀ : 0 ≤ n) (h₁ : n < 2 ^ 64) : IntKind.u64.wrap n = n := by rw [IntKind.wrap_u64]; omega
theorem and32 (x : Int) (h0 : 0 ≤ x) (h1 : x < 18446744073709551616) : Go.bits .and .u64 x 4294967295 = x % 4294967296 :=
  bits_mask .u64 64 (by decide) wraps_u64' 32 (by decide) x h0 h1
theorem mul_split (x y : Nat) : x * y = (x / 4294967296 * (y / 4294967296)) * 18446744073709551616 + (x / 4294967296 * (y % 4294967296) + x % 4294967296 * (y / 4294967296)) * 4294967296 + x % 4294967296 * (y % 4294967296) := by
  have hx := Nat.mod_add_div x 4294967296
  have hy := Nat.mod_add_div y 4294967296
  generalize x / 4294967296 = a at *
  generalize x % 4294967296 = b at *
  generalize y / 4294967296 = c at *
  generalize y % 4294967296 = d at *
  rw [← hx, ← hy]
  grind
theorem mul_le' {a b m : Nat} (ha : a ≤ m) (hb : b ≤ m) : a * b ≤ m * m := Nat.mul_le_mul ha hb
theorem bits_Mul64_eq (x y : Nat) (hx : x < 18446744073709551616) (hy : y < 18446744073709551616) :
    bits_Mul64.f (x : Int) (y : Int) = some (((x * y / 18446744073709551616 : Nat) : Int), ((x * y % 18446744073709551616 : Nat) : Int)) := by
  unfold bits_Mul64.f
  rw [and32 (x : Int) (by omega) (by omega), and32 (y : Int) (by omega) (by omega)]
  have hs := mul_split x y
  have e1 : ((x : Int) / 4294967296) = ((x / 4294967296 : Nat) : Int) := by omega
  have e2 : ((y : Int) / 4294967296) = ((y / 4294967296 : Nat) : Int) := by omega
  have e3 : ((x : Int) % 4294967296) = ((x % 4294967296 : Nat) : Int) := by omega
  have e4 : ((y : Int) % 4294967296) = ((y % 4294967296 : Nat) : Int) := by omega
  rw [e1, e2, e3, e4]
  have b1 : x / 4294967296 ≤ 4294967295 := by omega
  have b2 : y / 4294967296 ≤ 4294967295 := by omega
  have b3 : x % 4294967296 ≤ 4294967295 := by omega
  have b4 : y % 4294967296 ≤ 4294967295 := by omega
  have m1 := mul_le' b1 b2
  have m2 := mul_le' b1 b4
  have m3 := mul_le' b3 b2
  have m4 := mul_le' b3 b4
  simp only [← Int.natCast_mul]
  generalize x / 4294967296 * (y / 4294967296) = A at *
  generalize x / 4294967296 * (y % 4294967296) = B at *
  generalize x % 4294967296 * (y / 4294967296) = C at *
  generalize x % 4294967296 * (y % 4294967296) = D at *
  generalize x * y = M at *
  clear e1 e2 e3 e4 b1 b2 b3 b4
  have hB : IntKind.u64.wrap (B : Int) = B := u64w _ (by omega) (by omega)
  have hA : IntKind.u64.wrap (A : Int) = A := u64w _ (by omega) (by omega)
  have hC : IntKind.u64.wrap (C : Int) = C := u64w _ (by omega) (by omega)
  have hD : IntKind.u64.wrap (D : Int) = D := u64w _ (by omega) (by omega)
  rw [hA, hB, hC, hD]
  have hT : IntKind.u64.wrap ((B : Int) + (D : Int) / 4294967296) = (B : Int) + (D : Int) / 4294967296 := u64w _ (by omega) (by omega)
  rw [hT, and32 _ (by omega) (by omega)]
  have hU : IntKind.u64.wrap (((B : Int) + (D : Int) / 4294967296) % 4294967296 + (C : Int)) = ((B : Int) + (D : Int) / 4294967296) % 4294967296 + (C : Int) := u64w _ (by omega) (by omega)
  rw [hU]
  simp only [u64m]
  congr 2 <;> omega
theorem mul_step {X Y P C : Nat} (hX : X < 18446744073709551616) (hY : Y < 18446744073709551616) (hP : P < 18446744073709551616) (hC : C < 18446744073709551616) :
    ((X * Y % 18446744073709551616 + P) % 18446744073709551616 + C) % 18446744073709551616 = (X * Y + P + C) % 18446744073709551616 ∧
    X * Y / 18446744073709551616 + (X * Y % 18446744073709551616 + P) / 18446744073709551616 + ((X * Y % 18446744073709551616 + P) % 18446744073709551616 + C) / 18446744073709551616 = (X * Y + P + C) / 18446744073709551616 ∧
    (X * Y + P + C) / 18446744073709551616 < 18446744073709551616 := by
  have hm : X * Y ≤ 18446744073709551615 * 18446744073709551615 := mul_le' (by omega) (by omega)
  generalize X * Y = M at *
  omega
theorem nat_mul_loop (a b : List Int) (ha : Ok 18446744073709551616 a) (hb : Ok 18446744073709551616 b) (hn : a.length < 100000000000) (hm : b.length < 100000000000) :
    ∀ d i s, i + d = a.length → s.length = a.length + b.length → Ok 18446744073709551616 s → (∀ q, i + b.length ≤ q → s.getD q 0 = 0) →
      val 18446744073709551616 s = val 18446744073709551616 (a.take i) * val 18446744073709551616 b →
      Ev (fun k => nat_mul.l0 k b s a (a.length : Int) (i : Int)) (dig 18446744073709551616 (val 18446744073709551616 a * val 18446744073709551616 b)) := by
  intro d
  induction d with
  | zero =>
    intro i s hi hs hk hz hv
    obtain rfl : i = a.length := by omega
    rw [List.take_length] at hv
    obtain ⟨K, hK⟩ := nat_low_eq s.length s rfl (by omega) hk
    refine Ev.round K fun m hm => ?_
    simp (disch := omega) only [nat_mul.l0, ite_t, ite_f, hK m hm, Option.bind_some, hv]
  | succ d ih =>
    intro i s hi hs hk hz hv
    have hlt : i < a.length := by omega
    have hx := ha.at (by omega) i
    generalize hX : (a.getD i 0).toNat = X
    have hXi : a.getD i 0 = (X : Int) := by omega
    have hXlt : X < 18446744073709551616 := by omega
    have e : ((i : Int) + 1) = ((i + 1 : Nat) : Int) := by omega
    have inner : ∀ d2 j s c, j + d2 = b.length → s.length = a.length + b.length → Ok 18446744073709551616 s → (∀ q, i + b.length ≤ q → s.getD q 0 = 0) → 0 ≤ c → c < 18446744073709551616 →
        val 18446744073709551616 s + 18446744073709551616 ^ (i + j) * c.toNat = val 18446744073709551616 (a.take i) * val 18446744073709551616 b + 18446744073709551616 ^ i * X * val 18446744073709551616 (b.take j) →
        Ev (fun k => nat_mul.l1 k b s (i : Int) (X : Int) c a (a.length : Int) (i : Int) b (b.length : Int) (j : Int)) (dig 18446744073709551616 (val 18446744073709551616 a * val 18446744073709551616 b)) := by
      intro d2
      induction d2 with
      | zero =>
        intro j s c hj hs hk hz hc0 hc1 hv
        obtain rfl : j = b.length := by omega
        rw [List.take_length] at hv
        have hset := val_set 18446744073709551616 s (i + b.length) c (by omega)
        rw [hz _ (Nat.le_refl _)] at hset
        have h2 := val_take_succ' 18446744073709551616 a i
        rw [hX] at h2
        obtain ⟨K, hK⟩ := ih (i + 1) (s.set (i + b.length) c) (by omega) (by simpa using hs) (hk.set _ hc0 hc1)
          (fun q hq => by rw [getD_set_ne s _ _ _ (by omega)]; exact hz q (by omega)) (by
            rw [h2, Nat.add_mul]
            simp only [Int.toNat_zero, Nat.mul_zero, Nat.add_zero] at hset
            rw [hset, hv])
        have e2 : ((i : Int) + (b.length : Int)) = ((i + b.length : Nat) : Int) := by omega
        refine Ev.round K fun m hm => ?_
        simp (disch := omega) only [nat_mul.l1, ite_t, ite_f, w64, e2, e, Int.toNat_natCast, hK m hm]
      | succ d2 ih2 =>
        intro j s c hj hs hk hz hc0 hc1 hv
        have hjl : j < b.length := by omega
        have hy := hb.at (by omega) j
        have hp := hk.at (by omega) (i + j)
        generalize hY : (b.getD j 0).toNat = Y
        have hYi : b.getD j 0 = (Y : Int) := by omega
        have hYlt : Y < 18446744073709551616 := by omega
        generalize hPd : (s.getD (i + j) 0).toNat = P
        have hPi : s.getD (i + j) 0 = (P : Int) := by omega
        have hPlt : P < 18446744073709551616 := by omega
        obtain ⟨C, rfl⟩ := Int.eq_ofNat_of_zero_le hc0
        rw [Int.toNat_natCast] at hv
        have hClt : C < 18446744073709551616 := by omega
        obtain ⟨s1, s2, s3⟩ := mul_step hXlt hYlt hPlt hClt
        have hset := val_set 18446744073709551616 s (i + j) (((X * Y + P + C) % 18446744073709551616 : Nat) : Int) (by omega)
        have h3 := val_take_succ' 18446744073709551616 b j
        rw [hPd, Int.toNat_natCast] at hset
        rw [hY] at h3
        have hd := Nat.mod_add_div (X * Y + P + C) 18446744073709551616
        have e2 : ((i : Int) + (j : Int)) = ((i + j : Nat) : Int) := by omega
        have e3 : ((j : Int) + 1) = ((j + 1 : Nat) : Int) := by omega
        obtain ⟨K, hK⟩ := ih2 (j + 1) (s.set (i + j) (((X * Y + P + C) % 18446744073709551616 : Nat) : Int)) (((X * Y + P + C) / 18446744073709551616 : Nat) : Int) (by omega) (by simpa using hs)
          (hk.set _ (by omega) (by omega)) (fun q hq => by rw [getD_set_ne s _ _ _ (by omega)]; exact hz q hq) (by omega) (by omega) (by
            rw [h3, Int.toNat_natCast, ← Nat.add_assoc i j 1, Nat.pow_succ]
            generalize (X * Y + P + C) % 18446744073709551616 = R at *
            generalize (X * Y + P + C) / 18446744073709551616 = T at *
            rw [Nat.pow_add] at hv hset ⊢
            generalize 18446744073709551616 ^ i = A at *
            generalize 18446744073709551616 ^ j = B at *
            have h5 : A * B * (R + 18446744073709551616 * T) = A * B * (X * Y + P + C) := by rw [hd]
            grind)
        have hcar : IntKind.u64.wrap (IntKind.u64.wrap (((X * Y / 18446744073709551616 : Nat) : Int) + ((((X * Y % 18446744073709551616 + P) / 18446744073709551616 : Nat)) : Int)) + (((((X * Y % 18446744073709551616 + P) % 18446744073709551616 + C) / 18446744073709551616 : Nat)) : Int)) = (((X * Y + P + C) / 18446744073709551616 : Nat) : Int) := by
          simp only [u64m]
          omega
        refine Ev.round K fun m hm => ?_
        simp (disch := omega) only [nat_mul.l1, ite_t, ite_f, w64, e2, e3, rd_nat, hYi, hPi, bits_Mul64_eq, bits_Add64_eq, Option.bind_some, Int.toNat_natCast, Int.toNat_zero, Nat.add_zero, s1, hcar, hK m hm]
    obtain ⟨K, hK⟩ := inner b.length 0 s 0 (by omega) hs hk hz (by omega) (by omega) (by simp [hv, val_nil])
    refine Ev.round K fun m hm => ?_
    have hK' := hK m hm
    simp (disch := omega) only [nat_mul.l0, ite_t, ite_f, rd_nat, hXi]
    exact hK'
theorem nat_mul_eq (a b : List Int) (ha : Ok 18446744073709551616 a) (hb : Ok 18446744073709551616 b) (hn : a.length < 100000000000) (hm : b.length < 100000000000) :
    Ev (fun k => nat_mul.f k a b) (dig 18446744073709551616 (val 18446744073709551616 a * val 18446744073709551616 b)) := by
  have e : ((a.length : Int) + (b.length : Int)) = ((a.length + b.length : Nat) : Int) := by omega
  obtain ⟨K, hK⟩ := nat_mul_loop a b ha hb (by omega) (by omega) a.length 0 (List.replicate (a.length + b.length) 0) (by omega) (by simp) (Ok.replicate (by omega) _)
    (fun q _ => by simp [List.getD_eq_getElem?_getD, List.getElem?_replicate]; split <;> rfl) (by simp [val_replicate, val_nil])
  refine ⟨K, fun m hm => ?_⟩
  simp (disch := omega) only [nat_mul.f, ite_t, w64, e, Int.toNat_natCast]
  exact hK m hm
end Go.Proofs.Ytaegboehjpjfnaa.Pl

/- What the functions of package nat compute, as numbers: bit lengths, shifts, division of two limbs by one. -/
import Derived.Test.YtaegboehjpjfnaaPx0
import Derived.Test.YtaegboehjpjfnaaPx3
import Derived.Test.YtaegboehjpjfnaaNatF2
set_option linter.unusedVariables false
set_option linter.unusedSimpArgs false
namespace Go.Proofs.Ytaegboehjpjfnaa.Pl
open Go.RowKit Go.Proofs.YtaegboehjpjfnaaW.PrintWords Go.Proofs.YtaegboehjpjfnaaW.PrintLast Go.Proofs.YtaegboehjpjfnaaW.PrintMore Go.Proofs.Ytaegboehjpjfnaa.P Go.Proofs.Ytaegboehjpjfnaa.Mine

/-- L is the bit length of x. -/
def BL (x L : Nat) : Prop := x < 2 ^ L ∧ (0 < x → 2 ^ L ≤ 2 * x)
theorem BL.shift {x L s : Nat} (h : BL (x / 2 ^ s) L) (hp : 0 < x / 2 ^ s) : BL x (L + s) := by
  obtain ⟨h1, h2⟩ := h
  have h2 := h2 hp
  have hs : 0 < 2 ^ s := Nat.two_pow_pos s
  refine ⟨?_, fun _ => ?_⟩
  · rw [Nat.pow_add]; exact (Nat.div_lt_iff_lt_mul hs).1 h1
  · rw [Nat.pow_add]
    have h3 : x / 2 ^ s * 2 ^ s ≤ x := Nat.div_mul_le_self x _
    have h4 := Nat.mul_le_mul_right (2 ^ s) h2
    rw [Nat.mul_assoc] at h4
    omega
theorem tab_all : ∀ y : Fin 256, ∃ L : Fin 9, bt (⟨#[0, 1, 2, 2, 3, 3, 3, 3, 4, 4, 4, 4, 4, 4, 4, 4, 5, 5, 5, 5, 5, 5, 5, 5, 5, 5, 5, 5, 5, 5, 5, 5, 6, 6, 6, 6, 6, 6, 6, 6, 6, 6, 6, 6, 6, 6, 6, 6, 6, 6, 6, 6, 6, 6, 6, 6, 6, 6, 6, 6, 6, 6, 6, 6, 7, 7, 7, 7, 7, 7, 7, 7, 7, 7, 7, 7, 7, 7, 7, 7, 7, 7, 7, 7, 7, 7, 7, 7, 7, 7, 7, 7, 7, 7, 7, 7, 7, 7, 7, 7, 7, 7, 7, 7, 7, 7, 7, 7, 7, 7, 7, 7, 7, 7, 7, 7, 7, 7, 7, 7, 7, 7, 7, 7, 7, 7, 7, 7, 8, 8, 8, 8, 8, 8, 8, 8, 8, 8, 8, 8, 8, 8, 8, 8, 8, 8, 8, 8, 8, 8, 8, 8, 8, 8, 8, 8, 8, 8, 8, 8, 8, 8, 8, 8, 8, 8, 8, 8, 8, 8, 8, 8, 8, 8, 8, 8, 8, 8, 8, 8, 8, 8, 8, 8, 8, 8, 8, 8, 8, 8, 8, 8, 8, 8, 8, 8, 8, 8, 8, 8, 8, 8, 8, 8, 8, 8, 8, 8, 8, 8, 8, 8, 8, 8, 8, 8, 8, 8, 8, 8, 8, 8, 8, 8, 8, 8, 8, 8, 8, 8, 8, 8, 8, 8, 8, 8, 8, 8, 8, 8, 8, 8, 8, 8, 8, 8, 8, 8, 8, 8, 8, 8, 8, 8, 8, 8]⟩ : ByteArray) ((y.val : Nat) : Int) = ((L.val : Nat) : Int) ∧ y.val < 2 ^ L.val ∧ (0 < y.val → 2 ^ L.val ≤ 2 * y.val) := by decide +kernel
theorem tab (y : Nat) (hy : y < 256) : ∃ L : Nat, L ≤ 8 ∧ bt (⟨#[0, 1, 2, 2, 3, 3, 3, 3, 4, 4, 4, 4, 4, 4, 4, 4, 5, 5, 5, 5, 5, 5, 5, 5, 5, 5, 5, 5, 5, 5, 5, 5, 6, 6, 6, 6, 6, 6, 6, 6, 6, 6, 6, 6, 6, 6, 6, 6, 6, 6, 6, 6, 6, 6, 6, 6, 6, 6, 6, 6, 6, 6, 6, 6, 7, 7, 7, 7, 7, 7, 7, 7, 7, 7, 7, 7, 7, 7, 7, 7, 7, 7, 7, 7, 7, 7, 7, 7, 7, 7, 7, 7, 7, 7, 7, 7, 7, 7, 7, 7, 7, 7, 7, 7, 7, 7, 7, 7, 7, 7, 7, 7, 7, 7, 7, 7, 7, 7, 7, 7, 7, 7, 7, 7, 7, 7, 7, 7, 8, 8, 8, 8, 8, 8, 8, 8, 8, 8, 8, 8, 8, 8, 8, 8, 8, 8, 8, 8, 8, 8, 8, 8, 8, 8, 8, 8, 8, 8, 8, 8, 8, 8, 8, 8, 8, 8, 8, 8, 8, 8, 8, 8, 8, 8, 8, 8, 8, 8, 8, 8, 8, 8, 8, 8, 8, 8, 8, 8, 8, 8, 8, 8, 8, 8, 8, 8, 8, 8, 8, 8, 8, 8, 8, 8, 8, 8, 8, 8, 8, 8, 8, 8, 8, 8, 8, 8, 8, 8, 8, 8, 8, 8, 8, 8, 8, 8, 8, 8, 8, 8, 8, 8, 8, 8, 8, 8, 8, 8, 8, 8, 8, 8, 8, 8, 8, 8, 8, 8, 8, 8, 8, 8, 8, 8, 8, 8]⟩ : ByteArray) (y : Int) = (L : Int) ∧ BL y L := by
  obtain ⟨L, h1, h2, h3⟩ := tab_all ⟨y, hy⟩
  exact ⟨L.val, by omega, h1, h2, h3⟩
set_option maxRecDepth 20000 in
theorem bits_Len64_j0 (x n : Nat) (hx : x < 4294967296) (hn : n ≤ 32) : ∃ L, L ≤ 32 ∧ BL x L ∧ ∀ m, bits_Len64.j0 (m + 1) (x : Int) (n : Int) = some ((n + L : Nat) : Int) := by
  by_cases h1 : 65536 ≤ x
  · by_cases h2 : 16777216 ≤ x
    · obtain ⟨L, hL, ht, hb⟩ := tab (x / 16777216) (by omega)
      refine ⟨L + 24, by omega, BL.shift (s := 24) (by simpa using hb) (by simp; omega), fun m => ?_⟩
      have e : ((x : Int) / 65536 / 256) % 256 = ((x / 16777216 : Nat) : Int) := by omega
      simp (disch := omega) only [bits_Len64.j0, ite_t, ite_f, e, ht, w64]
      congr 1; omega
    · obtain ⟨L, hL, ht, hb⟩ := tab (x / 65536) (by omega)
      refine ⟨L + 16, by omega, BL.shift (s := 16) (by simpa using hb) (by simp; omega), fun m => ?_⟩
      have e : ((x : Int) / 65536) % 256 = ((x / 65536 : Nat) : Int) := by omega
      simp (disch := omega) only [bits_Len64.j0, ite_t, ite_f, e, ht, w64]
      congr 1; omega
  · by_cases h2 : 256 ≤ x
    · obtain ⟨L, hL, ht, hb⟩ := tab (x / 256) (by omega)
      refine ⟨L + 8, by omega, BL.shift (s := 8) (by simpa using hb) (by simp; omega), fun m => ?_⟩
      have e : ((x : Int) / 256) % 256 = ((x / 256 : Nat) : Int) := by omega
      simp (disch := omega) only [bits_Len64.j0, ite_t, ite_f, e, ht, w64]
      congr 1; omega
    · obtain ⟨L, hL, ht, hb⟩ := tab x (by omega)
      refine ⟨L, by omega, hb, fun m => ?_⟩
      have e : (x : Int) % 256 = (x : Int) := by omega
      simp (disch := omega) only [bits_Len64.j0, ite_t, ite_f, e, ht, w64]
      congr 1
theorem bits_Lead_eq (x : Nat) (h0 : 0 < x) (hx : x < 18446744073709551616) : ∃ s : Nat, s ≤ 63 ∧ x * 2 ^ s < 18446744073709551616 ∧ 9223372036854775808 ≤ x * 2 ^ s ∧ Ev (fun k => bits_LeadingZeros64.f k (x : Int)) (s : Int) := by
  have main : ∃ L, BL x L ∧ L ≤ 64 ∧ ∀ m, bits_Len64.f (m + 1) (x : Int) = some (L : Int) := by
    by_cases h1 : 4294967296 ≤ x
    · obtain ⟨L, hL, hb, hm⟩ := bits_Len64_j0 (x / 4294967296) 32 (by omega) (by omega)
      refine ⟨L + 32, BL.shift (s := 32) (by simpa using hb) (by simp; omega), by omega, fun m => ?_⟩
      have e : (x : Int) / 4294967296 = ((x / 4294967296 : Nat) : Int) := by omega
      have h := hm m
      simp (disch := omega) only [bits_Len64.f, ite_t, e]
      rw [Nat.add_comm L 32]
      exact h
    · obtain ⟨L, hL, hb, hm⟩ := bits_Len64_j0 x 0 (by omega) (by omega)
      refine ⟨L, hb, by omega, fun m => ?_⟩
      have h := hm m
      simp (disch := omega) only [bits_Len64.f, ite_f]
      rw [Nat.zero_add] at h
      exact h
  obtain ⟨L, ⟨hb1, hb2⟩, hL, hm⟩ := main
  have hb2 := hb2 h0
  have hL0 : 1 ≤ L := by
    rcases Nat.eq_zero_or_pos L with h | h
    · subst h; simp at hb1; omega
    · exact h
  have hp : 2 ^ L * 2 ^ (64 - L) = 18446744073709551616 := by rw [← Nat.pow_add, show L + (64 - L) = 64 by omega]
  have hpos : 0 < 2 ^ (64 - L) := Nat.two_pow_pos _
  refine ⟨64 - L, by omega, ?_, ?_, ?_⟩
  · rw [← hp]; exact Nat.mul_lt_mul_of_pos_right hb1 hpos
  · have := Nat.mul_le_mul_right (2 ^ (64 - L)) hb2
    rw [hp, Nat.mul_assoc] at this
    omega
  · refine Ev.round 0 fun m _ => ?_
    simp (disch := omega) only [bits_LeadingZeros64.f, hm m, Option.bind_some, w64]
    congr 1; omega

end Go.Proofs.Ytaegboehjpjfnaa.Pl

/- Shifts of a limb, as products and quotients by powers of two. -/
import Derived.Test.YtaegboehjpjfnaaPx0
import Derived.Test.YtaegboehjpjfnaaNatF2
set_option linter.unusedVariables false
set_option linter.unusedSimpArgs false
namespace Go.Proofs.Ytaegboehjpjfnaa.Pl
open Go.RowKit Go.Proofs.YtaegboehjpjfnaaW.PrintWords Go.Proofs.YtaegboehjpjfnaaW.PrintLast Go.Proofs.YtaegboehjpjfnaaW.PrintMore Go.Proofs.Ytaegboehjpjfnaa.P Go.Proofs.Ytaegboehjpjfnaa.Mine

/-! ### shifts -/
theorem shl64 (x s : Nat) (hs : s ≤ 64) : shl .u64 (x : Int) (s : Int) = ((x * 2 ^ s % 18446744073709551616 : Nat) : Int) := by
  unfold shl
  rw [u64m, Int.toNat_natCast, show IntKind.u64.bits = 64 from rfl, Nat.min_eq_left hs, Int.natCast_emod, Int.natCast_mul, Int.natCast_pow]
  rfl
theorem shr64 (x s : Nat) (hs : s ≤ 64) : shr .u64 (x : Int) (s : Int) = ((x / 2 ^ s : Nat) : Int) := by
  unfold shr
  rw [Int.toNat_natCast, show IntKind.u64.bits = 64 from rfl, Nat.min_eq_left hs, Int.natCast_ediv, Int.natCast_pow]
  rfl
theorem or_add (h y z k : Nat) (hh : h < 2 ^ k) (hy : y = z * 2 ^ k) (hlt : y < 18446744073709551616) (hh2 : h < 18446744073709551616) : Go.bits .or .u64 (h : Int) (y : Int) = ((h + y : Nat) : Int) := by
  rw [(bits_nat .u64 64 (by decide) wraps_u64' h y (by omega) (by omega)).2]
  have := Nat.shiftLeft_add_eq_or_of_lt hh z
  rw [Nat.shiftLeft_eq, ← hy] at this
  rw [Nat.or_comm, ← this, Nat.add_comm]
theorem or_add' (h y z k : Nat) (hh : h < 2 ^ k) (hy : y = z * 2 ^ k) (hlt : y < 18446744073709551616) (hh2 : h < 18446744073709551616) : Go.bits .or .u64 (y : Int) (h : Int) = ((y + h : Nat) : Int) := by
  rw [(bits_nat .u64 64 (by decide) wraps_u64' y h (by omega) (by omega)).2]
  have := Nat.shiftLeft_add_eq_or_of_lt hh z
  rw [Nat.shiftLeft_eq, ← hy] at this
  rw [← this]
/-- What a shift to the left leaves in the limb is a multiple of the power; the rest of it is what goes over. -/
theorem shl_parts (x s : Nat) (hs : s ≤ 64) : x * 2 ^ s % 18446744073709551616 = x % 2 ^ (64 - s) * 2 ^ s ∧ x * 2 ^ s / 18446744073709551616 = x / 2 ^ (64 - s) := by
  have hp : 2 ^ (64 - s) * 2 ^ s = 18446744073709551616 := by rw [← Nat.pow_add, show 64 - s + s = 64 by omega]
  have hpos : 0 < 2 ^ s := Nat.two_pow_pos _
  constructor
  · rw [← hp, Nat.mul_mod_mul_right]
  · rw [← hp, Nat.mul_div_mul_right _ _ hpos]
end Go.Proofs.Ytaegboehjpjfnaa.Pl

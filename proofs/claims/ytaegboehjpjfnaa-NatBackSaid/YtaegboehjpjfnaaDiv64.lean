/- Division of two limbs by one, and of a number by a limb. -/
import Derived.Test.YtaegboehjpjfnaaPx0
import Derived.Test.YtaegboehjpjfnaaPx3
import Derived.Test.YtaegboehjpjfnaaPx4
import Derived.Test.YtaegboehjpjfnaaNatF3
import Derived.Test.YtaegboehjpjfnaaShift
set_option linter.unusedVariables false
set_option linter.unusedSimpArgs false
namespace Go.Proofs.Ytaegboehjpjfnaa.Pl
open Go.RowKit Go.Proofs.YtaegboehjpjfnaaW.PrintWords Go.Proofs.YtaegboehjpjfnaaW.PrintLast Go.Proofs.YtaegboehjpjfnaaW.PrintMore Go.Proofs.Ytaegboehjpjfnaa.P Go.Proofs.Ytaegboehjpjfnaa.Mine

theorem tdivn (n m : Nat) : Int.tdiv (n : Int) (m : Int) = ((n / m : Nat) : Int) := by rw [Int.tdiv_eq_ediv_of_nonneg (by omega)]; omega
theorem tmodn (n m : Nat) : Int.tmod (n : Int) (m : Int) = ((n % m : Nat) : Int) := by rw [Int.tmod_eq_emod_of_nonneg (by omega)]; omega
/-- One half of the division: the guess q comes down to the true digit. -/
theorem half_up {u c Y y1 y0 q r Q : Nat} (hY : Y = y1 * 4294967296 + y0) (hu : u = q * y1 + r) (hq : q * y0 ≤ r * 4294967296 + c) : q * Y ≤ u * 4294967296 + c := by
  subst hY hu
  have : q * (y1 * 4294967296 + y0) = q * y1 * 4294967296 + q * y0 := by rw [Nat.mul_add, Nat.mul_assoc]
  rw [this, Nat.add_mul]
  omega
theorem half_down {u c Y y1 y0 q r Q : Nat} (hY : Y = y1 * 4294967296 + y0) (hu : u = q * y1 + r) (hq : r * 4294967296 + c < q * y0) (h1 : Q * Y ≤ u * 4294967296 + c) : Q < q := by
  rcases Nat.lt_or_ge Q q with h | h
  · exact h
  · exfalso
    have h3 := Nat.mul_le_mul_right Y h
    subst hY hu
    have : q * (y1 * 4294967296 + y0) = q * y1 * 4294967296 + q * y0 := by rw [Nat.mul_add, Nat.mul_assoc]
    rw [this] at h3
    rw [Nat.add_mul] at h1
    omega
theorem half_eq {u c Y q Q : Nat} (h1 : q * Y ≤ u * 4294967296 + c) (h2 : u * 4294967296 + c < (Q + 1) * Y) (h : Q ≤ q) : q = Q := by
  rcases Nat.lt_or_ge Q q with h3 | h3
  · have := Nat.mul_le_mul_right Y (show Q + 1 ≤ q from h3)
    omega
  · omega
theorem div_l0 (Y s y1 y0 u c e Q : Nat) (res : Int × Int) (hY : Y = y1 * 4294967296 + y0) (hy0 : y0 < 4294967296) (hy1 : y1 < 4294967296) (hc : c < 4294967296)
    (h1 : Q * Y ≤ u * 4294967296 + c) (h2 : u * 4294967296 + c < (Q + 1) * Y) (hQ : Q < 4294967296)
    (hres : Ev (fun k => bits_Div64.j2 k (Y : Int) (s : Int) (y1 : Int) (y0 : Int) (u : Int) (c : Int) (e : Int) (Q : Int)) res) :
    ∀ q r : Nat, u = q * y1 + r → r < 4294967296 → q ≤ 4294967297 → Q ≤ q → Ev (fun k => bits_Div64.l0 k (Y : Int) (s : Int) (y1 : Int) (y0 : Int) (u : Int) (c : Int) (e : Int) (q : Int) (r : Int)) res := by
  obtain ⟨KR, hKR⟩ := hres
  intro q
  induction q with
  | zero =>
    intro r hu hr _ hQq
    obtain rfl : Q = 0 := by omega
    refine ⟨KR + 2, fun n hn => ?_⟩
    obtain ⟨m, rfl⟩ : ∃ m, n = m + 2 := ⟨n - 2, by omega⟩
    have hd : decide (IntKind.u64.wrap (((0 : Nat) : Int) * (y0 : Int)) > IntKind.u64.wrap (IntKind.u64.wrap (4294967296 * (r : Int)) + (c : Int))) = false := by
      rw [decide_eq_false_iff_not, u64m, u64m, u64m]; omega
    simp (disch := omega) only [bits_Div64.l0, ite_f, hd, bits_Div64.j1, Bool.false_eq_true, if_false]
    exact hKR m (by omega)
  | succ q ih =>
    intro r hu hr hqb hQq
    have e1 : ((q + 1 : Nat) : Int) - 1 = (q : Int) := by omega
    have e2 : (r : Int) + (y1 : Int) = ((r + y1 : Nat) : Int) := by omega
    have hu' : u = q * y1 + (r + y1) := by rw [hu, Nat.add_mul]; omega
    -- going down by one
    have down : Q ≤ q → ∃ K, ∀ m, K ≤ m → bits_Div64.j1 (m + 1) (Y : Int) (s : Int) (y1 : Int) (y0 : Int) (u : Int) (c : Int) (e : Int) ((q + 1 : Nat) : Int) (r : Int) true = some res := by
      intro hd
      by_cases hb : r + y1 < 4294967296
      · obtain ⟨K, hK⟩ := ih (r + y1) hu' hb (by omega) hd
        refine ⟨K, fun m hm => ?_⟩
        have := hK m hm
        simp (disch := omega) only [bits_Div64.j1, if_true, e1, e2, u64w, ite_f, this]
      · have hle : q * y0 ≤ (r + y1) * 4294967296 + c := by
          have : q * y0 ≤ 4294967296 * y0 := Nat.mul_le_mul_right _ (by omega)
          omega
        obtain rfl := half_eq (half_up (Q := Q) hY hu' hle) h2 hd
        refine ⟨KR, fun m hm => ?_⟩
        have := hKR m hm
        simp (disch := omega) only [bits_Div64.j1, if_true, e1, e2, u64w, ite_t, this]
    by_cases hbig : 4294967296 ≤ q + 1
    · obtain ⟨K, hK⟩ := down (by omega)
      refine ⟨K + 2, fun n hn => ?_⟩
      obtain ⟨m, rfl⟩ : ∃ m, n = m + 2 := ⟨n - 2, by omega⟩
      have := hK m (by omega)
      simp (disch := omega) only [bits_Div64.l0, ite_t, this]
    · have hm := mul_le' (show q + 1 ≤ 4294967295 by omega) (show y0 ≤ 4294967295 by omega)
      have hw : IntKind.u64.wrap (((q + 1 : Nat) : Int) * (y0 : Int)) = (((q + 1) * y0 : Nat) : Int) := by
        rw [← Int.natCast_mul]; exact u64w _ (by omega) (by omega)
      have hw2 : IntKind.u64.wrap (IntKind.u64.wrap (4294967296 * (r : Int)) + (c : Int)) = ((r * 4294967296 + c : Nat) : Int) := by
        rw [u64w (4294967296 * (r : Int)) (by omega) (by omega), u64w _ (by omega) (by omega)]; omega
      by_cases hgt : r * 4294967296 + c < (q + 1) * y0
      · have := half_down hY hu hgt h1
        obtain ⟨K, hK⟩ := down (by omega)
        refine ⟨K + 2, fun n hn => ?_⟩
        obtain ⟨m, rfl⟩ : ∃ m, n = m + 2 := ⟨n - 2, by omega⟩
        have h9 := hK m (by omega)
        have hd : decide ((((q + 1) * y0 : Nat) : Int) > ((r * 4294967296 + c : Nat) : Int)) = true := decide_eq_true (by omega)
        simp (disch := omega) only [bits_Div64.l0, ite_f, hw, hw2, hd, h9]
      · obtain hE := half_eq (half_up (Q := Q) hY hu (by omega)) h2 hQq
        have hd : decide ((((q + 1) * y0 : Nat) : Int) > ((r * 4294967296 + c : Nat) : Int)) = false := decide_eq_false (by omega)
        refine ⟨KR + 2, fun n hn => ?_⟩
        obtain ⟨m, rfl⟩ : ∃ m, n = m + 2 := ⟨n - 2, by omega⟩
        have h9 := hKR m (by omega)
        rw [← hE] at h9
        simp (disch := omega) only [bits_Div64.l0, ite_f, hw, hw2, hd, bits_Div64.j1, Bool.false_eq_true, if_false]
        exact h9
/-- The last step: what the second half answers. -/
theorem div_l1 (Y s y1 y0 u c Q1 Q R : Nat) (hY : Y = y1 * 4294967296 + y0) (hy0 : y0 < 4294967296) (hy1 : y1 < 4294967296) (hc : c < 4294967296) (hs : s ≤ 63)
    (h1 : u * 4294967296 + c = Q * Y + R) (h2 : R < Y) (hQ : Q < 4294967296) (hQ1 : Q1 < 4294967296) :
    ∀ q r : Nat, u = q * y1 + r → r < 4294967296 → q ≤ 4294967297 → Q ≤ q →
      Ev (fun k => bits_Div64.l1 k (Y : Int) (s : Int) (y1 : Int) (y0 : Int) (c : Int) (Q1 : Int) (r : Int) (u : Int) (q : Int)) (((Q1 * 4294967296 + Q : Nat) : Int), ((R / 2 ^ s : Nat) : Int)) := by
  have hYlt : Y < 18446744073709551616 := by omega
  have h1' : Q * Y ≤ u * 4294967296 + c := by omega
  have h2' : u * 4294967296 + c < (Q + 1) * Y := by rw [Nat.add_mul]; omega
  have fin1 : IntKind.u64.wrap (IntKind.u64.wrap ((Q1 : Int) * 4294967296) + (Q : Int)) = ((Q1 * 4294967296 + Q : Nat) : Int) := by
    rw [u64w ((Q1 : Int) * 4294967296) (by omega) (by omega), u64w _ (by omega) (by omega)]; omega
  have fin2 : IntKind.u64.wrap (IntKind.u64.wrap (IntKind.u64.wrap ((u : Int) * 4294967296) + (c : Int)) - IntKind.u64.wrap ((Q : Int) * (Y : Int))) = (R : Int) := by
    rw [← Int.natCast_mul]
    simp only [u64m]
    generalize Q * Y = P at *
    omega
  have fin3 := shr64 R s (by omega)
  intro q
  induction q with
  | zero =>
    intro r hu hr _ hQq
    obtain rfl : Q = 0 := by omega
    refine Ev.all' 2 fun m => ?_
    have hd : decide (IntKind.u64.wrap (((0 : Nat) : Int) * (y0 : Int)) > IntKind.u64.wrap (IntKind.u64.wrap (4294967296 * (r : Int)) + (c : Int))) = false := by
      rw [decide_eq_false_iff_not, u64m, u64m, u64m]; omega
    simp (disch := omega) only [bits_Div64.l1, ite_f, ite_t, hd, bits_Div64.j4, Bool.false_eq_true, if_false, fin1, fin2, fin3]
  | succ q ih =>
    intro r hu hr hqb hQq
    have e1 : ((q + 1 : Nat) : Int) - 1 = (q : Int) := by omega
    have e2 : (r : Int) + (y1 : Int) = ((r + y1 : Nat) : Int) := by omega
    have hu' : u = q * y1 + (r + y1) := by rw [hu, Nat.add_mul]; omega
    have down : Q ≤ q → ∃ K, ∀ m, K ≤ m → bits_Div64.j4 (m + 1) (Y : Int) (s : Int) (y1 : Int) (y0 : Int) (c : Int) (Q1 : Int) (r : Int) (u : Int) ((q + 1 : Nat) : Int) true = some (((Q1 * 4294967296 + Q : Nat) : Int), ((R / 2 ^ s : Nat) : Int)) := by
      intro hd
      by_cases hb : r + y1 < 4294967296
      · obtain ⟨K, hK⟩ := ih (r + y1) hu' hb (by omega) hd
        refine ⟨K, fun m hm => ?_⟩
        have := hK m hm
        simp (disch := omega) only [bits_Div64.j4, if_true, e1, e2, u64w, ite_f, this]
      · have hle : q * y0 ≤ (r + y1) * 4294967296 + c := by
          have : q * y0 ≤ 4294967296 * y0 := Nat.mul_le_mul_right _ (by omega)
          omega
        have hE := half_eq (half_up (Q := Q) hY hu' hle) h2' hd
        refine ⟨0, fun m hm => ?_⟩
        rw [← hE] at fin1 fin2 ⊢
        simp (disch := omega) only [bits_Div64.j4, if_true, e1, e2, u64w (q : Int), u64w ((r + y1 : Nat) : Int), ite_t, fin1, fin2, fin3]
    by_cases hbig : 4294967296 ≤ q + 1
    · obtain ⟨K, hK⟩ := down (by omega)
      refine ⟨K + 2, fun n hn => ?_⟩
      obtain ⟨m, rfl⟩ : ∃ m, n = m + 2 := ⟨n - 2, by omega⟩
      have := hK m (by omega)
      simp (disch := omega) only [bits_Div64.l1, ite_t, this]
    · have hm := mul_le' (show q + 1 ≤ 4294967295 by omega) (show y0 ≤ 4294967295 by omega)
      have hw : IntKind.u64.wrap (((q + 1 : Nat) : Int) * (y0 : Int)) = (((q + 1) * y0 : Nat) : Int) := by
        rw [← Int.natCast_mul]; exact u64w _ (by omega) (by omega)
      have hw2 : IntKind.u64.wrap (IntKind.u64.wrap (4294967296 * (r : Int)) + (c : Int)) = ((r * 4294967296 + c : Nat) : Int) := by
        rw [u64w (4294967296 * (r : Int)) (by omega) (by omega), u64w _ (by omega) (by omega)]; omega
      by_cases hgt : r * 4294967296 + c < (q + 1) * y0
      · have := half_down hY hu hgt h1'
        obtain ⟨K, hK⟩ := down (by omega)
        refine ⟨K + 2, fun n hn => ?_⟩
        obtain ⟨m, rfl⟩ : ∃ m, n = m + 2 := ⟨n - 2, by omega⟩
        have h9 := hK m (by omega)
        have hd : decide ((((q + 1) * y0 : Nat) : Int) > ((r * 4294967296 + c : Nat) : Int)) = true := decide_eq_true (by omega)
        simp (disch := omega) only [bits_Div64.l1, ite_f, hw, hw2, hd, h9]
      · have hE := half_eq (half_up (Q := Q) hY hu (by omega)) h2' hQq
        have hd : decide ((((q + 1) * y0 : Nat) : Int) > ((r * 4294967296 + c : Nat) : Int)) = false := decide_eq_false (by omega)
        refine Ev.all' 2 fun m => ?_
        rw [← hE] at fin1 fin2 ⊢
        simp (disch := omega) only [bits_Div64.l1, ite_f, ite_t, hw, hw2, hd, bits_Div64.j4, Bool.false_eq_true, if_false, fin1, fin2, fin3]
/-- The first guess is no more than two too large. -/
theorem guess_le {u Y y1 y0 : Nat} (hY : Y = y1 * 4294967296 + y0) (hy0 : y0 < 4294967296) (hy1 : 2147483648 ≤ y1) (hu : u < Y) : u / y1 ≤ 4294967297 := by
  have h1 := Nat.div_mul_le_self u y1
  rcases Nat.lt_or_ge 4294967297 (u / y1) with h | h
  · have := Nat.mul_le_mul_right y1 (show 4294967298 ≤ u / y1 from h)
    omega
  · exact h
theorem digit_le {u c Y y1 y0 Q : Nat} (hY : Y = y1 * 4294967296 + y0) (hc : c < 4294967296) (hy1 : 0 < y1) (h : Q * Y ≤ u * 4294967296 + c) : Q ≤ u / y1 := by
  rw [Nat.le_div_iff_mul_le hy1]
  rcases Nat.lt_or_ge u (Q * y1) with h1 | h1
  · exfalso
    have h2 := Nat.mul_le_mul_right 4294967296 (show u + 1 ≤ Q * y1 from h1)
    have h3 : Q * Y = Q * y1 * 4294967296 + Q * y0 := by rw [hY, Nat.mul_add, Nat.mul_assoc]
    omega
  · exact h1
theorem digit_lt {u c Y Q : Nat} (hu : u < Y) (hc : c < 4294967296) (h : Q * Y ≤ u * 4294967296 + c) : Q < 4294967296 := by
  rcases Nat.lt_or_ge Q 4294967296 with h1 | h1
  · exact h1
  · have := Nat.mul_le_mul_right Y h1
    omega
theorem join_two {L c1 c0 : Nat} (U : Nat) (h : L = c1 * 4294967296 + c0) : U * 18446744073709551616 + L = (U * 4294967296 + c1) * 4294967296 + c0 := by omega
theorem bits_Div64_eq (hi lo y : Nat) (h0 : 0 < y) (hh : hi < y) (hl : lo < 18446744073709551616) (hy : y < 18446744073709551616) :
    Ev (fun k => bits_Div64.f k (hi : Int) (lo : Int) (y : Int)) ((((hi * 18446744073709551616 + lo) / y : Nat) : Int), (((hi * 18446744073709551616 + lo) % y : Nat) : Int)) := by
  by_cases hz : hi = 0
  · subst hz
    refine Ev.all fun m => ?_
    have h9 : lo / y ≤ lo := Nat.div_le_self _ _
    have hw : IntKind.u64.wrap ((lo / y : Nat) : Int) = ((lo / y : Nat) : Int) := by
      generalize lo / y = q at *
      exact u64w _ (by omega) (by omega)
    simp (disch := omega) only [bits_Div64.f, ite_t, ite_f, tdivn, tmodn, hw]
    rw [Nat.zero_mul, Nat.zero_add]
  · obtain ⟨s, hs, hs1, hs2, KL, hKL⟩ := bits_Lead_eq y h0 hy
    have hpos : 0 < 2 ^ s := Nat.two_pow_pos s
    obtain ⟨p1, p2⟩ := shl_parts lo s (by omega)
    have hpp : 2 ^ (64 - s) * 2 ^ s = 18446744073709551616 := by rw [← Nat.pow_add, show 64 - s + s = 64 by omega]
    have hlop : lo / 2 ^ (64 - s) < 2 ^ s := by
      rw [Nat.div_lt_iff_lt_mul (Nat.two_pow_pos _), Nat.mul_comm, hpp]; exact hl
    have hhiy : (hi + 1) * 2 ^ s ≤ y * 2 ^ s := Nat.mul_le_mul_right _ hh
    rw [Nat.add_mul, Nat.one_mul] at hhiy
    have hor : Go.bits .or .u64 ((hi * 2 ^ s : Nat) : Int) ((lo / 2 ^ (64 - s) : Nat) : Int) = ((hi * 2 ^ s + lo / 2 ^ (64 - s) : Nat) : Int) :=
      or_add' (lo / 2 ^ (64 - s)) (hi * 2 ^ s) hi s hlop rfl (by omega) (by omega)
    have g1 := shl64 y s (by omega)
    rw [Nat.mod_eq_of_lt hs1] at g1
    have g2 := shl64 hi s (by omega)
    rw [Nat.mod_eq_of_lt (by omega)] at g2
    have g3 := shl64 lo s (by omega)
    have g4 := shr64 lo (64 - s) (by omega)
    have e64 : (64 : Int) - (s : Int) = ((64 - s : Nat) : Int) := by omega
    -- names
    have hdm := Nat.mod_add_div (lo * 2 ^ s) 18446744073709551616
    rw [p2] at hdm
    have hmm := Nat.mod_lt (lo * 2 ^ s) (show 0 < 18446744073709551616 by omega)
    have htot : (hi * 2 ^ s + lo / 2 ^ (64 - s)) * 18446744073709551616 + lo * 2 ^ s % 18446744073709551616 = (hi * 18446744073709551616 + lo) * 2 ^ s := by
      rw [Nat.add_mul, Nat.add_mul, Nat.mul_right_comm hi]
      omega
    generalize hU : hi * 2 ^ s + lo / 2 ^ (64 - s) = U at *
    generalize hL : lo * 2 ^ s % 18446744073709551616 = L at *
    generalize hYY : y * 2 ^ s = Y at *
    have hUY : U < Y := by omega
    have hYd : Y = Y / 4294967296 * 4294967296 + Y % 4294967296 := by omega
    have hy1 : 2147483648 ≤ Y / 4294967296 := by omega
    have hy1' : Y / 4294967296 < 4294967296 := by omega
    have hy0 : Y % 4294967296 < 4294967296 := by omega
    have hc1 : L / 4294967296 < 4294967296 := by omega
    have hc0 : L % 4294967296 < 4294967296 := by omega
    have hLL : L = L / 4294967296 * 4294967296 + L % 4294967296 := by omega
    have eY1 : ((Y : Int) / 4294967296) = ((Y / 4294967296 : Nat) : Int) := by omega
    have eY0 := and32 (Y : Int) (by omega) (by omega)
    rw [show (Y : Int) % 4294967296 = ((Y % 4294967296 : Nat) : Int) by omega] at eY0
    have eL1 : ((L : Int) / 4294967296) = ((L / 4294967296 : Nat) : Int) := by omega
    have eL0 := and32 (L : Int) (by omega) (by omega)
    rw [show (L : Int) % 4294967296 = ((L % 4294967296 : Nat) : Int) by omega] at eL0
    generalize Y / 4294967296 = y1 at *
    generalize Y % 4294967296 = y0 at *
    generalize L / 4294967296 = c1 at *
    generalize L % 4294967296 = c0 at *
    -- the two digits
    have hY0 : 0 < Y := by omega
    obtain ⟨Q1, R1, hQ1, hR1⟩ : ∃ Q R, U * 4294967296 + c1 = Q * Y + R ∧ R < Y :=
      ⟨(U * 4294967296 + c1) / Y, (U * 4294967296 + c1) % Y, by rw [Nat.mul_comm _ Y]; exact (Nat.div_add_mod _ _).symm, Nat.mod_lt _ hY0⟩
    obtain ⟨Q0, R0, hQ0, hR0⟩ : ∃ Q R, R1 * 4294967296 + c0 = Q * Y + R ∧ R < Y :=
      ⟨(R1 * 4294967296 + c0) / Y, (R1 * 4294967296 + c0) % Y, by rw [Nat.mul_comm _ Y]; exact (Nat.div_add_mod _ _).symm, Nat.mod_lt _ hY0⟩
    have q1lt : Q1 < 4294967296 := digit_lt hUY hc1 (by omega)
    have q0lt : Q0 < 4294967296 := digit_lt hR1 hc0 (by omega)
    -- the whole
    have hwhole : (hi * 18446744073709551616 + lo) * 2 ^ s = (Q1 * 4294967296 + Q0) * Y + R0 := by
      rw [← htot, join_two U hLL, hQ1, Nat.add_mul (Q1 * 4294967296), Nat.mul_right_comm Q1, Nat.add_mul (Q1 * Y), Nat.add_assoc, hQ0, ← Nat.add_assoc]
    obtain ⟨R, rfl⟩ : ∃ R, R0 = R * 2 ^ s := by
      refine ⟨(hi * 18446744073709551616 + lo) - (Q1 * 4294967296 + Q0) * y, ?_⟩
      rw [Nat.sub_mul, hwhole, ← hYY, ← Nat.mul_assoc]
      omega
    have hwhole2 : hi * 18446744073709551616 + lo = (Q1 * 4294967296 + Q0) * y + R := by
      apply Nat.eq_of_mul_eq_mul_right hpos
      rw [hwhole, ← hYY, Nat.add_mul ((Q1 * 4294967296 + Q0) * y) R, Nat.mul_assoc (Q1 * 4294967296 + Q0)]
    have hRy : R < y := by
      rw [← hYY] at hR0
      exact Nat.lt_of_mul_lt_mul_right hR0
    have hres1 : (hi * 18446744073709551616 + lo) / y = Q1 * 4294967296 + Q0 := by
      rw [hwhole2, Nat.mul_comm, Nat.mul_add_div h0, Nat.div_eq_of_lt hRy, Nat.add_zero]
    have hres2 : (hi * 18446744073709551616 + lo) % y = R := by
      rw [hwhole2, Nat.mul_comm, Nat.mul_add_mod, Nat.mod_eq_of_lt hRy]
    rw [hres1, hres2]
    -- the halves
    have hdiv : ∀ u : Nat, u < Y → ∃ r, u = u / y1 * y1 + r ∧ r < 4294967296 ∧ u / y1 ≤ 4294967297 ∧
        IntKind.u64.wrap ((u / y1 : Nat) : Int) = ((u / y1 : Nat) : Int) ∧ (r : Int) = IntKind.u64.wrap ((u : Int) - IntKind.u64.wrap (((u / y1 : Nat) : Int) * (y1 : Int))) := by
      intro u hu
      have hg := guess_le hYd hy0 hy1 hu
      have h1 := Nat.mod_add_div u y1
      have h2 := Nat.mod_lt u (show 0 < y1 by omega)
      rw [Nat.mul_comm] at h1
      refine ⟨u % y1, by omega, by omega, hg, by
        generalize u / y1 = q at *
        exact u64w _ (by omega) (by omega), ?_⟩
      rw [← Int.natCast_mul]
      generalize u / y1 * y1 = P at *
      rw [u64w (P : Int) (by omega) (by omega), u64w _ (by omega) (by omega)]
      omega
    obtain ⟨r1, hr1a, hr1b, hr1c, hr1e, hr1d⟩ := hdiv U hUY
    obtain ⟨r0, hr0a, hr0b, hr0c, hr0e, hr0d⟩ := hdiv R1 hR1
    have un21 : IntKind.u64.wrap (IntKind.u64.wrap (IntKind.u64.wrap ((U : Int) * 4294967296) + (c1 : Int)) - IntKind.u64.wrap ((Q1 : Int) * (Y : Int))) = (R1 : Int) := by
      rw [← Int.natCast_mul]
      simp only [u64m]
      generalize Q1 * Y = P at *
      omega
    have hl1 := div_l1 Y s y1 y0 R1 c0 Q1 Q0 (R * 2 ^ s) hYd hy0 hy1' hc0 hs hQ0 hR0 q0lt q1lt (R1 / y1) r0 hr0a hr0b hr0c (digit_le hYd hc0 (by omega) (by omega))
    rw [Nat.mul_div_cancel _ hpos] at hl1
    obtain ⟨K1, hK1⟩ := hl1
    have hj2 : Ev (fun k => bits_Div64.j2 k (Y : Int) (s : Int) (y1 : Int) (y0 : Int) (U : Int) (c1 : Int) (c0 : Int) (Q1 : Int)) (((Q1 * 4294967296 + Q0 : Nat) : Int), (R : Int)) := by
      refine Ev.round K1 fun m hm => ?_
      simp (disch := omega) only [bits_Div64.j2, ite_f, un21, tdivn, hr0e, ← hr0d, hK1 m hm]
    obtain ⟨K0, hK0⟩ := div_l0 Y s y1 y0 U c1 c0 Q1 _ hYd hy0 hy1' hc1 (by omega) (by rw [Nat.add_mul]; omega) q1lt hj2 (U / y1) r1 hr1a hr1b hr1c (digit_le hYd hc1 (by omega) (by omega))
    refine ⟨K0 + KL, fun m hm => ?_⟩
    have hK0' := hK0 m (by omega)
    simp (disch := omega) only [bits_Div64.f, ite_t, ite_f, hKL m (by omega), Option.bind_some, u64w (s : Int), e64, u64w ((64 - s : Nat) : Int), g1, g2, g3, g4, hor, eY1, eY0, eL1, eL0, tdivn, hr1e, ← hr1d, hK0']
theorem drop_set_after (l : List Int) (i : Nat) (v : Int) : (l.set i v).drop (i + 1) = l.drop (i + 1) := by
  rw [List.drop_set_of_lt (by omega)]
theorem getD_of_drop {s a : List Int} {i : Nat} (h : s.drop i = a.drop i) : s.getD i 0 = a.getD i 0 := by
  have := congrArg (fun l => l.getD 0 0) h
  simpa [getD_drop] using this
theorem drop_succ_of {s a : List Int} {i : Nat} (h : s.drop i = a.drop i) : s.drop (i + 1) = a.drop (i + 1) := by
  rw [← List.drop_drop, h, List.drop_drop]
theorem val_drop (B : Nat) (l : List Int) (d : Nat) (h : d < l.length) : val B (l.drop d) = (l.getD d 0).toNat + B * val B (l.drop (d + 1)) := by
  rw [List.drop_eq_getElem_cons h, val_cons]
  simp [List.getD_eq_getElem?_getD, List.getElem?_eq_getElem h]
theorem drop_set_self (l : List Int) (d : Nat) (v : Int) (h : d < l.length) : (l.set d v).drop d = v :: l.drop (d + 1) := by
  rw [List.drop_eq_getElem_cons (by simpa using h)]
  simp [List.drop_set_of_lt]
theorem nat_short_loop (a : List Int) (y : Nat) (ha : Ok 18446744073709551616 a) (hn : a.length < 1000000000000) (h0 : 0 < y) (hy : y < 18446744073709551616) :
    ∀ d i q (r : Nat), i + d = a.length → q.length = a.length → Ok 18446744073709551616 q → r < y →
      val 18446744073709551616 (q.drop d) * y + r = val 18446744073709551616 (a.drop d) →
      Ev (fun k => nat_short.l0 k a (y : Int) q (r : Int) (a.length : Int) (i : Int)) (dig 18446744073709551616 (val 18446744073709551616 a / y), ((val 18446744073709551616 a % y : Nat) : Int)) := by
  intro d
  induction d with
  | zero =>
    intro i q r hi hs hk hr hv
    rw [List.drop_zero, List.drop_zero] at hv
    obtain ⟨K, hK⟩ := nat_low_eq _ q rfl (by omega) hk
    have e1 : val 18446744073709551616 a / y = val 18446744073709551616 q := by
      rw [← hv, Nat.mul_comm, Nat.mul_add_div h0, Nat.div_eq_of_lt hr, Nat.add_zero]
    have e2 : val 18446744073709551616 a % y = r := by
      rw [← hv, Nat.mul_comm, Nat.mul_add_mod, Nat.mod_eq_of_lt hr]
    rw [e1, e2]
    refine Ev.round K fun m hm => ?_
    simp (disch := omega) only [nat_short.l0, ite_f, hK m hm, Option.bind_some]
  | succ d ih =>
    intro i q r hi hs hk hr hv
    have hx := ha.at (by omega) d
    have hva := val_drop 18446744073709551616 a d (by omega)
    generalize hX : a.getD d 0 = X at hx hva
    obtain ⟨x, rfl⟩ : ∃ n : Nat, X = (n : Int) := ⟨X.toNat, by omega⟩
    rw [Int.toNat_natCast] at hva
    obtain ⟨K0, hK0⟩ := bits_Div64_eq r x y h0 hr (by omega) hy
    have hqb : (r * 18446744073709551616 + x) / y < 18446744073709551616 := by
      rw [Nat.div_lt_iff_lt_mul h0]
      have := Nat.mul_le_mul_left 18446744073709551616 (show r + 1 ≤ y from hr)
      omega
    have hrb := Nat.mod_lt (r * 18446744073709551616 + x) h0
    have hdm := Nat.mod_add_div (r * 18446744073709551616 + x) y
    generalize (r * 18446744073709551616 + x) / y = Q at *
    generalize (r * 18446744073709551616 + x) % y = R at *
    obtain ⟨K, hK⟩ := ih (i + 1) (q.set d (Q : Int)) R (by omega) (by simpa using hs) (hk.set _ (by omega) (by omega)) hrb (by
      rw [drop_set_self _ _ _ (by omega), val_cons, hva, ← hv, Int.toNat_natCast, Nat.add_mul, Nat.mul_assoc, Nat.mul_comm Q y, Nat.mul_add]
      generalize val 18446744073709551616 (q.drop (d + 1)) * y = P at *
      omega)
    have e : ((i : Int) + 1) = ((i + 1 : Nat) : Int) := by omega
    have e1 : (a.length : Int) - 1 - (i : Int) = (d : Int) := by omega
    refine Ev.round (K0 + K) fun m hm => ?_
    have hK0' := hK0 m (by omega)
    simp (disch := omega) only [nat_short.l0, ite_t, w64, e, e1, rd_nat, hX, hK0', Option.bind_some, Int.toNat_natCast, hK m (by omega)]
theorem nat_short_eq (a : List Int) (y : Nat) (ha : Ok 18446744073709551616 a) (hn : a.length < 1000000000000) (h0 : 0 < y) (hy : y < 18446744073709551616) :
    Ev (fun k => nat_short.f k a (y : Int)) (dig 18446744073709551616 (val 18446744073709551616 a / y), ((val 18446744073709551616 a % y : Nat) : Int)) := by
  obtain ⟨K, hK⟩ := nat_short_loop a y ha hn h0 hy a.length 0 (List.replicate a.length 0) 0 (by omega) (by simp) (Ok.replicate (by omega) _) h0 (by simp [val_nil])
  refine ⟨K, fun m hm => ?_⟩
  simp (disch := omega) only [nat_short.f, ite_t, Int.toNat_natCast]
  exact hK m hm
end Go.Proofs.Ytaegboehjpjfnaa.Pl

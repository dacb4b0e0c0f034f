/- One digit of the quotient (package nat's step), on the window and in place. -/
import Derived.Test.YtaegboehjpjfnaaPx0
import Derived.Test.YtaegboehjpjfnaaPx1
import Derived.Test.YtaegboehjpjfnaaPx2
import Derived.Test.YtaegboehjpjfnaaPx4
import Derived.Test.YtaegboehjpjfnaaPx5
import Derived.Test.YtaegboehjpjfnaaDiv64
import Derived.Test.YtaegboehjpjfnaaNatX
set_option linter.unusedVariables false
set_option linter.unusedSimpArgs false
namespace Go.Proofs.Ytaegboehjpjfnaa.Pl
open Go.RowKit Go.Proofs.YtaegboehjpjfnaaW.PrintWords Go.Proofs.YtaegboehjpjfnaaW.PrintLast Go.Proofs.YtaegboehjpjfnaaW.PrintMore Go.Proofs.Ytaegboehjpjfnaa.P Go.Proofs.Ytaegboehjpjfnaa.Mine

/-- Noughts behind, up to a length. -/
def padTo (n : Nat) (l : List Int) : List Int := l ++ List.replicate (n - l.length) 0
theorem padTo_len (n : Nat) (l : List Int) (h : l.length ≤ n) : (padTo n l).length = n := by simp [padTo]; omega
theorem val_padTo (B n : Nat) (l : List Int) : val B (padTo n l) = val B l := by rw [padTo, val_append, val_replicate]; simp
theorem ok_padTo {B : Nat} (hB : 0 < B) (n : Nat) {l : List Int} (h : Ok B l) : Ok B (padTo n l) := h.append (Ok.replicate hB _)
theorem nat_low_one (g : Nat) (hg : g < 18446744073709551616) : Ev (fun k => nat_low.f k [(g : Int)]) (dig 18446744073709551616 g) := by
  obtain ⟨K, hK⟩ := nat_low_eq 1 [(g : Int)] rfl (by omega) (Ok.one (by omega) (by omega))
  rw [val_one, Int.toNat_natCast] at hK
  exact ⟨K, hK⟩
/-- One round, whatever the parts are. -/
theorem step_round (k : Nat) (x0 x1 : List Int) (x6 : Int) (t210 t213 t219 : List Int) (t222 : Int) (h1 : nat_low.f k [x6] = some t210) (h2 : nat_mul.f k x1 t210 = some t213) (h3 : slices_Clone_uint64_uint64.f x0 = some x0)
    (h4 : nat_low.f k x0 = some t219) (h5 : nat_cmp.f k t213 t219 = some t222) :
    nat_step0.l0 (k + 1) x0 x1 x6 = if t222 ≤ 0 then ((nat_sub.f k t219 t213).bind fun t229 => if t229.length ≤ x0.length then some (x6, t229 ++ List.replicate (x0.length - t229.length) 0) else none) else nat_step0.l0 k x0 x1 (IntKind.u64.wrap (x6 - 1)) := by
  rw [nat_step0.l0, h1, Option.bind_some, h2, Option.bind_some, h3, Option.bind_some, h4, Option.bind_some, h5, Option.bind_some, Option.bind_some, h4, Option.bind_some]
theorem step_down (k : Nat) (x0 x1 : List Int) (x6 : Int) (t210 t213 t219 : List Int) (t222 : Int) (h1 : nat_low.f k [x6] = some t210) (h2 : nat_mul.f k x1 t210 = some t213) (h3 : slices_Clone_uint64_uint64.f x0 = some x0)
    (h4 : nat_low.f k x0 = some t219) (h5 : nat_cmp.f k t213 t219 = some t222) (h6 : ¬ t222 ≤ 0) : nat_step0.l0 (k + 1) x0 x1 x6 = nat_step0.l0 k x0 x1 (IntKind.u64.wrap (x6 - 1)) := by
  rw [step_round k x0 x1 x6 t210 t213 t219 t222 h1 h2 h3 h4 h5, if_neg h6]
theorem step_done (k : Nat) (x0 x1 : List Int) (x6 : Int) (t210 t213 t219 d : List Int) (t222 : Int) (h1 : nat_low.f k [x6] = some t210) (h2 : nat_mul.f k x1 t210 = some t213) (h3 : slices_Clone_uint64_uint64.f x0 = some x0)
    (h4 : nat_low.f k x0 = some t219) (h5 : nat_cmp.f k t213 t219 = some t222) (h6 : t222 ≤ 0) (h7 : nat_sub.f k t219 t213 = some d) (h8 : d.length ≤ x0.length) : nat_step0.l0 (k + 1) x0 x1 x6 = some (x6, padTo x0.length d) := by
  rw [step_round k x0 x1 x6 t210 t213 t219 t222 h1 h2 h3 h4 h5, if_pos h6, h7, Option.bind_some, if_pos h8]; rfl
theorem step_l0 (u v : List Int) (hu : Ok 18446744073709551616 u) (hv : Ok 18446744073709551616 v) (ul : u.length < 1000000000) (vl : v.length < 1000000000) (hp : 0 < val 18446744073709551616 v) :
    ∀ g : Nat, g < 18446744073709551616 → val 18446744073709551616 u / val 18446744073709551616 v ≤ g →
      Ev (fun k => nat_step0.l0 k u v (g : Int)) (((val 18446744073709551616 u / val 18446744073709551616 v : Nat) : Int), padTo u.length (dig 18446744073709551616 (val 18446744073709551616 u % val 18446744073709551616 v))) := by
  have hul : (dig 18446744073709551616 (val 18446744073709551616 u)).length ≤ u.length := dig_len_le hW _ _ (val_lt (by omega) hu)
  have hrl : (dig 18446744073709551616 (val 18446744073709551616 u % val 18446744073709551616 v)).length ≤ u.length := dig_len_le hW _ _ (Nat.lt_of_le_of_lt (Nat.mod_le _ _) (val_lt (by omega) hu))
  obtain ⟨KL, hKL⟩ := nat_low_eq u.length u rfl (by omega) hu
  have hc := nat_Clone_eq u (by omega)
  intro g
  induction g with
  | zero =>
    intro hg hq
    have hq0 : val 18446744073709551616 u / val 18446744073709551616 v = 0 := Nat.le_zero.1 hq
    have hlt : val 18446744073709551616 u < val 18446744073709551616 v := by
      rcases Nat.lt_or_ge (val 18446744073709551616 u) (val 18446744073709551616 v) with h | h
      · exact h
      · have := Nat.div_pos h hp; omega
    rw [hq0, Nat.mod_eq_of_lt hlt]
    rw [Nat.mod_eq_of_lt hlt] at hrl
    obtain ⟨K1, hK1⟩ := nat_low_one 0 (by omega)
    obtain ⟨K2, hK2⟩ := nat_mul_eq v (dig 18446744073709551616 0) hv (ok_dig hW 0) (by omega) (by rw [dig_zero]; simp)
    rw [val_dig hW, Nat.mul_zero] at hK2
    obtain ⟨K3, hK3⟩ := nat_cmp_eq (dig 18446744073709551616 0) (dig 18446744073709551616 (val 18446744073709551616 u)) (ok_dig hW _) (ok_dig hW _) (fm_dig hW _) (fm_dig hW _) (by rw [dig_zero]; simp)
    rw [val_dig hW, val_dig hW] at hK3
    obtain ⟨K4, hK4⟩ := nat_sub_eq (dig 18446744073709551616 (val 18446744073709551616 u)) (dig 18446744073709551616 0) (ok_dig hW _) (ok_dig hW _) (by rw [val_dig hW, val_dig hW]; omega) (by rw [dig_zero]; simp) (by omega)
    rw [val_dig hW, val_dig hW, Nat.sub_zero] at hK4
    have hs : sg 0 (val 18446744073709551616 u) ≤ 0 := by unfold sg; split <;> (try split) <;> omega
    refine Ev.round (K1 + K2 + K3 + K4 + KL) fun m hm => ?_
    have g1 := hK1 m (by omega)
    have g2 := hK2 m (by omega)
    have g3 := hK3 m (by omega)
    have g4 := hK4 m (by omega)
    have g5 := hKL m (by omega)
    exact step_done m u v _ _ _ _ _ _ g1 g2 hc g5 g3 hs g4 hrl
  | succ g ih =>
    intro hg hq
    obtain ⟨K1, hK1⟩ := nat_low_one (g + 1) hg
    have hgl := dig_len_le hW 1 (g + 1) (by simpa using hg)
    obtain ⟨K2, hK2⟩ := nat_mul_eq v (dig 18446744073709551616 (g + 1)) hv (ok_dig hW _) (by omega) (by omega)
    rw [val_dig hW] at hK2
    have hpl : (dig 18446744073709551616 (val 18446744073709551616 v * (g + 1))).length ≤ v.length + 1 := dig_len_le hW _ _ (by
      rw [Nat.pow_succ]
      exact Nat.lt_of_lt_of_le (Nat.mul_lt_mul_of_pos_right (val_lt (by omega) hv) (by omega)) (Nat.mul_le_mul_left _ (by omega)))
    obtain ⟨K3, hK3⟩ := nat_cmp_eq (dig 18446744073709551616 (val 18446744073709551616 v * (g + 1))) (dig 18446744073709551616 (val 18446744073709551616 u)) (ok_dig hW _) (ok_dig hW _) (fm_dig hW _) (fm_dig hW _) (by omega)
    rw [val_dig hW, val_dig hW] at hK3
    by_cases hle : val 18446744073709551616 v * (g + 1) ≤ val 18446744073709551616 u
    · have hqe : val 18446744073709551616 u / val 18446744073709551616 v = g + 1 := by
        have : g + 1 ≤ val 18446744073709551616 u / val 18446744073709551616 v := (Nat.le_div_iff_mul_le hp).2 (by rw [Nat.mul_comm]; exact hle)
        omega
      have hme : val 18446744073709551616 u % val 18446744073709551616 v = val 18446744073709551616 u - val 18446744073709551616 v * (g + 1) := by
        rw [← hqe, Nat.mod_eq_sub_mul_div]
      rw [hqe, hme]
      rw [hme] at hrl
      obtain ⟨K4, hK4⟩ := nat_sub_eq (dig 18446744073709551616 (val 18446744073709551616 u)) (dig 18446744073709551616 (val 18446744073709551616 v * (g + 1))) (ok_dig hW _) (ok_dig hW _) (by rw [val_dig hW, val_dig hW]; exact hle)
        (len_le_of_val hW (ok_dig hW _) (ok_dig hW _) (fm_dig hW _) (by rw [val_dig hW, val_dig hW]; exact hle)) (by omega)
      rw [val_dig hW, val_dig hW] at hK4
      have hs : sg (val 18446744073709551616 v * (g + 1)) (val 18446744073709551616 u) ≤ 0 := by unfold sg; split <;> (try split) <;> omega
      refine Ev.round (K1 + K2 + K3 + K4 + KL) fun m hm => ?_
      have g1 := hK1 m (by omega)
      have g2 := hK2 m (by omega)
      have g3 := hK3 m (by omega)
      have g4 := hK4 m (by omega)
      have g5 := hKL m (by omega)
      exact step_done m u v _ _ _ _ _ _ g1 g2 hc g5 g3 hs g4 hrl
    · have hs : ¬ sg (val 18446744073709551616 v * (g + 1)) (val 18446744073709551616 u) ≤ 0 := by rw [sg_gt (by omega)]; omega
      have hq' : val 18446744073709551616 u / val 18446744073709551616 v ≤ g := by
        have : val 18446744073709551616 u / val 18446744073709551616 v < g + 1 := (Nat.div_lt_iff_lt_mul hp).2 (by rw [Nat.mul_comm]; omega)
        omega
      obtain ⟨K, hK⟩ := ih (by omega) hq'
      have e : ((g + 1 : Nat) : Int) - 1 = (g : Int) := by omega
      refine Ev.round (K1 + K2 + K3 + K + KL) fun m hm => ?_
      have g1 := hK1 m (by omega)
      have g2 := hK2 m (by omega)
      have g3 := hK3 m (by omega)
      have g4 := hK m (by omega)
      have g5 := hKL m (by omega)
      refine (step_down m u v _ _ _ _ _ g1 g2 hc g5 g3 hs).trans ?_
      rw [e, u64w _ (by omega) (by omega)]
      exact g4
/-- The guess is no less than the digit. -/
theorem guess_ge {P x2 x1 lo y1 lov q : Nat} (hlo : lo < P) (hy : 0 < y1) (h : q * (lov + P * y1) ≤ lo + P * (x1 + 18446744073709551616 * x2)) : q ≤ (x2 * 18446744073709551616 + x1) / y1 := by
  rw [Nat.le_div_iff_mul_le hy]
  rcases Nat.lt_or_ge (x2 * 18446744073709551616 + x1) (q * y1) with h1 | h1
  · exfalso
    have h2 := Nat.mul_le_mul_left P (show x2 * 18446744073709551616 + x1 + 1 ≤ q * y1 from h1)
    rw [Nat.mul_add q, show q * (P * y1) = P * (q * y1) by rw [Nat.mul_left_comm]] at h
    rw [Nat.mul_add P (x2 * 18446744073709551616 + x1) 1] at h2
    have h3 : x2 * 18446744073709551616 + x1 = x1 + 18446744073709551616 * x2 := by omega
    rw [h3] at h2
    omega
  · exact h1
theorem step0_eq (u v : List Int) (hu : Ok 18446744073709551616 u) (hv : Ok 18446744073709551616 v) (vl : v.length < 100000000) (hl : u.length = v.length + 1) (hv0 : 0 < v.length)
    (ht : 0 < (v.getD (v.length - 1) 0).toNat) (hq : val 18446744073709551616 u < val 18446744073709551616 v * 18446744073709551616) :
    Ev (fun k => nat_step0.f k u v) (((val 18446744073709551616 u / val 18446744073709551616 v : Nat) : Int), padTo u.length (dig 18446744073709551616 (val 18446744073709551616 u % val 18446744073709551616 v))) := by
  obtain ⟨n, hn⟩ : ∃ n, v.length = n + 1 := ⟨v.length - 1, by omega⟩
  have hp : 0 < val 18446744073709551616 v := by
    rcases Nat.eq_zero_or_pos (val 18446744073709551616 v) with h | h
    · rw [h, Nat.zero_mul] at hq; omega
    · exact h
  rw [hn] at hl ht
  have e0 : n + 1 - 1 = n := rfl
  rw [e0] at ht
  -- the parts
  have v1 := val_take_succ' 18446744073709551616 v n
  rw [List.take_of_length_le (by omega)] at v1
  have u1 := val_take_succ' 18446744073709551616 u n
  have u2 := val_take_succ' 18446744073709551616 u (n + 1)
  rw [List.take_of_length_le (by omega)] at u2
  have lo := ok_val_take_lt (by omega) hu n (by omega)
  have hx2 := hu.at (by omega) (n + 1)
  have hx1 := hu.at (by omega) n
  have hy1 := hv.at (by omega) n
  generalize hX2 : u.getD (n + 1) 0 = X2 at *
  generalize hX1 : u.getD n 0 = X1 at *
  generalize hY1 : v.getD n 0 = Y1 at *
  obtain ⟨x2, rfl⟩ : ∃ n : Nat, X2 = (n : Int) := ⟨X2.toNat, by omega⟩
  obtain ⟨x1, rfl⟩ : ∃ n : Nat, X1 = (n : Int) := ⟨X1.toNat, by omega⟩
  obtain ⟨y1, rfl⟩ : ∃ n : Nat, Y1 = (n : Int) := ⟨Y1.toNat, by omega⟩
  rw [Int.toNat_natCast] at ht v1 u1 u2
  have hqlt : val 18446744073709551616 u / val 18446744073709551616 v < 18446744073709551616 := (Nat.div_lt_iff_lt_mul hp).2 (by rw [Nat.mul_comm]; exact hq)
  have e1 : (((n + 1 : Nat) : Int) - 1) = (n : Int) := by omega
  have e2 : (v.length : Int) = ((n + 1 : Nat) : Int) := by omega
  by_cases hc : x2 < y1
  · have hg : val 18446744073709551616 u / val 18446744073709551616 v ≤ (x2 * 18446744073709551616 + x1) / y1 := by
      refine guess_ge (P := 18446744073709551616 ^ n) (lo := val 18446744073709551616 (u.take n)) (lov := val 18446744073709551616 (v.take n)) lo ht ?_
      rw [← v1]
      refine Nat.le_trans (Nat.div_mul_le_self _ _) ?_
      rw [u2, u1, Nat.pow_succ, Nat.mul_add, Nat.mul_assoc, Nat.add_assoc]
      exact Nat.le_refl _
    have hgl : (x2 * 18446744073709551616 + x1) / y1 < 18446744073709551616 := by
      rw [Nat.div_lt_iff_lt_mul ht]
      have := Nat.mul_le_mul_left 18446744073709551616 (show x2 + 1 ≤ y1 from hc)
      omega
    obtain ⟨K0, hK0⟩ := bits_Div64_eq x2 x1 y1 ht hc (by omega) (by omega)
    obtain ⟨K1, hK1⟩ := step_l0 u v hu hv (by omega) (by omega) hp _ hgl hg
    refine ⟨K0 + K1 + 1, fun m' hm => ?_⟩
    obtain ⟨m, rfl⟩ : ∃ m, m' = m + 1 := ⟨m' - 1, by omega⟩
    have g0 := hK0 (m + 1) (by omega)
    have g1 := hK1 m (by omega)
    simp (disch := omega) only [nat_step0.f, ite_t, e1, w64, e2, rd_nat, hX2, hX1, hY1, g0, Option.bind_some, nat_step0.j0]
    exact g1
  · obtain ⟨K1, hK1⟩ := step_l0 u v hu hv (by omega) (by omega) hp 18446744073709551615 (by omega) (by omega)
    refine Ev.round K1 fun m hm => ?_
    have g1 := hK1 m (by omega)
    simp (disch := omega) only [nat_step0.f, ite_t, ite_f, e1, w64, e2, rd_nat, hX2, hX1, hY1, Option.bind_some, nat_step0.j0]
    exact g1
end Go.Proofs.Ytaegboehjpjfnaa.Pl

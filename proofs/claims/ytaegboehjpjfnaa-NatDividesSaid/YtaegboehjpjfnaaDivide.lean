/- Quotient and rest, and the greatest common divisor, of package nat. -/
import Derived.Test.YtaegboehjpjfnaaPx0
import Derived.Test.YtaegboehjpjfnaaPx1
import Derived.Test.YtaegboehjpjfnaaPx2
import Derived.Test.YtaegboehjpjfnaaPx3
import Derived.Test.YtaegboehjpjfnaaPx4
import Derived.Test.YtaegboehjpjfnaaPx5
import Derived.Test.YtaegboehjpjfnaaPx6
import Derived.Test.YtaegboehjpjfnaaPx7
import Derived.Test.YtaegboehjpjfnaaPx8
import Derived.Test.YtaegboehjpjfnaaStep
import Derived.Test.YtaegboehjpjfnaaNatShl
set_option linter.unusedVariables false
set_option linter.unusedSimpArgs false
namespace Go.Proofs.Ytaegboehjpjfnaa.Pl
open Go.RowKit Go.Proofs.YtaegboehjpjfnaaW.PrintWords Go.Proofs.YtaegboehjpjfnaaW.PrintLast Go.Proofs.YtaegboehjpjfnaaW.PrintMore Go.Proofs.Ytaegboehjpjfnaa.P Go.Proofs.Ytaegboehjpjfnaa.Mine

theorem val_take_drop (B : Nat) (l : List Int) (i : Nat) (h : i ≤ l.length) : val B l = val B (l.take i) + B ^ i * val B (l.drop i) := by
  have := val_append B (l.take i) (l.drop i)
  rwa [List.take_append_drop, List.length_take, Nat.min_eq_left h] at this
/-- The shift back, in place. -/
theorem back_loop (k : Nat) (hk : k ≤ 63) (r q : List Int) (hr : Ok 18446744073709551616 r) (hn : r.length < 1000000000000) (hq : Ok 18446744073709551616 q) (hqn : q.length < 1000000000000) (M : Nat)
    (hM : val 18446744073709551616 r = M * 2 ^ k) :
    ∀ c i s, i + c = r.length → s.length = r.length → Ok 18446744073709551616 s → s.drop i = r.drop i →
      val 18446744073709551616 (s.take i) * 2 ^ k + (r.getD 0 0).toNat % 2 ^ k = val 18446744073709551616 (r.take i) + 18446744073709551616 ^ i * ((r.getD i 0).toNat % 2 ^ k) →
      Ev (fun m => nat_divide.l1 m (k : Int) q s (r.length : Int) (i : Int)) (dig 18446744073709551616 (val 18446744073709551616 q), dig 18446744073709551616 M) := by
  have hpk : 0 < 2 ^ k := Nat.two_pow_pos k
  have hpp : 2 ^ (64 - k) * 2 ^ k = 18446744073709551616 := by rw [← Nat.pow_add, show 64 - k + k = 64 by omega]
  have hc0 : (r.getD 0 0).toNat % 2 ^ k = 0 := by
    cases r with
    | nil => simp
    | cons x r =>
      have h1 := congrArg (· % 2 ^ k) hM
      simp only [Nat.mul_mod_left] at h1
      rw [val_cons, ← hpp, Nat.mul_comm (2 ^ (64 - k)), Nat.mul_assoc, Nat.add_mul_mod_self_left] at h1
      simpa using h1
  intro c
  induction c with
  | zero =>
    intro i s hi hs hks hdr hv
    obtain rfl : i = r.length := by omega
    rw [List.take_length, List.take_of_length_le (by omega), hc0, getD_of_ge r r.length (Nat.le_refl _)] at hv
    simp only [Int.toNat_zero, Nat.zero_mod, Nat.mul_zero, Nat.add_zero] at hv
    rw [hM] at hv
    have hvs := Nat.eq_of_mul_eq_mul_right hpk hv
    obtain ⟨K1, hK1⟩ := nat_low_eq _ q rfl (by omega) hq
    obtain ⟨K2, hK2⟩ := nat_low_eq _ s rfl (by omega) hks
    rw [hvs] at hK2
    refine Ev.round (K1 + K2) fun m hm => ?_
    have g1 := hK1 m (by omega)
    have g2 := hK2 m (by omega)
    simp (disch := omega) only [nat_divide.l1, ite_f, g1, g2, Option.bind_some]
  | succ c ih =>
    intro i s hi hs hks hdr hv
    have e : ((i : Int) + 1) = ((i + 1 : Nat) : Int) := by omega
    have hx := hr.at (by omega) i
    have hg := getD_of_drop hdr
    have hdr1 := drop_succ_of hdr
    have hg1 := getD_of_drop hdr1
    have hx1 := hr.at (by omega) (i + 1)
    have h2 := val_take_succ' 18446744073709551616 r i
    generalize hX : r.getD i 0 = X at *
    generalize hX1 : r.getD (i + 1) 0 = X1 at *
    obtain ⟨x, rfl⟩ : ∃ n : Nat, X = (n : Int) := ⟨X.toNat, by omega⟩
    obtain ⟨y, rfl⟩ : ∃ n : Nat, X1 = (n : Int) := ⟨X1.toNat, by omega⟩
    rw [Int.toNat_natCast] at h2 hv
    have hshr := shr64 x k (by omega)
    have hkw : IntKind.u64.wrap (k : Int) = (k : Int) := u64w _ (by omega) (by omega)
    have hxk : x / 2 ^ k < 2 ^ (64 - k) := by
      rw [Nat.div_lt_iff_lt_mul hpk, hpp]; omega
    have hxk2 : x / 2 ^ k < 18446744073709551616 := Nat.lt_of_le_of_lt (Nat.div_le_self _ _) (by omega)
    -- the new digit
    obtain ⟨p1, p2⟩ := shl_parts y (64 - k) (by omega)
    rw [show 64 - (64 - k) = k by omega] at p1
    have hlt : x / 2 ^ k + y * 2 ^ (64 - k) % 18446744073709551616 < 18446744073709551616 := by
      rw [p1]
      have h1 : y % 2 ^ k < 2 ^ k := Nat.mod_lt _ hpk
      have h2 : (y % 2 ^ k + 1) * 2 ^ (64 - k) ≤ 2 ^ k * 2 ^ (64 - k) := Nat.mul_le_mul_right _ h1
      rw [Nat.mul_comm (2 ^ k), hpp, Nat.add_mul] at h2
      omega
    generalize hZ : y * 2 ^ (64 - k) % 18446744073709551616 = z at *
    have hzk : z * 2 ^ k = 18446744073709551616 * (y % 2 ^ k) := by
      rw [p1, Nat.mul_assoc, hpp, Nat.mul_comm]
    have hxd := Nat.mod_add_div x (2 ^ k)
    have hset := val_take_set 18446744073709551616 s i ((x / 2 ^ k + z : Nat) : Int) (by omega)
    have hnext : val 18446744073709551616 ((s.set i ((x / 2 ^ k + z : Nat) : Int)).take (i + 1)) * 2 ^ k + (r.getD 0 0).toNat % 2 ^ k = val 18446744073709551616 (r.take (i + 1)) + 18446744073709551616 ^ (i + 1) * (((y : Nat) : Int).toNat % 2 ^ k) := by
      rw [hset, h2, Int.toNat_natCast, Int.toNat_natCast, Nat.pow_succ, Nat.add_mul]
      have h5 : 18446744073709551616 ^ i * (x / 2 ^ k + z) * 2 ^ k + 18446744073709551616 ^ i * (x % 2 ^ k) = 18446744073709551616 ^ i * x + 18446744073709551616 ^ i * 18446744073709551616 * (y % 2 ^ k) := by
        rw [Nat.mul_assoc, ← Nat.mul_add, Nat.add_mul, hzk, Nat.mul_assoc, ← Nat.mul_add]
        congr 1
        rw [Nat.mul_comm (x / 2 ^ k)]
        omega
      omega
    have hih := ih (i + 1) (s.set i ((x / 2 ^ k + z : Nat) : Int)) (by omega) (by simpa using hs) (hks.set _ (Int.natCast_nonneg _) (Int.ofNat_lt.2 hlt)) (by rw [drop_set_after]; exact hdr1) (by rw [hX1]; exact hnext)
    obtain ⟨K, hK⟩ := hih
    refine Ev.round K fun m hm => ?_
    have gK := hK m hm
    by_cases hlast : i + 1 < r.length
    · have e63 : (63 : Int) - (k : Int) = ((63 - k : Nat) : Int) := by omega
      have hy1 : rd (s.set i ((x / 2 ^ k : Nat) : Int)) ((i + 1 : Nat) : Int) = (y : Int) := by rw [rd_nat, getD_set_ne _ _ _ _ (by omega), hg1]
      have hy0 : rd (s.set i ((x / 2 ^ k : Nat) : Int)) (i : Int) = ((x / 2 ^ k : Nat) : Int) := by rw [rd_nat, getD_set_self _ _ _ (by omega)]
      have hsh : shl .u64 (IntKind.u64.wrap ((y : Int) * 2)) ((63 - k : Nat) : Int) = (z : Int) := by
        rw [u64m, show ((y : Int) * 2) % 18446744073709551616 = ((y * 2 % 18446744073709551616 : Nat) : Int) by omega, shl64 _ _ (by omega), ← hZ]
        congr 1
        rw [Nat.mul_mod, Nat.mod_mod, ← Nat.mul_mod, Nat.mul_assoc, ← Nat.pow_succ', show (63 - k).succ = 64 - k by omega]
      have hor : Go.bits .or .u64 ((x / 2 ^ k : Nat) : Int) (z : Int) = ((x / 2 ^ k + z : Nat) : Int) := or_add _ _ _ (64 - k) hxk p1 (Nat.lt_of_le_of_lt (Nat.le_add_left _ _) hlt) hxk2
      have hslen : (s.set i ((x / 2 ^ k : Nat) : Int)).length = r.length := by simpa using hs
      simp (disch := omega) only [nat_divide.l1, ite_t, rd_nat s, hg, hkw, hshr, Option.bind_some, Int.toNat_natCast, w64, e, e63, u64w ((63 - k : Nat) : Int), hy1, hy0, hsh, hor, List.set_set]
      exact gK
    · have hy0 : y = 0 := by
        have := getD_of_ge r (i + 1) (by omega)
        omega
      have hz0 : z = 0 := by rw [← hZ, hy0]; simp
      rw [hz0, Nat.add_zero] at gK
      have hslen : (s.set i ((x / 2 ^ k : Nat) : Int)).length = r.length := by simpa using hs
      simp (disch := omega) only [nat_divide.l1, ite_t, ite_f, rd_nat s, hg, hkw, hshr, Option.bind_some, Int.toNat_natCast, w64, e]
      exact gK
theorem step_eq (u v : List Int) (j : Nat) (hu : Ok 18446744073709551616 u) (hv : Ok 18446744073709551616 v) (vl : v.length < 100000000) (hj : j + v.length + 1 ≤ u.length) (hv0 : 0 < v.length)
    (ht : 0 < (v.getD (v.length - 1) 0).toNat) (hq : val 18446744073709551616 ((u.take (j + v.length + 1)).drop j) < val 18446744073709551616 v * 18446744073709551616) :
    Ev (fun k => nat_step.f k u (j : Int) ((j + v.length + 1 : Nat) : Int) v) (((val 18446744073709551616 ((u.take (j + v.length + 1)).drop j) / val 18446744073709551616 v : Nat) : Int),
      u.take j ++ padTo (v.length + 1) (dig 18446744073709551616 (val 18446744073709551616 ((u.take (j + v.length + 1)).drop j) % val 18446744073709551616 v)) ++ u.drop (j + v.length + 1)) := by
  have hwl : ((u.take (j + v.length + 1)).drop j).length = v.length + 1 := by rw [List.length_drop, List.length_take, Nat.min_eq_left hj]; omega
  obtain ⟨K, hK⟩ := step0_eq _ v ((hu.take _).drop _) hv vl hwl hv0 ht hq
  refine ⟨K, fun m hm => ?_⟩
  have g := hK m hm
  simp only [nat_step.f, Int.toNat_natCast, g, Option.bind_some, hwl]
theorem div_loop (k : Nat) (hk63 : k ≤ 63) (v : List Int) (hv : Ok 18446744073709551616 v) (vl : v.length < 10000000) (hv0 : 0 < v.length) (ht : 0 < (v.getD (v.length - 1) 0).toNat)
    (U0 Q A B : Nat) (hQ : Q < 1000000000) (hA : U0 = A * 2 ^ k) (hB : val 18446744073709551616 v = B * 2 ^ k) (hB0 : 0 < B) :
    ∀ d i u q, i + d = Q → u.length = Q + v.length → q.length = Q → Ok 18446744073709551616 u → Ok 18446744073709551616 q → val 18446744073709551616 (u.drop d) < val 18446744073709551616 v →
      val 18446744073709551616 (q.drop d) * (18446744073709551616 ^ d * val 18446744073709551616 v) + val 18446744073709551616 u = U0 →
      Ev (fun m => nat_divide.l0 m (k : Int) v u (v.length : Int) q (Q : Int) (i : Int)) (dig 18446744073709551616 (A / B), dig 18446744073709551616 (A % B)) := by
  have hpk : 0 < 2 ^ k := Nat.two_pow_pos k
  intro d
  induction d with
  | zero =>
    intro i u q hi hul hql hu hq hlt hv2
    rw [List.drop_zero] at hlt hv2
    rw [Nat.pow_zero, Nat.one_mul, hA, hB] at hv2
    rw [hB] at hlt
    -- the rest is a multiple
    obtain ⟨M, hM⟩ : ∃ M, val 18446744073709551616 u = M * 2 ^ k := by
      refine ⟨A - val 18446744073709551616 q * B, ?_⟩
      rw [Nat.sub_mul, ← hv2, Nat.mul_assoc]
      omega
    rw [hM, ← Nat.mul_assoc, ← Nat.add_mul] at hv2
    have hv3 := Nat.eq_of_mul_eq_mul_right hpk hv2
    rw [hM] at hlt
    have hMB := Nat.lt_of_mul_lt_mul_right hlt
    have hqd : A / B = val 18446744073709551616 q := by
      rw [← hv3, Nat.mul_comm, Nat.mul_add_div hB0, Nat.div_eq_of_lt hMB, Nat.add_zero]
    have hmd : A % B = M := by
      rw [← hv3, Nat.mul_comm, Nat.mul_add_mod, Nat.mod_eq_of_lt hMB]
    rw [hqd, hmd]
    obtain ⟨K1, hK1⟩ := nat_low_eq _ u rfl (by omega) hu
    have hrl := dig_len_le hW _ _ (val_lt (by omega) hu)
    obtain ⟨K2, hK2⟩ := back_loop k hk63 (dig 18446744073709551616 (val 18446744073709551616 u)) q (ok_dig hW _) (by omega) hq (by omega) M (by rw [val_dig hW, hM])
      (dig 18446744073709551616 (val 18446744073709551616 u)).length 0 (dig 18446744073709551616 (val 18446744073709551616 u)) (by omega) rfl (ok_dig hW _) rfl (by simp [val_nil])
    refine Ev.round (K1 + K2) fun m hm => ?_
    have g1 := hK1 m (by omega)
    have g2 := hK2 m (by omega)
    simp (disch := omega) only [nat_divide.l0, ite_f, g1, Option.bind_some]
    exact g2
  | succ j ih =>
    intro i u q hi hul hql hu hq hlt hv2
    -- nothing lies above the window
    have hvlt := val_lt (show 0 < 18446744073709551616 by omega) hv
    have hsplit := val_take_drop 18446744073709551616 (u.drop (j + 1)) v.length (by rw [List.length_drop]; omega)
    rw [List.drop_drop] at hsplit
    have htop : val 18446744073709551616 (u.drop (j + 1 + v.length)) = 0 := by
      rcases Nat.eq_zero_or_pos (val 18446744073709551616 (u.drop (j + 1 + v.length))) with h | h
      · exact h
      · have : 18446744073709551616 ^ v.length * 1 ≤ 18446744073709551616 ^ v.length * val 18446744073709551616 (u.drop (j + 1 + v.length)) := Nat.mul_le_mul_left _ h
        rw [Nat.mul_one] at this
        generalize 18446744073709551616 ^ v.length * val 18446744073709551616 (u.drop (j + 1 + v.length)) = Z at *
        generalize 18446744073709551616 ^ v.length = Y at *
        omega
    have htop' : val 18446744073709551616 (u.drop (j + v.length + 1)) = 0 := by rw [show j + v.length + 1 = j + 1 + v.length by omega]; exact htop
    -- the window is all of the rest
    have hwin : val 18446744073709551616 ((u.take (j + v.length + 1)).drop j) = val 18446744073709551616 (u.drop j) := by
      have h1 := val_take_drop 18446744073709551616 (u.drop j) (v.length + 1) (by rw [List.length_drop]; omega)
      rw [List.drop_drop, show j + (v.length + 1) = j + v.length + 1 by omega, htop', Nat.mul_zero, Nat.add_zero] at h1
      rw [h1, List.drop_take, show j + v.length + 1 - j = v.length + 1 by omega]
    have huj := val_drop 18446744073709551616 u j (by omega)
    have hdig := hu.at (by omega) j
    have hwlt : val 18446744073709551616 (u.drop j) < val 18446744073709551616 v * 18446744073709551616 := by
      rw [huj]
      have := Nat.mul_le_mul_left 18446744073709551616 (show val 18446744073709551616 (u.drop (j + 1)) + 1 ≤ val 18446744073709551616 v from hlt)
      omega
    have hV : 0 < val 18446744073709551616 v := by omega
    obtain ⟨K0, hK0⟩ := step_eq u v j hu hv (by omega) (by omega) hv0 ht (by rw [hwin]; exact hwlt)
    rw [hwin] at hK0
    have hqd : val 18446744073709551616 (u.drop j) / val 18446744073709551616 v < 18446744073709551616 := (Nat.div_lt_iff_lt_mul hV).2 (by rw [Nat.mul_comm]; exact hwlt)
    have hdm := Nat.mod_add_div (val 18446744073709551616 (u.drop j)) (val 18446744073709551616 v)
    have hmlt := Nat.mod_lt (val 18446744073709551616 (u.drop j)) hV
    generalize val 18446744073709551616 (u.drop j) / val 18446744073709551616 v = G at *
    generalize hR : val 18446744073709551616 (u.drop j) % val 18446744073709551616 v = R at *
    have hRl : (dig 18446744073709551616 R).length ≤ v.length + 1 := dig_len_le hW _ _ (Nat.lt_of_lt_of_le hmlt (Nat.le_of_lt (Nat.lt_of_lt_of_le hvlt (pow_mono hW (by omega)))))
    have hpl := padTo_len (v.length + 1) (dig 18446744073709551616 R) hRl
    have hdrop : val 18446744073709551616 ((u.take j ++ padTo (v.length + 1) (dig 18446744073709551616 R) ++ u.drop (j + v.length + 1)).drop j) = R := by
      rw [List.append_assoc, List.drop_append, List.drop_of_length_le (by rw [List.length_take]; omega), List.nil_append, List.length_take, Nat.min_eq_left (by omega), Nat.sub_self, List.drop_zero, val_append, htop', val_padTo, val_dig hW]
      simp
    have hwhole : val 18446744073709551616 (u.take j ++ padTo (v.length + 1) (dig 18446744073709551616 R) ++ u.drop (j + v.length + 1)) = val 18446744073709551616 (u.take j) + 18446744073709551616 ^ j * R := by
      rw [val_append, htop', val_append, val_padTo, val_dig hW, List.length_take, Nat.min_eq_left (by omega)]
      simp
    have hutd := val_take_drop 18446744073709551616 u j (by omega)
    have hulen : (u.take j ++ padTo (v.length + 1) (dig 18446744073709551616 R) ++ u.drop (j + v.length + 1)).length = Q + v.length := by
      rw [List.length_append, List.length_append, hpl, List.length_take, List.length_drop, Nat.min_eq_left (by omega)]; omega
    obtain ⟨K, hK⟩ := ih (i + 1) (u.take j ++ padTo (v.length + 1) (dig 18446744073709551616 R) ++ u.drop (j + v.length + 1)) (q.set j (G : Int)) (by omega) hulen (by simpa using hql)
      (((hu.take j).append (ok_padTo (by omega) _ (ok_dig hW _))).append (hu.drop _)) (hq.set _ (by omega) (by omega)) (by rw [hdrop]; exact hmlt) (by
        rw [hwhole, drop_set_self _ _ _ (by omega), val_cons, Int.toNat_natCast, ← hv2, hutd, ← hdm]
        generalize val 18446744073709551616 v = V
        generalize val 18446744073709551616 (q.drop (j + 1)) = T
        rw [Nat.pow_succ]
        generalize 18446744073709551616 ^ j = P
        generalize val 18446744073709551616 (u.take j) = L
        grind)
    have e1 : (Q : Int) - 1 - (i : Int) = (j : Int) := by omega
    have e2 : (j : Int) + (v.length : Int) + 1 = ((j + v.length + 1 : Nat) : Int) := by omega
    have e2' : (j : Int) + (v.length : Int) = ((j + v.length : Nat) : Int) := by omega
    have e2'' : ((j + v.length : Nat) : Int) + 1 = ((j + v.length + 1 : Nat) : Int) := by omega
    have e3 : ((i : Int) + 1) = ((i + 1 : Nat) : Int) := by omega
    have eq : (q.length : Int) = (Q : Int) := by omega
    refine Ev.round (K0 + K) fun m hm => ?_
    have g0 := hK0 m (by omega)
    have g1 := hK m (by omega)
    simp (disch := omega) only [nat_divide.l0, ite_t, eq, w64, e1, e2', e2'', g0, Option.bind_some, Int.toNat_natCast, e3]
    exact g1
/-- The three ways of divide, whatever the parts are. -/
theorem div_lt (k : Nat) (l0 l1 : List Int) (c : Int) (h0 : nat_cmp.f k l0 l1 = some c) (hc : c < 0) (h1 : slices_Clone_uint64_uint64.f l0 = some l0) : nat_divide.f k l0 l1 = some ([], l0) := by
  unfold nat_divide.f
  rw [h0, Option.bind_some, if_pos hc, h1, Option.bind_some]
theorem div_one (k : Nat) (l0 l1 : List Int) (c r : Int) (q t : List Int) (h0 : nat_cmp.f k l0 l1 = some c) (hc : ¬ c < 0) (h1 : (l1.length : Int) = 1) (h2 : nat_short.f k l0 (rd l1 0) = some (q, r)) (h3 : nat_low.f k [r] = some t) :
    nat_divide.f k l0 l1 = some (q, t) := by
  unfold nat_divide.f
  rw [h0, Option.bind_some, if_neg hc, if_pos h1, if_pos (by omega), h2, Option.bind_some]
  dsimp only
  rw [h3, Option.bind_some]
theorem div_long (k : Nat) (l0 l1 : List Int) (c z cc : Int) (v u0 u : List Int) (n m : Nat) (h0 : nat_cmp.f k l0 l1 = some c) (hc : ¬ c < 0) (h1 : ¬ (l1.length : Int) = 1) (hA : 0 ≤ wrap64 ((l1.length : Int) - 1)) (hB : wrap64 ((l1.length : Int) - 1) < (l1.length : Int))
    (hL : bits_LeadingZeros64.f k (rd l1 (wrap64 ((l1.length : Int) - 1))) = some z) (hv : nat_shl.f k l1 z = some v) (hn : wrap64 ((l0.length : Int) + 1) = (n : Int)) (hn2 : n ≤ 35184372088832) (hu : nat_shl.f k l0 z = some u0)
    (hcp : copyTo.f (List.replicate n 0) u0 = some (cc, u)) (hm : wrap64 ((n : Int) - (v.length : Int)) = (m : Int)) (hm2 : m ≤ 35184372088832) :
    nat_divide.f k l0 l1 = nat_divide.l0 k z v u (v.length : Int) (List.replicate m 0) (m : Int) 0 := by
  unfold nat_divide.f
  rw [h0, Option.bind_some, if_neg hc, if_neg h1, if_pos hA, if_pos hB, hL, Option.bind_some, hv, Option.bind_some, hn, if_pos (by omega), Int.toNat_natCast, if_pos hn2, Option.bind_some, hu, Option.bind_some, hcp, Option.bind_some]
  rw [List.length_replicate, hm, if_pos (by omega), Int.toNat_natCast, if_pos hm2, Option.bind_some, List.length_replicate]
theorem five_le {a b c d e m : Nat} (h : a + b + c + d + e ≤ m) : a ≤ m ∧ b ≤ m ∧ c ≤ m ∧ d ≤ m ∧ e ≤ m := by omega
theorem div_aux {la lb lv n : Nat} (hb : lb = n + 1) (hn0 : lb ≠ 1) (hv : lv = lb) (hle : lb ≤ la) (hl : la < 1000000) : ¬ (lb : Int) = 1 ∧ 0 ≤ wrap64 ((lb : Int) - 1) ∧ wrap64 ((lb : Int) - 1) < (lb : Int) ∧ wrap64 ((lb : Int) - 1) = (n : Int) ∧
    wrap64 ((la : Int) + 1) = ((la + 1 : Nat) : Int) ∧ la + 1 ≤ 35184372088832 ∧ wrap64 (((la + 1 : Nat) : Int) - (lv : Int)) = ((la + 1 - lb : Nat) : Int) ∧ la + 1 - lb ≤ 35184372088832 := by
  subst hv
  rw [w64 ((lv : Int) - 1) (by omega) (by omega), w64 ((la : Int) + 1) (by omega) (by omega), w64 (((la + 1 : Nat) : Int) - (lv : Int)) (by omega) (by omega)]
  omega
theorem nat_divide_eq (a b : List Int) (ha : Ok 18446744073709551616 a) (hb : Ok 18446744073709551616 b) (fa : Fm a) (fb : Fm b) (la : a.length < 1000000) (lb : b.length < 1000000) (hb0 : b.length ≠ 0) :
    Ev (fun k => nat_divide.f k a b) (dig 18446744073709551616 (val 18446744073709551616 a / val 18446744073709551616 b), dig 18446744073709551616 (val 18446744073709551616 a % val 18446744073709551616 b)) := by
  have hBp := val_pos_of_fm hW hb fb (by intro h; simp [h] at hb0)
  obtain ⟨KC, hKC⟩ := nat_cmp_eq a b ha hb fa fb (by omega)
  by_cases hlt : val 18446744073709551616 a < val 18446744073709551616 b
  · rw [Nat.div_eq_of_lt hlt, Nat.mod_eq_of_lt hlt, dig_zero, dig_val hW ha fa]
    have hs : sg (val 18446744073709551616 a) (val 18446744073709551616 b) < 0 := sg_neg.2 hlt
    refine ⟨KC, fun m hm => ?_⟩
    exact div_lt m a b _ (hKC m hm) hs (nat_Clone_eq a (by omega))
  · have hs : ¬ sg (val 18446744073709551616 a) (val 18446744073709551616 b) < 0 := fun h => hlt (sg_neg.1 h)
    by_cases h1 : b.length = 1
    · obtain ⟨y, rfl⟩ : ∃ y, b = [y] := List.length_eq_one_iff.1 h1
      have hy := hb.head
      obtain ⟨n, rfl⟩ : ∃ n : Nat, y = (n : Int) := ⟨y.toNat, by omega⟩
      rw [val_one, Int.toNat_natCast] at hBp ⊢
      obtain ⟨K1, hK1⟩ := nat_short_eq a n ha (by omega) hBp (by omega)
      have hml := Nat.mod_lt (val 18446744073709551616 a) hBp
      obtain ⟨K2, hK2⟩ := nat_low_one (val 18446744073709551616 a % n) (by omega)
      refine ⟨KC + K1 + K2, fun m hm => ?_⟩
      have g0 := hKC m (by omega)
      have g1 := hK1 m (by omega)
      have g2 := hK2 m (by omega)
      exact div_one m a [(n : Int)] _ _ _ _ g0 hs rfl g1 g2
    · -- the long way
      obtain ⟨n, hn⟩ : ∃ n, b.length = n + 1 := ⟨b.length - 1, by omega⟩
      have hbt := hb.at (by omega) n
      have hbt0 : b.getD n 0 ≠ 0 := by
        rcases fb with h | h
        · omega
        · rwa [hn, Nat.add_sub_cancel] at h
      have hbv := val_take_succ' 18446744073709551616 b n
      rw [List.take_of_length_le (by omega)] at hbv
      have hblo := ok_val_take_lt (by omega) hb n (by omega)
      generalize hY : b.getD n 0 = Y at *
      obtain ⟨y, rfl⟩ : ∃ n : Nat, Y = (n : Int) := ⟨Y.toNat, by omega⟩
      rw [Int.toNat_natCast] at hbv
      obtain ⟨k, hk, hk1, hk2, KL, hKL⟩ := bits_Lead_eq y (by omega) (by omega)
      have hpk : 0 < 2 ^ k := Nat.two_pow_pos k
      have hpp : 2 ^ (64 - k) * 2 ^ k = 18446744073709551616 := by rw [← Nat.pow_add, show 64 - k + k = 64 by omega]
      have hyk : (y + 1) * 2 ^ k ≤ 18446744073709551616 := by
        rw [← hpp]
        refine Nat.mul_le_mul_right _ ?_
        rw [← hpp] at hk1
        exact Nat.lt_of_mul_lt_mul_right hk1
      -- the divisor, shifted
      have hVlt : val 18446744073709551616 b * 2 ^ k < 18446744073709551616 ^ b.length := by
        rw [hn, Nat.pow_succ]
        refine Nat.lt_of_lt_of_le ?_ (Nat.mul_le_mul_left _ hyk)
        rw [hbv, ← Nat.mul_assoc]
        refine Nat.mul_lt_mul_of_pos_right ?_ hpk
        rw [Nat.mul_add]
        omega
      have hVge : 18446744073709551616 ^ n * 9223372036854775808 ≤ val 18446744073709551616 b * 2 ^ k := by
        rw [hbv, Nat.add_mul, Nat.mul_assoc]
        exact Nat.le_trans (Nat.mul_le_mul_left _ hk2) (Nat.le_add_left _ _)
      have hVl : (dig 18446744073709551616 (val 18446744073709551616 b * 2 ^ k)).length = b.length := by
        have h2 := dig_len_le hW _ _ hVlt
        rcases Nat.lt_or_ge (dig 18446744073709551616 (val 18446744073709551616 b * 2 ^ k)).length b.length with h | h
        · exfalso
          have h3 := lt_dig_len hW (val 18446744073709551616 b * 2 ^ k)
          have h4 := pow_mono (B := 18446744073709551616) hW (show (dig 18446744073709551616 (val 18446744073709551616 b * 2 ^ k)).length ≤ n by omega)
          have h5 : 18446744073709551616 ^ n * 1 ≤ 18446744073709551616 ^ n * 9223372036854775808 := Nat.mul_le_mul_left _ (by omega)
          omega
        · omega
      have htop : 0 < ((dig 18446744073709551616 (val 18446744073709551616 b * 2 ^ k)).getD ((dig 18446744073709551616 (val 18446744073709551616 b * 2 ^ k)).length - 1) 0).toNat := by
        have h2 := (ok_dig hW (val 18446744073709551616 b * 2 ^ k)).at (by omega) ((dig 18446744073709551616 (val 18446744073709551616 b * 2 ^ k)).length - 1)
        rcases fm_dig hW (val 18446744073709551616 b * 2 ^ k) with h | h
        · omega
        · omega
      -- the dividend, shifted
      have hAlt := val_lt (show 0 < 18446744073709551616 by omega) ha
      have hUlt : val 18446744073709551616 a * 2 ^ k < 18446744073709551616 ^ a.length * 2 ^ k := Nat.mul_lt_mul_of_pos_right hAlt hpk
      have h2k : 2 ^ k ≤ 9223372036854775808 := two_pow_le (show k ≤ 63 from hk)
      have hUl : (dig 18446744073709551616 (val 18446744073709551616 a * 2 ^ k)).length ≤ a.length + 1 := dig_len_le hW _ _ (by
        rw [Nat.pow_succ]
        exact Nat.lt_of_lt_of_le hUlt (Nat.mul_le_mul_left _ (by omega)))
      have hbl : b.length ≤ a.length := len_le_of_val hW ha hb fb (by omega)
      obtain ⟨K1, hK1⟩ := nat_shl_eq b k hb (by omega) (by omega)
      obtain ⟨K2, hK2⟩ := nat_shl_eq a k ha (by omega) (by omega)
      obtain ⟨ul, hul⟩ : ∃ u, u = dig 18446744073709551616 (val 18446744073709551616 a * 2 ^ k) ++ (List.replicate (a.length + 1) (0 : Int)).drop (dig 18446744073709551616 (val 18446744073709551616 a * 2 ^ k)).length := ⟨_, rfl⟩
      have huv : val 18446744073709551616 ul = val 18446744073709551616 a * 2 ^ k := by
        rw [hul, List.drop_replicate, val_append, val_replicate, val_dig hW]; simp
      have hulen : ul.length = a.length + 1 := by
        rw [hul, List.length_append, List.length_drop, List.length_replicate]; omega
      have hulok : Ok 18446744073709551616 ul := by
        rw [hul, List.drop_replicate]
        exact (ok_dig hW _).append (Ok.replicate (by omega) _)
      have hcopy : copyTo.f (List.replicate (a.length + 1) 0) (dig 18446744073709551616 (val 18446744073709551616 a * 2 ^ k)) = some (((dig 18446744073709551616 (val 18446744073709551616 a * 2 ^ k)).length : Int), ul) := by
        unfold copyTo.f
        rw [if_pos (by rw [List.length_replicate]; exact hUl), hul]
      have hrest : val 18446744073709551616 (ul.drop (a.length + 1 - b.length)) < val 18446744073709551616 b * 2 ^ k := by
        have h3 := val_take_drop 18446744073709551616 ul (a.length + 1 - b.length) (by omega)
        rw [huv] at h3
        have h4 : 18446744073709551616 ^ a.length = 18446744073709551616 ^ (a.length + 1 - b.length) * 18446744073709551616 ^ n := by
          rw [← Nat.pow_add, show a.length + 1 - b.length + n = a.length by omega]
        have h5 : 18446744073709551616 ^ (a.length + 1 - b.length) * val 18446744073709551616 (ul.drop (a.length + 1 - b.length)) < 18446744073709551616 ^ (a.length + 1 - b.length) * (18446744073709551616 ^ n * 2 ^ k) := by
          rw [← Nat.mul_assoc, ← h4]
          omega
        have h6 := Nat.lt_of_mul_lt_mul_left h5
        have h7 : 18446744073709551616 ^ n * 2 ^ k ≤ 18446744073709551616 ^ n * 9223372036854775808 := Nat.mul_le_mul_left _ h2k
        omega
      obtain ⟨K3, hK3⟩ := div_loop k hk (dig 18446744073709551616 (val 18446744073709551616 b * 2 ^ k)) (ok_dig hW _) (by omega) (by omega) htop (val 18446744073709551616 a * 2 ^ k) (a.length + 1 - b.length)
        (val 18446744073709551616 a) (val 18446744073709551616 b) (by omega) rfl (val_dig hW _) hBp (a.length + 1 - b.length) 0 ul (List.replicate (a.length + 1 - b.length) 0) (by omega) (by omega) (by simp) hulok (Ok.replicate (by omega) _)
        (by rw [val_dig hW]; exact hrest) (by rw [List.drop_replicate, val_replicate, huv]; simp)
      obtain ⟨x1, x2, x3, ew, en, x4, em, x5⟩ := div_aux hn h1 hVl hbl la
      refine ⟨KC + KL + K1 + K2 + K3, fun m hm => ?_⟩
      obtain ⟨m0, m1, m2, m3, m4⟩ := five_le hm
      exact (div_long m a b _ _ _ _ _ _ (a.length + 1) (a.length + 1 - b.length) (hKC m m0) hs x1 x2 x3 (by rw [ew, rd_nat, hY]; exact hKL m m1) (hK1 m m2) en x4 (hK2 m m3) hcopy em x5).trans (hK3 m m4)
theorem nat_DivMod_eq (a b : List Int) (ha : Ok 18446744073709551616 a) (hb : Ok 18446744073709551616 b) (la : a.length < 1000000) (lb : b.length < 1000000) :
    Ev (fun k => nat_DivMod.f k a b) (if Fm a ∧ Fm b then (if val 18446744073709551616 b = 0 then ([], [], 4) else (dig 18446744073709551616 (val 18446744073709551616 a / val 18446744073709551616 b), dig 18446744073709551616 (val 18446744073709551616 a % val 18446744073709551616 b), 0)) else ([], [], 3)) := by
  obtain ⟨K0, h0⟩ := nat_forms_two a b (by omega) (by omega)
  by_cases hf : Fm a ∧ Fm b
  · rw [if_pos hf]
    simp only [if_pos hf] at h0
    have hz : val 18446744073709551616 b = 0 ↔ b.length = 0 := by
      constructor
      · intro h
        rcases Nat.eq_zero_or_pos b.length with h1 | h1
        · exact h1
        · have := val_pos_of_fm hW hb hf.2 (by intro h2; simp [h2] at h1); omega
      · intro h
        obtain rfl := List.eq_nil_of_length_eq_zero h
        rfl
    by_cases hb0 : b.length = 0
    · rw [if_pos (hz.2 hb0)]
      refine ⟨K0, fun m hm => ?_⟩
      have g0 := h0 m (by omega)
      simp (disch := omega) only [nat_DivMod.f, g0, Option.bind_some, if_true, ite_t]
    · rw [if_neg (fun h => hb0 (hz.1 h))]
      obtain ⟨K1, h1⟩ := nat_divide_eq a b ha hb hf.1 hf.2 la lb hb0
      refine ⟨K0 + K1, fun m hm => ?_⟩
      have g0 := h0 m (by omega)
      have g1 := h1 m (by omega)
      simp (disch := omega) only [nat_DivMod.f, g0, Option.bind_some, if_true, ite_f, g1]
  · rw [if_neg hf]
    simp only [if_neg hf] at h0
    refine ⟨K0, fun m hm => ?_⟩
    have g0 := h0 m (by omega)
    simp (disch := omega) only [nat_DivMod.f, g0, Option.bind_some, ite_f]
theorem nat_Gcd_loop : ∀ (N : Nat) (a b : List Int), val 18446744073709551616 b < N → Ok 18446744073709551616 a → Ok 18446744073709551616 b → Fm a → Fm b → a.length < 1000000 → b.length < 1000000 →
    Ev (fun k => nat_Gcd.l0 k a b) (dig 18446744073709551616 (Nat.gcd (val 18446744073709551616 a) (val 18446744073709551616 b)), 0) := by
  intro N
  induction N with
  | zero => intro a b h; omega
  | succ N ih =>
    intro a b hN ha hb fa fb la lb
    by_cases hb0 : b.length = 0
    · obtain rfl := List.eq_nil_of_length_eq_zero hb0
      refine Ev.round 0 fun m _ => ?_
      rw [val_nil, Nat.gcd_zero_right, dig_val hW ha fa]
      simp (disch := omega) only [nat_Gcd.l0, ite_f, nat_Clone_eq a (by omega), Option.bind_some]
    · have hBp := val_pos_of_fm hW hb fb (by intro h; simp [h] at hb0)
      obtain ⟨K1, h1⟩ := nat_divide_eq a b ha hb fa fb la lb hb0
      have hml := Nat.mod_lt (val 18446744073709551616 a) hBp
      have hrl : (dig 18446744073709551616 (val 18446744073709551616 a % val 18446744073709551616 b)).length ≤ b.length := dig_len_le hW _ _ (Nat.lt_trans hml (val_lt (by omega) hb))
      have h2 := ih b (dig 18446744073709551616 (val 18446744073709551616 a % val 18446744073709551616 b)) (by rw [val_dig hW]; omega) hb (ok_dig hW _) fb (fm_dig hW _) lb (by omega)
      rw [val_dig hW, Nat.gcd_comm (val 18446744073709551616 b), ← Nat.gcd_rec, Nat.gcd_comm (val 18446744073709551616 b)] at h2
      obtain ⟨K2, h2⟩ := h2
      refine Ev.round (K1 + K2) fun m hm => ?_
      have g1 := h1 m (by omega)
      have g2 := h2 m (by omega)
      simp (disch := omega) only [nat_Gcd.l0, ite_t, g1, Option.bind_some]
      exact g2
theorem nat_Gcd_eq (a b : List Int) (ha : Ok 18446744073709551616 a) (hb : Ok 18446744073709551616 b) (la : a.length < 1000000) (lb : b.length < 1000000) :
    Ev (fun k => nat_Gcd.f k a b) (if Fm a ∧ Fm b then (dig 18446744073709551616 (Nat.gcd (val 18446744073709551616 a) (val 18446744073709551616 b)), 0) else ([], 3)) := by
  obtain ⟨K0, h0⟩ := nat_forms_two a b (by omega) (by omega)
  by_cases hf : Fm a ∧ Fm b
  · rw [if_pos hf]
    simp only [if_pos hf] at h0
    obtain ⟨K1, h1⟩ := nat_Gcd_loop _ a b (Nat.lt_succ_self _) ha hb hf.1 hf.2 la lb
    refine ⟨K0 + K1, fun m hm => ?_⟩
    have g0 := h0 m (by omega)
    have g1 := h1 m (by omega)
    simp (disch := omega) only [nat_Gcd.f, g0, Option.bind_some, if_true, g1]
  · rw [if_neg hf]
    simp only [if_neg hf] at h0
    refine ⟨K0, fun m hm => ?_⟩
    have g0 := h0 m (by omega)
    simp (disch := omega) only [nat_Gcd.f, g0, Option.bind_some, ite_f]
theorem nat_Mul_eq (a b : List Int) (ha : Ok 18446744073709551616 a) (hb : Ok 18446744073709551616 b) (la : a.length < 1000000000) (lb : b.length < 1000000000) :
    Ev (fun k => nat_Mul.f k a b) (if Fm a ∧ Fm b then (dig 18446744073709551616 (val 18446744073709551616 a * val 18446744073709551616 b), 0) else ([], 3)) := by
  obtain ⟨K0, h0⟩ := nat_forms_two a b (by omega) (by omega)
  by_cases hf : Fm a ∧ Fm b
  · rw [if_pos hf]
    simp only [if_pos hf] at h0
    obtain ⟨K1, h1⟩ := nat_mul_eq a b ha hb (by omega) (by omega)
    refine ⟨K0 + K1, fun m hm => ?_⟩
    have g0 := h0 m (by omega)
    have g1 := h1 m (by omega)
    simp (disch := omega) only [nat_Mul.f, g0, Option.bind_some, if_true, g1]
  · rw [if_neg hf]
    simp only [if_neg hf] at h0
    refine ⟨K0, fun m hm => ?_⟩
    have g0 := h0 m (by omega)
    simp (disch := omega) only [nat_Mul.f, g0, Option.bind_some, ite_f]
end Go.Proofs.Ytaegboehjpjfnaa.Pl

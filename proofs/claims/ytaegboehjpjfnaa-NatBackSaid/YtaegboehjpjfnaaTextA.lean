/- The decimal digits of a number: package nat's Text and the document's. -/
import Derived.Test.YtaegboehjpjfnaaPx0
import Derived.Test.YtaegboehjpjfnaaPx4
import Derived.Test.YtaegboehjpjfnaaPx7
import Derived.Test.YtaegboehjpjfnaaPx8
import Derived.Test.YtaegboehjpjfnaaDiv64
import Derived.Test.YtaegboehjpjfnaaRefA
import Derived.Test.YtaegboehjpjfnaaNatX
set_option linter.unusedVariables false
set_option linter.unusedSimpArgs false
namespace Go.Proofs.Ytaegboehjpjfnaa.Pl
open Go.RowKit Go.Proofs.YtaegboehjpjfnaaW.PrintWords Go.Proofs.YtaegboehjpjfnaaW.PrintLast Go.Proofs.YtaegboehjpjfnaaW.PrintMore Go.Proofs.Ytaegboehjpjfnaa.P Go.Proofs.Ytaegboehjpjfnaa.Mine

theorem hT : 1 < 10 := by omega
/-- Digits as characters. -/
def asc (l : List Int) : List Int := l.map (· + 48)
/-- Just k digits. -/
def pd : Nat → Nat → List Int
  | 0, _ => []
  | k + 1, r => ((r % 10 : Nat) : Int) :: pd k (r / 10)
theorem asc_len (l : List Int) : (asc l).length = l.length := by simp [asc]
theorem asc_append (l m : List Int) : asc (l ++ m) = asc l ++ asc m := by simp [asc]
theorem asc_getD (l : List Int) (i : Nat) (h : i < l.length) : (asc l).getD i 0 = l.getD i 0 + 48 := by
  simp [asc, List.getD_eq_getElem?_getD, List.getElem?_eq_getElem h]
theorem asc_take (l : List Int) (n : Nat) : (asc l).take n = asc (l.take n) := by simp [asc]
theorem pd_len : ∀ k r, (pd k r).length = k
  | 0, _ => rfl
  | k + 1, r => by simp [pd, pd_len k]
theorem ok_pd : ∀ k r, Ok 10 (pd k r)
  | 0, _ => Ok.nil _
  | k + 1, r => Ok.cons (by omega) (by omega) (ok_pd k (r / 10))
theorem val_pd : ∀ k r, r < 10 ^ k → val 10 (pd k r) = r
  | 0, r, h => by simp at h; simp [pd, val_nil, h]
  | k + 1, r, h => by
    have h2 : r / 10 < 10 ^ k := by
      rw [Nat.div_lt_iff_lt_mul (by omega), ← Nat.pow_succ]; exact h
    rw [pd, val_cons, val_pd k _ h2]
    omega
theorem dig_pd : ∀ (k q r : Nat), 0 < q → r < 10 ^ k → dig 10 (q * 10 ^ k + r) = pd k r ++ dig 10 q
  | 0, q, r, hq, h => by simp at h; simp [pd, h]
  | k + 1, q, r, hq, h => by
    have h2 : r / 10 < 10 ^ k := by
      rw [Nat.div_lt_iff_lt_mul (by omega), ← Nat.pow_succ]; exact h
    have hp : 0 < q * 10 ^ k := Nat.mul_pos hq (Nat.pow_pos (by omega))
    have e : q * 10 ^ (k + 1) + r = 10 * (q * 10 ^ k + r / 10) + r % 10 := by rw [Nat.pow_succ, ← Nat.mul_assoc]; omega
    have ih := dig_pd k q (r / 10) hq h2
    rw [e]
    generalize q * 10 ^ k + r / 10 = m at *
    have hm : 0 < m := by
      rcases Nat.eq_zero_or_pos m with h0 | h0
      · rw [h0, dig_zero] at ih
        have hl := congrArg List.length ih
        simp [pd_len] at hl
        have := (dig_len_zero (n := q) hT).1 (by omega)
        omega
      · exact h0
    rw [dig_pos hT (by omega), pd, show (10 * m + r % 10) % 10 = r % 10 by omega, show (10 * m + r % 10) / 10 = m by omega, ih]
    rfl
theorem rev_loop (o : List Int) (hn : o.length < 1000000000000000) : ∀ d i (s : List Int), o.length ≤ 2 * i + d → 2 * i ≤ o.length + 1 → s.length = o.length →
    (∀ p, p < o.length → s.getD p 0 = if p < i ∨ o.length ≤ p + i then o.getD (o.length - 1 - p) 0 else o.getD p 0) →
    Ev (fun k => slices_Reverse_byte_byte.l0 k s (i : Int) ((o.length : Int) - 1 - (i : Int))) o.reverse := by
  intro d
  have fin : ∀ (s : List Int) (i : Nat), s.length = o.length → o.length ≤ 2 * i + 1 → (∀ p, p < o.length → s.getD p 0 = if p < i ∨ o.length ≤ p + i then o.getD (o.length - 1 - p) 0 else o.getD p 0) → s = o.reverse := by
    intro s i hs hi hp
    apply List.ext_getElem?
    intro p
    by_cases hlt : p < o.length
    · have h := hp p hlt
      rw [List.getElem?_reverse hlt]
      have h1 : o.getD (o.length - 1 - p) 0 = if p < i ∨ o.length ≤ p + i then o.getD (o.length - 1 - p) 0 else o.getD p 0 := by
        split
        · rfl
        · rw [show o.length - 1 - p = p by omega]
      rw [← h1] at h
      rw [List.getElem?_eq_getElem (by omega), List.getElem?_eq_getElem (by omega)]
      rw [List.getD_eq_getElem?_getD, List.getD_eq_getElem?_getD, List.getElem?_eq_getElem (by omega), List.getElem?_eq_getElem (by omega)] at h
      simpa using h
    · rw [List.getElem?_eq_none (by omega), List.getElem?_eq_none (by simp; omega)]
  induction d with
  | zero =>
    intro i s h1 h2 hs hp
    have := fin s i hs (by omega) hp
    refine Ev.round 0 fun m _ => ?_
    simp (disch := omega) only [slices_Reverse_byte_byte.l0, ite_f, this]
  | succ d ih =>
    intro i s h1 h2 hs hp
    by_cases hc : 2 * i + 1 < o.length
    · have e1 : (o.length : Int) - 1 - (i : Int) = ((o.length - 1 - i : Nat) : Int) := by omega
      have e2 : ((o.length - 1 - i : Nat) : Int) - 1 = (o.length : Int) - 1 - ((i + 1 : Nat) : Int) := by omega
      have e3 : (i : Int) + 1 = ((i + 1 : Nat) : Int) := by omega
      obtain ⟨K, hK⟩ := ih (i + 1) ((s.set i (s.getD (o.length - 1 - i) 0)).set (o.length - 1 - i) (s.getD i 0)) (by omega) (by omega) (by simp [hs]) (by
        intro p hlt
        have ha := hp (o.length - 1 - i) (by omega)
        have hb := hp i (by omega)
        rw [if_neg (by omega)] at ha hb
        by_cases hp1 : p = o.length - 1 - i
        · rw [hp1, getD_set_self _ _ _ (by simp; omega), hb, if_pos (by omega), show o.length - 1 - (o.length - 1 - i) = i by omega]
        · rw [getD_set_ne _ _ _ _ (by omega)]
          by_cases hp2 : p = i
          · rw [hp2, getD_set_self _ _ _ (by omega), ha, if_pos (by omega)]
          · rw [getD_set_ne _ _ _ _ (by omega), hp p hlt]
            by_cases h9 : p < i ∨ o.length ≤ p + i
            · rw [if_pos h9, if_pos (by omega)]
            · rw [if_neg h9, if_neg (by omega)])
      refine Ev.round K fun m hm => ?_
      rw [e1]
      simp (disch := omega) only [slices_Reverse_byte_byte.l0, ite_t, rd_nat, Int.toNat_natCast, w64, e2, e3, hK m hm]
    · have := fin s i hs (by omega) hp
      refine Ev.round 0 fun m _ => ?_
      simp (disch := omega) only [slices_Reverse_byte_byte.l0, ite_f, this]
theorem rev_eq (o : List Int) (hn : o.length < 1000000000000000) : Ev (fun k => slices_Reverse_byte_byte.f k o) o.reverse := by
  obtain ⟨K, hK⟩ := rev_loop o hn o.length 0 o (by omega) (by omega) rfl (by intro p hp; rw [if_neg (by omega)])
  refine ⟨K, fun m hm => ?_⟩
  have := hK m hm
  rw [show (o.length : Int) - 1 - ((0 : Nat) : Int) = (o.length : Int) - 1 by omega] at this
  simp (disch := omega) only [slices_Reverse_byte_byte.f, w64]
  exact this
/-- The text of a number. -/
def decText (n : Nat) : ByteArray := if n = 0 then ⟨#[48]⟩ else strOfNums (asc (dig 10 n)).reverse
theorem nat_Text_l2 : ∀ (n : Nat) (ds : List Int), ds.length = n → n < 100000000000000 → Ok 10 ds → Ev (fun k => nat_Text.l2 k (asc ds)) (decText (val 10 ds), 0) := by
  intro n
  induction n with
  | zero =>
    intro ds hl _ hk
    obtain rfl := List.eq_nil_of_length_eq_zero hl
    refine Ev.round 0 fun m _ => ?_
    simp [nat_Text.l2, asc, decText, val_nil]
  | succ n ih =>
    intro ds hl hn hk
    have hal := asc_len ds
    have e : (((asc ds).length : Int) - 1) = ((ds.length - 1 : Nat) : Int) := by omega
    have hg := asc_getD ds (ds.length - 1) (by omega)
    have hr : rd (asc ds) ((ds.length - 1 : Nat) : Int) = ds.getD (ds.length - 1) 0 + 48 := by rw [rd_nat]; exact hg
    by_cases h0 : ds.getD (ds.length - 1) 0 = 0
    · obtain ⟨K, hK⟩ := ih (ds.take (ds.length - 1)) (by rw [List.length_take]; omega) (by omega) (hk.take _)
      refine Ev.round K fun m hm => ?_
      have h9 := hK m hm
      rw [h0] at hr
      simp (disch := omega) only [nat_Text.l2, ite_t, e, w64, hr, Int.toNat_natCast, asc_take]
      rw [dig_take_last hT (by omega) h0] at h9
      exact h9
    · have hne : ¬ (ds.getD (ds.length - 1) 0 + 48 = 48) := by omega
      obtain ⟨K, hK⟩ := rev_eq (asc ds) (by omega)
      have hv : 0 < val 10 ds := val_pos_of_fm hT hk (.inr h0) (by intro h; simp [h] at hl)
      have hd := dig_val hT hk (.inr h0)
      refine Ev.round K fun m hm => ?_
      simp (disch := omega) only [nat_Text.l2, ite_t, ite_f, e, w64, hr, hne, if_false, hK m hm, Option.bind_some, decText, hd]
theorem nat_Text_l1 (x : List Int) (res : ByteArray × Int) : ∀ (j : Nat) (ds : List Int) (r : Nat), j ≤ 18 → ds.length + j < 100000000000000 → r < 18446744073709551616 →
    Ev (fun k => nat_Text.l0 k x (asc (ds ++ pd j r))) res → Ev (fun k => nat_Text.l1 k x (asc ds) (r : Int) (18 - (j : Int))) res := by
  intro j
  induction j with
  | zero =>
    intro ds r _ hl hr h
    obtain ⟨K, hK⟩ := h
    refine Ev.round K fun m hm => ?_
    have := hK m hm
    rw [pd, List.append_nil] at this
    simp (disch := omega) only [nat_Text.l1, ite_f, this]
  | succ j ih =>
    intro ds r hj hl hr h
    obtain ⟨K, hK⟩ := ih (ds ++ [((r % 10 : Nat) : Int)]) (r / 10) (by omega) (by simp; omega) (by omega) (by
      rw [List.append_assoc]; exact h)
    have hal := asc_len ds
    have e1 : Int.tmod (r : Int) 10 = ((r % 10 : Nat) : Int) := tmodn r 10
    have e2 : Int.tdiv (r : Int) 10 = ((r / 10 : Nat) : Int) := tdivn r 10
    have e3 : (48 + ((r % 10 : Nat) : Int)) % 256 = ((r % 10 : Nat) : Int) + 48 := by omega
    have e4 : (18 - ((j + 1 : Nat) : Int)) + 1 = 18 - (j : Int) := by omega
    have hj' : ((j : Nat) : Int) ≤ 17 := by omega
    have e5 : asc ds ++ [((r % 10 : Nat) : Int) + 48] = asc (ds ++ [((r % 10 : Nat) : Int)]) := by rw [asc_append]; rfl
    refine Ev.round K fun m hm => ?_
    simp (disch := omega) only [nat_Text.l1, ite_t, e1, e2, u64w, e3, e5, w64, e4, hK m hm]
theorem nat_Text_l0 : ∀ (c v : Nat) (ds : List Int), v < 1000000000000000000 ^ c → ds.length + 18 * c < 10000000000000 → (dig 18446744073709551616 v).length < 1000000000000 → Ok 10 ds →
    Ev (fun k => nat_Text.l0 k (dig 18446744073709551616 v) (asc ds)) (decText (val 10 ds + 10 ^ ds.length * v), 0) := by
  intro c
  induction c with
  | zero =>
    intro v ds hv hl _ hk
    have : v = 0 := by simpa using hv
    subst this
    obtain ⟨K, hK⟩ := nat_Text_l2 ds.length ds rfl (by omega) hk
    refine Ev.round K fun m hm => ?_
    have := hK m hm
    rw [dig_zero]
    simp [nat_Text.l0, this]
  | succ c ih =>
    intro v ds hv hl hdl hk
    rcases Nat.eq_zero_or_pos v with rfl | hp
    · obtain ⟨K, hK⟩ := nat_Text_l2 ds.length ds rfl (by omega) hk
      refine Ev.round K fun m hm => ?_
      have := hK m hm
      rw [dig_zero]
      simp [nat_Text.l0, this]
    · obtain ⟨K0, hK0⟩ := nat_short_eq (dig 18446744073709551616 v) 1000000000000000000 (ok_dig hW v) hdl (by omega) (by omega)
      rw [val_dig hW] at hK0
      have hq : v / 1000000000000000000 < 1000000000000000000 ^ c := by
        rw [Nat.div_lt_iff_lt_mul (by omega), ← Nat.pow_succ]; exact hv
      have hr : v % 1000000000000000000 < 10 ^ 18 := Nat.mod_lt _ (by omega)
      have hdl2 : (dig 18446744073709551616 (v / 1000000000000000000)).length ≤ (dig 18446744073709551616 v).length :=
        dig_len_le hW _ _ (Nat.lt_of_le_of_lt (Nat.div_le_self _ _) (lt_dig_len hW v))
      have ihh := ih (v / 1000000000000000000) (ds ++ pd 18 (v % 1000000000000000000)) hq (by simp [pd_len]; omega) (by omega) (hk.append (ok_pd _ _))
      rw [val_append, val_pd _ _ hr, List.length_append, pd_len, Nat.pow_add, Nat.mul_assoc, Nat.add_assoc, ← Nat.mul_add, show v % 1000000000000000000 + 10 ^ 18 * (v / 1000000000000000000) = v from Nat.mod_add_div v _] at ihh
      obtain ⟨K1, hK1⟩ := nat_Text_l1 _ _ 18 ds (v % 1000000000000000000) (by omega) (by omega) (by omega) ihh
      have hlen : 0 < (dig 18446744073709551616 v).length := by
        rcases Nat.eq_zero_or_pos (dig 18446744073709551616 v).length with h | h
        · exact absurd ((dig_len_zero hW).1 h) (by omega)
        · exact h
      refine Ev.round (K0 + K1) fun m hm => ?_
      have h0 : nat_short.f m (dig 18446744073709551616 v) 1000000000000000000 = _ := hK0 m (by omega)
      have h1 := hK1 m (by omega)
      simp (disch := omega) only [nat_Text.l0, ite_t, h0, Option.bind_some]
      exact h1
theorem nat_Text_eq (a : List Int) (ha : Ok 18446744073709551616 a) (la : a.length < 100000000000) :
    Ev (fun k => nat_Text.f k a) (if Fm a then (decText (val 18446744073709551616 a), 0) else (⟨#[]⟩, 3)) := by
  obtain ⟨K0, h0⟩ := nat_forms_one a (by omega)
  by_cases hf : Fm a
  · rw [if_pos hf]
    simp only [if_pos hf] at h0
    have hv : val 18446744073709551616 a < 1000000000000000000 ^ (2 * a.length) := by
      rw [Nat.pow_mul]
      exact Nat.lt_of_lt_of_le (val_lt (by omega) ha) (Nat.pow_le_pow_left (by omega) _)
    have hd := dig_val hW ha hf
    obtain ⟨K1, h1⟩ := nat_Text_l0 (2 * a.length) (val 18446744073709551616 a) [] hv (by simp; omega) (by rw [hd]; omega) (Ok.nil _)
    rw [hd] at h1
    refine ⟨K0 + K1, fun m hm => ?_⟩
    have h2 := h1 m (by omega)
    simp only [val_nil, List.length_nil, Nat.pow_zero, Nat.one_mul, Nat.zero_add, asc, List.map_nil] at h2
    simp only [nat_Text.f, h0 m (by omega), Option.bind_some, if_true, h2]
  · rw [if_neg hf]
    simp only [if_neg hf] at h0
    refine ⟨K0, fun m hm => ?_⟩
    simp (disch := omega) only [nat_Text.f, h0 m (by omega), Option.bind_some, ite_f]
end Go.Proofs.Ytaegboehjpjfnaa.Pl

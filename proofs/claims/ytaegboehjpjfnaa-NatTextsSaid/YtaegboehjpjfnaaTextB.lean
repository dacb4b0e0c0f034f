/- The decimal digits of a number, as the document writes them. -/
import Derived.Test.YtaegboehjpjfnaaPx0
import Derived.Test.YtaegboehjpjfnaaPx9
import Derived.Test.YtaegboehjpjfnaaPx10
import Derived.Test.YtaegboehjpjfnaaTextA
set_option linter.unusedVariables false
set_option linter.unusedSimpArgs false
namespace Go.Proofs.Ytaegboehjpjfnaa.Pl
open Go.RowKit Go.Proofs.YtaegboehjpjfnaaW.PrintWords Go.Proofs.YtaegboehjpjfnaaW.PrintLast Go.Proofs.YtaegboehjpjfnaaW.PrintMore Go.Proofs.Ytaegboehjpjfnaa.P Go.Proofs.Ytaegboehjpjfnaa.Mine

theorem ref_Word_eq (x : Nat) (hx : x < 18446744073709551616) : Ev (fun k => tableauref01_Word.f k (x : Int)) (dig 4294967296 x) := by
  have e1 : Int.tmod (x : Int) 4294967296 = ((x % 4294967296 : Nat) : Int) := tmodn x 4294967296
  have e2 : (x : Int) / 4294967296 = ((x / 4294967296 : Nat) : Int) := by omega
  obtain ⟨K, hK⟩ := ref_Low_eq [((x % 4294967296 : Nat) : Int), ((x / 4294967296 : Nat) : Int)] (by simp) (Ok.cons (by omega) (by omega) (Ok.one (by omega) (by omega)))
  have hv : val 4294967296 [((x % 4294967296 : Nat) : Int), ((x / 4294967296 : Nat) : Int)] = x := by
    rw [val_cons, val_one, Int.toNat_natCast, Int.toNat_natCast]; omega
  rw [hv] at hK
  refine ⟨K, fun m hm => ?_⟩
  simp only [tableauref01_Word.f, e1, e2, hK m hm, Option.bind_some]
theorem ref_short_loop (a : List Int) (y : Nat) (ha : Ok 4294967296 a) (hn : a.length < 1000000000000) (h0 : 0 < y) (hy : y < 4294967296) :
    ∀ d q (r : Nat), d ≤ a.length → q.length = a.length → Ok 4294967296 q → r < y →
      val 4294967296 (q.drop d) * y + r = val 4294967296 (a.drop d) →
      Ev (fun k => tableauref01_short.l0 k a (y : Int) q (r : Int) ((d : Int) - 1)) (dig 4294967296 (val 4294967296 a / y), dig 4294967296 (val 4294967296 a % y)) := by
  intro d
  induction d with
  | zero =>
    intro q r hi hs hk hr hv
    rw [List.drop_zero, List.drop_zero] at hv
    obtain ⟨K, hK⟩ := ref_Low_eq q (by omega) hk
    obtain ⟨K2, hK2⟩ := ref_Word_eq r (by omega)
    have e1 : val 4294967296 a / y = val 4294967296 q := by
      rw [← hv, Nat.mul_comm, Nat.mul_add_div h0, Nat.div_eq_of_lt hr, Nat.add_zero]
    have e2 : val 4294967296 a % y = r := by
      rw [← hv, Nat.mul_comm, Nat.mul_add_mod, Nat.mod_eq_of_lt hr]
    rw [e1, e2]
    refine Ev.round (K + K2) fun m hm => ?_
    simp (disch := omega) only [tableauref01_short.l0, ite_f, hK m (by omega), hK2 m (by omega), Option.bind_some]
  | succ d ih =>
    intro q r hi hs hk hr hv
    have hx := ha.at (by omega) d
    have hva := val_drop 4294967296 a d (by omega)
    generalize hX : a.getD d 0 = X at hx hva
    obtain ⟨x, rfl⟩ : ∃ n : Nat, X = (n : Int) := ⟨X.toNat, by omega⟩
    rw [Int.toNat_natCast] at hva
    have hqb : (r * 4294967296 + x) / y < 4294967296 := by
      rw [Nat.div_lt_iff_lt_mul h0]
      have := Nat.mul_le_mul_left 4294967296 (show r + 1 ≤ y from hr)
      omega
    have hrb := Nat.mod_lt (r * 4294967296 + x) h0
    have hdm := Nat.mod_add_div (r * 4294967296 + x) y
    have e2 : Int.tdiv ((r * 4294967296 + x : Nat) : Int) (y : Int) = (((r * 4294967296 + x) / y : Nat) : Int) := tdivn _ _
    have e3 : Int.tmod ((r * 4294967296 + x : Nat) : Int) (y : Int) = (((r * 4294967296 + x) % y : Nat) : Int) := tmodn _ _
    generalize (r * 4294967296 + x) / y = Q at *
    generalize (r * 4294967296 + x) % y = R at *
    obtain ⟨K, hK⟩ := ih (q.set d (Q : Int)) R (by omega) (by simpa using hs) (hk.set _ (by omega) (by omega)) hrb (by
      rw [drop_set_self _ _ _ (by omega), val_cons, hva, ← hv, Int.toNat_natCast, Nat.add_mul, Nat.mul_assoc, Nat.mul_comm Q y, Nat.mul_add]
      generalize val 4294967296 (q.drop (d + 1)) * y = P at *
      omega)
    have e1 : ((d + 1 : Nat) : Int) - 1 = (d : Int) := by omega
    have e4 : (r : Int) * 4294967296 + (x : Int) = ((r * 4294967296 + x : Nat) : Int) := by omega
    refine Ev.round K fun m hm => ?_
    simp (disch := omega) only [tableauref01_short.l0, ite_t, ite_f, w64, e1, rd_nat, hX, u64w, e4, e2, e3, Int.toNat_natCast, hK m (by omega)]
theorem ref_short_eq (a : List Int) (y : Nat) (ha : Ok 4294967296 a) (hn : a.length < 1000000000000) (h0 : 0 < y) (hy : y < 4294967296) :
    Ev (fun k => tableauref01_short.f k a (y : Int)) (dig 4294967296 (val 4294967296 a / y), dig 4294967296 (val 4294967296 a % y)) := by
  obtain ⟨K, hK⟩ := ref_short_loop a y ha hn h0 hy a.length (List.replicate a.length 0) 0 (by omega) (by simp) (Ok.replicate (by omega) _) h0 (by simp [val_nil])
  refine ⟨K, fun m hm => ?_⟩
  have := hK m hm
  simp (disch := omega) only [tableauref01_short.f, ite_t, Int.toNat_natCast, w64]
  exact this
/-- Digits, the lowest first, as a text. -/
def dtx (ds : List Int) : ByteArray := strOfNums (asc ds).reverse
theorem strOfNums_append (a b : List Int) : strOfNums a ++ strOfNums b = strOfNums (a ++ b) := by
  apply ByteArray.ext
  rw [ByteArray.data_append]
  simp [strOfNums]
theorem dtx_append (a b : List Int) : dtx b ++ dtx a = dtx (a ++ b) := by
  unfold dtx
  rw [strOfNums_append, asc_append, List.reverse_append]
theorem dtx_size (a : List Int) : (dtx a).size = a.length := by
  unfold dtx
  rw [strOfNums_size, List.length_reverse, asc_len]
theorem one_digit : ∀ d : Fin 10, (⟨#[48, 49, 50, 51, 52, 53, 54, 55, 56, 57]⟩ : ByteArray).extract d.val (d.val + 1) = dtx [(d.val : Int)] := by decide +kernel
theorem one_digit' (d : Nat) (h : d < 10) : (⟨#[48, 49, 50, 51, 52, 53, 54, 55, 56, 57]⟩ : ByteArray).extract d (d + 1) = dtx [(d : Int)] := one_digit ⟨d, h⟩
theorem dtx_nil : dtx [] = ⟨#[]⟩ := rfl
/-- The part of a chunk that is not the highest: all its nine digits. -/
theorem ref_Text_l1a (x3 : ByteArray) (q : List Int) (hq : 0 < q.length) (res : ByteArray) (hx : x3.size < 1000000000000000) : ∀ (j : Nat) (ds : List Int) (r : Nat), j ≤ 9 → ds.length + j ≤ 9 → r < 4294967296 →
    Ev (fun k => tableauref01_Text.l0 k q (dtx (ds ++ pd j r) ++ x3)) res → Ev (fun k => tableauref01_Text.l1 k x3 q (r : Int) (dtx ds) (9 - (j : Int))) res := by
  intro j
  induction j with
  | zero =>
    intro ds r _ hl hr h
    obtain ⟨K, hK⟩ := h
    have hz := dtx_size ds
    refine Ev.round K fun m hm => ?_
    have := hK m hm
    rw [pd, List.append_nil] at this
    simp (disch := omega) only [tableauref01_Text.l1, ite_f, ite_t, this]
  | succ j ih =>
    intro ds r hj hl hr h
    obtain ⟨K, hK⟩ := ih (ds ++ [((r % 10 : Nat) : Int)]) (r / 10) (by omega) (by simp; omega) (by omega) (by
      rw [List.append_assoc]; exact h)
    have hz := dtx_size ds
    have hz1 := dtx_size [((r % 10 : Nat) : Int)]
    rw [List.length_singleton] at hz1
    have e1 : Int.tmod (r : Int) 10 = ((r % 10 : Nat) : Int) := tmodn r 10
    have e2 : Int.tdiv (r : Int) 10 = ((r / 10 : Nat) : Int) := tdivn r 10
    have e3 : ((r % 10 : Nat) : Int) + 1 = ((r % 10 + 1 : Nat) : Int) := by omega
    have e4 : (9 - ((j + 1 : Nat) : Int)) + 1 = 9 - (j : Int) := by omega
    have e5 := one_digit' (r % 10) (by omega)
    refine Ev.round K fun m hm => ?_
    simp (disch := omega) only [tableauref01_Text.l1, ite_t, e1, e2, u64w, e3, w64, e4, Int.toNat_natCast, e5, dtx_append, hK m hm]
/-- The highest part: no noughts ahead. -/
theorem ref_Text_l1b (x3 : ByteArray) (res : ByteArray) (hx : x3.size < 1000000000000000) : ∀ (j : Nat) (ds : List Int) (r : Nat), j ≤ 9 → ds.length + j ≤ 9 → r < 10 ^ j → r < 4294967296 →
    Ev (fun k => tableauref01_Text.l0 k [] (dtx (ds ++ dig 10 r) ++ x3)) res → Ev (fun k => tableauref01_Text.l1 k x3 [] (r : Int) (dtx ds) (9 - (j : Int))) res := by
  intro j
  induction j with
  | zero =>
    intro ds r _ hl hr hr2 h
    obtain ⟨K, hK⟩ := h
    have hz := dtx_size ds
    obtain rfl : r = 0 := by simpa using hr
    refine Ev.round K fun m hm => ?_
    have := hK m hm
    rw [dig_zero, List.append_nil] at this
    simp (disch := omega) only [tableauref01_Text.l1, ite_f, ite_t, this]
  | succ j ih =>
    intro ds r hj hl hr hr2 h
    have hz := dtx_size ds
    have hnil : ¬ ((([] : List Int).length : Int) > 0) := by simp
    rcases Nat.eq_zero_or_pos r with rfl | hp
    · obtain ⟨K, hK⟩ := h
      refine Ev.round K fun m hm => ?_
      have := hK m hm
      rw [dig_zero, List.append_nil] at this
      simp (disch := omega) only [tableauref01_Text.l1, ite_t, if_neg hnil, ite_f, this]
    · have h2 : r / 10 < 10 ^ j := by
        rw [Nat.div_lt_iff_lt_mul (by omega), ← Nat.pow_succ]; exact hr
      obtain ⟨K, hK⟩ := ih (ds ++ [((r % 10 : Nat) : Int)]) (r / 10) (by omega) (by simp; omega) h2 (by omega) (by
        rw [List.append_assoc]
        rw [dig_pos hT hp] at h
        exact h)
      have hz1 := dtx_size [((r % 10 : Nat) : Int)]
      rw [List.length_singleton] at hz1
      have e1 : Int.tmod (r : Int) 10 = ((r % 10 : Nat) : Int) := tmodn r 10
      have e2 : Int.tdiv (r : Int) 10 = ((r / 10 : Nat) : Int) := tdivn r 10
      have e3 : ((r % 10 : Nat) : Int) + 1 = ((r % 10 + 1 : Nat) : Int) := by omega
      have e4 : (9 - ((j + 1 : Nat) : Int)) + 1 = 9 - (j : Int) := by omega
      have e5 := one_digit' (r % 10) (by omega)
      refine Ev.round K fun m hm => ?_
      simp (disch := omega) only [tableauref01_Text.l1, ite_t, if_neg hnil, e1, e2, u64w, e3, w64, e4, Int.toNat_natCast, e5, dtx_append, hK m hm]
theorem dig_len_pos {B n : Nat} (hB : 1 < B) (h : 0 < n) : 0 < (dig B n).length := by
  rcases Nat.eq_zero_or_pos (dig B n).length with h1 | h1
  · exact absurd ((dig_len_zero hB).1 h1) (by omega)
  · exact h1
theorem ref_Text_l0 : ∀ (c v : Nat) (ds : List Int), v < 1000000000 ^ c → ds.length + 9 * c < 100000000000000 → (dig 4294967296 v).length < 1000000000000 →
    Ev (fun k => tableauref01_Text.l0 k (dig 4294967296 v) (dtx ds)) (dtx (ds ++ dig 10 v)) := by
  have base : ∀ ds : List Int, Ev (fun k => tableauref01_Text.l0 k (dig 4294967296 0) (dtx ds)) (dtx (ds ++ dig 10 0)) := by
    intro ds
    refine Ev.round 0 fun m hm => ?_
    rw [dig_zero, dig_zero, List.append_nil]
    simp [tableauref01_Text.l0]
  intro c
  induction c with
  | zero =>
    intro v ds hv hl _
    have : v = 0 := by simpa using hv
    subst this
    exact base ds
  | succ c ih =>
    intro v ds hv hl hdl
    rcases Nat.eq_zero_or_pos v with rfl | hp
    · exact base ds
    · obtain ⟨K0, hK0⟩ := ref_short_eq (dig 4294967296 v) 1000000000 (ok_dig hR v) hdl (by omega) (by omega)
      rw [val_dig hR] at hK0
      have hq : v / 1000000000 < 1000000000 ^ c := by
        rw [Nat.div_lt_iff_lt_mul (by omega), ← Nat.pow_succ]; exact hv
      have hr : v % 1000000000 < 10 ^ 9 := Nat.mod_lt _ (by omega)
      have hr2 : v % 1000000000 < 4294967296 := by omega
      have hdl2 : (dig 4294967296 (v / 1000000000)).length ≤ (dig 4294967296 v).length :=
        dig_len_le hR _ _ (Nat.lt_of_le_of_lt (Nat.div_le_self _ _) (lt_dig_len hR v))
      have hz := dtx_size ds
      have hlen := dig_len_pos hR hp
      -- what the chunk's digits make
      have hl1 : Ev (fun k => tableauref01_Text.l1 k (dtx ds) (dig 4294967296 (v / 1000000000)) ((v % 1000000000 : Nat) : Int) (⟨#[]⟩ : ByteArray) 0) (dtx (ds ++ dig 10 v)) := by
        rcases Nat.eq_zero_or_pos (v / 1000000000) with hz0 | hqp
        · have hvr : v % 1000000000 = v := Nat.mod_eq_of_lt (by omega)
          rw [hz0, dig_zero, hvr]
          rw [hvr] at hr hr2
          have h9 := ref_Text_l1b (dtx ds) (dtx (ds ++ dig 10 v)) (by omega) 9 [] v (by omega) (by simp) hr hr2 (by
            rw [List.nil_append, dtx_append]
            have := base (ds ++ dig 10 v)
            rw [dig_zero, dig_zero, List.append_nil] at this
            exact this)
          exact h9
        · have ihh := ih (v / 1000000000) (ds ++ pd 9 (v % 1000000000)) hq (by simp [pd_len]; omega) (by omega)
          rw [List.append_assoc, ← dig_pd 9 _ _ hqp hr, show v / 1000000000 * 10 ^ 9 + v % 1000000000 = v from Nat.div_add_mod' v _] at ihh
          have h9 := ref_Text_l1a (dtx ds) (dig 4294967296 (v / 1000000000)) (dig_len_pos hR hqp) (dtx (ds ++ dig 10 v)) (by omega) 9 [] (v % 1000000000) (by omega) (by simp) hr2 (by
            rw [List.nil_append, dtx_append]
            exact ihh)
          exact h9
      obtain ⟨K1, hK1⟩ := hl1
      refine Ev.round (K0 + K1) fun m hm => ?_
      have h0 : tableauref01_short.f m (dig 4294967296 v) 1000000000 = _ := hK0 m (by omega)
      have h1 := hK1 m (by omega)
      rcases Nat.eq_zero_or_pos (v % 1000000000) with hz0 | hrp
      · rw [hz0] at h0 h1
        rw [dig_zero] at h0
        have hnil : ¬ ((([] : List Int).length : Int) > 0) := by simp
        simp (disch := omega) only [tableauref01_Text.l0, ite_t, h0, Option.bind_some, if_neg hnil]
        exact h1
      · rw [dig_one hR hrp hr2] at h0
        have hone : ∀ x : Int, (([x] : List Int).length : Int) > 0 := by intro x; simp
        simp (disch := omega) only [tableauref01_Text.l0, ite_t, h0, Option.bind_some, if_pos (hone _), rd_cons_zero]
        exact h1
theorem ref_DocText_eq (a : List Int) (ha : Ok 18446744073709551616 a) (la : a.length < 1000000000) :
    Ev (fun k => tableauref01_DocText.f k a) (if Fm a then (decText (val 18446744073709551616 a), 0) else (⟨#[]⟩, 3)) := by
  have h0 := ref_Form_eq a (by omega)
  by_cases hf : Fm a
  · rw [if_pos hf]
    simp only [hf, decide_true] at h0
    have va := val_lt_pow hW ha (Nat.le_refl _)
    have l1 := digR_len va
    obtain ⟨K1, hK1⟩ := ref_From_eq a ha (by omega)
    have hv : val 18446744073709551616 a < 1000000000 ^ (3 * a.length) := by
      rw [Nat.pow_mul]
      exact Nat.lt_of_lt_of_le (val_lt (by omega) ha) (Nat.pow_le_pow_left (by omega) _)
    generalize hN : val 18446744073709551616 a = n at *
    have ht : Ev (fun k => tableauref01_Text.f k (dig 4294967296 n)) (decText n) := by
      rcases Nat.eq_zero_or_pos n with rfl | hp
      · refine Ev.all fun m => ?_
        rw [dig_zero]
        simp [tableauref01_Text.f, decText]
      · obtain ⟨K2, hK2⟩ := ref_Text_l0 (3 * a.length) n [] hv (by simp; omega) (by omega)
        have hlen := dig_len_pos hR hp
        refine ⟨K2, fun m hm => ?_⟩
        have h9 := hK2 m hm
        rw [List.nil_append, dtx_nil] at h9
        simp (disch := omega) only [tableauref01_Text.f, ite_f]
        refine h9.trans ?_
        unfold decText dtx
        rw [if_neg (by omega)]
    obtain ⟨K2, hK2⟩ := ht
    refine ⟨K1 + K2, fun m hm => ?_⟩
    have h5 := hK1 m (by omega)
    have h6 := hK2 m (by omega)
    simp only [tableauref01_DocText.f, h0, h5, h6, Option.bind_some, if_true]
  · rw [if_neg hf]
    simp only [hf, decide_false] at h0
    refine Ev.all fun m => ?_
    simp (disch := omega) only [tableauref01_DocText.f, h0, Option.bind_some, Bool.false_eq_true, if_false]
end Go.Proofs.Ytaegboehjpjfnaa.Pl

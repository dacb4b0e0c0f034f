/- Reading a number's decimal digits: package nat's Read and the document's. -/
import Derived.Test.YtaegboehjpjfnaaPx0
import Derived.Test.YtaegboehjpjfnaaPx4
import Derived.Test.YtaegboehjpjfnaaPx8
import Derived.Test.YtaegboehjpjfnaaPx9
import Derived.Laws.Strings
import Derived.Test.YtaegboehjpjfnaaRefA
import Derived.Test.YtaegboehjpjfnaaNatX
import Derived.Test.YtaegboehjpjfnaaDiv64
set_option linter.unusedVariables false
set_option linter.unusedSimpArgs false
namespace Go.Proofs.Ytaegboehjpjfnaa.Pl
open Go.RowKit Go.Proofs.YtaegboehjpjfnaaW.PrintWords Go.Proofs.YtaegboehjpjfnaaW.PrintLast Go.Proofs.YtaegboehjpjfnaaW.PrintMore Go.Proofs.Ytaegboehjpjfnaa.P Go.Proofs.Ytaegboehjpjfnaa.Mine

theorem fm_of_ge {B : Nat} (hB : 1 < B) {l : List Int} (hk : Ok B l) (h : l.length = 0 ∨ B ^ (l.length - 1) ≤ val B l) : Fm l := by
  rcases h with h | h
  · exact .inl h
  · by_cases h0 : l.length = 0
    · exact .inl h0
    · refine .inr fun hz => ?_
      have h1 := dig_take_last hB (by omega) hz
      have h2 := ok_val_take_lt (by omega) hk (l.length - 1) (by omega)
      omega
theorem ge_of_fm {B : Nat} (hB : 1 < B) {l : List Int} (hk : Ok B l) (hf : Fm l) : l.length = 0 ∨ B ^ (l.length - 1) ≤ val B l := by
  rcases Nat.eq_zero_or_pos l.length with h | h
  · exact .inl h
  · refine .inr ?_
    have h1 := val_pos_of_fm hB hk hf (by intro h2; simp [h2] at h)
    have h2 := pow_le_of_dig hB h1
    rwa [dig_val hB hk hf] at h2
theorem fm_snoc (l : List Int) (x : Int) (h : x ≠ 0) : Fm (l ++ [x]) := by
  refine .inr ?_
  rw [List.length_append, List.length_singleton, Nat.add_sub_cancel]
  simpa [List.getD_eq_getElem?_getD] using h
theorem nat_grown_loop (a : List Int) (d0 : Nat) (ha : Ok 18446744073709551616 a) (fa : Fm a) (hn : a.length < 1000000000000) :
    ∀ c i s (d : Nat), i + c = a.length → s.length = a.length → Ok 18446744073709551616 s → d < 18446744073709551616 → s.drop i = a.drop i →
      val 18446744073709551616 (s.take i) + 18446744073709551616 ^ i * d = 10 * val 18446744073709551616 (a.take i) + d0 →
      Ev (fun k => nat_grown.l0 k s (d : Int) (a.length : Int) (i : Int)) (dig 18446744073709551616 (10 * val 18446744073709551616 a + d0)) := by
  intro c
  induction c with
  | zero =>
    intro i s d hi hs hk hd hdr hv
    obtain rfl : i = a.length := by omega
    rw [List.take_length, List.take_of_length_le (by omega)] at hv
    rcases Nat.eq_zero_or_pos d with rfl | hp
    · rw [Nat.mul_zero, Nat.add_zero] at hv
      have hf : Fm s := fm_of_ge hW hk (by
        rcases ge_of_fm hW ha fa with h | h
        · exact .inl (by omega)
        · refine .inr ?_
          rw [hs]
          omega)
      refine Ev.round 0 fun m _ => ?_
      rw [← hv, dig_val hW hk hf]
      simp (disch := omega) only [nat_grown.l0, ite_f]
    · have hf := fm_snoc s (d : Int) (by omega)
      have hkk := hk.append (Ok.one (show (0 : Int) ≤ (d : Int) by omega) (show (d : Int) < ((18446744073709551616 : Nat) : Int) by omega))
      have hval : val 18446744073709551616 (s ++ [(d : Int)]) = 10 * val 18446744073709551616 a + d0 := by
        rw [val_append, val_one, Int.toNat_natCast, hs, hv]
      refine Ev.round 0 fun m _ => ?_
      rw [← hval, dig_val hW hkk hf]
      simp (disch := omega) only [nat_grown.l0, ite_t, ite_f]
  | succ c ih =>
    intro i s d hi hs hk hd hdr hv
    have hx := ha.at (by omega) i
    have hg := getD_of_drop hdr
    have h2 := val_take_succ' 18446744073709551616 a i
    generalize hX : a.getD i 0 = X at hx hg h2
    obtain ⟨x, rfl⟩ : ∃ n : Nat, X = (n : Int) := ⟨X.toNat, by omega⟩
    rw [Int.toNat_natCast] at h2
    have hm := bits_Mul64_eq x 10 (by omega) (by omega)
    have e : ((i : Int) + 1) = ((i + 1 : Nat) : Int) := by omega
    have hS : (x * 10 % 18446744073709551616 + d) % 18446744073709551616 = (x * 10 + d) % 18446744073709551616 := by omega
    have hC : x * 10 / 18446744073709551616 + (x * 10 % 18446744073709551616 + d) / 18446744073709551616 = (x * 10 + d) / 18446744073709551616 := by omega
    have e1 : ((x * 10 / 18446744073709551616 : Nat) : Int) + (((x * 10 % 18446744073709551616 + d) / 18446744073709551616 : Nat) : Int) = (((x * 10 + d) / 18446744073709551616 : Nat) : Int) := by omega
    have h1 := val_take_set 18446744073709551616 s i (((x * 10 + d) % 18446744073709551616 : Nat) : Int) (by omega)
    obtain ⟨K, hK⟩ := ih (i + 1) (s.set i (((x * 10 + d) % 18446744073709551616 : Nat) : Int)) ((x * 10 + d) / 18446744073709551616) (by omega) (by simpa using hs) (hk.set _ (by omega) (by omega)) (by omega)
      (by rw [drop_set_after]; exact drop_succ_of hdr) (by
        rw [h1, h2, Nat.pow_succ, Int.toNat_natCast]
        have hdm := Nat.mod_add_div (x * 10 + d) 18446744073709551616
        generalize 18446744073709551616 ^ i = P at *
        have h5 : P * ((x * 10 + d) % 18446744073709551616) + P * 18446744073709551616 * ((x * 10 + d) / 18446744073709551616) = P * (x * 10 + d) := by rw [Nat.mul_assoc, ← Nat.mul_add, hdm]
        rw [Nat.mul_add P, ← Nat.mul_assoc P x] at h5
        omega)
    refine Ev.round K fun m hm' => ?_
    have hm2 : bits_Mul64.f (x : Int) 10 = _ := hm
    simp (disch := omega) only [nat_grown.l0, ite_t, rd_nat, hg, hm2, Option.bind_some, bits_Add64_eq, Int.toNat_natCast, Int.toNat_zero, Nat.add_zero, hS, e1, u64w, w64, e, hK m hm']
theorem nat_grown_eq (a : List Int) (d : Nat) (ha : Ok 18446744073709551616 a) (fa : Fm a) (hn : a.length < 1000000000000) (hd : d < 18446744073709551616) :
    Ev (fun k => nat_grown.f k a (d : Int)) (dig 18446744073709551616 (10 * val 18446744073709551616 a + d)) :=
  nat_grown_loop a d ha fa hn a.length 0 a d (by omega) rfl ha hd rfl (by simp [val_nil])
/-- The number of a text's first i characters. -/
def dv (s : ByteArray) : Nat → Nat
  | 0 => 0
  | i + 1 => 10 * dv s i + (bt s (i : Int) - 48).toNat
/-- All characters from i on are digits. -/
def digitsFrom (s : ByteArray) (i : Nat) : Prop := ∀ j, i ≤ j → j < s.size → 48 ≤ bt s (j : Int) ∧ bt s (j : Int) ≤ 57
theorem digitsFrom_succ {s : ByteArray} {i : Nat} (h : i < s.size) : digitsFrom s i ↔ (48 ≤ bt s (i : Int) ∧ bt s (i : Int) ≤ 57) ∧ digitsFrom s (i + 1) := by
  constructor
  · intro H
    exact ⟨H i (Nat.le_refl _) h, fun j h1 h2 => H j (by omega) h2⟩
  · rintro ⟨h1, h2⟩ j hj hl
    rcases Nat.eq_or_lt_of_le hj with rfl | h3
    · exact h1
    · exact h2 j h3 hl
theorem dv_lt (s : ByteArray) (h : digitsFrom s 0) : ∀ i, i ≤ s.size → dv s i < 10 ^ i := by
  intro i
  induction i with
  | zero => intro _; simp [dv]
  | succ i ih =>
    intro hi
    have h1 := ih (by omega)
    have h2 := h i (by omega) (by omega)
    rw [dv, Nat.pow_succ]
    omega
theorem ten_pow_W (i : Nat) : 10 ^ i ≤ 18446744073709551616 ^ i := Nat.pow_le_pow_left (by omega) i
theorem ten_pow_R (i : Nat) : 10 ^ i ≤ 4294967296 ^ i := Nat.pow_le_pow_left (by omega) i
/-- Is it a number's text? -/
def isNum (s : ByteArray) : Prop := s.size ≠ 0 ∧ ¬ (1 < s.size ∧ bt s 0 = 48) ∧ digitsFrom s 0
open Classical in
theorem nat_Read_l1 (s : ByteArray) (h : digitsFrom s 0) (hs : s.size ≤ 1048576) : ∀ c i, i + c = s.size → Ev (fun k => nat_Read.l1 k s (dig 18446744073709551616 (dv s i)) (s.size : Int) (i : Int)) (dig 18446744073709551616 (dv s s.size), 0) := by
  intro c
  induction c with
  | zero =>
    intro i hi
    obtain rfl : i = s.size := by omega
    refine Ev.round 0 fun m _ => ?_
    simp (disch := omega) only [nat_Read.l1, ite_f]
  | succ c ih =>
    intro i hi
    obtain ⟨K, hK⟩ := ih (i + 1) (by omega)
    have hb := h i (by omega) (by omega)
    have hl := dig_len_le hW i (dv s i) (Nat.lt_of_lt_of_le (dv_lt s h i (by omega)) (ten_pow_W i))
    obtain ⟨K1, hK1⟩ := nat_grown_eq (dig 18446744073709551616 (dv s i)) (bt s (i : Int) - 48).toNat (ok_dig hW _) (fm_dig hW _) (by omega) (by omega)
    rw [val_dig hW] at hK1
    have e : ((i : Int) + 1) = ((i + 1 : Nat) : Int) := by omega
    have e1 : (bt s (i : Int) - 48) % 256 = (((bt s (i : Int) - 48).toNat : Nat) : Int) := by omega
    refine Ev.round (K + K1) fun m hm => ?_
    have h1 := hK1 m (by omega)
    have h2 := hK m (by omega)
    simp (disch := omega) only [nat_Read.l1, ite_t, e1, h1, Option.bind_some, w64, e]
    exact h2
open Classical in
theorem nat_Read_l0 (s : ByteArray) (hs : s.size ≤ 1048576) (res : List Int × Int) (hres : Ev (fun k => nat_Read.l1 k s [] (s.size : Int) 0) res) :
    ∀ c i, i + c = s.size → Ev (fun k => nat_Read.l0 k s (s.size : Int) (i : Int)) (if digitsFrom s i then res else ([], 11)) := by
  intro c
  induction c with
  | zero =>
    intro i hi
    obtain rfl : i = s.size := by omega
    obtain ⟨K, hK⟩ := hres
    rw [if_pos (show digitsFrom s s.size from fun j h1 h2 => by omega)]
    refine Ev.round K fun m hm => ?_
    have := hK m hm
    simp (disch := omega) only [nat_Read.l0, ite_f, this]
  | succ c ih =>
    intro i hi
    obtain ⟨K, hK⟩ := ih (i + 1) (by omega)
    have e : ((i : Int) + 1) = ((i + 1 : Nat) : Int) := by omega
    have hd := digitsFrom_succ (s := s) (i := i) (by omega)
    refine Ev.round K fun m hm => ?_
    have h2 := hK m hm
    by_cases h1 : bt s (i : Int) < 48
    · rw [if_neg (fun h => by have := (hd.1 h).1; omega)]
      simp (disch := omega) only [nat_Read.l0, ite_t]
    · by_cases h3 : bt s (i : Int) > 57
      · rw [if_neg (fun h => by have := (hd.1 h).1; omega)]
        simp (disch := omega) only [nat_Read.l0, ite_t, ite_f]
      · simp (disch := omega) only [nat_Read.l0, ite_t, ite_f, w64, e, h2]
        by_cases h4 : digitsFrom s (i + 1)
        · rw [if_pos h4, if_pos (hd.2 ⟨by omega, h4⟩)]
        · rw [if_neg h4, if_neg (fun h => h4 (hd.1 h).2)]
theorem toList_nil_iff (s : ByteArray) : s.toList = [] ↔ s.size = 0 := by
  rw [← List.length_eq_zero_iff, Go.ByteArray.toList_eq, Array.length_toList]; exact Iff.rfl
open Classical in
theorem nat_Read_eq (s : ByteArray) (hs : s.size ≤ 140737488351232) : Ev (fun k => nat_Read.f k s) (if 1048576 < s.size then ([], 2) else if isNum s then (dig 18446744073709551616 (dv s s.size), 0) else ([], 11)) := by
  by_cases hbig : 1048576 < s.size
  · rw [if_pos hbig]
    refine Ev.all fun m => ?_
    simp (disch := omega) only [nat_Read.f, ite_t]
  · rw [if_neg hbig]
    have ht := toList_nil_iff s
    by_cases h0 : s.size = 0
    · rw [if_neg (fun h => h.1 h0)]
      have := ht.2 h0
      refine Ev.all' 1 fun m => ?_
      simp (disch := omega) only [nat_Read.f, ite_f, if_pos this, nat_Read.j0, if_true]
    · have hne : ¬ s.toList = [] := fun h => h0 (ht.1 h)
      have go : ¬ (1 < s.size ∧ bt s 0 = 48) → Ev (fun k => nat_Read.j0 k s false) (if isNum s then (dig 18446744073709551616 (dv s s.size), 0) else ([], 11)) := by
        intro hz
        by_cases hd : digitsFrom s 0
        · have h1 := nat_Read_l1 s hd (by omega) s.size 0 (by omega)
          rw [show dv s 0 = 0 from rfl, dig_zero] at h1
          obtain ⟨K, hK⟩ := nat_Read_l0 s (by omega) _ h1 s.size 0 (by omega)
          rw [if_pos hd] at hK
          rw [if_pos ⟨h0, hz, hd⟩]
          refine Ev.round K fun m hm => ?_
          have := hK m hm
          simp only [nat_Read.j0, Bool.false_eq_true, if_false]
          exact this
        · rw [if_neg (fun h => hd h.2.2)]
          -- the first character that is no digit
          have main : ∀ c i, i + c = s.size → ¬ digitsFrom s i → Ev (fun k => nat_Read.l0 k s (s.size : Int) (i : Int)) ([], 11) := by
            intro c
            induction c with
            | zero => intro i hi hn; exact absurd (fun j h1 h2 => by omega) hn
            | succ c ih =>
              intro i hi hn
              have hd' := digitsFrom_succ (s := s) (i := i) (by omega)
              have e : ((i : Int) + 1) = ((i + 1 : Nat) : Int) := by omega
              by_cases h1 : bt s (i : Int) < 48
              · refine Ev.round 0 fun m _ => ?_
                simp (disch := omega) only [nat_Read.l0, ite_t]
              · by_cases h3 : bt s (i : Int) > 57
                · refine Ev.round 0 fun m _ => ?_
                  simp (disch := omega) only [nat_Read.l0, ite_t, ite_f]
                · obtain ⟨K, hK⟩ := ih (i + 1) (by omega) (fun h => hn (hd'.2 ⟨by omega, h⟩))
                  refine Ev.round K fun m hm => ?_
                  have h2 := hK m hm
                  simp (disch := omega) only [nat_Read.l0, ite_t, ite_f, w64, e, h2]
          obtain ⟨K, hK⟩ := main s.size 0 (by omega) hd
          refine Ev.round K fun m hm => ?_
          have := hK m hm
          simp only [nat_Read.j0, Bool.false_eq_true, if_false]
          exact this
      by_cases h1 : 1 < s.size
      · by_cases hz : bt s 0 = 48
        · rw [if_neg (fun h => h.2.1 ⟨h1, hz⟩)]
          refine Ev.all' 1 fun m => ?_
          have hb : (bt s 0 == 48) = true := beq_iff_eq.2 hz
          simp (disch := omega) only [nat_Read.f, ite_t, ite_f, if_neg hne, hb, nat_Read.j0, if_true]
        · obtain ⟨K, hK⟩ := go (fun h => hz h.2)
          refine ⟨K, fun m hm => ?_⟩
          have hb : (bt s 0 == 48) = false := beq_eq_false_iff_ne.2 hz
          have := hK m hm
          simp (disch := omega) only [nat_Read.f, ite_t, ite_f, if_neg hne, hb]
          exact this
      · obtain ⟨K, hK⟩ := go (fun h => h1 h.1)
        refine ⟨K, fun m hm => ?_⟩
        have := hK m hm
        simp (disch := omega) only [nat_Read.f, ite_t, ite_f, if_neg hne]
        exact this
end Go.Proofs.Ytaegboehjpjfnaa.Pl

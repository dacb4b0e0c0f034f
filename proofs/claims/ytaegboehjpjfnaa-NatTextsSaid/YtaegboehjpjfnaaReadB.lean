/- Reading a number's decimal digits, as the document does it. -/
import Derived.Test.YtaegboehjpjfnaaPx0
import Derived.Test.YtaegboehjpjfnaaPx11
import Derived.Test.YtaegboehjpjfnaaReadA
import Derived.Test.YtaegboehjpjfnaaDiv64
set_option linter.unusedVariables false
set_option linter.unusedSimpArgs false
namespace Go.Proofs.Ytaegboehjpjfnaa.Pl
open Go.RowKit Go.Proofs.YtaegboehjpjfnaaW.PrintWords Go.Proofs.YtaegboehjpjfnaaW.PrintLast Go.Proofs.YtaegboehjpjfnaaW.PrintMore Go.Proofs.Ytaegboehjpjfnaa.P Go.Proofs.Ytaegboehjpjfnaa.Mine

theorem ref_Read_l2 (z : ByteArray) (p : Nat) (a : List Int) (d0 : Nat) (ha : Ok 4294967296 a) (fa : Fm a) (hn : a.length < 1000000000000) (hp : p < 1000000000000) (res : List Int × Bool)
    (hres : Ev (fun k => tableauref01_Read.l1 k z (dig 4294967296 (10 * val 4294967296 a + d0)) ((p + 1 : Nat) : Int)) res) :
    ∀ c i s (d : Nat), i + c = a.length → s.length = a.length → Ok 4294967296 s → d < 4294967296 → s.drop i = a.drop i →
      val 4294967296 (s.take i) + 4294967296 ^ i * d = 10 * val 4294967296 (a.take i) + d0 →
      Ev (fun k => tableauref01_Read.l2 k z s (p : Int) (d : Int) (a.length : Int) (i : Int)) res := by
  obtain ⟨KR, hKR⟩ := hres
  have ep : (p : Int) + 1 = ((p + 1 : Nat) : Int) := by omega
  intro c
  induction c with
  | zero =>
    intro i s d hi hs hk hd hdr hv
    obtain rfl : i = a.length := by omega
    rw [List.take_length, List.take_of_length_le (by omega)] at hv
    rcases Nat.eq_zero_or_pos d with rfl | hp0
    · rw [Nat.mul_zero, Nat.add_zero] at hv
      have hf : Fm s := fm_of_ge hR hk (by
        rcases ge_of_fm hR ha fa with h | h
        · exact .inl (by omega)
        · refine .inr ?_
          rw [hs]
          omega)
      rw [← hv, dig_val hR hk hf] at hKR
      refine Ev.round KR fun m hm => ?_
      have := hKR m hm
      simp (disch := omega) only [tableauref01_Read.l2, ite_f, w64, ep, this]
    · have hf := fm_snoc s (d : Int) (by omega)
      have hkk := hk.append (Ok.one (show (0 : Int) ≤ (d : Int) by omega) (show (d : Int) < ((4294967296 : Nat) : Int) by omega))
      have hval : val 4294967296 (s ++ [(d : Int)]) = 10 * val 4294967296 a + d0 := by
        rw [val_append, val_one, Int.toNat_natCast, hs, hv]
      rw [← hval, dig_val hR hkk hf] at hKR
      refine Ev.round KR fun m hm => ?_
      have := hKR m hm
      simp (disch := omega) only [tableauref01_Read.l2, ite_t, ite_f, w64, ep, this]
  | succ c ih =>
    intro i s d hi hs hk hd hdr hv
    have hx := ha.at (by omega) i
    have hg := getD_of_drop hdr
    have h2 := val_take_succ' 4294967296 a i
    generalize hX : a.getD i 0 = X at hx hg h2
    obtain ⟨x, rfl⟩ : ∃ n : Nat, X = (n : Int) := ⟨X.toNat, by omega⟩
    rw [Int.toNat_natCast] at h2
    have e : ((i : Int) + 1) = ((i + 1 : Nat) : Int) := by omega
    have e1 : (d : Int) + 10 * (x : Int) = ((x * 10 + d : Nat) : Int) := by omega
    have e2 : Int.tmod ((x * 10 + d : Nat) : Int) 4294967296 = (((x * 10 + d) % 4294967296 : Nat) : Int) := tmodn _ _
    have e3 : ((x * 10 + d : Nat) : Int) / 4294967296 = (((x * 10 + d) / 4294967296 : Nat) : Int) := by omega
    have h1 := val_take_set 4294967296 s i (((x * 10 + d) % 4294967296 : Nat) : Int) (by omega)
    obtain ⟨K, hK⟩ := ih (i + 1) (s.set i (((x * 10 + d) % 4294967296 : Nat) : Int)) ((x * 10 + d) / 4294967296) (by omega) (by simpa using hs) (hk.set _ (by omega) (by omega)) (by omega)
      (by rw [drop_set_after]; exact drop_succ_of hdr) (by
        rw [h1, h2, Nat.pow_succ, Int.toNat_natCast]
        have hdm := Nat.mod_add_div (x * 10 + d) 4294967296
        generalize 4294967296 ^ i = P at *
        have h5 : P * ((x * 10 + d) % 4294967296) + P * 4294967296 * ((x * 10 + d) / 4294967296) = P * (x * 10 + d) := by rw [Nat.mul_assoc, ← Nat.mul_add, hdm]
        rw [Nat.mul_add P, ← Nat.mul_assoc P x] at h5
        omega)
    refine Ev.round K fun m hm' => ?_
    simp (disch := omega) only [tableauref01_Read.l2, ite_t, rd_nat, hg, u64w, e1, e2, e3, Int.toNat_natCast, w64, e, hK m hm']
theorem ref_Read_l1 (s : ByteArray) (h : digitsFrom s 0) (hs : s.size ≤ 1048576) : ∀ c i, i + c = s.size → Ev (fun k => tableauref01_Read.l1 k s (dig 4294967296 (dv s i)) (i : Int)) (dig 4294967296 (dv s s.size), true) := by
  intro c
  induction c with
  | zero =>
    intro i hi
    obtain rfl : i = s.size := by omega
    refine Ev.round 0 fun m _ => ?_
    simp (disch := omega) only [tableauref01_Read.l1, ite_f]
  | succ c ih =>
    intro i hi
    have hb := h i (by omega) (by omega)
    have hl := dig_len_le hR i (dv s i) (Nat.lt_of_lt_of_le (dv_lt s h i (by omega)) (ten_pow_R i))
    have e1 : (bt s (i : Int) - 48) % 256 = (((bt s (i : Int) - 48).toNat : Nat) : Int) := by omega
    have hn := ih (i + 1) (by omega)
    obtain ⟨K1, hK1⟩ := ref_Read_l2 s i (dig 4294967296 (dv s i)) (bt s (i : Int) - 48).toNat (ok_dig hR _) (fm_dig hR _) (by omega) (by omega) _ (by
      rw [val_dig hR]; exact hn) (dig 4294967296 (dv s i)).length 0 (dig 4294967296 (dv s i)) (bt s (i : Int) - 48).toNat (by omega) rfl (ok_dig hR _) (by omega) rfl (by simp [val_nil])
    refine Ev.round K1 fun m hm => ?_
    have h1 := hK1 m (by omega)
    simp (disch := omega) only [tableauref01_Read.l1, ite_t, e1]
    exact h1
theorem ref_Read_l0 (s : ByteArray) (hs : s.size ≤ 1048576) (res : List Int × Bool) (hres : Ev (fun k => tableauref01_Read.l1 k s [] 0) res) (hd : digitsFrom s 0) :
    ∀ c i, i + c = s.size → Ev (fun k => tableauref01_Read.l0 k s (i : Int)) res := by
  intro c
  induction c with
  | zero =>
    intro i hi
    obtain rfl : i = s.size := by omega
    obtain ⟨K, hK⟩ := hres
    refine Ev.round K fun m hm => ?_
    have := hK m hm
    simp (disch := omega) only [tableauref01_Read.l0, ite_f, this]
  | succ c ih =>
    intro i hi
    obtain ⟨K, hK⟩ := ih (i + 1) (by omega)
    have e : ((i : Int) + 1) = ((i + 1 : Nat) : Int) := by omega
    have hb := hd i (by omega) (by omega)
    refine Ev.round K fun m hm => ?_
    have h2 := hK m hm
    simp (disch := omega) only [tableauref01_Read.l0, ite_t, ite_f, w64, e, h2]
theorem ref_Read_bad (s : ByteArray) (hs : s.size ≤ 1048576) : ∀ c i, i + c = s.size → ¬ digitsFrom s i → Ev (fun k => tableauref01_Read.l0 k s (i : Int)) ([], false) := by
  intro c
  induction c with
  | zero => intro i hi hn; exact absurd (show digitsFrom s i from fun j h1 h2 => by omega) hn
  | succ c ih =>
    intro i hi hn
    have hd' := digitsFrom_succ (s := s) (i := i) (by omega)
    have e : ((i : Int) + 1) = ((i + 1 : Nat) : Int) := by omega
    by_cases h1 : bt s (i : Int) < 48
    · refine Ev.round 0 fun m _ => ?_
      simp (disch := omega) only [tableauref01_Read.l0, ite_t]
    · by_cases h3 : bt s (i : Int) > 57
      · refine Ev.round 0 fun m _ => ?_
        simp (disch := omega) only [tableauref01_Read.l0, ite_t, ite_f]
      · obtain ⟨K, hK⟩ := ih (i + 1) (by omega) (fun h => hn (hd'.2 ⟨by omega, h⟩))
        refine Ev.round K fun m hm => ?_
        have h2 := hK m hm
        simp (disch := omega) only [tableauref01_Read.l0, ite_t, ite_f, w64, e, h2]
open Classical in
theorem ref_Read_eq (s : ByteArray) (hs : s.size ≤ 1048576) : Ev (fun k => tableauref01_Read.f k s) (if isNum s then (dig 4294967296 (dv s s.size), true) else ([], false)) := by
  by_cases h0 : s.size = 0
  · rw [if_neg (fun h => h.1 h0)]
    refine Ev.all' 1 fun m => ?_
    simp (disch := omega) only [tableauref01_Read.f, ite_t, tableauref01_Read.j0, if_true]
  · have go : ¬ (1 < s.size ∧ bt s 0 = 48) → Ev (fun k => tableauref01_Read.j0 k s false) (if isNum s then (dig 4294967296 (dv s s.size), true) else ([], false)) := by
      intro hz
      by_cases hd : digitsFrom s 0
      · have h1 := ref_Read_l1 s hd (by omega) s.size 0 (by omega)
        rw [show dv s 0 = 0 from rfl, dig_zero] at h1
        obtain ⟨K, hK⟩ := ref_Read_l0 s (by omega) _ h1 hd s.size 0 (by omega)
        rw [if_pos ⟨h0, hz, hd⟩]
        refine Ev.round K fun m hm => ?_
        have := hK m hm
        simp only [tableauref01_Read.j0, Bool.false_eq_true, if_false]
        exact this
      · rw [if_neg (fun h => hd h.2.2)]
        obtain ⟨K, hK⟩ := ref_Read_bad s hs s.size 0 (by omega) hd
        refine Ev.round K fun m hm => ?_
        have := hK m hm
        simp only [tableauref01_Read.j0, Bool.false_eq_true, if_false]
        exact this
    by_cases h1 : 1 < s.size
    · by_cases hz : bt s 0 = 48
      · rw [if_neg (fun h => h.2.1 ⟨h1, hz⟩)]
        refine Ev.all' 1 fun m => ?_
        have hb : (bt s 0 == 48) = true := beq_iff_eq.2 hz
        simp (disch := omega) only [tableauref01_Read.f, ite_t, ite_f, hb, tableauref01_Read.j0, if_true]
      · obtain ⟨K, hK⟩ := go (fun h => hz h.2)
        refine ⟨K, fun m hm => ?_⟩
        have hb : (bt s 0 == 48) = false := beq_eq_false_iff_ne.2 hz
        have := hK m hm
        simp (disch := omega) only [tableauref01_Read.f, ite_t, ite_f, hb]
        exact this
    · obtain ⟨K, hK⟩ := go (fun h => h1 h.1)
      refine ⟨K, fun m hm => ?_⟩
      have := hK m hm
      simp (disch := omega) only [tableauref01_Read.f, ite_t, ite_f]
      exact this
open Classical in
theorem ref_DocRead_eq (s : ByteArray) (hs : s.size ≤ 140737488351232) : Ev (fun k => tableauref01_DocRead.f k s) (if 1048576 < s.size then ([], 2) else if isNum s then (dig 18446744073709551616 (dv s s.size), 0) else ([], 11)) := by
  by_cases hbig : 1048576 < s.size
  · rw [if_pos hbig]
    refine Ev.all fun m => ?_
    simp (disch := omega) only [tableauref01_DocRead.f, ite_t]
  · rw [if_neg hbig]
    obtain ⟨K, hK⟩ := ref_Read_eq s (by omega)
    by_cases hd : isNum s
    · rw [if_pos hd]
      simp only [if_pos hd] at hK
      have hl := dig_len_le hR s.size (dv s s.size) (Nat.lt_of_lt_of_le (dv_lt s hd.2.2 s.size (Nat.le_refl _)) (ten_pow_R _))
      obtain ⟨K1, hK1⟩ := ref_To_eq (dv s s.size) (by omega)
      refine ⟨K + K1, fun m hm => ?_⟩
      have h1 := hK m (by omega)
      have h2 := hK1 m (by omega)
      simp (disch := omega) only [tableauref01_DocRead.f, ite_f, h1, Option.bind_some, if_true, h2]
    · rw [if_neg hd]
      simp only [if_neg hd] at hK
      refine ⟨K, fun m hm => ?_⟩
      have h1 := hK m (by omega)
      simp (disch := omega) only [tableauref01_DocRead.f, ite_f, h1, Option.bind_some, Bool.false_eq_true, if_false]
end Go.Proofs.Ytaegboehjpjfnaa.Pl

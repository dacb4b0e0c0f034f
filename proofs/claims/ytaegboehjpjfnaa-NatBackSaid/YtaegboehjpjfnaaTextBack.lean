/- A number's text is read again as the number; a number's text that is read is written again. -/
import Derived.Test.YtaegboehjpjfnaaPx0
import Derived.Test.YtaegboehjpjfnaaTextA
import Derived.Test.YtaegboehjpjfnaaReadA
set_option linter.unusedVariables false
set_option linter.unusedSimpArgs false
namespace Go.Proofs.Ytaegboehjpjfnaa.Pl
open Go.RowKit Go.Proofs.YtaegboehjpjfnaaW.PrintWords Go.Proofs.YtaegboehjpjfnaaW.PrintLast Go.Proofs.YtaegboehjpjfnaaW.PrintMore Go.Proofs.Ytaegboehjpjfnaa.P Go.Proofs.Ytaegboehjpjfnaa.Mine

theorem bt_strOfNums (l : List Int) (h : ∀ x ∈ l, 0 ≤ x ∧ x < 256) (i : Nat) (hi : i < l.length) : bt (strOfNums l) (i : Int) = l.getD i 0 := by
  have hs : i < (strOfNums l).size := by rw [strOfNums_size]; exact hi
  have hx := h _ (List.getElem_mem hi)
  unfold bt
  rw [Int.toNat_natCast, dif_pos hs]
  have e : ((strOfNums l)[i]'hs) = UInt8.ofNat (l[i]).toNat := by
    have e1 : ((strOfNums l)[i]'hs) = (strOfNums l).data.toList[i]'(by rw [strOfNums_data, List.length_map]; exact hi) := by rw [Array.getElem_toList]; rfl
    rw [e1]
    simp only [strOfNums_data, List.getElem_map]
  rw [e, List.getD_eq_getElem?_getD, List.getElem?_eq_getElem hi, Option.getD_some, UInt8.toNat_ofNat']
  omega
/-- Digits, the lowest first, as a text. -/
def dt (ds : List Int) : ByteArray := strOfNums (asc ds).reverse
theorem dt_size (ds : List Int) : (dt ds).size = ds.length := by
  unfold dt
  rw [strOfNums_size, List.length_reverse, asc_len]
theorem bt_dt (ds : List Int) (hk : Ok 10 ds) (i : Nat) (hi : i < ds.length) : bt (dt ds) (i : Int) = ds.getD (ds.length - 1 - i) 0 + 48 := by
  unfold dt
  rw [bt_strOfNums _ (by
    intro x hx
    rw [List.mem_reverse] at hx
    obtain ⟨y, hy, rfl⟩ := List.mem_map.1 hx
    have := hk y hy
    omega) i (by rw [List.length_reverse, asc_len]; exact hi)]
  rw [← asc_getD ds _ (by omega), List.getD_eq_getElem?_getD, List.getD_eq_getElem?_getD, List.getElem?_reverse (by rw [asc_len]; exact hi), asc_len]
theorem dv_dt (ds : List Int) (hk : Ok 10 ds) : ∀ i, i ≤ ds.length → dv (dt ds) i = val 10 (ds.drop (ds.length - i)) := by
  intro i
  induction i with
  | zero =>
    intro _
    rw [Nat.sub_zero, List.drop_length]; rfl
  | succ i ih =>
    intro hi
    have hb := bt_dt ds hk i (by omega)
    have hd := hk.at (by omega) (ds.length - 1 - i)
    have hv := val_drop 10 ds (ds.length - (i + 1)) (by omega)
    rw [show ds.length - (i + 1) + 1 = ds.length - i by omega, ← ih (by omega), show ds.length - (i + 1) = ds.length - 1 - i by omega] at hv
    rw [dv, hb, show ds.length - (i + 1) = ds.length - 1 - i by omega, hv]
    omega
theorem dv_dt_all (ds : List Int) (hk : Ok 10 ds) : dv (dt ds) (dt ds).size = val 10 ds := by
  rw [dt_size, dv_dt ds hk _ (Nat.le_refl _), Nat.sub_self, List.drop_zero]
theorem digits_dt (ds : List Int) (hk : Ok 10 ds) : digitsFrom (dt ds) 0 := by
  intro j _ hj
  rw [dt_size] at hj
  rw [bt_dt ds hk j hj]
  have hd := hk.at (by omega) (ds.length - 1 - j)
  omega
theorem decText_zero : decText 0 = dt [0] := rfl
theorem decText_pos {n : Nat} (h : 0 < n) : decText n = dt (dig 10 n) := by
  unfold decText dt
  rw [if_neg (by omega)]
theorem isNum_decText (n : Nat) : isNum (decText n) ∧ dv (decText n) (decText n).size = n ∧ (decText n).size = (if n = 0 then 1 else (dig 10 n).length) := by
  rcases Nat.eq_zero_or_pos n with rfl | hp
  · rw [decText_zero]
    have hk : Ok 10 [0] := Ok.one (by omega) (by omega)
    refine ⟨⟨by rw [dt_size]; simp, by rw [dt_size]; simp, digits_dt _ hk⟩, ?_, by rw [dt_size]; simp⟩
    rw [dv_dt_all _ hk]; rfl
  · rw [decText_pos hp]
    have hk := ok_dig hT n
    have hne := dig_ne_nil hT hp
    have hl : 0 < (dig 10 n).length := List.length_pos_iff.2 hne
    refine ⟨⟨by rw [dt_size]; omega, ?_, digits_dt _ hk⟩, ?_, by rw [dt_size, if_neg (by omega)]⟩
    · rintro ⟨_, hz⟩
      have hb : bt (dt (dig 10 n)) 0 = _ := bt_dt (dig 10 n) hk 0 hl
      rw [hb, Nat.sub_zero] at hz
      rcases fm_dig hT n with h | h
      · omega
      · omega
    · rw [dv_dt_all _ hk, val_dig hT]
/-- A text's bytes as digits, the lowest first. -/
def dsOf (s : ByteArray) : List Int := ((s.data.toList.map fun x => (x.toNat : Int)).map (· - 48)).reverse
theorem dt_dsOf (s : ByteArray) : dt (dsOf s) = s := by
  unfold dt dsOf asc
  rw [List.map_reverse, List.reverse_reverse, List.map_map, List.map_map]
  apply ByteArray.ext
  apply Array.toList_inj.1
  show (List.map (fun n : Int => UInt8.ofNat n.toNat) _) = _
  rw [List.map_map]
  conv => rhs; rw [← List.map_id s.data.toList]
  apply List.map_congr_left
  intro x _
  simp
theorem decText_dv (s : ByteArray) (h : isNum s) : decText (dv s s.size) = s := by
  have hs : dt (dsOf s) = s := dt_dsOf s
  have hlen : (dsOf s).length = s.size := by rw [← hs, dt_size, hs]
  have hk : Ok 10 (dsOf s) := by
    intro x hx
    unfold dsOf at hx
    rw [List.mem_reverse, List.map_map] at hx
    obtain ⟨i, hi, rfl⟩ := List.getElem_of_mem hx
    rw [List.length_map] at hi
    have hi2 : i < s.size := hi
    have hb := h.2.2 i (Nat.zero_le _) hi2
    unfold bt at hb
    rw [Int.toNat_natCast, dif_pos hi2] at hb
    rw [List.getElem_map]
    have e : (s[i]'hi2) = s.data.toList[i] := by rw [Array.getElem_toList]; rfl
    rw [e] at hb
    simp only [Function.comp]
    omega
  have hdv : dv s s.size = val 10 (dsOf s) := by
    have := dv_dt_all (dsOf s) hk
    rwa [hs] at this
  rw [hdv]
  by_cases hf : Fm (dsOf s)
  · have hp := val_pos_of_fm hT hk hf (by
      intro h0
      rw [h0] at hlen
      exact h.1 hlen.symm)
    rw [decText_pos hp, dig_val hT hk hf, hs]
  · -- a single nought
    have h0 : (dsOf s).getD ((dsOf s).length - 1) 0 = 0 := by
      rcases Decidable.em ((dsOf s).getD ((dsOf s).length - 1) 0 = 0) with h1 | h1
      · exact h1
      · exact absurd (Or.inr h1) hf
    have hb := bt_dt (dsOf s) hk 0 (by rw [hlen]; exact Nat.pos_of_ne_zero h.1)
    rw [hs, Nat.sub_zero, h0] at hb
    have h1 : s.size = 1 := by
      rcases Nat.lt_or_ge 1 s.size with h2 | h2
      · exact absurd ⟨h2, hb⟩ h.2.1
      · have := h.1; omega
    rw [h1] at hlen
    obtain ⟨x, hx⟩ := List.length_eq_one_iff.1 hlen
    rw [hx] at h0
    have hx0 : x = 0 := by simpa using h0
    rw [← hs, hx, hx0]
    rfl
end Go.Proofs.Ytaegboehjpjfnaa.Pl

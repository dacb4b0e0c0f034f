/- NatBack, in plain Lean: texts and numbers turn into each other and back; a sum less one part is the other. -/
import Derived.Test.YtaegboehjpjfnaaPx0
import Derived.Test.YtaegboehjpjfnaaPx1
import Derived.Test.YtaegboehjpjfnaaPx2
import Derived.Test.YtaegboehjpjfnaaPx8
import Derived.Test.YtaegboehjpjfnaaPx9
import Derived.Test.YtaegboehjpjfnaaPx10
import Derived.Test.YtaegboehjpjfnaaTextBack
import Derived.Test.YtaegboehjpjfnaaRefA
import Derived.Test.YtaegboehjpjfnaaAwake
set_option linter.unusedVariables false
set_option linter.unusedSimpArgs false
namespace Go.Proofs.Ytaegboehjpjfnaa.Pure
open Go.RowKit Go.Proofs.YtaegboehjpjfnaaW.PrintWords Go.Proofs.YtaegboehjpjfnaaW.PrintLast Go.Proofs.YtaegboehjpjfnaaW.PrintMore Go.Proofs.Ytaegboehjpjfnaa.P Go.Proofs.Ytaegboehjpjfnaa.Mine Go.Proofs.Ytaegboehjpjfnaa.Pl
theorem back_j2_no (k : Nat) (a b : List Int) (h : tableauref01_Same.f k a a = some true) : tableaulaw01_NatBack.j2 (k + 1) a b 0 a true = some true := by
  simp only [tableaulaw01_NatBack.j2, if_true, h, Option.bind_some]
theorem back_j2 (k : Nat) (a b s : List Int) (t1 : tableauref01_Twin.f a = some a) (t2 : tableauref01_Twin.f b = some b) (h1 : nat_Add.f k a b = some (s, 0)) (h2 : nat_Sub.f k s b = some (a, 0)) (h : tableauref01_Same.f k a a = some true) :
    tableaulaw01_NatBack.j2 (k + 1) a b 0 a false = some true := by
  simp only [tableaulaw01_NatBack.j2, Bool.false_eq_true, if_false, if_true, t1, t2, h1, h2, h, Option.bind_some]
theorem back_j1 (k : Nat) (a b : List Int) (t : ByteArray) (f : Bool) (t1 : tableauref01_Twin.f a = some a) (h1 : nat_Text.f k a = some (t, 0)) (h2 : nat_Read.f k t = some (a, 0)) (h : tableauref01_Same.f k a a = some true) (h3 : nat_Form.f b = some f)
    (h4 : tableaulaw01_NatBack.j2 k a b 0 a (!f) = some true) : tableaulaw01_NatBack.j1 (k + 1) a b = some true := by
  simp only [tableaulaw01_NatBack.j1, if_true, t1, h1, h2, h3, h, Option.bind_some]
  exact h4
theorem back_j1_no (k : Nat) (a b : List Int) (t : ByteArray) (e : Int) (t1 : tableauref01_Twin.f a = some a) (h1 : nat_Text.f k a = some (t, e)) (he : ¬ e = 0) (h2 : nat_Form.f a = some false) : tableaulaw01_NatBack.j1 (k + 1) a b = some true := by
  simp only [tableaulaw01_NatBack.j1, if_neg he, t1, h1, h2, Option.bind_some, Bool.not_false]
theorem back_j0 (k : Nat) (a b n : List Int) (s : ByteArray) (h1 : nat_Read.f k s = some (n, 0)) (h2 : nat_Text.f k n = some (s, 0)) (h3 : tableaulaw01_NatBack.j1 k a b = some true) : tableaulaw01_NatBack.j0 (k + 1) a b s false = some true := by
  simp only [tableaulaw01_NatBack.j0, Bool.false_eq_true, if_false, if_true, h1, h2, h3, Option.bind_some]
theorem back_j0_no (k : Nat) (a b n : List Int) (s : ByteArray) (e : Int) (h1 : nat_Read.f k s = some (n, e)) (he : ¬ e = 0) (h3 : tableaulaw01_NatBack.j1 k a b = some true) : tableaulaw01_NatBack.j0 (k + 1) a b s false = some true := by
  simp only [tableaulaw01_NatBack.j0, Bool.false_eq_true, if_false, if_neg he, h1, h3, Option.bind_some]
theorem pow_len (k : Nat) : 18446744073709551616 ^ k ≤ 10 ^ (20 * k) := by
  rw [Nat.pow_mul]
  exact Nat.pow_le_pow_left (by omega) k
open Classical in
theorem NatBack : tableaulaw01_NatBack.Pure := by
  intro a b s la1 la2 la3 lb1 lb2 lb3 ls
  have ha := ok_wf la3
  have hb := ok_wf lb3
  obtain ⟨K0, h0⟩ := awake_eq
  have hL := ref_light_eq a b
  by_cases hl : a.length ≤ 60 ∧ b.length ≤ 60
  · simp only [hl, and_self, decide_true] at hL
    have t1 := ref_Twin_eq a (by omega)
    have t2 := ref_Twin_eq b (by omega)
    have f1 := nat_Form_eq a (by omega)
    have f2 := nat_Form_eq b (by omega)
    have hsm := ref_Same_self a (by omega)
    -- the second half
    have hj1 : Ev (fun k => tableaulaw01_NatBack.j1 k a b) true := by
      have hT1 := nat_Text_eq a ha (by omega)
      by_cases fa : Fm a
      · rw [if_pos fa] at hT1
        have hda := dig_val hW ha fa
        obtain ⟨n1, n2, n3⟩ := isNum_decText (val 18446744073709551616 a)
        have hsz : (decText (val 18446744073709551616 a)).size ≤ 1200 := by
          rw [n3]
          split
          · omega
          · have h1 := Nat.lt_of_lt_of_le (val_lt_pow hW ha (Nat.le_refl _)) (pow_len a.length)
            have h2 := dig_len_le hT _ _ h1
            omega
        have hRd := nat_Read_eq (decText (val 18446744073709551616 a)) (by omega)
        rw [if_neg (by omega), if_pos n1, n2, hda] at hRd
        have hj2 : Ev (fun k => tableaulaw01_NatBack.j2 k a b 0 a (!(decide (Fm b)))) true := by
          obtain ⟨K5, h5⟩ := hsm
          by_cases fb : Fm b
          · have hA := nat_Add_eq a b ha hb (by omega) (by omega)
            rw [if_pos ⟨fa, fb⟩] at hA
            have va := val_lt_pow hW ha (k := a.length + b.length) (by omega)
            have vb := val_lt_pow hW hb (k := a.length + b.length) (by omega)
            have hsl := dig_len_le hW _ _ (add_lt_pow hW va vb)
            have hS := nat_Sub_eq (dig 18446744073709551616 (val 18446744073709551616 a + val 18446744073709551616 b)) b (ok_dig hW _) hb (by omega) (by omega)
            rw [if_pos ⟨fm_dig hW _, fb⟩, val_dig hW, if_neg (by omega), Nat.add_sub_cancel, hda] at hS
            obtain ⟨K3, h3⟩ := hA
            obtain ⟨K4, h4⟩ := hS
            rw [decide_eq_true fb]
            refine Ev.round (K3 + K4 + K5) fun m hm => ?_
            exact back_j2 m a b _ t1 t2 (h3 m (by omega)) (h4 m (by omega)) (h5 m (by omega))
          · rw [decide_eq_false fb]
            refine Ev.round K5 fun m hm => ?_
            exact back_j2_no m a b (h5 m (by omega))
        obtain ⟨K1, h1⟩ := hT1
        obtain ⟨K2, h2⟩ := hRd
        obtain ⟨K5, h5⟩ := hsm
        obtain ⟨K6, h6⟩ := hj2
        refine Ev.round (K1 + K2 + K5 + K6) fun m hm => ?_
        exact back_j1 m a b _ _ t1 (h1 m (by omega)) (h2 m (by omega)) (h5 m (by omega)) f2 (h6 m (by omega))
      · rw [if_neg fa] at hT1
        rw [decide_eq_false fa] at f1
        obtain ⟨K1, h1⟩ := hT1
        refine Ev.round K1 fun m hm => ?_
        exact back_j1_no m a b _ 3 t1 (h1 m hm) (by omega) f1
    obtain ⟨K7, h7⟩ := hj1
    by_cases hbig : (s.size : Int) > 3000
    · refine ⟨K0 + 1, ?_⟩
      have hd : decide ((s.size : Int) > 3000) = true := decide_eq_true hbig
      simp only [tableaulaw01_NatBack.f, h0 _ (Nat.le_add_right K0 1), hL, hd, Option.bind_some, if_true, tableaulaw01_NatBack.j0]
    · have hd : decide ((s.size : Int) > 3000) = false := decide_eq_false hbig
      have hj0 : Ev (fun k => tableaulaw01_NatBack.j0 k a b s false) true := by
        have hRd := nat_Read_eq s ls
        rw [if_neg (by omega)] at hRd
        by_cases hn : isNum s
        · rw [if_pos hn] at hRd
          have hdl := dig_len_le hW s.size (dv s s.size) (Nat.lt_of_lt_of_le (dv_lt s hn.2.2 s.size (Nat.le_refl _)) (ten_pow_W _))
          have hTx := nat_Text_eq (dig 18446744073709551616 (dv s s.size)) (ok_dig hW _) (by omega)
          rw [if_pos (fm_dig hW _), val_dig hW, decText_dv s hn] at hTx
          obtain ⟨K1, h1⟩ := hRd
          obtain ⟨K2, h2⟩ := hTx
          refine Ev.round (K1 + K2 + K7) fun m hm => ?_
          exact back_j0 m a b _ s (h1 m (by omega)) (h2 m (by omega)) (h7 m (by omega))
        · rw [if_neg hn] at hRd
          obtain ⟨K1, h1⟩ := hRd
          refine Ev.round (K1 + K7) fun m hm => ?_
          exact back_j0_no m a b _ s 11 (h1 m (by omega)) (by omega) (h7 m (by omega))
      obtain ⟨K8, h8⟩ := hj0
      refine ⟨K0 + K8, ?_⟩
      have g8 := h8 (K0 + K8) (Nat.le_add_left _ _)
      simp only [tableaulaw01_NatBack.f, h0 _ (Nat.le_add_right K0 K8), hL, hd, Option.bind_some, if_true]
      exact g8
  · simp only [hl, decide_false] at hL
    refine ⟨K0 + 1, ?_⟩
    simp only [tableaulaw01_NatBack.f, h0 _ (Nat.le_add_right K0 1), hL, Option.bind_some, Bool.false_eq_true, if_false, if_true, tableaulaw01_NatBack.j0]
end Go.Proofs.Ytaegboehjpjfnaa.Pure

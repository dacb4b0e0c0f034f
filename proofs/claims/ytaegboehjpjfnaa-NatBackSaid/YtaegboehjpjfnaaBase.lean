/- Plain arithmetic for limbs: a list of digits to a base, its value, the digits of a number. Nothing of Go. -/
import Derived.Test.YtaegboehjpjfnaaWWords
import Derived.Test.YtaegboehjpjfnaaWMore
set_option linter.unusedVariables false
set_option linter.unusedSimpArgs false
namespace Go.Proofs.Ytaegboehjpjfnaa.Pl
open Go.RowKit Go.Proofs.YtaegboehjpjfnaaW.PrintWords Go.Proofs.YtaegboehjpjfnaaW.PrintLast Go.Proofs.YtaegboehjpjfnaaW.PrintMore

/-! ### wraps -/
theorem w64 (x : Int) (h1 : -9223372036854775808 ≤ x) (h2 : x ≤ 9223372036854775807) : wrap64 x = x := by unfold wrap64; omega
theorem u64w (x : Int) (h1 : 0 ≤ x) (h2 : x < 18446744073709551616) : IntKind.u64.wrap x = x := by rw [IntKind.wrap_u64]; omega
theorem u64m (x : Int) : IntKind.u64.wrap x = x % 18446744073709551616 := IntKind.wrap_u64 x
theorem ite_t {α : Type} {c : Prop} [Decidable c] {a b : α} (h : c) : (if c then a else b) = a := if_pos h
theorem ite_f {α : Type} {c : Prop} [Decidable c] {a b : α} (h : ¬ c) : (if c then a else b) = b := if_neg h
theorem Ev.round {α : Type} {g : Nat → Option α} {r : α} (K : Nat) (h : ∀ m, K ≤ m → g (m + 1) = some r) : Ev g r :=
  ⟨K + 1, fun n hn => by
    obtain ⟨m, rfl⟩ : ∃ m, n = m + 1 := ⟨n - 1, by omega⟩
    exact h m (by omega)⟩
theorem Ev.all {α : Type} {g : Nat → Option α} {r : α} (h : ∀ m, g m = some r) : Ev g r := ⟨0, fun m _ => h m⟩

theorem Ev.all' {α : Type} {g : Nat → Option α} {r : α} (K : Nat) (h : ∀ m, g (m + K) = some r) : Ev g r := ⟨K, fun n hn => by
  obtain ⟨m, rfl⟩ : ∃ m, n = m + K := ⟨n - K, by omega⟩
  exact h m⟩

/-! ### lists -/
theorem rd_nat (l : List Int) (i : Nat) : rd l (i : Int) = l.getD i 0 := by unfold rd; simp
theorem rd_cons_zero (x : Int) (l : List Int) : rd (x :: l) 0 = x := rfl
theorem getD_mem (l : List Int) (i : Nat) (h : i < l.length) : l.getD i 0 ∈ l := by
  rw [List.getD_eq_getElem?_getD, List.getElem?_eq_getElem h]
  exact List.getElem_mem h
theorem getD_set_self (l : List Int) (i : Nat) (v : Int) (h : i < l.length) : (l.set i v).getD i 0 = v := by simp [List.getD_eq_getElem?_getD, h]
theorem getD_set_ne (l : List Int) (i j : Nat) (v : Int) (h : i ≠ j) : (l.set i v).getD j 0 = l.getD j 0 := by simp [List.getD_eq_getElem?_getD, List.getElem?_set_ne h]
theorem getD_append_left (l m : List Int) (i : Nat) (h : i < l.length) : (l ++ m).getD i 0 = l.getD i 0 := by simp [List.getD_eq_getElem?_getD, List.getElem?_append_left h]
theorem getD_take (l : List Int) (n i : Nat) (h : i < n) : (l.take n).getD i 0 = l.getD i 0 := by simp [List.getD_eq_getElem?_getD, List.getElem?_take, h]
theorem getD_of_ge (l : List Int) (i : Nat) (h : l.length ≤ i) : l.getD i 0 = 0 := by simp [List.getD_eq_getElem?_getD, List.getElem?_eq_none h]
theorem getD_drop (l : List Int) (n i : Nat) : (l.drop n).getD i 0 = l.getD (n + i) 0 := by simp [List.getD_eq_getElem?_getD]
theorem take_succ_getD (l : List Int) (i : Nat) (h : i < l.length) : l.take (i + 1) = l.take i ++ [l.getD i 0] := by
  rw [List.take_succ_eq_append_getElem h]
  simp [List.getD_eq_getElem?_getD, List.getElem?_eq_getElem h]

/-! ### digits -/
/-- All digits are below the base. -/
def Ok (B : Nat) (l : List Int) : Prop := ∀ x ∈ l, 0 ≤ x ∧ x < (B : Int)
/-- No nought at the end. -/
def Fm (l : List Int) : Prop := l.length = 0 ∨ l.getD (l.length - 1) 0 ≠ 0
def val (B : Nat) : List Int → Nat
  | [] => 0
  | x :: xs => x.toNat + B * val B xs
def dig (B : Nat) (n : Nat) : List Int := if h : 1 < B ∧ 0 < n then ((n % B : Nat) : Int) :: dig B (n / B) else []
  termination_by n
  decreasing_by exact Nat.div_lt_self h.2 h.1

theorem Ok.nil (B : Nat) : Ok B [] := fun x hx => absurd hx (by simp)
theorem Ok.cons {B : Nat} {x : Int} {l : List Int} (h0 : 0 ≤ x) (h1 : x < (B : Int)) (h : Ok B l) : Ok B (x :: l) := fun y hy => by
  rcases List.mem_cons.1 hy with rfl | hy
  · exact ⟨h0, h1⟩
  · exact h y hy
theorem Ok.head {B : Nat} {x : Int} {l : List Int} (h : Ok B (x :: l)) : 0 ≤ x ∧ x < (B : Int) := h x (by simp)
theorem Ok.tail {B : Nat} {x : Int} {l : List Int} (h : Ok B (x :: l)) : Ok B l := fun y hy => h y (by simp [hy])
theorem Ok.append {B : Nat} {l m : List Int} (h : Ok B l) (k : Ok B m) : Ok B (l ++ m) := fun x hx => by
  rcases List.mem_append.1 hx with hx | hx
  · exact h x hx
  · exact k x hx
theorem Ok.one {B : Nat} {x : Int} (h0 : 0 ≤ x) (h1 : x < (B : Int)) : Ok B [x] := Ok.cons h0 h1 (Ok.nil B)
theorem Ok.take {B : Nat} {l : List Int} (h : Ok B l) (n : Nat) : Ok B (l.take n) := fun x hx => h x (List.mem_of_mem_take hx)
theorem Ok.drop {B : Nat} {l : List Int} (h : Ok B l) (n : Nat) : Ok B (l.drop n) := fun x hx => h x (List.mem_of_mem_drop hx)
theorem Ok.set {B : Nat} {l : List Int} (h : Ok B l) (i : Nat) {v : Int} (h0 : 0 ≤ v) (h1 : v < (B : Int)) : Ok B (l.set i v) := fun x hx => by
  rcases List.mem_or_eq_of_mem_set hx with hx | rfl
  · exact h x hx
  · exact ⟨h0, h1⟩
theorem Ok.replicate {B : Nat} (hB : 0 < B) (n : Nat) : Ok B (List.replicate n 0) := fun x hx => by
  rw [(List.mem_replicate.1 hx).2]; omega
theorem Ok.at {B : Nat} (hB : 0 < B) {l : List Int} (h : Ok B l) (i : Nat) : 0 ≤ l.getD i 0 ∧ l.getD i 0 < (B : Int) := by
  rcases Nat.lt_or_ge i l.length with hi | hi
  · exact h _ (getD_mem l i hi)
  · rw [getD_of_ge l i hi]; omega
theorem val_nil (B : Nat) : val B [] = 0 := rfl
theorem val_cons (B : Nat) (x : Int) (l : List Int) : val B (x :: l) = x.toNat + B * val B l := rfl
theorem val_one (B : Nat) (x : Int) : val B [x] = x.toNat := by simp [val]
theorem val_append (B : Nat) : ∀ (l m : List Int), val B (l ++ m) = val B l + B ^ l.length * val B m
  | [], m => by simp [val]
  | x :: l, m => by
    rw [List.cons_append, val_cons, val_append B l m, val_cons, List.length_cons, Nat.pow_succ]
    grind
theorem val_replicate (B n : Nat) : val B (List.replicate n 0) = 0 := by
  induction n with
  | zero => rfl
  | succ n ih => rw [List.replicate_succ, val_cons, ih]; simp
theorem val_lt {B : Nat} (hB : 0 < B) : ∀ {l : List Int}, Ok B l → val B l < B ^ l.length
  | [], _ => by simp [val]
  | x :: l, h => by
    have ih := val_lt hB h.tail
    have hx := h.head
    rw [val_cons, List.length_cons, Nat.pow_succ]
    have h1 : x.toNat < B := by omega
    have h2 : B * (val B l + 1) ≤ B * B ^ l.length := Nat.mul_le_mul_left B ih
    rw [Nat.mul_comm (B ^ l.length) B]
    grind
theorem val_take_succ (B : Nat) (l : List Int) (i : Nat) (h : i < l.length) : val B (l.take (i + 1)) = val B (l.take i) + B ^ i * (l.getD i 0).toNat := by
  rw [take_succ_getD l i h, val_append, val_one, List.length_take, Nat.min_eq_left (Nat.le_of_lt h)]
theorem val_set (B : Nat) : ∀ (l : List Int) (i : Nat) (v : Int), i < l.length → val B (l.set i v) + B ^ i * (l.getD i 0).toNat = val B l + B ^ i * v.toNat
  | [], i, v, h => absurd h (by simp)
  | x :: l, 0, v, h => by simp [val]; omega
  | x :: l, i + 1, v, h => by
    have ih := val_set B l i v (by simpa using h)
    rw [List.set_cons_succ, val_cons, val_cons, List.getD_cons_succ, Nat.pow_succ]
    grind
theorem take_set_ge (l : List Int) (i j : Nat) (v : Int) (h : i ≤ j) : (l.set j v).take i = l.take i := List.take_set_of_le h
theorem val_take_set (B : Nat) (l : List Int) (i : Nat) (v : Int) (h : i < l.length) : val B ((l.set i v).take (i + 1)) = val B (l.take i) + B ^ i * v.toNat := by
  rw [val_take_succ B _ i (by simpa using h), take_set_ge l i i v (Nat.le_refl _), getD_set_self l i v h]
theorem dig_zero (B : Nat) : dig B 0 = [] := by rw [dig]; simp
theorem dig_pos {B n : Nat} (hB : 1 < B) (hn : 0 < n) : dig B n = ((n % B : Nat) : Int) :: dig B (n / B) := by rw [dig, dif_pos ⟨hB, hn⟩]
theorem val_dig {B : Nat} (hB : 1 < B) : ∀ n, val B (dig B n) = n := by
  intro n
  induction n using Nat.strongRecOn with
  | _ n ih =>
    rcases Nat.eq_zero_or_pos n with rfl | hn
    · rw [dig_zero]; rfl
    · rw [dig_pos hB hn, val_cons, ih (n / B) (Nat.div_lt_self hn hB), Int.toNat_natCast]
      have := Nat.mod_add_div n B
      exact this
theorem ok_dig {B : Nat} (hB : 1 < B) : ∀ n, Ok B (dig B n) := by
  intro n
  induction n using Nat.strongRecOn with
  | _ n ih =>
    rcases Nat.eq_zero_or_pos n with rfl | hn
    · rw [dig_zero]; exact Ok.nil B
    · rw [dig_pos hB hn]
      have := Nat.mod_lt n (show 0 < B by omega)
      exact Ok.cons (by omega) (by omega) (ih (n / B) (Nat.div_lt_self hn hB))
theorem dig_ne_nil {B n : Nat} (hB : 1 < B) (hn : 0 < n) : dig B n ≠ [] := by rw [dig_pos hB hn]; simp
theorem dig_eq_nil {B n : Nat} (hB : 1 < B) : dig B n = [] ↔ n = 0 := by
  constructor
  · intro h
    rcases Nat.eq_zero_or_pos n with h0 | hn
    · exact h0
    · exact absurd h (dig_ne_nil hB hn)
  · rintro rfl; exact dig_zero B
theorem dig_len_zero {B n : Nat} (hB : 1 < B) : (dig B n).length = 0 ↔ n = 0 := by rw [List.length_eq_zero_iff]; exact dig_eq_nil hB
theorem fm_cons {x y : Int} {l : List Int} : Fm (x :: y :: l) ↔ Fm (y :: l) := by
  unfold Fm
  simp only [List.length_cons, Nat.add_sub_cancel, List.getD_cons_succ]
  constructor <;> intro h <;> rcases h with h | h
  · omega
  · exact .inr h
  · omega
  · exact .inr h
theorem fm_dig {B : Nat} (hB : 1 < B) : ∀ n, Fm (dig B n) := by
  intro n
  induction n using Nat.strongRecOn with
  | _ n ih =>
    rcases Nat.eq_zero_or_pos n with rfl | hn
    · rw [dig_zero]; exact .inl rfl
    · rw [dig_pos hB hn]
      have ih' := ih (n / B) (Nat.div_lt_self hn hB)
      rcases Nat.eq_zero_or_pos (n / B) with h0 | hp
      · rw [h0, dig_zero]
        refine .inr ?_
        have h1 : n < B := by
          rcases Nat.lt_or_ge n B with h | h
          · exact h
          · have := Nat.div_pos h (show 0 < B by omega); omega
        simp [List.getD, Nat.mod_eq_of_lt h1]
        omega
      · have := dig_ne_nil hB hp
        match hd : dig B (n / B), this with
        | y :: l, _ => rw [hd] at ih'; exact fm_cons.2 ih'
theorem val_pos_of_fm {B : Nat} (hB : 1 < B) : ∀ {l : List Int}, Ok B l → Fm l → l ≠ [] → 0 < val B l
  | [], _, _, h => absurd rfl h
  | [x], hk, hf, _ => by
    rcases hf with h | h
    · simp at h
    · have := hk.head
      rw [val_one]
      simp at h
      omega
  | x :: y :: l, hk, hf, _ => by
    have := val_pos_of_fm hB hk.tail (fm_cons.1 hf) (by simp)
    rw [val_cons]
    have := Nat.mul_pos (show 0 < B by omega) this
    omega
theorem dig_val {B : Nat} (hB : 1 < B) : ∀ {l : List Int}, Ok B l → Fm l → dig B (val B l) = l
  | [], _, _ => dig_zero B
  | [x], hk, hf => by
    have hp := val_pos_of_fm hB hk hf (by simp)
    have hx := hk.head
    rw [val_one] at hp ⊢
    have hlt : x.toNat < B := by omega
    rw [dig_pos hB hp, Nat.mod_eq_of_lt hlt, Nat.div_eq_of_lt hlt, dig_zero]
    congr 1
    omega
  | x :: y :: l, hk, hf => by
    have ih := dig_val hB hk.tail (fm_cons.1 hf)
    have hp := val_pos_of_fm hB hk hf (by simp)
    have hx := hk.head
    have hlt : x.toNat < B := by omega
    rw [dig_pos hB hp]
    have e1 : val B (x :: y :: l) % B = x.toNat := by rw [val_cons, Nat.add_mul_mod_self_left, Nat.mod_eq_of_lt hlt]
    have e2 : val B (x :: y :: l) / B = val B (y :: l) := by
      rw [val_cons, Nat.add_mul_div_left _ _ (show 0 < B by omega), Nat.div_eq_of_lt hlt, Nat.zero_add]
    rw [e1, e2, ih]
    congr 1
    omega
theorem dig_inj {B m n : Nat} (hB : 1 < B) (h : dig B m = dig B n) : m = n := by
  have := congrArg (val B) h
  rwa [val_dig hB, val_dig hB] at this
/-- Noughts at the end may go. -/
theorem dig_take_last {B : Nat} (hB : 1 < B) {l : List Int} (hl : 0 < l.length) (h0 : l.getD (l.length - 1) 0 = 0) : val B (l.take (l.length - 1)) = val B l := by
  have h := val_take_succ B l (l.length - 1) (by omega)
  rw [show l.length - 1 + 1 = l.length by omega, List.take_length, h0] at h
  simp at h
  exact h.symm
theorem dig_len_le {B : Nat} (hB : 1 < B) : ∀ (m n : Nat), n < B ^ m → (dig B n).length ≤ m := by
  intro m
  induction m with
  | zero =>
    intro n hn
    have : n = 0 := by simpa using hn
    subst this
    rw [dig_zero]; simp
  | succ m ih =>
    intro n hn
    rcases Nat.eq_zero_or_pos n with rfl | hp
    · rw [dig_zero]; simp
    · rw [dig_pos hB hp, List.length_cons]
      have : n / B < B ^ m := by
        rw [Nat.div_lt_iff_lt_mul (by omega), ← Nat.pow_succ]
        exact hn
      have := ih _ this
      omega
theorem lt_dig_len {B : Nat} (hB : 1 < B) (n : Nat) : n < B ^ (dig B n).length := by
  have := val_lt (show 0 < B by omega) (ok_dig hB n)
  rwa [val_dig hB] at this
theorem dig_len_lt_of {B m n : Nat} (hB : 1 < B) (h : (dig B m).length < (dig B n).length) : m < n := by
  rcases Nat.lt_or_ge m n with h1 | h1
  · exact h1
  · have h2 := dig_len_le hB (dig B m).length n (Nat.lt_of_le_of_lt h1 (lt_dig_len hB m))
    omega
theorem pow_le_of_dig {B n : Nat} (hB : 1 < B) (hn : 0 < n) : B ^ ((dig B n).length - 1) ≤ n := by
  rcases Nat.lt_or_ge n (B ^ ((dig B n).length - 1)) with h | h
  · have := dig_len_le hB _ n h
    have h3 : (dig B n).length ≠ 0 := fun e => by have := (dig_len_zero hB).1 e; omega
    omega
  · exact h
end Go.Proofs.Ytaegboehjpjfnaa.Pl

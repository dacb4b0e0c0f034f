-- written by a program of this seat's prover (see NOTES.md)
import Derived.Test.YtaegboehjpjfnaaPx0
import Derived.Test.YtaegboehjpjfnaaPx1
import Derived.Test.YtaegboehjpjfnaaPx2
import Derived.Test.YtaegboehjpjfnaaPx3
import Derived.Test.YtaegboehjpjfnaaPx4
import Derived.Test.YtaegboehjpjfnaaPx5
namespace Go.Proofs.Ytaegboehjpjfnaa.P
open Go.RowKit Go.Proofs.YtaegboehjpjfnaaW.PrintWords Go.Proofs.YtaegboehjpjfnaaW.PrintLast Go.Proofs.YtaegboehjpjfnaaW.PrintMore Go.Proofs.Ytaegboehjpjfnaa.Mine
attribute [local go_sem] max2_int min2_int max_two min_two max_three min_three max_four min_four   -- for this text's walks alone
set_option linter.unusedVariables false
set_option linter.unusedSimpArgs false

theorem copyTo.calls (P0_ : Nat → Prop) (u9000_ : Value) (l0 : List Int) (A1 : Option Addr) (c1 : Nat) (l1 : List Int) (r1 : Int) (r2 : List Int) (w0 w : World) (hB : Below w0.heap.size w0 w)
    (ho0 : Kd.R (Kd.int .u64) 40 w w0.heap.size P0_ u9000_ l0) (hr1 : ∀ W_, Kept w W_ (fun k_ => P0_ k_) → Kd.C (Kd.int .u64) W_ A1 l1.length l1) (hc1 : l1.length ≤ c1) (h : copyTo.f l0 l1 = some (r1, r2)) :
    CallsCopy Try.prog #[22, 22] #[u9000_, .slice A1 l1.length c1] w fun en w' => en = .returned (.int .i64 r1) ∧ Kd.R (Kd.int .u64) 40 w' w0.heap.size (fun k_ => (P0_ k_ ∨ w.heap.size ≤ k_)) u9000_ r2 ∧ Below w0.heap.size w0 w' ∧ Kept w w' (fun k_ => P0_ k_) :=
  copyTo_calls 22 40 Try.underlying22 (by kernel_rfl) P0_ u9000_ l0 A1 c1 l1 r1 r2 w0 w hB ho0 hr1 hc1 h
/-! ### nat_divide: function 48 -/
mutual
def nat_divide.l0 : Nat → Int → List Int → List Int → Int → List Int → Int → Int → Option (List Int × List Int)
  | 0, _, _, _, _, _, _, _ => none
  | k + 1, x8, x9, x10, x11, x12, x65, x66 => if x66 < x65 then (if 0 ≤ (wrap64 ((wrap64 ((x12.length : Int) - 1)) - x66)) then (if (wrap64 ((wrap64 ((x12.length : Int) - 1)) - x66)) ≤ (wrap64 ((wrap64 ((wrap64 ((wrap64 ((x12.length : Int) - 1)) - x66)) + x11)) + 1)) then (if (wrap64 ((wrap64 ((wrap64 ((wrap64 ((x12.length : Int) - 1)) - x66)) + x11)) + 1)) ≤ (x10.length : Int) then ((nat_step.f k x10 (wrap64 ((wrap64 ((x12.length : Int) - 1)) - x66)) (wrap64 ((wrap64 ((wrap64 ((wrap64 ((x12.length : Int) - 1)) - x66)) + x11)) + 1)) x9).bind fun bt267 => (if (wrap64 ((wrap64 ((x12.length : Int) - 1)) - x66)) < (x12.length : Int) then (nat_divide.l0 k x8 x9 bt267.2 x11 (x12.set ((wrap64 ((wrap64 ((x12.length : Int) - 1)) - x66)) : Int).toNat bt267.1) x65 (wrap64 (x66 + 1))) else (none))) else (none)) else (none)) else (none)) else ((nat_low.f k x10).bind fun t270 => (nat_divide.l1 k x8 x12 t270 (t270.length : Int) 0))
def nat_divide.l1 : Nat → Int → List Int → List Int → Int → Int → Option (List Int × List Int)
  | 0, _, _, _, _, _ => none
  | k + 1, x8, x12, x15, x90, x91 => if x91 < x90 then (if 0 ≤ x91 then (if x91 < (x15.length : Int) then (if 0 ≤ (IntKind.u64.wrap (x8)) then ((some (x15.set (x91 : Int).toNat (shr .u64 (rd x15 x91) (IntKind.u64.wrap (x8))) : List Int)).bind fun y274 => (if (wrap64 (x91 + 1)) < (x15.length : Int) then (if 0 ≤ (wrap64 (x91 + 1)) then (if 0 ≤ (IntKind.u64.wrap (63 - (IntKind.u64.wrap (x8)))) then (nat_divide.l1 k x8 x12 (y274.set (x91 : Int).toNat (Go.bits .or .u64 (rd y274 x91) (shl .u64 (IntKind.u64.wrap ((rd y274 (wrap64 (x91 + 1))) * 2)) (IntKind.u64.wrap (63 - (IntKind.u64.wrap (x8))))))) x90 (wrap64 (x91 + 1))) else (none)) else (none)) else (nat_divide.l1 k x8 x12 y274 x90 (wrap64 (x91 + 1))))) else (none)) else (none)) else (none)) else ((nat_low.f k x12).bind fun t278 => ((nat_low.f k x15).bind fun t281 => (some (t278, t281))))
end
def nat_divide.f (k : Nat) (l0 : List Int) (l1 : List Int) : Option (List Int × List Int) := (nat_cmp.f k l0 l1).bind fun t232 => (if t232 < 0 then ((slices_Clone_uint64_uint64.f l0).bind fun t233 => (some (([] : List Int), t233))) else (if (l1.length : Int) = 1 then (if 0 < (l1.length : Int) then ((nat_short.f k l0 (rd l1 0)).bind fun bt237 => ((nat_low.f k (([bt237.2] : List Int))).bind fun t244 => (some (bt237.1, t244)))) else (none)) else (if 0 ≤ (wrap64 ((l1.length : Int) - 1)) then (if (wrap64 ((l1.length : Int) - 1)) < (l1.length : Int) then ((bits_LeadingZeros64.f k (rd l1 (wrap64 ((l1.length : Int) - 1)))).bind fun t248 => ((nat_shl.f k l1 t248).bind fun t249 => (if 0 ≤ (wrap64 ((l0.length : Int) + 1)) then (if (wrap64 ((l0.length : Int) + 1) : Int).toNat ≤ 35184372088832 then ((some (List.replicate (wrap64 ((l0.length : Int) + 1) : Int).toNat 0 : List Int)).bind fun y252 => ((nat_shl.f k l0 t248).bind fun t255 => ((copyTo.f y252 t255).bind fun bt258 => (if 0 ≤ (wrap64 ((y252.length : Int) - (t249.length : Int))) then (if (wrap64 ((y252.length : Int) - (t249.length : Int)) : Int).toNat ≤ 35184372088832 then ((some (List.replicate (wrap64 ((y252.length : Int) - (t249.length : Int)) : Int).toNat 0 : List Int)).bind fun y260 => (nat_divide.l0 k t248 t249 bt258.2 (t249.length : Int) y260 (y260.length : Int) 0)) else (none)) else (none))))) else (none)) else (none)))) else (none)) else (none))))
theorem nat_divide.mono_l : ∀ k, (∀ y0 y1 y2 y3 y4 y5 y6, LeO (nat_divide.l0 k y0 y1 y2 y3 y4 y5 y6) (nat_divide.l0 (k + 1) y0 y1 y2 y3 y4 y5 y6)) ∧ (∀ y0 y1 y2 y3 y4, LeO (nat_divide.l1 k y0 y1 y2 y3 y4) (nat_divide.l1 (k + 1) y0 y1 y2 y3 y4))
  | 0 => ⟨fun _ _ _ _ _ _ _ r h => by simp [nat_divide.l0] at h, fun _ _ _ _ _ r h => by simp [nat_divide.l1] at h⟩
  | k + 1 => by
    obtain ⟨ih0, ih1⟩ := nat_divide.mono_l k
    refine ⟨?_, ?_⟩
    · intro y0 y1 y2 y3 y4 y5 y6
      unfold nat_divide.l0
      repeat' first
      | (with_reducible exact ih0 _ _ _ _ _ _ _)
      | (with_reducible exact ih1 _ _ _ _ _)
      | (with_reducible exact bits_LeadingZeros64.mono _ _)
      | (with_reducible exact nat_cmp.mono _ _ _)
      | (with_reducible exact nat_low.mono _ _)
      | (with_reducible exact nat_shl.mono _ _ _)
      | (with_reducible exact nat_short.mono _ _ _)
      | (with_reducible exact nat_step.mono _ _ _ _ _)
      | (with_reducible exact LeO.refl _)
      | (with_reducible exact LeO.none _)
      | (with_reducible refine LeO.ite ?_ ?_)
      | (with_reducible refine LeO.bind ?_ (fun _ => ?_))
      | exact ih0 _ _ _ _ _ _ _
      | exact ih1 _ _ _ _ _
      | exact bits_LeadingZeros64.mono _ _
      | exact nat_cmp.mono _ _ _
      | exact nat_low.mono _ _
      | exact nat_shl.mono _ _ _
      | exact nat_short.mono _ _ _
      | exact nat_step.mono _ _ _ _ _
      | exact LeO.none _
      | refine LeO.ite ?_ ?_
      | refine LeO.bind ?_ (fun _ => ?_)
    · intro y0 y1 y2 y3 y4
      unfold nat_divide.l1
      repeat' first
      | (with_reducible exact ih0 _ _ _ _ _ _ _)
      | (with_reducible exact ih1 _ _ _ _ _)
      | (with_reducible exact bits_LeadingZeros64.mono _ _)
      | (with_reducible exact nat_cmp.mono _ _ _)
      | (with_reducible exact nat_low.mono _ _)
      | (with_reducible exact nat_shl.mono _ _ _)
      | (with_reducible exact nat_short.mono _ _ _)
      | (with_reducible exact nat_step.mono _ _ _ _ _)
      | (with_reducible exact LeO.refl _)
      | (with_reducible exact LeO.none _)
      | (with_reducible refine LeO.ite ?_ ?_)
      | (with_reducible refine LeO.bind ?_ (fun _ => ?_))
      | exact ih0 _ _ _ _ _ _ _
      | exact ih1 _ _ _ _ _
      | exact bits_LeadingZeros64.mono _ _
      | exact nat_cmp.mono _ _ _
      | exact nat_low.mono _ _
      | exact nat_shl.mono _ _ _
      | exact nat_short.mono _ _ _
      | exact nat_step.mono _ _ _ _ _
      | exact LeO.none _
      | refine LeO.ite ?_ ?_
      | refine LeO.bind ?_ (fun _ => ?_)
theorem nat_divide.mono : ∀ a0 a1 k, LeO (nat_divide.f k a0 a1) (nat_divide.f (k + 1) a0 a1) := by
  intro a0 a1 k
  obtain ⟨ih0, ih1⟩ := nat_divide.mono_l k
  unfold nat_divide.f
  repeat' first
      | (with_reducible exact ih0 _ _ _ _ _ _ _)
      | (with_reducible exact ih1 _ _ _ _ _)
      | (with_reducible exact bits_LeadingZeros64.mono _ _)
      | (with_reducible exact nat_cmp.mono _ _ _)
      | (with_reducible exact nat_low.mono _ _)
      | (with_reducible exact nat_shl.mono _ _ _)
      | (with_reducible exact nat_short.mono _ _ _)
      | (with_reducible exact nat_step.mono _ _ _ _ _)
      | (with_reducible exact LeO.refl _)
      | (with_reducible exact LeO.none _)
      | (with_reducible refine LeO.ite ?_ ?_)
      | (with_reducible refine LeO.bind ?_ (fun _ => ?_))
      | exact ih0 _ _ _ _ _ _ _
      | exact ih1 _ _ _ _ _
      | exact bits_LeadingZeros64.mono _ _
      | exact nat_cmp.mono _ _ _
      | exact nat_low.mono _ _
      | exact nat_shl.mono _ _ _
      | exact nat_short.mono _ _ _
      | exact nat_step.mono _ _ _ _ _
      | exact LeO.none _
      | refine LeO.ite ?_ ?_
      | refine LeO.bind ?_ (fun _ => ?_)
def nat_divide.T24 : Bool × List (List Nat × List Nat) := (true, [([], []), ([], []), ([0, 1], [0, 1]), ([2], [2]), ([], []), ([], []), ([5], [5]), ([4, 6], [4, 6]), ([7], [7]), ([8], [8]), ([], []), ([10], [10]), ([11], [11]), ([9, 12], [9, 12]), ([3, 13], [3, 13]), ([0, 1, 0, 1, 2, 3, 4, 5, 6, 7, 8, 9, 10, 11, 12, 13, 14], [0, 1]), ([15, 14, 0, 1, 2, 3, 4, 5, 6, 7, 8, 9, 10, 11, 12, 13, 14], [14, 15])])
def nat_divide.B24 : List Nat := [0, 0, 3, 7, 0, 0, 32, 112, 240, 496, 0, 1024, 3072, 8176, 16383, 32767, 65535]
theorem nat_divide.tab24 : rtab .any (opsOf Try.f48 24) = nat_divide.T24 := by kernel_rfl
theorem nat_divide.bits24 : waitsOk nat_divide.T24.2 nat_divide.B24 = true := by kernel_rfl
set_option maxHeartbeats 8000000 in
set_option maxRecDepth 100000 in
theorem nat_divide.calls (k : Nat) (A0 : Option Addr) (c0 : Nat) (l0 : List Int) (A1 : Option Addr) (c1 : Nat) (l1 : List Int) (r1 : List Int) (r2 : List Int) (w : World) (hr0 : Kd.C (Kd.int .u64) w A0 l0.length l0) (hc0 : l0.length ≤ c0) (hr1 : Kd.C (Kd.int .u64) w A1 l1.length l1) (hc1 : l1.length ≤ c1) (h : nat_divide.f k l0 l1 = some (r1, r2)) :
    Calls Try.prog 48 #[.slice A0 l0.length c0, .slice A1 l1.length c1] w fun e w' => ∃ v0_ v1_ : Value, e = .returned (.tuple #[v0_, v1_]) ∧ Kd.R (Kd.int .u64) 40 w' w.heap.size (fun k_ => some k_ ≠ (v1_ : Value).ownBlock) v0_ r1 ∧ Kd.R (Kd.int .u64) 40 w' w.heap.size (fun k_ => some k_ ≠ (v0_ : Value).ownBlock) v1_ r2 ∧ Below w.heap.size w w' := by
  have HR0 := Aside0.mk hr0
  have HC0 := Aside0.mk hc0
  clear hr0 hc0
  have HR1 := Aside0.mk hr1
  have HC1 := Aside0.mk hc1
  clear hr1 hc1
  have HB := Aside0.mk (Below.refl w.heap.size w)
  have H : ((nat_cmp.f k l0 l1).bind fun t232 => (if t232 < 0 then ((slices_Clone_uint64_uint64.f l0).bind fun t233 => (some (([] : List Int), t233))) else (if (l1.length : Int) = 1 then (if 0 < (l1.length : Int) then ((nat_short.f k l0 (rd l1 0)).bind fun bt237 => ((nat_low.f k (([bt237.2] : List Int))).bind fun t244 => (some (bt237.1, t244)))) else (none)) else (if 0 ≤ (wrap64 ((l1.length : Int) - 1)) then (if (wrap64 ((l1.length : Int) - 1)) < (l1.length : Int) then ((bits_LeadingZeros64.f k (rd l1 (wrap64 ((l1.length : Int) - 1)))).bind fun t248 => ((nat_shl.f k l1 t248).bind fun t249 => (if 0 ≤ (wrap64 ((l0.length : Int) + 1)) then (if (wrap64 ((l0.length : Int) + 1) : Int).toNat ≤ 35184372088832 then ((some (List.replicate (wrap64 ((l0.length : Int) + 1) : Int).toNat 0 : List Int)).bind fun y252 => ((nat_shl.f k l0 t248).bind fun t255 => ((copyTo.f y252 t255).bind fun bt258 => (if 0 ≤ (wrap64 ((y252.length : Int) - (t249.length : Int))) then (if (wrap64 ((y252.length : Int) - (t249.length : Int)) : Int).toNat ≤ 35184372088832 then ((some (List.replicate (wrap64 ((y252.length : Int) - (t249.length : Int)) : Int).toNat 0 : List Int)).bind fun y260 => (nat_divide.l0 k t248 t249 bt258.2 (t249.length : Int) y260 (y260.length : Int) 0)) else (none)) else (none))))) else (none)) else (none)))) else (none)) else (none))))) = some (r1, r2) := h
  clear h
  replace H := Option.bind_eq_some_iff.mp H
  obtain ⟨t232, A30, H⟩ := H
  replace H : (if t232 < 0 then ((slices_Clone_uint64_uint64.f l0).bind fun t233 => (some (([] : List Int), t233))) else (if (l1.length : Int) = 1 then (if 0 < (l1.length : Int) then ((nat_short.f k l0 (rd l1 0)).bind fun bt237 => ((nat_low.f k (([bt237.2] : List Int))).bind fun t244 => (some (bt237.1, t244)))) else (none)) else (if 0 ≤ (wrap64 ((l1.length : Int) - 1)) then (if (wrap64 ((l1.length : Int) - 1)) < (l1.length : Int) then ((bits_LeadingZeros64.f k (rd l1 (wrap64 ((l1.length : Int) - 1)))).bind fun t248 => ((nat_shl.f k l1 t248).bind fun t249 => (if 0 ≤ (wrap64 ((l0.length : Int) + 1)) then (if (wrap64 ((l0.length : Int) + 1) : Int).toNat ≤ 35184372088832 then ((some (List.replicate (wrap64 ((l0.length : Int) + 1) : Int).toNat 0 : List Int)).bind fun y252 => ((nat_shl.f k l0 t248).bind fun t255 => ((copyTo.f y252 t255).bind fun bt258 => (if 0 ≤ (wrap64 ((y252.length : Int) - (t249.length : Int))) then (if (wrap64 ((y252.length : Int) - (t249.length : Int)) : Int).toNat ≤ 35184372088832 then ((some (List.replicate (wrap64 ((y252.length : Int) - (t249.length : Int)) : Int).toNat 0 : List Int)).bind fun y260 => (nat_divide.l0 k t248 t249 bt258.2 (t249.length : Int) y260 (y260.length : Int) 0)) else (none)) else (none))))) else (none)) else (none)))) else (none)) else (none)))) = some (r1, r2) := H
  have A3 := Aside0.mk A30
  clear A30
  by_cases c4 : t232 < 0
  · rw [if_pos c4] at H
    have c4b0 : decide (t232 < 0) = true := decide_eq_true c4
    clear c4
    replace H := Option.bind_eq_some_iff.mp H
    obtain ⟨t233, A50, H⟩ := H
    replace H : (some (([] : List Int), t233)) = some (r1, r2) := H
    have A5 := Aside0.mk A50
    clear A50
    simp only [Option.some.injEq, Prod.mk.injEq] at H
    obtain ⟨rfl, rfl⟩ := H
    go_enter Try.func48, Try.ntmps48
    go_wp2_with (first | ((with_reducible refine gate_callee (f := 42) rfl ?_); refine goesL_ (some 19) rfl rfl Try.func42 (by kernel_rfl) rfl #[.slice A0 l0.length c0, .slice A1 l1.length c1] rfl (by (try simp only [List.map_toArray, List.map_cons, List.map_nil]); first | done | rfl | (simp only [List.length_drop, List.length_take]; rfl)) ?_; (with_reducible refine (nat_cmp.calls k _ _ l0 _ _ l1 t232 _ ?side1 ?side2 ?side3 ?side4 A3.out).mono ?_); (case side1 => repeat (first | exact HR0.out | (with_reducible refine Kd.C_alloc ?_ _) | (with_reducible refine Kd.C_drewN ?_ _) | (with_reducible refine Kd.C_drew ?_))); (case side2 => exact HC0.out); (case side3 => repeat (first | exact HR1.out | (with_reducible refine Kd.C_alloc ?_ _) | (with_reducible refine Kd.C_drewN ?_ _) | (with_reducible refine Kd.C_drew ?_))); (case side4 => exact HC1.out); rintro e w' ⟨rfl, ⟨nd, rfl⟩⟩; refine ⟨_, rfl, ?_⟩) | ((with_reducible refine gate_callee (f := 50) rfl ?_); refine goesL_ (some 22) rfl rfl Try.func50 (by kernel_rfl) rfl #[.slice A0 l0.length c0] rfl (by (try simp only [List.map_toArray, List.map_cons, List.map_nil]); first | done | rfl | (simp only [List.length_drop, List.length_take]; rfl)) ?_; (with_reducible refine (slices_Clone_uint64_uint64.calls _ _ l0 t233 _ ?side1 ?side2 A5.out).mono ?_); (case side1 => repeat (first | exact HR0.out | (with_reducible refine Kd.C_alloc ?_ _) | (with_reducible refine Kd.C_drewN ?_ _) | (with_reducible refine Kd.C_drew ?_))); (case side2 => exact HC0.out); rintro e w6 ⟨v234, rfl, ho0, hb⟩; refine ⟨_, rfl, ?_⟩; have n0_ := Aside0.mk (Kd.R_lower ho0 (below_size (by repeat (first | (with_reducible first | exact HB.out | apply below_alloc | apply pw_below_drewN | apply below_drew1) | exact HB.out)))); have n1_ := Aside0.mk (below_step (by repeat (first | (with_reducible first | exact HB.out | apply below_alloc | apply pw_below_drewN | apply below_drew1) | exact HB.out)) hb); clear HB; have HO235 := n0_; have HB := n1_; clear n0_ n1_; (try clear hb); (try clear hb2); (try clear hk); (try clear hi); (try clear ho0)))
    go_ret2
    exact ⟨_, _, by first | rfl | (simp [errW_none, errW_some] <;> rfl) | (simp [*, errW_none, errW_some] <;> rfl), by first | exact Kd.R_nil _ _ _ _ _ | exact Kd.N_nil _ _ _ _ _ | exact Kd.V_nil _ _ _ _ _ | exact Kd.Q_nil _ _ _ _ _ | exact Kd.S_nil _ _ _ _ _, by (with_reducible repeat (first | apply Kd.R_alloc | apply Kd.R_drewN | apply Kd.R_drew)); exact Kd.R_mono HO235.out (fun _ hk => (by simp [Value.ownBlock])), by repeat (first | (with_reducible first | exact HB.out | apply below_alloc | apply pw_below_drewN | apply below_drew1) | exact HB.out)⟩
  · rw [if_neg c4] at H
    have c4b0 : decide (t232 < 0) = false := decide_eq_false c4
    clear c4
    by_cases c7 : (l1.length : Int) = 1
    · rw [if_pos c7] at H
      have c7b0 : ((l1.length : Int) == 1) = true := beq_iff_eq.mpr c7
      have c7b1 : ((l1.length : Int) != 1) = false := bne_eq_false_iff_eq.mpr c7
      clear c7
      by_cases c8 : 0 < (l1.length : Int)
      · rw [if_pos c8] at H
        have c8b0 : decide (0 < (l1.length : Int)) = true := decide_eq_true c8
        have c8b1 : decide (0 < l1.length) = true := decide_eq_true (by omega)
        clear c8
        replace H := Option.bind_eq_some_iff.mp H
        obtain ⟨⟨t237, t238⟩, A90, H⟩ := H
        replace H : ((nat_low.f k (([t238] : List Int))).bind fun t244 => (some (t237, t244))) = some (r1, r2) := H
        have A9 := Aside0.mk A90
        clear A90
        obtain ⟨y241, hy241⟩ : ∃ y_ : List Int, y_ = (([t238] : List Int)) := ⟨_, rfl⟩
        replace H : ((nat_low.f k y241).bind fun t244 => (some (t237, t244))) = some (r1, r2) := by first | (rw [hy241]; with_reducible exact H) | (have H2_ := (Option.bind_some _ _).symm.trans H; rw [hy241]; with_reducible exact H2_) | (have H2_ := (Option.bind_some _ _).symm.trans H; with_reducible exact H2_) | with_reducible exact H | (rw [hy241]; exact H) | exact H
        have Ny241 := Aside0.mk hy241
        clear hy241
        replace H := Option.bind_eq_some_iff.mp H
        obtain ⟨t244, A100, H⟩ := H
        replace H : (some (t237, t244)) = some (r1, r2) := H
        have A10 := Aside0.mk A100
        clear A100
        simp only [Option.some.injEq, Prod.mk.injEq] at H
        obtain ⟨rfl, rfl⟩ := H
        go_enter Try.func48, Try.ntmps48
        go_wp2_with (first | ((with_reducible refine gate_callee (f := 42) rfl ?_); refine goesL_ (some 19) rfl rfl Try.func42 (by kernel_rfl) rfl #[.slice A0 l0.length c0, .slice A1 l1.length c1] rfl (by (try simp only [List.map_toArray, List.map_cons, List.map_nil]); first | done | rfl | (simp only [List.length_drop, List.length_take]; rfl)) ?_; (with_reducible refine (nat_cmp.calls k _ _ l0 _ _ l1 t232 _ ?side1 ?side2 ?side3 ?side4 A3.out).mono ?_); (case side1 => repeat (first | exact HR0.out | (with_reducible refine Kd.C_alloc ?_ _) | (with_reducible refine Kd.C_drewN ?_ _) | (with_reducible refine Kd.C_drew ?_))); (case side2 => exact HC0.out); (case side3 => repeat (first | exact HR1.out | (with_reducible refine Kd.C_alloc ?_ _) | (with_reducible refine Kd.C_drewN ?_ _) | (with_reducible refine Kd.C_drew ?_))); (case side4 => exact HC1.out); rintro e w' ⟨rfl, ⟨nd, rfl⟩⟩; refine ⟨_, rfl, ?_⟩; have p236 : 0 ≤ (0 : Int) := (by omega); have q236 : 0 < (l1.length : Int) := of_decide_eq_true (by first | (with_reducible assumption) | assumption); obtain ⟨ad236, e236, hx236_0⟩ := Kd.at_int HR1.out 0 p236 q236; cases e236; have qi236 : (0 < l1.length) = True := eq_true (by omega); (try rw [show ((0 : Int)).toNat = 0 from rfl] at hx236_0); (try rw [Addr.add_zero'] at hx236_0); replace p236 := eq_true p236; replace q236 := eq_true q236) | ((with_reducible refine gate_callee (f := 54) rfl ?_); refine goesL_ (some 31) rfl rfl Try.func54 (by kernel_rfl) rfl #[.slice A0 l0.length c0, .int .u64 (rd l1 0)] rfl (by (try simp only [List.map_toArray, List.map_cons, List.map_nil]); first | done | rfl | (simp only [List.length_drop, List.length_take]; rfl)) ?_; (with_reducible refine (nat_short.calls k _ _ l0 (rd l1 0) t237 t238 _ ?side1 ?side2 A9.out).mono ?_); (case side1 => repeat (first | exact HR0.out | (with_reducible refine Kd.C_alloc ?_ _) | (with_reducible refine Kd.C_drewN ?_ _) | (with_reducible refine Kd.C_drew ?_))); (case side2 => exact HC0.out); rintro e w11 ⟨v239, rfl, ho0, hb⟩; refine ⟨_, rfl, ?_⟩; have n0_ := Aside0.mk (Kd.R_lower ho0 (below_size (by repeat (first | (with_reducible first | exact HB.out | apply below_alloc | apply pw_below_drewN | apply below_drew1) | exact HB.out)))); have n1_ := Aside0.mk (below_step (by repeat (first | (with_reducible first | exact HB.out | apply below_alloc | apply pw_below_drewN | apply below_drew1) | exact HB.out)) hb); clear HB; have HO240 := n0_; have HB := n1_; clear n0_ n1_; (try clear hb); (try clear hb2); (try clear hk); (try clear hi); (try clear ho0)) | ((with_reducible refine gate_dst (N := 36) rfl ?_); refine Kd.R_lit (Kd.int .u64) _ 40 ?hg (N := 36) ?hd (xs := ([t238] : List Int)) (inner := [.int .u64 t238]) (ok := fun _ => True) (okp := fun _ => True) ?hr ?hp (fun _ hk => hk) trivial (Below.refl _ _) (Nat.le_refl _) (by simp) ?_; (case hd => rfl); (case hg => rfl); (case hr => first | (go_simp; done) | (go_simp; rfl)); (case hp => exact (Reps.one (show Kd.M (Kd.int .u64) _ _ _ t238 [.int .u64 t238] from rfl) (Reps.none _ _))); intro v242 w12 ho13 hb hg_ hnew_; clear hg_ hnew_; (first | rw [← Ny241.out] at ho13 | (simp only [Int.reduceToNat] at ho13; rw [← Ny241.out] at ho13)); have n0_ := Aside0.mk (Kd.R_elder' (by (with_reducible repeat (first | apply Kd.R_alloc | apply Kd.R_drewN | apply Kd.R_drew)); exact HO240.out) (Kd.R_base ho13) hb); have n1_ := Aside0.mk (Kd.R_lower (Kd.R_new' ho13 (Kd.R_lt (by (with_reducible repeat (first | apply Kd.R_alloc | apply Kd.R_drewN | apply Kd.R_drew)); exact HO240.out))) (below_size (by repeat (first | (with_reducible first | exact HB.out | apply below_alloc | apply pw_below_drewN | apply below_drew1) | exact HB.out)))); have n2_ := Aside0.mk (below_step (by repeat (first | (with_reducible first | exact HB.out | apply below_alloc | apply pw_below_drewN | apply below_drew1) | exact HB.out)) hb); clear HO240; clear HB; have HO240 := n0_; have HO243 := n1_; have HB := n2_; clear n0_ n1_ n2_; clear hb ho13; obtain ⟨Ao14, co14, eo14⟩ := Kd.R_slice HO243.out; subst eo14) | ((with_reducible refine gate_callee (f := 60) rfl ?_); refine goesL_ (some 37) rfl rfl Try.func60 (by kernel_rfl) rfl #[.slice Ao14 y241.length co14] rfl (by (try simp only [List.map_toArray, List.map_cons, List.map_nil]); first | done | rfl | (simp only [List.length_drop, List.length_take]; rfl)) ?_; (with_reducible refine (nat_low.calls k (fun k_ => some k_ = (.slice Ao14 y241.length co14 : Value).ownBlock) (.slice Ao14 y241.length co14) y241 t244 w _ ?side1 ?side2 A10.out).mono ?_); (case side1 => repeat (first | (with_reducible first | exact HB.out | apply below_alloc | apply pw_below_drewN | apply below_drew1) | exact HB.out)); (case side2 => exact Kd.R_tight rfl HO243.out); rintro e w15 ⟨v245, rfl, ho0, hb, hkp⟩; refine ⟨_, rfl, ?_⟩; have n0_ := Aside0.mk (Kd.R_mono (ok' := fun k_ => some k_ ≠ (v245 : Value).ownBlock) (Kd.R_keptB (HO240.out) hkp (fun k_ hk_ hs_ => (hk_.2) hs_)) (fun k_ hk_ => fun e_ => Or.elim (ho0.1 k_ e_.symm) (fun hs_ => hk_.2.1 hs_) (fun hn_ => Nat.not_le.2 hk_.2.2 hn_))); have n1_ := Aside0.mk (Kd.R_mono (ok' := fun k_ => some k_ ≠ (v239 : Value).ownBlock) ho0 (fun k_ hk_ => Or.elim hk_ (fun hs_ => fun e_ => (((HO240.out).1 k_ e_.symm).2) hs_) (fun hn_ => (Kd.fresh' (Kd.R_lt (by (with_reducible repeat (first | apply Kd.R_alloc | apply Kd.R_drewN | apply Kd.R_drew)); exact HO240.out)) k_ hn_)))); have n2_ := Aside0.mk (hb); clear HO240; clear HB; clear HO243; have HO240 := n0_; have HO246 := n1_; have HB := n2_; clear n0_ n1_ n2_; (try clear hb); (try clear hkp); (try clear ho0)))
        go_ret2
        exact ⟨_, _, by first | rfl | (simp [errW_none, errW_some] <;> rfl) | (simp [*, errW_none, errW_some] <;> rfl), by (with_reducible repeat (first | apply Kd.R_alloc | apply Kd.R_drewN | apply Kd.R_drew)); exact HO240.out, by (with_reducible repeat (first | apply Kd.R_alloc | apply Kd.R_drewN | apply Kd.R_drew)); exact HO246.out, by repeat (first | (with_reducible first | exact HB.out | apply below_alloc | apply pw_below_drewN | apply below_drew1) | exact HB.out)⟩
      · rw [if_neg c8] at H
        exact absurd H (by simp)
    · rw [if_neg c7] at H
      have c7b0 : ((l1.length : Int) == 1) = false := beq_eq_false_iff_ne.mpr c7
      have c7b1 : ((l1.length : Int) != 1) = true := bne_iff_ne.mpr c7
      obtain ⟨ji16, hji16⟩ : ∃ j_ : Int, (wrap64 ((l1.length : Int) - 1)) = j_ := ⟨_, rfl⟩
      replace H : (if 0 ≤ (ji16) then (if (ji16) < (l1.length : Int) then ((bits_LeadingZeros64.f k (rd l1 (ji16))).bind fun t248 => ((nat_shl.f k l1 t248).bind fun t249 => (if 0 ≤ (wrap64 ((l0.length : Int) + 1)) then (if (wrap64 ((l0.length : Int) + 1) : Int).toNat ≤ 35184372088832 then ((some (List.replicate (wrap64 ((l0.length : Int) + 1) : Int).toNat 0 : List Int)).bind fun y252 => ((nat_shl.f k l0 t248).bind fun t255 => ((copyTo.f y252 t255).bind fun bt258 => (if 0 ≤ (wrap64 ((y252.length : Int) - (t249.length : Int))) then (if (wrap64 ((y252.length : Int) - (t249.length : Int)) : Int).toNat ≤ 35184372088832 then ((some (List.replicate (wrap64 ((y252.length : Int) - (t249.length : Int)) : Int).toNat 0 : List Int)).bind fun y260 => (nat_divide.l0 k t248 t249 bt258.2 (t249.length : Int) y260 (y260.length : Int) 0)) else (none)) else (none))))) else (none)) else (none)))) else (none)) else (none)) = some (r1, r2) := by first | (rw [hji16] at H; exact H) | (simp only [hji16] at H ⊢; exact H)
      (try rw [hji16] at A3)
      have hji16w : (IntKind.i64.wrap ((l1.length : Int) - 1)) = ji16 := (i64_w _).trans hji16
      by_cases c17 : 0 ≤ (ji16)
      · rw [if_pos c17] at H
        have c17b0 : decide (0 ≤ (ji16)) = true := decide_eq_true c17
        clear c17
        by_cases c18 : (ji16) < (l1.length : Int)
        · rw [if_pos c18] at H
          have c18b0 : decide ((ji16) < (l1.length : Int)) = true := decide_eq_true c18
          clear c18
          replace H := Option.bind_eq_some_iff.mp H
          obtain ⟨t248, A190, H⟩ := H
          replace H : ((nat_shl.f k l1 t248).bind fun t249 => (if 0 ≤ (wrap64 ((l0.length : Int) + 1)) then (if (wrap64 ((l0.length : Int) + 1) : Int).toNat ≤ 35184372088832 then ((some (List.replicate (wrap64 ((l0.length : Int) + 1) : Int).toNat 0 : List Int)).bind fun y252 => ((nat_shl.f k l0 t248).bind fun t255 => ((copyTo.f y252 t255).bind fun bt258 => (if 0 ≤ (wrap64 ((y252.length : Int) - (t249.length : Int))) then (if (wrap64 ((y252.length : Int) - (t249.length : Int)) : Int).toNat ≤ 35184372088832 then ((some (List.replicate (wrap64 ((y252.length : Int) - (t249.length : Int)) : Int).toNat 0 : List Int)).bind fun y260 => (nat_divide.l0 k t248 t249 bt258.2 (t249.length : Int) y260 (y260.length : Int) 0)) else (none)) else (none))))) else (none)) else (none))) = some (r1, r2) := H
          have A19 := Aside0.mk A190
          clear A190
          replace H := Option.bind_eq_some_iff.mp H
          obtain ⟨t249, A200, H⟩ := H
          replace H : (if 0 ≤ (wrap64 ((l0.length : Int) + 1)) then (if (wrap64 ((l0.length : Int) + 1) : Int).toNat ≤ 35184372088832 then ((some (List.replicate (wrap64 ((l0.length : Int) + 1) : Int).toNat 0 : List Int)).bind fun y252 => ((nat_shl.f k l0 t248).bind fun t255 => ((copyTo.f y252 t255).bind fun bt258 => (if 0 ≤ (wrap64 ((y252.length : Int) - (t249.length : Int))) then (if (wrap64 ((y252.length : Int) - (t249.length : Int)) : Int).toNat ≤ 35184372088832 then ((some (List.replicate (wrap64 ((y252.length : Int) - (t249.length : Int)) : Int).toNat 0 : List Int)).bind fun y260 => (nat_divide.l0 k t248 t249 bt258.2 (t249.length : Int) y260 (y260.length : Int) 0)) else (none)) else (none))))) else (none)) else (none)) = some (r1, r2) := H
          have A20 := Aside0.mk A200
          clear A200
          obtain ⟨ji21, hji21⟩ : ∃ j_ : Int, (wrap64 ((l0.length : Int) + 1)) = j_ := ⟨_, rfl⟩
          replace H : (if 0 ≤ (ji21) then (if (ji21 : Int).toNat ≤ 35184372088832 then ((some (List.replicate (ji21 : Int).toNat 0 : List Int)).bind fun y252 => ((nat_shl.f k l0 t248).bind fun t255 => ((copyTo.f y252 t255).bind fun bt258 => (if 0 ≤ (wrap64 ((y252.length : Int) - (t249.length : Int))) then (if (wrap64 ((y252.length : Int) - (t249.length : Int)) : Int).toNat ≤ 35184372088832 then ((some (List.replicate (wrap64 ((y252.length : Int) - (t249.length : Int)) : Int).toNat 0 : List Int)).bind fun y260 => (nat_divide.l0 k t248 t249 bt258.2 (t249.length : Int) y260 (y260.length : Int) 0)) else (none)) else (none))))) else (none)) else (none)) = some (r1, r2) := by first | (rw [hji21] at H; exact H) | (simp only [hji21] at H ⊢; exact H)
          (try rw [hji21] at A3)
          (try rw [hji21] at A19)
          (try rw [hji21] at A20)
          have hji21w : (IntKind.i64.wrap ((l0.length : Int) + 1)) = ji21 := (i64_w _).trans hji21
          by_cases c22 : 0 ≤ (ji21)
          · rw [if_pos c22] at H
            have c22b0 := eq_true c22
            have c22b1 : decide (0 ≤ (ji21)) = true := decide_eq_true c22
            clear c22
            by_cases c23 : (ji21 : Int).toNat ≤ 35184372088832
            · rw [if_pos c23] at H
              have c23b0 := eq_true c23
              have c23b1 : decide ((ji21 : Int).toNat ≤ 35184372088832) = true := decide_eq_true c23
              clear c23
              obtain ⟨y252, hy252⟩ : ∃ y_ : List Int, y_ = (List.replicate (ji21 : Int).toNat 0) := ⟨_, rfl⟩
              replace H : ((nat_shl.f k l0 t248).bind fun t255 => ((copyTo.f y252 t255).bind fun bt258 => (if 0 ≤ (wrap64 ((y252.length : Int) - (t249.length : Int))) then (if (wrap64 ((y252.length : Int) - (t249.length : Int)) : Int).toNat ≤ 35184372088832 then ((some (List.replicate (wrap64 ((y252.length : Int) - (t249.length : Int)) : Int).toNat 0 : List Int)).bind fun y260 => (nat_divide.l0 k t248 t249 bt258.2 (t249.length : Int) y260 (y260.length : Int) 0)) else (none)) else (none)))) = some (r1, r2) := by first | (rw [hy252]; with_reducible exact H) | (have H2_ := (Option.bind_some _ _).symm.trans H; rw [hy252]; with_reducible exact H2_) | (have H2_ := (Option.bind_some _ _).symm.trans H; with_reducible exact H2_) | with_reducible exact H | (rw [hy252]; exact H) | exact H
              have Ny252 := Aside0.mk hy252
              clear hy252
              replace H := Option.bind_eq_some_iff.mp H
              obtain ⟨t255, A240, H⟩ := H
              replace H : ((copyTo.f y252 t255).bind fun bt258 => (if 0 ≤ (wrap64 ((y252.length : Int) - (t249.length : Int))) then (if (wrap64 ((y252.length : Int) - (t249.length : Int)) : Int).toNat ≤ 35184372088832 then ((some (List.replicate (wrap64 ((y252.length : Int) - (t249.length : Int)) : Int).toNat 0 : List Int)).bind fun y260 => (nat_divide.l0 k t248 t249 bt258.2 (t249.length : Int) y260 (y260.length : Int) 0)) else (none)) else (none))) = some (r1, r2) := H
              have A24 := Aside0.mk A240
              clear A240
              replace H := Option.bind_eq_some_iff.mp H
              obtain ⟨⟨t258, t259⟩, A250, H⟩ := H
              replace H : (if 0 ≤ (wrap64 ((y252.length : Int) - (t249.length : Int))) then (if (wrap64 ((y252.length : Int) - (t249.length : Int)) : Int).toNat ≤ 35184372088832 then ((some (List.replicate (wrap64 ((y252.length : Int) - (t249.length : Int)) : Int).toNat 0 : List Int)).bind fun y260 => (nat_divide.l0 k t248 t249 t259 (t249.length : Int) y260 (y260.length : Int) 0)) else (none)) else (none)) = some (r1, r2) := H
              have A25 := Aside0.mk A250
              clear A250
              obtain ⟨ji26, hji26⟩ : ∃ j_ : Int, (wrap64 ((y252.length : Int) - (t249.length : Int))) = j_ := ⟨_, rfl⟩
              replace H : (if 0 ≤ (ji26) then (if (ji26 : Int).toNat ≤ 35184372088832 then ((some (List.replicate (ji26 : Int).toNat 0 : List Int)).bind fun y260 => (nat_divide.l0 k t248 t249 t259 (t249.length : Int) y260 (y260.length : Int) 0)) else (none)) else (none)) = some (r1, r2) := by first | (rw [hji26] at H; exact H) | (simp only [hji26] at H ⊢; exact H)
              (try rw [hji26] at A3)
              (try rw [hji26] at A19)
              (try rw [hji26] at A20)
              (try rw [hji26] at A24)
              (try rw [hji26] at A25)
              have hji26w : (IntKind.i64.wrap ((y252.length : Int) - (t249.length : Int))) = ji26 := (i64_w _).trans hji26
              by_cases c27 : 0 ≤ (ji26)
              · rw [if_pos c27] at H
                have c27b0 := eq_true c27
                have c27b1 : decide (0 ≤ (ji26)) = true := decide_eq_true c27
                clear c27
                by_cases c28 : (ji26 : Int).toNat ≤ 35184372088832
                · rw [if_pos c28] at H
                  have c28b0 := eq_true c28
                  have c28b1 : decide ((ji26 : Int).toNat ≤ 35184372088832) = true := decide_eq_true c28
                  clear c28
                  obtain ⟨y260, hy260⟩ : ∃ y_ : List Int, y_ = (List.replicate (ji26 : Int).toNat 0) := ⟨_, rfl⟩
                  replace H : (nat_divide.l0 k t248 t249 t259 (t249.length : Int) y260 (y260.length : Int) 0) = some (r1, r2) := by first | (rw [hy260]; with_reducible exact H) | (have H2_ := (Option.bind_some _ _).symm.trans H; rw [hy260]; with_reducible exact H2_) | (have H2_ := (Option.bind_some _ _).symm.trans H; with_reducible exact H2_) | with_reducible exact H | (rw [hy260]; exact H) | exact H
                  have Ny260 := Aside0.mk hy260
                  clear hy260
                  have H' := Aside0.mk H
                  clear H
                  go_enter Try.func48, Try.ntmps48
                  go_wp2_with (first | ((with_reducible refine gate_callee (f := 42) rfl ?_); refine goesL_ (some 19) rfl rfl Try.func42 (by kernel_rfl) rfl #[.slice A0 l0.length c0, .slice A1 l1.length c1] rfl (by (try simp only [List.map_toArray, List.map_cons, List.map_nil]); first | done | rfl | (simp only [List.length_drop, List.length_take]; rfl)) ?_; (with_reducible refine (nat_cmp.calls k _ _ l0 _ _ l1 t232 _ ?side1 ?side2 ?side3 ?side4 A3.out).mono ?_); (case side1 => repeat (first | exact HR0.out | (with_reducible refine Kd.C_alloc ?_ _) | (with_reducible refine Kd.C_drewN ?_ _) | (with_reducible refine Kd.C_drew ?_))); (case side2 => exact HC0.out); (case side3 => repeat (first | exact HR1.out | (with_reducible refine Kd.C_alloc ?_ _) | (with_reducible refine Kd.C_drewN ?_ _) | (with_reducible refine Kd.C_drew ?_))); (case side4 => exact HC1.out); rintro e w' ⟨rfl, ⟨nd, rfl⟩⟩; refine ⟨_, rfl, ?_⟩; have p247 : 0 ≤ ((ji16) : Int) := of_decide_eq_true (by first | (with_reducible assumption) | assumption); have q247 : (ji16) < (l1.length : Int) := of_decide_eq_true (by first | (with_reducible assumption) | assumption); obtain ⟨ad247, e247, hx247_0⟩ := Kd.at_int HR1.out (ji16) p247 q247; cases e247; replace p247 := eq_true p247; replace q247 := eq_true q247) | ((with_reducible refine gate_callee (f := 64) rfl ?_); refine goesL_ (some 44) rfl rfl Try.func64 (by kernel_rfl) rfl #[.int .u64 (rd l1 (ji16))] rfl (by (try simp only [List.map_toArray, List.map_cons, List.map_nil]); first | done | (simp only [hji16]; rfl) | rfl | (simp only [List.length_drop, List.length_take]; rfl)) ?_; (with_reducible refine (bits_LeadingZeros64.calls k (rd l1 (ji16)) t248 _ A19.out).mono ?_); rintro e w' ⟨rfl, ⟨nd, rfl⟩⟩; refine ⟨_, rfl, ?_⟩) | ((with_reducible refine gate_callee (f := 52) rfl ?_); refine goesL_ (some 47) rfl rfl Try.func52 (by kernel_rfl) rfl #[.slice (some ad247) l1.length c1, .int .i64 t248] rfl (by (try simp only [List.map_toArray, List.map_cons, List.map_nil]); first | done | rfl | (simp only [List.length_drop, List.length_take]; rfl)) ?_; (with_reducible refine (nat_shl.calls k _ _ l1 t248 t249 _ ?side1 ?side2 A20.out).mono ?_); (case side1 => repeat (first | exact HR1.out | (with_reducible refine Kd.C_alloc ?_ _) | (with_reducible refine Kd.C_drewN ?_ _) | (with_reducible refine Kd.C_drew ?_))); (case side2 => exact HC1.out); rintro e w29 ⟨v250, rfl, ho0, hb⟩; refine ⟨_, rfl, ?_⟩; have n0_ := Aside0.mk (Kd.R_lower ho0 (below_size (by repeat (first | (with_reducible first | exact HB.out | apply below_alloc | apply pw_below_drewN | apply below_drew1) | exact HB.out)))); have n1_ := Aside0.mk (below_step (by repeat (first | (with_reducible first | exact HB.out | apply below_alloc | apply pw_below_drewN | apply below_drew1) | exact HB.out)) hb); clear HB; have HO251 := n0_; have HB := n1_; clear n0_ n1_; (try clear hb); (try clear hb2); (try clear hk); (try clear hi); (try clear ho0)) | ((with_reducible refine gate_dst (N := 51) rfl ?_); refine Kd.R_make (Kd.int .u64) _ 40 rfl (N := 51) rfl 22 _ _ rfl ji21 rfl rfl Try.underlying22 (.int .u64 0) 8 info40 rfl (by decide) (by omega) 0 (ok := fun _ => True) (okp := fun _ => True) rfl (fun _ hk => hk) trivial (of_decide_eq_true (by first | (with_reducible assumption) | assumption)) (Nat.le_trans (Nat.mul_le_mul_right _ (of_decide_eq_true (by first | (with_reducible assumption) | assumption) : ji21.toNat ≤ 35184372088832)) (by omega)) (Below.refl _ _) (Nat.le_refl _) ?_; intro v253 w30 ho31 hb hg_ hnew_; clear hg_ hnew_; (first | rw [← Ny252.out] at ho31 | (simp only [Int.reduceToNat] at ho31; rw [← Ny252.out] at ho31)); have n0_ := Aside0.mk (Kd.R_elder' (by (with_reducible repeat (first | apply Kd.R_alloc | apply Kd.R_drewN | apply Kd.R_drew)); exact HO251.out) (Kd.R_base ho31) hb); have n1_ := Aside0.mk (Kd.R_lower (Kd.R_new' ho31 (Kd.R_lt (by (with_reducible repeat (first | apply Kd.R_alloc | apply Kd.R_drewN | apply Kd.R_drew)); exact HO251.out))) (below_size (by repeat (first | (with_reducible first | exact HB.out | apply below_alloc | apply pw_below_drewN | apply below_drew1) | exact HB.out)))); have n2_ := Aside0.mk (below_step (by repeat (first | (with_reducible first | exact HB.out | apply below_alloc | apply pw_below_drewN | apply below_drew1) | exact HB.out)) hb); clear HO251; clear HB; have HO251 := n0_; have HO254 := n1_; have HB := n2_; clear n0_ n1_ n2_; clear hb ho31) | ((with_reducible refine gate_callee (f := 52) rfl ?_); refine goesL_ (some 55) rfl rfl Try.func52 (by kernel_rfl) rfl #[.slice A0 l0.length c0, .int .i64 t248] rfl (by (try simp only [List.map_toArray, List.map_cons, List.map_nil]); first | done | rfl | (simp only [List.length_drop, List.length_take]; rfl)) ?_; (with_reducible refine (nat_shl.calls k _ _ l0 t248 t255 _ ?side1 ?side2 A24.out).mono ?_); (case side1 => repeat (first | exact (Kd.C_below HR0.out HB.out) | (with_reducible refine Kd.C_alloc ?_ _) | (with_reducible refine Kd.C_drewN ?_ _) | (with_reducible refine Kd.C_drew ?_))); (case side2 => exact HC0.out); rintro e w32 ⟨v256, rfl, ho0, hb⟩; refine ⟨_, rfl, ?_⟩; have n0_ := Aside0.mk (Kd.R_elder' (by (with_reducible repeat (first | apply Kd.R_alloc | apply Kd.R_drewN | apply Kd.R_drew)); exact HO251.out) (Kd.R_base ho0) hb); have n1_ := Aside0.mk (Kd.R_elder' (by (with_reducible repeat (first | apply Kd.R_alloc | apply Kd.R_drewN | apply Kd.R_drew)); exact HO254.out) (Kd.R_base ho0) hb); have n2_ := Aside0.mk (Kd.R_lower (Kd.R_new' (Kd.R_new' ho0 (Kd.R_lt (by (with_reducible repeat (first | apply Kd.R_alloc | apply Kd.R_drewN | apply Kd.R_drew)); exact HO251.out))) (Kd.R_lt (by (with_reducible repeat (first | apply Kd.R_alloc | apply Kd.R_drewN | apply Kd.R_drew)); exact HO254.out))) (below_size (by repeat (first | (with_reducible first | exact HB.out | apply below_alloc | apply pw_below_drewN | apply below_drew1) | exact HB.out)))); have n3_ := Aside0.mk (below_step (by repeat (first | (with_reducible first | exact HB.out | apply below_alloc | apply pw_below_drewN | apply below_drew1) | exact HB.out)) hb); clear HO251; clear HO254; clear HB; have HO251 := n0_; have HO254 := n1_; have HO257 := n2_; have HB := n3_; clear n0_ n1_ n2_ n3_; (try clear hb); (try clear hb2); (try clear hk); (try clear hi); (try clear ho0); obtain ⟨Ao33, co33, eo33⟩ := Kd.R_slice HO254.out; subst eo33; obtain ⟨Ao34, co34, eo34⟩ := Kd.R_slice HO257.out; subst eo34) | ((with_reducible refine gate_dst (N := 56) rfl ?_); refine goesB_ (some 56) rfl rfl #[.slice Ao33 y252.length co33, .slice Ao34 t255.length co34] rfl (by (try simp only [List.map_toArray, List.map_cons, List.map_nil]); first | done | rfl | (simp only [List.length_drop, List.length_take]; rfl)) ?_; (with_reducible refine (copyTo.calls (fun k_ => some k_ = (.slice Ao33 y252.length co33 : Value).ownBlock) (.slice Ao33 y252.length co33) y252 _ _ t255 t258 t259 w _ ?side1 ?side2 ?side3 ?side4 A25.out).mono ?_); (case side1 => repeat (first | (with_reducible first | exact HB.out | apply below_alloc | apply pw_below_drewN | apply below_drew1) | exact HB.out)); (case side2 => exact Kd.R_tight rfl HO254.out); (case side3 => exact Kd.C_kept_own (HO257.out) (fun k_ hk_ hs_ => (hk_.2) hs_)); (case side4 => exact (Kd.R_reads' HO257.out).2.1); rintro e w35 ⟨rfl, hy0, hb, hkp⟩; refine ⟨_, rfl, ?_⟩; have n0_ := Aside0.mk (Kd.R_mono (ok' := fun k_ => some k_ ≠ (.slice Ao33 y252.length co33 : Value).ownBlock ∧ some k_ ≠ (.slice Ao34 t255.length co34 : Value).ownBlock) (Kd.R_keptB (HO251.out) hkp (fun k_ hk_ hs_ => (hk_.1.2) hs_)) (fun k_ hk_ => ⟨hk_.1.1.2, hk_.1.2⟩)); have n1_ := Aside0.mk (Kd.R_reok rfl hy0 (fun k_ e_ => HO254.out.1 k_ e_)); have n2_ := Aside0.mk (Kd.R_mono (ok' := fun k_ => some k_ ≠ (v250 : Value).ownBlock ∧ some k_ ≠ (.slice Ao33 y252.length co33 : Value).ownBlock) (Kd.R_keptB (HO257.out) hkp (fun k_ hk_ hs_ => (hk_.2) hs_)) (fun k_ hk_ => ⟨hk_.1.1.2, hk_.1.2⟩)); have n3_ := Aside0.mk (hb); clear HO251; clear HO254; clear HO257; clear HB; have HO251 := n0_; have HO254 := n1_; have HO257 := n2_; have HB := n3_; clear n0_ n1_ n2_ n3_; (try clear hb); (try clear hkp); (try clear hy0); obtain ⟨Ao36, co36, eo36⟩ := Kd.R_slice HO251.out; subst eo36) | ((with_reducible refine gate_dst (N := 63) rfl ?_); refine Kd.R_make (Kd.int .u64) _ 40 rfl (N := 63) rfl 22 _ _ rfl ji26 rfl rfl Try.underlying22 (.int .u64 0) 8 info40 rfl (by decide) (by omega) 0 (ok := fun _ => True) (okp := fun _ => True) rfl (fun _ hk => hk) trivial (of_decide_eq_true (by first | (with_reducible assumption) | assumption)) (Nat.le_trans (Nat.mul_le_mul_right _ (of_decide_eq_true (by first | (with_reducible assumption) | assumption) : ji26.toNat ≤ 35184372088832)) (by omega)) (Below.refl _ _) (Nat.le_refl _) ?_; intro v261 w37 ho38 hb hg_ hnew_; clear hg_ hnew_; (first | rw [← Ny260.out] at ho38 | (simp only [Int.reduceToNat] at ho38; rw [← Ny260.out] at ho38)); have n0_ := Aside0.mk (Kd.R_elder' (by (with_reducible repeat (first | apply Kd.R_alloc | apply Kd.R_drewN | apply Kd.R_drew)); exact HO251.out) (Kd.R_base ho38) hb); have n1_ := Aside0.mk (Kd.R_elder' (by (with_reducible repeat (first | apply Kd.R_alloc | apply Kd.R_drewN | apply Kd.R_drew)); exact HO254.out) (Kd.R_base ho38) hb); have n2_ := Aside0.mk (Kd.R_elder' (by (with_reducible repeat (first | apply Kd.R_alloc | apply Kd.R_drewN | apply Kd.R_drew)); exact HO257.out) (Kd.R_base ho38) hb); have n3_ := Aside0.mk (Kd.R_lower (Kd.R_new' (Kd.R_new' (Kd.R_new' ho38 (Kd.R_lt (by (with_reducible repeat (first | apply Kd.R_alloc | apply Kd.R_drewN | apply Kd.R_drew)); exact HO251.out))) (Kd.R_lt (by (with_reducible repeat (first | apply Kd.R_alloc | apply Kd.R_drewN | apply Kd.R_drew)); exact HO254.out))) (Kd.R_lt (by (with_reducible repeat (first | apply Kd.R_alloc | apply Kd.R_drewN | apply Kd.R_drew)); exact HO257.out))) (below_size (by repeat (first | (with_reducible first | exact HB.out | apply below_alloc | apply pw_below_drewN | apply below_drew1) | exact HB.out)))); have n4_ := Aside0.mk (below_step (by repeat (first | (with_reducible first | exact HB.out | apply below_alloc | apply pw_below_drewN | apply below_drew1) | exact HB.out)) hb); clear HO251; clear HO254; clear HO257; clear HB; have HO251 := n0_; have HO254 := n1_; have HO257 := n2_; have HO262 := n3_; have HB := n4_; clear n0_ n1_ n2_ n3_ n4_; clear hb ho38; obtain ⟨Ao39, co39, eo39⟩ := Kd.R_slice HO262.out; subst eo39))
                  go_loopg [66] k (fun kq v66 w' => ∃ (x10_1 : List Int) (x12_1 : List Int) (x66_1 : Int), v66 = .int .i64 x66_1 ∧ Aside0 (nat_divide.l0 kq t248 t249 x10_1 (t249.length : Int) x12_1 (y260.length : Int) x66_1 = some (r1, r2)) ∧ Aside0 (kq ≤ k) ∧ Aside0 (Kd.R (Kd.int .u64) 40 w' w.heap.size (fun k_ => some k_ ≠ ((.slice Ao33 y252.length co33) : Value).ownBlock ∧ some k_ ≠ ((.slice Ao39 y260.length co39) : Value).ownBlock) (.slice Ao36 t249.length co36) t249) ∧ Aside0 (Kd.R (Kd.int .u64) 40 w' w.heap.size (fun k_ => some k_ ≠ ((.slice Ao36 t249.length co36) : Value).ownBlock ∧ some k_ ≠ ((.slice Ao39 y260.length co39) : Value).ownBlock) (.slice Ao33 y252.length co33) x10_1) ∧ Aside0 (Kd.R (Kd.int .u64) 40 w' w.heap.size (fun k_ => some k_ ≠ ((.slice Ao36 t249.length co36) : Value).ownBlock ∧ some k_ ≠ ((.slice Ao33 y252.length co33) : Value).ownBlock) (.slice Ao39 y260.length co39) x12_1) ∧ Aside0 (Below w.heap.size w w'))
                  case atStart => exact ⟨(t259), (y260), (0), (by first | rfl | (simp; done) | (simp [*]; done)), H', ⟨Nat.le_refl _⟩, ⟨by (with_reducible repeat (first | apply Kd.R_alloc | apply Kd.R_drewN | apply Kd.R_drew)); exact Kd.R_mono HO251.out (fun _ hk => ⟨hk.1.1, hk.2⟩)⟩, ⟨by (with_reducible repeat (first | apply Kd.R_alloc | apply Kd.R_drewN | apply Kd.R_drew)); exact Kd.R_mono HO254.out (fun _ hk => ⟨hk.1.1.2, hk.2⟩)⟩, ⟨by (with_reducible repeat (first | apply Kd.R_alloc | apply Kd.R_drewN | apply Kd.R_drew)); exact Kd.R_mono HO262.out (fun _ hk => ⟨hk.1.1.2, hk.1.2⟩)⟩, ⟨by repeat (first | (with_reducible first | exact HB.out | apply below_alloc | apply pw_below_drewN | apply below_drew1) | exact HB.out)⟩⟩
                  case round =>
                    clear H'
                    try clear c1
                    try clear c2
                    try clear p2
                    try clear q2
                    try clear hx2
                    try clear qi2
                    try clear c4
                    try clear c4b0
                    try clear c5
                    try clear c6
                    try clear p6
                    try clear c7
                    try clear c7b0
                    try clear c7b1
                    try clear c8
                    try clear c8b0
                    try clear c8b1
                    try clear c17
                    try clear c17b0
                    try clear c18
                    try clear c18b0
                    try clear c22
                    try clear c22b0
                    try clear c22b1
                    try clear c23
                    try clear c23b0
                    try clear c23b1
                    try clear p23
                    try clear q23
                    try clear hx23
                    try clear qi23
                    try clear p24
                    try clear q24
                    try clear hx24
                    try clear c27
                    try clear c27b0
                    try clear c27b1
                    try clear c28
                    try clear c28b0
                    try clear c28b1
                    try clear hx236_0
                    try clear hx247_0
                    try clear p236
                    try clear p247
                    try clear q236
                    try clear q247
                    obtain ⟨x10_1, x12_1, x66_1, rfl, HA, HK1, HO_9, HO_10, HO_12, HB⟩ := hrel
                    have hl10_1 := (Kd.R_reads' HO_10.out).1
                    rw [hl10_1] at HO_10
                    (try simp only [hl10_1])
                    (try simp only [hl10_1] at HO_9)
                    (try simp only [hl10_1] at HO_12)
                    have hl12_1 := (Kd.R_reads' HO_12.out).1
                    rw [hl12_1] at HO_12
                    (try simp only [hl12_1])
                    (try simp only [hl12_1] at HO_9)
                    (try simp only [hl12_1] at HO_10)
                    cases gk with
                    | zero => exact absurd HA.out (by simp [nat_divide.l0])
                    | succ k1 =>
                      have H := HA.out
                      clear HA
                      simp only [nat_divide.l0] at H
                      by_cases c40 : x66_1 < (y260.length : Int)
                      · rw [if_pos c40] at H
                        have c40b0 : decide (x66_1 < (y260.length : Int)) = true := decide_eq_true c40
                        (try (have c40h0 := c40b0; simp only [hl10_1, hl12_1] at c40h0))
                        clear c40
                        obtain ⟨ji41, hji41⟩ : ∃ j_ : Int, (wrap64 ((wrap64 ((x12_1.length : Int) - 1)) - x66_1)) = j_ := ⟨_, rfl⟩
                        replace H : (if 0 ≤ (ji41) then (if (ji41) ≤ (wrap64 ((wrap64 ((ji41) + (t249.length : Int))) + 1)) then (if (wrap64 ((wrap64 ((ji41) + (t249.length : Int))) + 1)) ≤ (x10_1.length : Int) then ((nat_step.f k1 x10_1 (ji41) (wrap64 ((wrap64 ((ji41) + (t249.length : Int))) + 1)) t249).bind fun bt267 => (if (ji41) < (x12_1.length : Int) then (nat_divide.l0 k1 t248 t249 bt267.2 (t249.length : Int) (x12_1.set ((ji41) : Int).toNat bt267.1) (y260.length : Int) (wrap64 (x66_1 + 1))) else (none))) else (none)) else (none)) else (none)) = some (r1, r2) := by first | (rw [hji41] at H; exact H) | (simp only [hji41] at H ⊢; exact H)
                        have hji41w : (IntKind.i64.wrap ((wrap64 ((x12_1.length : Int) - 1)) - x66_1)) = ji41 := (i64_w _).trans hji41
                        by_cases c42 : 0 ≤ (ji41)
                        · rw [if_pos c42] at H
                          have c42b0 := eq_true c42
                          have c42b1 : decide (0 ≤ (ji41)) = true := decide_eq_true c42
                          clear c42
                          by_cases c43 : (ji41) ≤ (wrap64 ((wrap64 ((ji41) + (t249.length : Int))) + 1))
                          · rw [if_pos c43] at H
                            have c43b0 := eq_true c43
                            have c43b1 : decide ((ji41) ≤ (wrap64 ((wrap64 ((ji41) + (t249.length : Int))) + 1))) = true := decide_eq_true c43
                            by_cases c44 : (wrap64 ((wrap64 ((ji41) + (t249.length : Int))) + 1)) ≤ (x10_1.length : Int)
                            · rw [if_pos c44] at H
                              have c44b0 := eq_true c44
                              have c44b1 : decide ((wrap64 ((wrap64 ((ji41) + (t249.length : Int))) + 1)) ≤ (x10_1.length : Int)) = true := decide_eq_true c44
                              obtain ⟨y263, hy263⟩ : ∃ y_ : List Int, y_ = ((x10_1.take ((wrap64 ((wrap64 ((ji41) + (t249.length : Int))) + 1)) : Int).toNat).drop ((ji41) : Int).toNat) := ⟨_, rfl⟩
                              replace H : ((nat_step.f k1 x10_1 (ji41) (wrap64 ((wrap64 ((ji41) + (t249.length : Int))) + 1)) t249).bind fun bt267 => (if (ji41) < (x12_1.length : Int) then (nat_divide.l0 k1 t248 t249 bt267.2 (t249.length : Int) (x12_1.set ((ji41) : Int).toNat bt267.1) (y260.length : Int) (wrap64 (x66_1 + 1))) else (none))) = some (r1, r2) := by first | (rw [hy263]; with_reducible exact H) | (have H2_ := (Option.bind_some _ _).symm.trans H; rw [hy263]; with_reducible exact H2_) | (have H2_ := (Option.bind_some _ _).symm.trans H; with_reducible exact H2_) | with_reducible exact H | (rw [hy263]; exact H) | exact H
                              have Ny263 := Aside0.mk hy263
                              clear hy263
                              replace H := Option.bind_eq_some_iff.mp H
                              obtain ⟨⟨t267, t268⟩, A450, H⟩ := H
                              replace H : (if (ji41) < (x12_1.length : Int) then (nat_divide.l0 k1 t248 t249 t268 (t249.length : Int) (x12_1.set ((ji41) : Int).toNat t267) (y260.length : Int) (wrap64 (x66_1 + 1))) else (none)) = some (r1, r2) := H
                              have A45 := Aside0.mk A450
                              clear A450
                              by_cases c46 : (ji41) < (x12_1.length : Int)
                              · rw [if_pos c46] at H
                                have c46b0 : decide ((ji41) < (x12_1.length : Int)) = true := decide_eq_true c46
                                (try (have c46h0 := c46b0; simp only [hl10_1, hl12_1] at c46h0))
                                clear c46
                                obtain ⟨y269, hy269⟩ : ∃ y_ : List Int, y_ = (x12_1.set ((ji41) : Int).toNat t267) := ⟨_, rfl⟩
                                replace H : (nat_divide.l0 k1 t248 t249 t268 (t249.length : Int) y269 (y260.length : Int) (wrap64 (x66_1 + 1))) = some (r1, r2) := by first | (rw [hy269]; with_reducible exact H) | (have H2_ := (Option.bind_some _ _).symm.trans H; rw [hy269]; with_reducible exact H2_) | (have H2_ := (Option.bind_some _ _).symm.trans H; with_reducible exact H2_) | with_reducible exact H | (rw [hy269]; exact H) | exact H
                                have Ny269 := Aside0.mk hy269
                                clear hy269
                                have H' := Aside0.mk H
                                clear H
                                have q48 : ((wrap64 ((wrap64 ((ji41) + (t249.length : Int))) + 1)) : Int) ≤ ((x10_1.length : Int) : Int) := of_decide_eq_true (by first | (with_reducible assumption) | assumption)
                                obtain ⟨i048, hi048, _, hsz48, _⟩ := info_parts info40
                                have hroom48 : x10_1.length ≤ co33 := (Kd.R_reads' HO_10.out).2.1
                                have hC48 : Kd.C (Kd.int .u64) _ Ao33 x10_1.length x10_1 := (Kd.R_reads' HO_10.out).2.2
                                have ql48 : ((ji41) : Int) ≤ ((wrap64 ((wrap64 ((ji41) + (t249.length : Int))) + 1)) : Int) := of_decide_eq_true (by first | (with_reducible assumption) | assumption)
                                have q048 : (0 : Int) ≤ ((ji41) : Int) := of_decide_eq_true (by first | (with_reducible assumption) | assumption)
                                have hcut48 := cut_mid (P := Try.prog) 22 40 .i64 .i64 Try.underlying22 hi048 1 hsz48 Ao33 x10_1.length co33 (ji41) (wrap64 ((wrap64 ((ji41) + (t249.length : Int))) + 1)) q048 ql48 q48 hroom48
                                have hr48 := Kd.C_mid (lo := ((ji41) : Int).toNat) (hi := ((wrap64 ((wrap64 ((ji41) + (t249.length : Int))) + 1)) : Int).toNat) (c := co33) hC48 (by omega) (by omega) hroom48
                                obtain ⟨A48, hA48⟩ : ∃ A1, A1 = (if co33 = ((ji41) : Int).toNat then Ao33 else (Ao33 : Option Addr).map (·.add (((ji41) : Int).toNat * 1))) := ⟨_, rfl⟩
                                obtain ⟨c48, hc48⟩ : ∃ c1, c1 = co33 - ((ji41) : Int).toNat := ⟨_, rfl⟩
                                have hy48 : y263.length = ((wrap64 ((wrap64 ((ji41) + (t249.length : Int))) + 1)) : Int).toNat - ((ji41) : Int).toNat := (by rw [Ny263.out, List.length_drop, List.length_take] <;> omega)
                                rw [show ((x10_1).take ((wrap64 ((wrap64 ((ji41) + (t249.length : Int))) + 1)) : Int).toNat).drop ((ji41) : Int).toNat = y263 from Ny263.out.symm] at hr48
                                replace hr48 : Kd.C (Kd.int .u64) _ A48 y263.length y263 := (by rw [hA48]; exact hr48)
                                rw [← hy48, ← hA48, ← hc48] at hcut48
                                have HR266 := Aside0.mk hr48
                                have HC266 := Aside0.mk (show y263.length ≤ c48 from by rw [hy48, hc48]; exact Nat.sub_le_sub_right (Nat.le_trans (by omega) hroom48) _)
                                clear hr48 hC48 hroom48 hi048 hsz48 hc48
                                have KY48 := Aside0.mk hy48
                                have KA48 := Aside0.mk hA48
                                clear hy48 hA48
                                have KL48 := Aside0.mk (show ((wrap64 ((wrap64 ((ji41) + (t249.length : Int))) + 1)) : Int).toNat ≤ x10_1.length from by omega)
                                have KM48 := Aside0.mk (show ((ji41) : Int).toNat ≤ ((wrap64 ((wrap64 ((ji41) + (t249.length : Int))) + 1)) : Int).toNat from by omega)
                                replace q48 := eq_true q48
                                go_wp2_with (first | ((with_reducible refine gate_callee (f := 65) rfl ?_); refine goesL_ (some 84) rfl rfl Try.func65 (by kernel_rfl) rfl #[.slice A48 y263.length c48, .slice Ao36 t249.length co36] rfl (by (try simp only [List.map_toArray, List.map_cons, List.map_nil]); first | done | rfl | (simp only [List.length_drop, List.length_take]; rfl)) ?_; (with_reducible refine (nat_step.calls k1 (fun k_ => some k_ = (.slice Ao33 x10_1.length co33 : Value).ownBlock) (.slice Ao33 x10_1.length co33) x10_1 (ji41) (wrap64 ((wrap64 ((ji41) + (t249.length : Int))) + 1)) _ _ t249 t267 t268 w _ ?side1 ?side2 ?side3 ?side4 ?side5 A45.out).mono ?_); (case side1 => repeat (first | (with_reducible first | exact HB.out | apply below_alloc | apply pw_below_drewN | apply below_drew1) | exact HB.out)); (case side2 => exact Kd.R_tight rfl HO_10.out); (case side3 => exact Kd.C_kept_own (HO_9.out) (fun k_ hk_ hs_ => (hk_.1) hs_)); (case side4 => exact (Kd.R_reads' HO_9.out).2.1); (case side5 => exact ⟨_, _, rfl, KA48.out, KY48.out, HC266.out, KM48.out, KL48.out⟩); rintro e w49 ⟨rfl, hy0, hb, hkp⟩; refine ⟨_, rfl, ?_⟩; have n0_ := Aside0.mk (Kd.R_mono (ok' := fun k_ => some k_ ≠ (.slice Ao33 x10_1.length co33 : Value).ownBlock ∧ some k_ ≠ (.slice Ao39 x12_1.length co39 : Value).ownBlock) (Kd.R_keptB (HO_9.out) hkp (fun k_ hk_ hs_ => (hk_.1) hs_)) (fun k_ hk_ => ⟨hk_.1.1, hk_.1.2⟩)); have n1_ := Aside0.mk (Kd.R_reok rfl hy0 (fun k_ e_ => HO_10.out.1 k_ e_)); have n2_ := Aside0.mk (Kd.R_mono (ok' := fun k_ => some k_ ≠ (.slice Ao36 t249.length co36 : Value).ownBlock ∧ some k_ ≠ (.slice Ao33 x10_1.length co33 : Value).ownBlock) (Kd.R_keptB (HO_12.out) hkp (fun k_ hk_ hs_ => (hk_.2) hs_)) (fun k_ hk_ => ⟨hk_.1.1, hk_.1.2⟩)); have n3_ := Aside0.mk (hb); clear HO_9; clear HO_10; clear HO_12; clear HB; have HO_9 := n0_; have HO_10 := n1_; have HO_12 := n2_; have HB := n3_; clear n0_ n1_ n2_ n3_; (try clear hb); (try clear hkp); (try clear hy0); have p47 : 0 ≤ ((ji41) : Int) := of_decide_eq_true (by first | (with_reducible assumption) | assumption); have q47 : ((ji41) : Int) < ((x12_1.length : Int) : Int) := of_decide_eq_true (by first | (with_reducible assumption) | assumption); obtain ⟨go47, co47, eo47, gb47, gl47, cl47, HG47⟩ := Kd.R_form HO_12.out (by omega); (first | cases eo47 | (injection eo47 with ea_ en_ ec_; (first | subst ea_ | (injection ea_ with ea_; subst ea_)); subst ec_; clear en_)); have GB47 := Aside0.mk gb47; have GG47 := Aside0.mk HG47; clear gb47 gl47 HG47; obtain ⟨hx47_0, hf47_0⟩ := Kd.R_celln 0 HO_12.out ((ji41) : Int) p47 q47; replace p47 := eq_true p47; replace q47 := eq_true q47; obtain ⟨hy50_, hz50_⟩ := Kd.R_celln 0 HO_12.out ((ji41) : Int) (of_decide_eq_true (by first | (with_reducible assumption) | assumption)) (of_decide_eq_true (by first | (with_reducible assumption) | assumption)); have HP50 := Kd.R_putg HO_12.out ((ji41) : Int) t267) | ((with_reducible refine gate_store (t := 40) (p := 85) rfl ?_); refine store_event (t := 40) (p := 85) (v := ?vo_w51) (w1 := (w49.setCell ⟨go47, ((ji41) : Int).toNat, none⟩ (.int .u64 t267))) ?hg ?ho ?hn ?hr ?_; (case ho => rfl); (case hg => rfl); (case hn => rfl); (case hr => first | (go_simp; done) | (go_simp; rfl)); intro w51 hw; have hg : w49.grownBy w51 (some go47) := (by rw [hw]; exact HP50.2); have hp_ : Kd.R (Kd.int .u64) 40 w51 w.heap.size (fun k_ => some k_ ≠ (.slice Ao36 t249.length co36 : Value).ownBlock ∧ some k_ ≠ (.slice Ao33 x10_1.length co33 : Value).ownBlock) (.slice (some ⟨go47, 0, none⟩) x12_1.length co39) y269 := (by rw [hw, Ny269.out]; exact HP50.1); clear HP50; have n0_ := Aside0.mk (Kd.R_after (v := (.slice (some ⟨go47, 0, none⟩) x12_1.length co39)) (v1 := (.slice (some ⟨go47, 0, none⟩) x12_1.length co39)) (ok := (fun k_ => some k_ ≠ (.slice Ao33 x10_1.length co33 : Value).ownBlock)) (by (with_reducible repeat (first | apply Kd.R_alloc | apply Kd.R_drewN | apply Kd.R_drew)); exact HO_9.out) hg (.inl rfl)); have n1_ := Aside0.mk (Kd.R_after (v := (.slice (some ⟨go47, 0, none⟩) x12_1.length co39)) (v1 := (.slice (some ⟨go47, 0, none⟩) x12_1.length co39)) (ok := (fun k_ => some k_ ≠ (.slice Ao36 t249.length co36 : Value).ownBlock)) (by (with_reducible repeat (first | apply Kd.R_alloc | apply Kd.R_drewN | apply Kd.R_drew)); exact HO_10.out) hg (.inl rfl)); have n2_ := Aside0.mk (hp_); have n3_ := Aside0.mk ((by rw [hw]; exact below_set (HB.out) GB47.out : Below w.heap.size w w51)); clear HO_9; clear HO_10; clear HO_12; clear HB; have HO_9 := n0_; have HO_10 := n1_; have HO_12 := n2_; have HB := n3_; clear n0_ n1_ n2_ n3_; clear hg hw hp_))
                                (try simp only [← hl10_1, ← hl12_1])
                                go_roundg k1
                                case measure => have := HK1.out; omega
                                case rel => exact ⟨(t268), (y269), (wrap64 (x66_1 + 1)), (by first | rfl | (simp; done) | (simp [*]; done)), (by first | exact H' | (have h_ := H'.out; simp only [← hji16] at h_; exact ⟨h_⟩) | (have h_ := H'.out; simp only [← hji21] at h_; exact ⟨h_⟩) | (have h_ := H'.out; simp only [← hji26] at h_; exact ⟨h_⟩) | (have h_ := H'.out; simp only [← hji41] at h_; exact ⟨h_⟩) | (have h_ := H'.out; simp only [← hji16, ← hji21, ← hji26, ← hji41] at h_; exact ⟨h_⟩)), ⟨by have := HK1.out; omega⟩, ⟨by (try simp only [hl10_1]); (try simp only [hl12_1]); (with_reducible repeat (first | apply Kd.R_alloc | apply Kd.R_drewN | apply Kd.R_drew)); exact HO_9.out⟩, ⟨by (try simp only [hl10_1]); (try simp only [hl12_1]); (with_reducible repeat (first | apply Kd.R_alloc | apply Kd.R_drewN | apply Kd.R_drew)); exact HO_10.out⟩, ⟨by (try simp only [hl10_1]); (try simp only [hl12_1]); (with_reducible repeat (first | apply Kd.R_alloc | apply Kd.R_drewN | apply Kd.R_drew)); exact HO_12.out⟩, ⟨by repeat (first | (with_reducible first | exact HB.out | apply below_alloc | apply pw_below_drewN | apply below_drew1) | exact HB.out)⟩⟩
                              · rw [if_neg c46] at H
                                exact absurd H (by simp)
                            · rw [if_neg c44] at H
                              exact absurd H (by simp)
                          · rw [if_neg c43] at H
                            exact absurd H (by simp)
                        · rw [if_neg c42] at H
                          exact absurd H (by simp)
                      · rw [if_neg c40] at H
                        have c40b0 : decide (x66_1 < (y260.length : Int)) = false := decide_eq_false c40
                        (try (have c40h0 := c40b0; simp only [hl10_1, hl12_1] at c40h0))
                        clear c40
                        replace H := Option.bind_eq_some_iff.mp H
                        obtain ⟨t270, A520, H⟩ := H
                        replace H : (nat_divide.l1 k1 t248 x12_1 t270 (t270.length : Int) 0) = some (r1, r2) := H
                        have A52 := Aside0.mk A520
                        clear A520
                        have H' := Aside0.mk H
                        clear H
                        go_wp2_with (first | ((with_reducible refine gate_callee (f := 60) rfl ?_); refine goesL_ (some 88) rfl rfl Try.func60 (by kernel_rfl) rfl #[.slice Ao33 x10_1.length co33] rfl (by (try simp only [List.map_toArray, List.map_cons, List.map_nil]); first | done | rfl | (simp only [List.length_drop, List.length_take]; rfl)) ?_; (with_reducible refine (nat_low.calls k1 (fun k_ => some k_ = (.slice Ao33 x10_1.length co33 : Value).ownBlock) (.slice Ao33 x10_1.length co33) x10_1 t270 w _ ?side1 ?side2 A52.out).mono ?_); (case side1 => repeat (first | (with_reducible first | exact HB.out | apply below_alloc | apply pw_below_drewN | apply below_drew1) | exact HB.out)); (case side2 => exact Kd.R_tight rfl HO_10.out); rintro e w53 ⟨v271, rfl, ho0, hb, hkp⟩; refine ⟨_, rfl, ?_⟩; have n0_ := Aside0.mk (Kd.R_mono (ok' := fun k_ => some k_ ≠ (.slice Ao39 x12_1.length co39 : Value).ownBlock ∧ some k_ ≠ (v271 : Value).ownBlock) (Kd.R_keptB (HO_9.out) hkp (fun k_ hk_ hs_ => (hk_.1) hs_)) (fun k_ hk_ => ⟨hk_.1.2, fun e_ => Or.elim (ho0.1 k_ e_.symm) (fun hs_ => hk_.2.1 hs_) (fun hn_ => Nat.not_le.2 hk_.2.2 hn_)⟩)); have n1_ := Aside0.mk (Kd.R_mono (ok' := fun k_ => some k_ ≠ (.slice Ao36 t249.length co36 : Value).ownBlock ∧ some k_ ≠ (v271 : Value).ownBlock) (Kd.R_keptB (HO_12.out) hkp (fun k_ hk_ hs_ => (hk_.2) hs_)) (fun k_ hk_ => ⟨hk_.1.1, fun e_ => Or.elim (ho0.1 k_ e_.symm) (fun hs_ => hk_.2.1 hs_) (fun hn_ => Nat.not_le.2 hk_.2.2 hn_)⟩)); have n2_ := Aside0.mk (Kd.R_mono (ok' := fun k_ => some k_ ≠ (.slice Ao36 t249.length co36 : Value).ownBlock ∧ some k_ ≠ (.slice Ao39 x12_1.length co39 : Value).ownBlock) ho0 (fun k_ hk_ => ⟨Or.elim hk_ (fun hs_ => fun e_ => (((HO_9.out).1 k_ e_.symm).1) hs_) (fun hn_ => (Kd.fresh' (Kd.R_lt (by (with_reducible repeat (first | apply Kd.R_alloc | apply Kd.R_drewN | apply Kd.R_drew)); exact HO_9.out)) k_ hn_)), Or.elim hk_ (fun hs_ => fun e_ => (((HO_12.out).1 k_ e_.symm).2) hs_) (fun hn_ => (Kd.fresh' (Kd.R_lt (by (with_reducible repeat (first | apply Kd.R_alloc | apply Kd.R_drewN | apply Kd.R_drew)); exact HO_12.out)) k_ hn_))⟩)); have n3_ := Aside0.mk (hb); clear HO_9; clear HO_12; clear HB; clear HO_10; have HO_9 := n0_; have HO_12 := n1_; have HO272 := n2_; have HB := n3_; clear n0_ n1_ n2_ n3_; (try clear hb); (try clear hkp); (try clear ho0); obtain ⟨Ao54, co54, eo54⟩ := Kd.R_slice HO272.out; subst eo54))
                        go_loopg [91] k1 (fun kq v91 w' => ∃ (x15_2 : List Int) (x91_2 : Int), v91 = .int .i64 x91_2 ∧ Aside0 (nat_divide.l1 kq t248 x12_1 x15_2 (t270.length : Int) x91_2 = some (r1, r2)) ∧ Aside0 (kq ≤ k1) ∧ Aside0 (Kd.R (Kd.int .u64) 40 w' w.heap.size (fun k_ => some k_ ≠ ((.slice Ao54 t270.length co54) : Value).ownBlock) (.slice Ao39 x12_1.length co39) x12_1) ∧ Aside0 (Kd.R (Kd.int .u64) 40 w' w.heap.size (fun k_ => some k_ ≠ ((.slice Ao39 x12_1.length co39) : Value).ownBlock) (.slice Ao54 t270.length co54) x15_2) ∧ Aside0 (Below w.heap.size w w'))
                        case atStart => exact ⟨(t270), (0), (by first | rfl | (simp; done) | (simp [*]; done)), H', ⟨Nat.le_refl _⟩, ⟨by (try simp only [hl10_1]); (try simp only [hl12_1]); (with_reducible repeat (first | apply Kd.R_alloc | apply Kd.R_drewN | apply Kd.R_drew)); exact Kd.R_mono HO_12.out (fun _ hk => hk.2)⟩, ⟨by (try simp only [hl10_1]); (try simp only [hl12_1]); (with_reducible repeat (first | apply Kd.R_alloc | apply Kd.R_drewN | apply Kd.R_drew)); exact Kd.R_mono HO272.out (fun _ hk => hk.2)⟩, ⟨by repeat (first | (with_reducible first | exact HB.out | apply below_alloc | apply pw_below_drewN | apply below_drew1) | exact HB.out)⟩⟩
                        case round =>
                          clear H'
                          try clear c1
                          try clear c2
                          try clear p2
                          try clear q2
                          try clear hx2
                          try clear qi2
                          try clear c4
                          try clear c4b0
                          try clear p4
                          try clear q4
                          try clear hx4
                          try clear hf4
                          try clear c5
                          try clear c6
                          try clear p6
                          try clear c7
                          try clear c7b0
                          try clear c7b1
                          try clear c8
                          try clear c8b0
                          try clear c8b1
                          try clear c17
                          try clear c17b0
                          try clear c18
                          try clear c18b0
                          try clear c22
                          try clear c22b0
                          try clear c22b1
                          try clear c23
                          try clear c23b0
                          try clear c23b1
                          try clear p23
                          try clear q23
                          try clear hx23
                          try clear qi23
                          try clear p24
                          try clear q24
                          try clear hx24
                          try clear c27
                          try clear c27b0
                          try clear c27b1
                          try clear c28
                          try clear c28b0
                          try clear c28b1
                          try clear c40
                          try clear c40b0
                          try clear c42
                          try clear c42b0
                          try clear c42b1
                          try clear c43
                          try clear c43b0
                          try clear c43b1
                          try clear c44
                          try clear c44b0
                          try clear c44b1
                          try clear c46
                          try clear c46b0
                          try clear p47
                          try clear q47
                          try clear hx47
                          try clear hf47
                          try clear c48
                          try clear q48
                          try clear c50
                          try clear c52
                          try clear c54
                          try clear hx236_0
                          try clear hx247_0
                          try clear hx47_0
                          try clear p2
                          try clear p23
                          try clear p236
                          try clear p24
                          try clear p247
                          try clear p47
                          try clear p6
                          try clear q048
                          try clear q2
                          try clear q23
                          try clear q236
                          try clear q24
                          try clear q247
                          try clear q47
                          try clear q48
                          obtain ⟨x15_2, x91_2, rfl, HA, HK2, HO_12, HO_15, HB⟩ := hrel
                          have hl15_2 := (Kd.R_reads' HO_15.out).1
                          rw [hl15_2] at HO_15
                          (try simp only [hl15_2])
                          (try simp only [hl15_2] at HO_12)
                          cases gk with
                          | zero => exact absurd HA.out (by simp [nat_divide.l1])
                          | succ k2 =>
                            have H := HA.out
                            clear HA
                            simp only [nat_divide.l1] at H
                            by_cases c55 : x91_2 < (t270.length : Int)
                            · rw [if_pos c55] at H
                              have c55b0 : decide (x91_2 < (t270.length : Int)) = true := decide_eq_true c55
                              (try (have c55h0 := c55b0; simp only [hl10_1, hl12_1, hl15_2] at c55h0))
                              clear c55
                              by_cases c56 : 0 ≤ x91_2
                              · rw [if_pos c56] at H
                                have c56b0 : decide (0 ≤ x91_2) = true := decide_eq_true c56
                                clear c56
                                by_cases c57 : x91_2 < (x15_2.length : Int)
                                · rw [if_pos c57] at H
                                  have c57b0 : decide (x91_2 < (x15_2.length : Int)) = true := decide_eq_true c57
                                  (try (have c57h0 := c57b0; simp only [hl10_1, hl12_1, hl15_2] at c57h0))
                                  clear c57
                                  obtain ⟨ji58, hji58⟩ : ∃ j_ : Int, (IntKind.u64.wrap (t248)) = j_ := ⟨_, rfl⟩
                                  replace H : (if 0 ≤ (ji58) then ((some (x15_2.set (x91_2 : Int).toNat (shr .u64 (rd x15_2 x91_2) (ji58)) : List Int)).bind fun y274 => (if (wrap64 (x91_2 + 1)) < (x15_2.length : Int) then (if 0 ≤ (wrap64 (x91_2 + 1)) then (if 0 ≤ (IntKind.u64.wrap (63 - (ji58))) then (nat_divide.l1 k2 t248 x12_1 (y274.set (x91_2 : Int).toNat (Go.bits .or .u64 (rd y274 x91_2) (shl .u64 (IntKind.u64.wrap ((rd y274 (wrap64 (x91_2 + 1))) * 2)) (IntKind.u64.wrap (63 - (ji58)))))) (t270.length : Int) (wrap64 (x91_2 + 1))) else (none)) else (none)) else (nat_divide.l1 k2 t248 x12_1 y274 (t270.length : Int) (wrap64 (x91_2 + 1))))) else (none)) = some (r1, r2) := by first | (rw [hji58] at H; exact H) | (simp only [hji58] at H ⊢; exact H)
                                  by_cases c59 : 0 ≤ (ji58)
                                  · rw [if_pos c59] at H
                                    have c59b0 := eq_true c59
                                    have c59b1 : decide (0 ≤ (ji58)) = true := decide_eq_true c59
                                    clear c59
                                    obtain ⟨ji60, hji60⟩ : ∃ j_ : Int, (shr .u64 (rd x15_2 x91_2) (ji58)) = j_ := ⟨_, rfl⟩
                                    replace H : ((some (x15_2.set (x91_2 : Int).toNat (ji60) : List Int)).bind fun y274 => (if (wrap64 (x91_2 + 1)) < (x15_2.length : Int) then (if 0 ≤ (wrap64 (x91_2 + 1)) then (if 0 ≤ (IntKind.u64.wrap (63 - (ji58))) then (nat_divide.l1 k2 t248 x12_1 (y274.set (x91_2 : Int).toNat (Go.bits .or .u64 (rd y274 x91_2) (shl .u64 (IntKind.u64.wrap ((rd y274 (wrap64 (x91_2 + 1))) * 2)) (IntKind.u64.wrap (63 - (ji58)))))) (t270.length : Int) (wrap64 (x91_2 + 1))) else (none)) else (none)) else (nat_divide.l1 k2 t248 x12_1 y274 (t270.length : Int) (wrap64 (x91_2 + 1))))) = some (r1, r2) := by first | (rw [hji60] at H; exact H) | (simp only [hji60] at H ⊢; exact H)
                                    have hji60_ : ((rd x15_2 x91_2) / 2 ^ min (ji58).toNat 64) = ji60 := hji60
                                    have hji60z : (ji58) ≤ 64 → ((rd x15_2 x91_2) / 2 ^ (ji58).toNat) = ji60 := shr_small hji60
                                    obtain ⟨y274, hy274⟩ : ∃ y_ : List Int, y_ = (x15_2.set (x91_2 : Int).toNat (ji60)) := ⟨_, rfl⟩
                                    replace H : (if (wrap64 (x91_2 + 1)) < (x15_2.length : Int) then (if 0 ≤ (wrap64 (x91_2 + 1)) then (if 0 ≤ (IntKind.u64.wrap (63 - (ji58))) then (nat_divide.l1 k2 t248 x12_1 (y274.set (x91_2 : Int).toNat (Go.bits .or .u64 (rd y274 x91_2) (shl .u64 (IntKind.u64.wrap ((rd y274 (wrap64 (x91_2 + 1))) * 2)) (IntKind.u64.wrap (63 - (ji58)))))) (t270.length : Int) (wrap64 (x91_2 + 1))) else (none)) else (none)) else (nat_divide.l1 k2 t248 x12_1 y274 (t270.length : Int) (wrap64 (x91_2 + 1)))) = some (r1, r2) := by first | (rw [hy274]; with_reducible exact H) | (have H2_ := (Option.bind_some _ _).symm.trans H; rw [hy274]; with_reducible exact H2_) | (have H2_ := (Option.bind_some _ _).symm.trans H; with_reducible exact H2_) | with_reducible exact H | (rw [hy274]; exact H) | exact H
                                    have Ny274 := Aside0.mk hy274
                                    clear hy274
                                    by_cases c62 : (wrap64 (x91_2 + 1)) < (x15_2.length : Int)
                                    · rw [if_pos c62] at H
                                      have c62b0 : decide ((wrap64 (x91_2 + 1)) < (x15_2.length : Int)) = true := decide_eq_true c62
                                      (try (have c62h0 := c62b0; simp only [hl10_1, hl12_1, hl15_2] at c62h0))
                                      clear c62
                                      obtain ⟨ji63, hji63⟩ : ∃ j_ : Int, (wrap64 (x91_2 + 1)) = j_ := ⟨_, rfl⟩
                                      replace H : (if 0 ≤ (ji63) then (if 0 ≤ (IntKind.u64.wrap (63 - (ji58))) then (nat_divide.l1 k2 t248 x12_1 (y274.set (x91_2 : Int).toNat (Go.bits .or .u64 (rd y274 x91_2) (shl .u64 (IntKind.u64.wrap ((rd y274 (ji63)) * 2)) (IntKind.u64.wrap (63 - (ji58)))))) (t270.length : Int) ji63) else (none)) else (none)) = some (r1, r2) := by first | (rw [hji63] at H; exact H) | (simp only [hji63] at H ⊢; exact H)
                                      (try rw [hji63] at c62b0)
                                      have hji63w : (IntKind.i64.wrap (x91_2 + 1)) = ji63 := (i64_w _).trans hji63
                                      by_cases c64 : 0 ≤ (ji63)
                                      · rw [if_pos c64] at H
                                        have c64b0 : decide (0 ≤ (ji63)) = true := decide_eq_true c64
                                        clear c64
                                        obtain ⟨ji65, hji65⟩ : ∃ j_ : Int, (IntKind.u64.wrap (63 - (ji58))) = j_ := ⟨_, rfl⟩
                                        replace H : (if 0 ≤ (ji65) then (nat_divide.l1 k2 t248 x12_1 (y274.set (x91_2 : Int).toNat (Go.bits .or .u64 (rd y274 x91_2) (shl .u64 (IntKind.u64.wrap ((rd y274 (ji63)) * 2)) (ji65)))) (t270.length : Int) ji63) else (none)) = some (r1, r2) := by first | (rw [hji65] at H; exact H) | (simp only [hji65] at H ⊢; exact H)
                                        by_cases c66 : 0 ≤ (ji65)
                                        · rw [if_pos c66] at H
                                          have c66b0 := eq_true c66
                                          have c66b1 : decide (0 ≤ (ji65)) = true := decide_eq_true c66
                                          clear c66
                                          obtain ⟨ji67, hji67⟩ : ∃ j_ : Int, (shl .u64 (IntKind.u64.wrap ((rd y274 (ji63)) * 2)) (ji65)) = j_ := ⟨_, rfl⟩
                                          replace H : (nat_divide.l1 k2 t248 x12_1 (y274.set (x91_2 : Int).toNat (Go.bits .or .u64 (rd y274 x91_2) (ji67))) (t270.length : Int) ji63) = some (r1, r2) := by first | (rw [hji67] at H; exact H) | (simp only [hji67] at H ⊢; exact H)
                                          have hji67_ : (IntKind.u64.wrap ((IntKind.u64.wrap ((rd y274 (ji63)) * 2)) * 2 ^ min (ji65).toNat 64)) = ji67 := hji67
                                          have hji67z : (ji65) ≤ 64 → (IntKind.u64.wrap ((IntKind.u64.wrap ((rd y274 (ji63)) * 2)) * 2 ^ (ji65).toNat)) = ji67 := shl_small hji67
                                          obtain ⟨y277, hy277⟩ : ∃ y_ : List Int, y_ = (y274.set (x91_2 : Int).toNat (Go.bits .or .u64 (rd y274 x91_2) (ji67))) := ⟨_, rfl⟩
                                          replace H : (nat_divide.l1 k2 t248 x12_1 y277 (t270.length : Int) ji63) = some (r1, r2) := by first | (rw [hy277]; with_reducible exact H) | (have H2_ := (Option.bind_some _ _).symm.trans H; rw [hy277]; with_reducible exact H2_) | (have H2_ := (Option.bind_some _ _).symm.trans H; with_reducible exact H2_) | with_reducible exact H | (rw [hy277]; exact H) | exact H
                                          have Ny277 := Aside0.mk hy277
                                          clear hy277
                                          have H' := Aside0.mk H
                                          clear H
                                          have p273 : 0 ≤ (x91_2 : Int) := of_decide_eq_true (by first | (with_reducible assumption) | assumption)
                                          have q273 : x91_2 < (x15_2.length : Int) := of_decide_eq_true (by first | (with_reducible assumption) | assumption)
                                          obtain ⟨ad273, e273, hx273_0⟩ := Kd.at_int (Kd.R_reads' HO_15.out).2.2 x91_2 p273 q273
                                          cases e273
                                          replace p273 := eq_true p273
                                          replace q273 := eq_true q273
                                          have p61 : 0 ≤ (x91_2 : Int) := of_decide_eq_true (by first | (with_reducible assumption) | assumption)
                                          have q61 : (x91_2 : Int) < ((x15_2.length : Int) : Int) := of_decide_eq_true (by first | (with_reducible assumption) | assumption)
                                          obtain ⟨go61, co61, eo61, gb61, gl61, cl61, HG61⟩ := Kd.R_form HO_15.out (by omega)
                                          (first | cases eo61 | (injection eo61 with ea_ en_ ec_; (first | subst ea_ | (injection ea_ with ea_; subst ea_)); subst ec_; clear en_))
                                          have GB61 := Aside0.mk gb61
                                          have GG61 := Aside0.mk HG61
                                          clear gb61 gl61 HG61
                                          (first | simp only [add_plain] at hx273_0 | skip)
                                          obtain ⟨hx61_0, hf61_0⟩ := Kd.R_celln 0 HO_15.out (x91_2 : Int) p61 q61
                                          replace p61 := eq_true p61
                                          replace q61 := eq_true q61
                                          have HP69 := Kd.R_putg HO_15.out (x91_2 : Int) ji60
                                          try go_wp2_with (first | ((with_reducible refine gate_store (t := 40) (p := 101) rfl ?_); refine store_event (t := 40) (p := 101) (v := ?vo_w70) (w1 := (wr.setCell ⟨go61, (x91_2 : Int).toNat, none⟩ (.int .u64 ji60))) ?hg ?ho ?hn ?hr ?_; (case ho => rfl); (case hg => rfl); (case hn => rfl); (case hr => first | (go_simp; done) | (go_simp; rfl)); intro w70 hw; have hg : wr.grownBy w70 (some go61) := (by rw [hw]; exact HP69.2); have hp_ : Kd.R (Kd.int .u64) 40 w70 w.heap.size (fun k_ => some k_ ≠ (.slice Ao39 x12_1.length co39 : Value).ownBlock) (.slice (some ⟨go61, 0, none⟩) x15_2.length co54) y274 := (by rw [hw, Ny274.out]; exact HP69.1); clear HP69; have n0_ := Aside0.mk (Kd.R_after (v := (.slice (some ⟨go61, 0, none⟩) x15_2.length co54)) (v1 := (.slice (some ⟨go61, 0, none⟩) x15_2.length co54)) (ok := (fun _ => True)) (by (with_reducible repeat (first | apply Kd.R_alloc | apply Kd.R_drewN | apply Kd.R_drew)); exact Kd.R_mono HO_12.out (fun _ hk => ⟨trivial, hk⟩)) hg (.inl rfl)); have n1_ := Aside0.mk (hp_); have n2_ := Aside0.mk ((by rw [hw]; exact below_set (HB.out) GB61.out : Below w.heap.size w w70)); clear HO_12; clear HO_15; clear HB; have HO_12 := n0_; have HO_15 := n1_; have HB := n2_; clear n0_ n1_ n2_; clear hg hw hp_))
                                          have n0_ := Aside0.mk (Kd.R_drew HO_12.out)
                                          have n1_ := Aside0.mk (Kd.R_drew HO_15.out)
                                          have n2_ := Aside0.mk (below_drew1 HB.out)
                                          clear HO_12
                                          clear HO_15
                                          clear HB
                                          have HO_12 := n0_
                                          have HO_15 := n1_
                                          have HB := n2_
                                          clear n0_ n1_ n2_
                                          have p275 : 0 ≤ (x91_2 : Int) := of_decide_eq_true (by first | (with_reducible assumption) | assumption)
                                          have q275 : x91_2 < (y274.length : Int) := (by have h_ : (x91_2 : Int) < ((x15_2.length : Int) : Int) := of_decide_eq_true (by first | (with_reducible assumption) | assumption); first | (have e_ := (Kd.R_reads' HO_15.out).1; omega) | simpa only [Ny274.out, List.length_set] using h_)
                                          have ql275 : ((x91_2 : Int) < ((x15_2.length : Int) : Int)) = True := eq_true (of_decide_eq_true (by first | (with_reducible assumption) | assumption))
                                          obtain ⟨ad275, e275, hx275_0⟩ := Kd.at_int (Kd.R_reads' HO_15.out).2.2 x91_2 p275 q275
                                          obtain rfl : (⟨go61, 0, none⟩ : Addr) = ad275 := (by injection e275)
                                          (first | simp only [add_plain] at hx275_0 | simp only [add_at] at hx275_0 | simp only [Addr.add, Nat.zero_add] at hx275_0 | skip)
                                          replace p275 := eq_true p275
                                          replace q275 := eq_true q275
                                          have p276 : 0 ≤ ((ji63) : Int) := of_decide_eq_true (by first | (with_reducible assumption) | assumption)
                                          have q276 : (ji63) < (y274.length : Int) := (by have h_ : ((ji63) : Int) < ((x15_2.length : Int) : Int) := of_decide_eq_true (by first | (with_reducible assumption) | assumption); first | (have e_ := (Kd.R_reads' HO_15.out).1; omega) | simpa only [Ny274.out, List.length_set] using h_)
                                          have ql276 : (((ji63) : Int) < ((x15_2.length : Int) : Int)) = True := eq_true (of_decide_eq_true (by first | (with_reducible assumption) | assumption))
                                          obtain ⟨ad276, e276, hx276_0⟩ := Kd.at_int (Kd.R_reads' HO_15.out).2.2 (ji63) p276 q276
                                          obtain rfl : (⟨go61, 0, none⟩ : Addr) = ad276 := (by injection e276)
                                          (first | simp only [add_plain] at hx276_0 | simp only [add_at] at hx276_0 | simp only [Addr.add, Nat.zero_add] at hx276_0 | skip)
                                          replace p276 := eq_true p276
                                          replace q276 := eq_true q276
                                          have p68 : 0 ≤ (x91_2 : Int) := of_decide_eq_true (by first | (with_reducible assumption) | assumption)
                                          have q68 : (x91_2 : Int) < ((x15_2.length : Int) : Int) := of_decide_eq_true (by first | (with_reducible assumption) | assumption)
                                          obtain ⟨hx68_0, hf68_0⟩ := Kd.R_celln 0 HO_15.out (x91_2 : Int) p68 q68
                                          replace p68 := eq_true p68
                                          replace q68 := eq_true q68
                                          have HP72 := Kd.R_putn HO_15.out (x91_2 : Int) (Go.bits .or .u64 (rd y274 x91_2) (ji67))
                                          rw [← Ny277.out] at HP72
                                          have HQ72 := Aside0.mk HP72
                                          clear HP72
                                          refine start_ (n := 17) (S := fun w' => w'.cell? ⟨go61, (x91_2).toNat, none⟩ = some (.int .u64 (rd y274 x91_2)) ∧ w'.cell? ⟨go61, ((ji63)).toNat, none⟩ = some (.int .u64 (rd y274 (ji63)))) (ds := [16]) #[false, false, false, false, false, false, false, false, false, false, false, false, false, false, false, false, false] (by kernel_rfl) rfl rfl ⟨hx275_0, hx276_0⟩ (fun hHeld => ?_); refine with_tabW nat_divide.tab24 nat_divide.bits24 (fun HT_ HW_ => ?_)
                                          generalize w70.drew = w71 at HO_12 HO_15 HB HQ72 hf68_0 hx275_0 hx276_0 hx68_0 hHeld ⊢
                                          refine pure_ (i := 0) (N := some 107) (v := ?_) (a' := ?_) #[true, false, false, false, false, false, false, false, false, false, false, false, false, false, false, false, false] rfl rfl (any_of HT_.out (by kernel_rfl)) (fun _ _ _ h => h) (Or.inl ⟨by rfl, ?_⟩) ?_ ?_
                                          rotate_left
                                          · intro w'
                                            go_simp
                                            with_reducible rfl
                                          rotate_left
                                          · simp only [Act.put, List.setIfInBounds_toArray, List.set_cons_zero, List.set_cons_succ, i64_w, i32_w]
                                            rfl
                                          refine pure_ (i := 1) (N := some 108) (v := ?_) (a' := ?_) #[true, true, false, false, false, false, false, false, false, false, false, false, false, false, false, false, false] rfl rfl (any_of HT_.out (by kernel_rfl)) (fun _ _ _ h => h) (Or.inl ⟨by rfl, ?_⟩) ?_ ?_
                                          rotate_left
                                          · intro w'
                                            go_simp
                                            with_reducible rfl
                                          rotate_left
                                          · simp only [Act.put, List.setIfInBounds_toArray, List.set_cons_zero, List.set_cons_succ, i64_w, i32_w]
                                            rfl
                                          refine pure_ (i := 2) (N := some 109) (v := ?_) (a' := ?_) #[true, true, true, false, false, false, false, false, false, false, false, false, false, false, false, false, false] rfl rfl (any_of HT_.out (by kernel_rfl)) (fun _ _ _ h => h) (Or.inl ⟨by rfl, ?_⟩) ?_ ?_
                                          rotate_left
                                          · intro w'
                                            go_simp
                                            with_reducible rfl
                                          rotate_left
                                          · simp only [Act.put, List.setIfInBounds_toArray, List.set_cons_zero, List.set_cons_succ, i64_w, i32_w]
                                            rfl
                                          refine pure_ (i := 4) (N := some 111) (v := ?_) (a' := ?_) #[true, true, true, false, true, false, false, false, false, false, false, false, false, false, false, false, false] rfl rfl (any_of HT_.out (by kernel_rfl)) (fun _ _ _ h => h) (Or.inl ⟨by rfl, ?_⟩) ?_ ?_
                                          rotate_left
                                          · intro w'
                                            go_simp
                                            with_reducible rfl
                                          rotate_left
                                          · simp only [Act.put, List.setIfInBounds_toArray, List.set_cons_zero, List.set_cons_succ, i64_w, i32_w]
                                            rfl
                                          refine pure_ (i := 5) (N := some 112) (v := ?_) (a' := ?_) #[true, true, true, false, true, true, false, false, false, false, false, false, false, false, false, false, false] rfl rfl (any_of HT_.out (by kernel_rfl)) (fun _ _ _ h => h) (Or.inl ⟨by rfl, ?_⟩) ?_ ?_
                                          rotate_left
                                          · intro w'
                                            go_simp
                                            with_reducible rfl
                                          rotate_left
                                          · simp only [Act.put, List.setIfInBounds_toArray, List.set_cons_zero, List.set_cons_succ, i64_w, i32_w]
                                            rfl
                                          refine pure_ (i := 6) (N := some 113) (v := ?_) (a' := ?_) #[true, true, true, false, true, true, true, false, false, false, false, false, false, false, false, false, false] rfl rfl (any_of HT_.out (by kernel_rfl)) (fun _ _ _ h => h) (Or.inl ⟨by rfl, ?_⟩) ?_ ?_
                                          rotate_left
                                          · intro w'
                                            go_simp
                                            with_reducible rfl
                                          rotate_left
                                          · simp only [Act.put, List.setIfInBounds_toArray, List.set_cons_zero, List.set_cons_succ, i64_w, i32_w]
                                            rfl
                                          refine pure_ (i := 7) (N := some 114) (v := ?_) (a' := ?_) #[true, true, true, false, true, true, true, true, false, false, false, false, false, false, false, false, false] rfl rfl (any_of HT_.out (by kernel_rfl)) (fun _ _ _ h => h) (Or.inl ⟨by rfl, ?_⟩) ?_ ?_
                                          rotate_left
                                          · intro w'
                                            go_simp
                                            with_reducible rfl
                                          rotate_left
                                          · simp only [Act.put, List.setIfInBounds_toArray, List.set_cons_zero, List.set_cons_succ, i64_w, i32_w]
                                            rfl
                                          refine pure_ (i := 10) (N := some 117) (v := ?_) (a' := ?_) #[true, true, true, false, true, true, true, true, false, false, true, false, false, false, false, false, false] rfl rfl (any_of HT_.out (by kernel_rfl)) (fun _ _ _ h => h) (Or.inl ⟨by rfl, ?_⟩) ?_ ?_
                                          rotate_left
                                          · intro w'
                                            go_simp
                                            with_reducible rfl
                                          rotate_left
                                          · simp only [Act.put, List.setIfInBounds_toArray, List.set_cons_zero, List.set_cons_succ, i64_w, i32_w]
                                            rfl
                                          refine pure_ (i := 11) (N := some 118) (v := ?_) (a' := ?_) #[true, true, true, false, true, true, true, true, false, false, true, true, false, false, false, false, false] rfl rfl (any_of HT_.out (by kernel_rfl)) (fun _ _ _ h => h) (Or.inl ⟨by rfl, ?_⟩) ?_ ?_
                                          rotate_left
                                          · intro w'
                                            go_simp
                                            with_reducible rfl
                                          rotate_left
                                          · simp only [Act.put, List.setIfInBounds_toArray, List.set_cons_zero, List.set_cons_succ, i64_w, i32_w]
                                            rfl
                                          refine pure_ (i := 12) (N := some 119) (v := ?_) (a' := ?_) #[true, true, true, false, true, true, true, true, false, false, true, true, true, false, false, false, false] rfl rfl (any_of HT_.out (by kernel_rfl)) (fun _ _ _ h => h) (Or.inl ⟨by rfl, ?_⟩) ?_ ?_
                                          rotate_left
                                          · intro w'
                                            go_simp
                                            with_reducible rfl
                                          rotate_left
                                          · simp only [Act.put, List.setIfInBounds_toArray, List.set_cons_zero, List.set_cons_succ, i64_w, i32_w]
                                            rfl
                                          refine take_ (i := 3) (N := some 110) (v := ?_) (a' := ?_) #[true, true, true, true, true, true, true, true, false, false, true, true, true, false, false, false, false] rfl rfl (take_ofW HT_.out HW_.out (by kernel_rfl)) (fun _ _ _ h => h) (Or.inl ⟨by rfl, ?_⟩) hHeld ?_ ?_
                                          rotate_left
                                          · rintro w' ⟨s0, s1⟩
                                            go_simp
                                            with_reducible rfl
                                          rotate_left
                                          · simp only [Act.put, List.setIfInBounds_toArray, List.set_cons_zero, List.set_cons_succ, i64_w, i32_w]
                                            rfl
                                          refine take_ (i := 8) (N := some 115) (v := ?_) (a' := ?_) #[true, true, true, true, true, true, true, true, true, false, true, true, true, false, false, false, false] rfl rfl (take_ofW HT_.out HW_.out (by kernel_rfl)) (fun _ _ _ h => h) (Or.inl ⟨by rfl, ?_⟩) hHeld ?_ ?_
                                          rotate_left
                                          · rintro w' ⟨s0, s1⟩
                                            go_simp
                                            with_reducible rfl
                                          rotate_left
                                          · simp only [Act.put, List.setIfInBounds_toArray, List.set_cons_zero, List.set_cons_succ, i64_w, i32_w]
                                            rfl
                                          refine pure_ (i := 9) (N := some 116) (v := ?_) (a' := ?_) #[true, true, true, true, true, true, true, true, true, true, true, true, true, false, false, false, false] rfl rfl (any_of HT_.out (by kernel_rfl)) (fun _ _ _ h => h) (Or.inl ⟨by rfl, ?_⟩) ?_ ?_
                                          rotate_left
                                          · intro w'
                                            go_simp
                                            with_reducible rfl
                                          rotate_left
                                          · simp only [Act.put, List.setIfInBounds_toArray, List.set_cons_zero, List.set_cons_succ, i64_w, i32_w]
                                            rfl
                                          refine pure_ (i := 13) (N := some 120) (v := ?_) (a' := ?_) #[true, true, true, true, true, true, true, true, true, true, true, true, true, true, false, false, false] rfl rfl (any_of HT_.out (by kernel_rfl)) (fun _ _ _ h => h) (Or.inl ⟨by rfl, ?_⟩) ?_ ?_
                                          rotate_left
                                          · intro w'
                                            go_simp
                                            with_reducible rfl
                                          rotate_left
                                          · simp only [Act.put, List.setIfInBounds_toArray, List.set_cons_zero, List.set_cons_succ, i64_w, i32_w]
                                            rfl
                                          refine pure_ (i := 14) (N := some 121) (v := ?_) (a' := ?_) #[true, true, true, true, true, true, true, true, true, true, true, true, true, true, true, false, false] rfl rfl (any_of HT_.out (by kernel_rfl)) (fun _ _ _ h => h) (Or.inl ⟨by rfl, ?_⟩) ?_ ?_
                                          rotate_left
                                          · intro w'
                                            go_simp
                                            with_reducible rfl
                                          rotate_left
                                          · simp only [Act.put, List.setIfInBounds_toArray, List.set_cons_zero, List.set_cons_succ, i64_w, i32_w]
                                            rfl
                                          refine pure_ (i := 15) (N := some 122) (v := ?_) (a' := ?_) #[true, true, true, true, true, true, true, true, true, true, true, true, true, true, true, true, false] rfl rfl (any_of HT_.out (by kernel_rfl)) (fun _ _ _ h => h) (Or.inl ⟨by rfl, ?_⟩) ?_ ?_
                                          rotate_left
                                          · intro w'
                                            go_simp
                                            with_reducible rfl
                                          rotate_left
                                          · simp only [Act.put, List.setIfInBounds_toArray, List.set_cons_zero, List.set_cons_succ, i64_w, i32_w]
                                            rfl
                                          refine last_ (i := 16) (N := none) #[true, true, true, true, true, true, true, true, true, true, true, true, true, true, true, true, true] rfl rfl (one_of HT_.out (by kernel_rfl)) (by decide) (fun K hK => ?_)
                                          refine skip_ (w1 := ?_) (by rfl) rfl ?_ ?_
                                          rotate_left
                                          · go_simp
                                            rfl
                                          refine hK.out _ _ ?_
                                          clear hK K
                                          refine done_ (done_of HT_.out (by kernel_rfl)) ?_
                                          try go_wp2
                                          (try simp only [← hl15_2])
                                          go_roundg k2
                                          case measure => have := HK1.out; have := HK2.out; omega
                                          case rel => exact ⟨(y277), (ji63), (by first | rfl | (simp; done) | (simp only [← hji63] <;> (first | rfl | simp)) | (simp [*]; done)), (by first | exact H' | (have h_ := H'.out; simp only [← hji16] at h_; exact ⟨h_⟩) | (have h_ := H'.out; simp only [← hji21] at h_; exact ⟨h_⟩) | (have h_ := H'.out; simp only [← hji26] at h_; exact ⟨h_⟩) | (have h_ := H'.out; simp only [← hji58] at h_; exact ⟨h_⟩) | (have h_ := H'.out; simp only [← hji60] at h_; exact ⟨h_⟩) | (have h_ := H'.out; simp only [← hji63] at h_; exact ⟨h_⟩) | (have h_ := H'.out; simp only [← hji65] at h_; exact ⟨h_⟩) | (have h_ := H'.out; simp only [← hji67] at h_; exact ⟨h_⟩) | (have h_ := H'.out; simp only [← hji16, ← hji21, ← hji26, ← hji58, ← hji60, ← hji63, ← hji65, ← hji67] at h_; exact ⟨h_⟩)), ⟨by have := HK1.out; have := HK2.out; omega⟩, ⟨by (try simp only [hl10_1]); (try simp only [hl12_1]); (try simp only [hl15_2]); (with_reducible repeat (first | apply Kd.R_alloc | apply Kd.R_drewN | apply Kd.R_drew)); exact Kd.R_mono (Kd.R_far (p := ⟨go61, (x91_2 : Int).toNat, none⟩) (Kd.R_mono HO_12.out (fun k_ hk => (⟨hk, fun e_ => hk.2 (by rw [e_]; rfl)⟩ : _ ∧ k_ ≠ go61))) (fun _ hk => hk.2) (.int .u64 (Go.bits .or .u64 (rd y274 x91_2) (ji67)))) (fun _ hk => hk.1.2)⟩, ⟨by (try simp only [hl10_1]); (try simp only [hl12_1]); (try simp only [hl15_2]); (with_reducible repeat (first | apply Kd.R_alloc | apply Kd.R_drewN | apply Kd.R_drew)); exact HQ72.out⟩, ⟨by repeat (first | (with_reducible first | exact HB.out | apply below_alloc | apply pw_below_drewN | apply below_drew1 | refine below_set ?_ GB61.out) | exact HB.out)⟩⟩
                                        · rw [if_neg c66] at H
                                          exact absurd H (by simp)
                                      · rw [if_neg c64] at H
                                        exact absurd H (by simp)
                                    · rw [if_neg c62] at H
                                      have c62b0 : decide ((wrap64 (x91_2 + 1)) < (x15_2.length : Int)) = false := decide_eq_false c62
                                      (try (have c62h0 := c62b0; simp only [hl10_1, hl12_1, hl15_2] at c62h0))
                                      clear c62
                                      have H' := Aside0.mk H
                                      clear H
                                      have p273 : 0 ≤ (x91_2 : Int) := of_decide_eq_true (by first | (with_reducible assumption) | assumption)
                                      have q273 : x91_2 < (x15_2.length : Int) := of_decide_eq_true (by first | (with_reducible assumption) | assumption)
                                      obtain ⟨ad273, e273, hx273_0⟩ := Kd.at_int (Kd.R_reads' HO_15.out).2.2 x91_2 p273 q273
                                      cases e273
                                      replace p273 := eq_true p273
                                      replace q273 := eq_true q273
                                      have p61 : 0 ≤ (x91_2 : Int) := of_decide_eq_true (by first | (with_reducible assumption) | assumption)
                                      have q61 : (x91_2 : Int) < ((x15_2.length : Int) : Int) := of_decide_eq_true (by first | (with_reducible assumption) | assumption)
                                      obtain ⟨go61, co61, eo61, gb61, gl61, cl61, HG61⟩ := Kd.R_form HO_15.out (by omega)
                                      (first | cases eo61 | (injection eo61 with ea_ en_ ec_; (first | subst ea_ | (injection ea_ with ea_; subst ea_)); subst ec_; clear en_))
                                      have GB61 := Aside0.mk gb61
                                      have GG61 := Aside0.mk HG61
                                      clear gb61 gl61 HG61
                                      (first | simp only [add_plain] at hx273_0 | skip)
                                      obtain ⟨hx61_0, hf61_0⟩ := Kd.R_celln 0 HO_15.out (x91_2 : Int) p61 q61
                                      replace p61 := eq_true p61
                                      replace q61 := eq_true q61
                                      have HP73 := Kd.R_putg HO_15.out (x91_2 : Int) ji60
                                      go_wp2_with (first | ((with_reducible refine gate_store (t := 40) (p := 101) rfl ?_); refine store_event (t := 40) (p := 101) (v := ?vo_w74) (w1 := (wr.setCell ⟨go61, (x91_2 : Int).toNat, none⟩ (.int .u64 ji60))) ?hg ?ho ?hn ?hr ?_; (case ho => rfl); (case hg => rfl); (case hn => rfl); (case hr => first | (go_simp; done) | (go_simp; rfl)); intro w74 hw; have hg : wr.grownBy w74 (some go61) := (by rw [hw]; exact HP73.2); have hp_ : Kd.R (Kd.int .u64) 40 w74 w.heap.size (fun k_ => some k_ ≠ (.slice Ao39 x12_1.length co39 : Value).ownBlock) (.slice (some ⟨go61, 0, none⟩) x15_2.length co54) y274 := (by rw [hw, Ny274.out]; exact HP73.1); clear HP73; have n0_ := Aside0.mk (Kd.R_after (v := (.slice (some ⟨go61, 0, none⟩) x15_2.length co54)) (v1 := (.slice (some ⟨go61, 0, none⟩) x15_2.length co54)) (ok := (fun _ => True)) (by (with_reducible repeat (first | apply Kd.R_alloc | apply Kd.R_drewN | apply Kd.R_drew)); exact Kd.R_mono HO_12.out (fun _ hk => ⟨trivial, hk⟩)) hg (.inl rfl)); have n1_ := Aside0.mk (hp_); have n2_ := Aside0.mk ((by rw [hw]; exact below_set (HB.out) GB61.out : Below w.heap.size w w74)); clear HO_12; clear HO_15; clear HB; have HO_12 := n0_; have HO_15 := n1_; have HB := n2_; clear n0_ n1_ n2_; clear hg hw hp_))
                                      (try simp only [← hl15_2])
                                      go_roundg k2
                                      case measure => have := HK1.out; have := HK2.out; omega
                                      case rel => exact ⟨(y274), (wrap64 (x91_2 + 1)), (by first | rfl | (simp; done) | (simp [*]; done)), (by first | exact H' | (have h_ := H'.out; simp only [← hji16] at h_; exact ⟨h_⟩) | (have h_ := H'.out; simp only [← hji21] at h_; exact ⟨h_⟩) | (have h_ := H'.out; simp only [← hji26] at h_; exact ⟨h_⟩) | (have h_ := H'.out; simp only [← hji58] at h_; exact ⟨h_⟩) | (have h_ := H'.out; simp only [← hji60] at h_; exact ⟨h_⟩) | (have h_ := H'.out; simp only [← hji16, ← hji21, ← hji26, ← hji58, ← hji60] at h_; exact ⟨h_⟩)), ⟨by have := HK1.out; have := HK2.out; omega⟩, ⟨by (try simp only [hl10_1]); (try simp only [hl12_1]); (try simp only [hl15_2]); (with_reducible repeat (first | apply Kd.R_alloc | apply Kd.R_drewN | apply Kd.R_drew)); exact Kd.R_mono HO_12.out (fun _ hk => hk.2)⟩, ⟨by (try simp only [hl10_1]); (try simp only [hl12_1]); (try simp only [hl15_2]); (with_reducible repeat (first | apply Kd.R_alloc | apply Kd.R_drewN | apply Kd.R_drew)); exact HO_15.out⟩, ⟨by repeat (first | (with_reducible first | exact HB.out | apply below_alloc | apply pw_below_drewN | apply below_drew1) | exact HB.out)⟩⟩
                                  · rw [if_neg c59] at H
                                    exact absurd H (by simp)
                                · rw [if_neg c57] at H
                                  exact absurd H (by simp)
                              · rw [if_neg c56] at H
                                exact absurd H (by simp)
                            · rw [if_neg c55] at H
                              have c55b0 : decide (x91_2 < (t270.length : Int)) = false := decide_eq_false c55
                              (try (have c55h0 := c55b0; simp only [hl10_1, hl12_1, hl15_2] at c55h0))
                              clear c55
                              replace H := Option.bind_eq_some_iff.mp H
                              obtain ⟨t278, A750, H⟩ := H
                              replace H : ((nat_low.f k2 x15_2).bind fun t281 => (some (t278, t281))) = some (r1, r2) := H
                              have A75 := Aside0.mk A750
                              clear A750
                              replace H := Option.bind_eq_some_iff.mp H
                              obtain ⟨t281, A760, H⟩ := H
                              replace H : (some (t278, t281)) = some (r1, r2) := H
                              have A76 := Aside0.mk A760
                              clear A760
                              simp only [Option.some.injEq, Prod.mk.injEq] at H
                              obtain ⟨rfl, rfl⟩ := H
                              go_wp2_with (first | ((with_reducible refine gate_callee (f := 60) rfl ?_); refine goesL_ (some 125) rfl rfl Try.func60 (by kernel_rfl) rfl #[.slice Ao39 x12_1.length co39] rfl (by (try simp only [List.map_toArray, List.map_cons, List.map_nil]); first | done | rfl | (simp only [List.length_drop, List.length_take]; rfl)) ?_; (with_reducible refine (nat_low.calls k2 (fun k_ => some k_ = (.slice Ao39 x12_1.length co39 : Value).ownBlock) (.slice Ao39 x12_1.length co39) x12_1 t278 w _ ?side1 ?side2 A75.out).mono ?_); (case side1 => repeat (first | (with_reducible first | exact HB.out | apply below_alloc | apply pw_below_drewN | apply below_drew1) | exact HB.out)); (case side2 => exact Kd.R_tight rfl HO_12.out); rintro e w77 ⟨v279, rfl, ho0, hb, hkp⟩; refine ⟨_, rfl, ?_⟩; have n0_ := Aside0.mk (Kd.R_mono (ok' := fun k_ => some k_ ≠ (v279 : Value).ownBlock) (Kd.R_keptB (HO_15.out) hkp (fun k_ hk_ hs_ => (hk_) hs_)) (fun k_ hk_ => fun e_ => Or.elim (ho0.1 k_ e_.symm) (fun hs_ => hk_.2.1 hs_) (fun hn_ => Nat.not_le.2 hk_.2.2 hn_))); have n1_ := Aside0.mk (Kd.R_mono (ok' := fun k_ => some k_ ≠ (.slice Ao54 x15_2.length co54 : Value).ownBlock) ho0 (fun k_ hk_ => Or.elim hk_ (fun hs_ => fun e_ => (((HO_15.out).1 k_ e_.symm)) hs_) (fun hn_ => (Kd.fresh' (Kd.R_lt (by (with_reducible repeat (first | apply Kd.R_alloc | apply Kd.R_drewN | apply Kd.R_drew)); exact HO_15.out)) k_ hn_)))); have n2_ := Aside0.mk (hb); clear HO_15; clear HB; clear HO_12; have HO_15 := n0_; have HO280 := n1_; have HB := n2_; clear n0_ n1_ n2_; (try clear hb); (try clear hkp); (try clear ho0)) | ((with_reducible refine gate_callee (f := 60) rfl ?_); refine goesL_ (some 127) rfl rfl Try.func60 (by kernel_rfl) rfl #[.slice Ao54 x15_2.length co54] rfl (by (try simp only [List.map_toArray, List.map_cons, List.map_nil]); first | done | rfl | (simp only [List.length_drop, List.length_take]; rfl)) ?_; (with_reducible refine (nat_low.calls k2 (fun k_ => some k_ = (.slice Ao54 x15_2.length co54 : Value).ownBlock) (.slice Ao54 x15_2.length co54) x15_2 t281 w _ ?side1 ?side2 A76.out).mono ?_); (case side1 => repeat (first | (with_reducible first | exact HB.out | apply below_alloc | apply pw_below_drewN | apply below_drew1) | exact HB.out)); (case side2 => exact Kd.R_tight rfl HO_15.out); rintro e w78 ⟨v282, rfl, ho0, hb, hkp⟩; refine ⟨_, rfl, ?_⟩; have n0_ := Aside0.mk (Kd.R_mono (ok' := fun k_ => some k_ ≠ (v282 : Value).ownBlock) (Kd.R_keptB (HO280.out) hkp (fun k_ hk_ hs_ => (hk_) hs_)) (fun k_ hk_ => fun e_ => Or.elim (ho0.1 k_ e_.symm) (fun hs_ => hk_.2.1 hs_) (fun hn_ => Nat.not_le.2 hk_.2.2 hn_))); have n1_ := Aside0.mk (Kd.R_mono (ok' := fun k_ => some k_ ≠ (v279 : Value).ownBlock) ho0 (fun k_ hk_ => Or.elim hk_ (fun hs_ => fun e_ => (((HO280.out).1 k_ e_.symm)) hs_) (fun hn_ => (Kd.fresh' (Kd.R_lt (by (with_reducible repeat (first | apply Kd.R_alloc | apply Kd.R_drewN | apply Kd.R_drew)); exact HO280.out)) k_ hn_)))); have n2_ := Aside0.mk (hb); clear HO280; clear HB; clear HO_15; have HO280 := n0_; have HO283 := n1_; have HB := n2_; clear n0_ n1_ n2_; (try clear hb); (try clear hkp); (try clear ho0)))
                              go_ret2
                              exact ⟨_, _, by first | rfl | (simp [errW_none, errW_some] <;> rfl) | (simp only [← hji16, ← hji21, ← hji26]; first | rfl | (simp [errW_none, errW_some] <;> rfl)) | (simp [*, errW_none, errW_some] <;> rfl), by (with_reducible repeat (first | apply Kd.R_alloc | apply Kd.R_drewN | apply Kd.R_drew)); exact HO280.out, by (with_reducible repeat (first | apply Kd.R_alloc | apply Kd.R_drewN | apply Kd.R_drew)); exact HO283.out, by repeat (first | (with_reducible first | exact HB.out | apply below_alloc | apply pw_below_drewN | apply below_drew1) | exact HB.out)⟩
                · rw [if_neg c28] at H
                  exact absurd H (by simp)
              · rw [if_neg c27] at H
                exact absurd H (by simp)
            · rw [if_neg c23] at H
              exact absurd H (by simp)
          · rw [if_neg c22] at H
            exact absurd H (by simp)
        · rw [if_neg c18] at H
          exact absurd H (by simp)
      · rw [if_neg c17] at H
        exact absurd H (by simp)

end Go.Proofs.Ytaegboehjpjfnaa.P

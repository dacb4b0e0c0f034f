import Derived.Laws.Externs
import Derived.WalkSpells
import Derived.Test.YtaegboehjpjfnaaWWords
import Derived.Test.YtaegboehjpjfnaaWLast
import Derived.Test.YtaegboehjpjfnaaWMore
set_option linter.unusedVariables false
namespace Go.Proofs.Ytaegboehjpjfnaa.Mine
open Go.RowKit Go.Proofs.YtaegboehjpjfnaaW.PrintWords Go.Proofs.YtaegboehjpjfnaaW.PrintLast Go.Proofs.YtaegboehjpjfnaaW.PrintMore
def add64e : Array Value → Sem Value := ((Extern.MathBitsCarry.rows[0]?).map (·.2)).getD (fun _ => pure .nilFunc)
def sub64e : Array Value → Sem Value := ((Extern.MathBitsCarry.rows[1]?).map (·.2)).getD (fun _ => pure .nilFunc)
theorem run_add64e {P : Program} (x y c : Int) (h0 : 0 ≤ c) (h1 : c ≤ 1) (w : World) : (add64e #[.int .u64 x, .int .u64 y, .int .u64 c]).run P w =
    .ok (.tuple #[.int .u64 (((x.toNat + y.toNat + c.toNat) % 18446744073709551616 : Nat) : Int), .int .u64 (((x.toNat + y.toNat + c.toNat) / 18446744073709551616 : Nat) : Int)]) w := by
  have : c = 0 ∨ c = 1 := by omega
  rcases this with rfl | rfl <;> rfl
theorem run_sub64e {P : Program} (x y c : Int) (h0 : 0 ≤ c) (h1 : c ≤ 1) (w : World) : (sub64e #[.int .u64 x, .int .u64 y, .int .u64 c]).run P w =
    .ok (.tuple #[.int .u64 (((x.toNat + 18446744073709551616 - y.toNat - c.toNat) % 18446744073709551616 : Nat) : Int), .int .u64 ((if x.toNat < y.toNat + c.toNat then 1 else 0 : Nat) : Int)]) w := by
  have : c = 0 ∨ c = 1 := by omega
  rcases this with rfl | rfl <;> rfl
def CallsX (P : Program) (f : FuncId) (args : Array Value) (w : World) (R : Ending → World → Prop) : Prop :=
  ∃ v w', (callFunc f args).run P w = .ok (.value v) w' ∧ R (.returned v) w'
theorem CallsX.mono {P : Program} {f : FuncId} {args : Array Value} {w : World} {R R' : Ending → World → Prop} (h : CallsX P f args w R) (hr : ∀ e w', R e w' → R' e w') : CallsX P f args w R' := by
  obtain ⟨v, w', h1, h2⟩ := h
  exact ⟨v, w', h1, hr _ _ h2⟩
section
variable {P : Program} {ops : Array Oper} {Q : Exit → Act → World → Prop}
theorem goesX_ {rest : List Oper} {oi : Oper} {a : Act} {w : World} (N : Option Tmp) (hd : oi.dst = N) (hg : oi.guard = none) {f : FuncId} {fn : Func} {as : Array Operand} {ts : Array TypeId} (_hf : P.funcs[f]? = some fn) (_hname : (fn.name == "runtime.NumGoroutine") = false) (_hb : fn.body.isNone = true) (args : Array Value)
    (hop : oi.op = .call { callee := .value (.func f), args := as, argTypes := ts }) (hargs : as.map a.eval = args)
    (h : CallsX P f args w fun e w' => ∃ v, e = .returned v ∧ wpList P ops Q rest (a.put N v) w') : wpList P ops Q (oi :: rest) a w := by
  obtain ⟨v, w', hrun, v', he, hk⟩ := h
  injection he with he
  subst he
  refine Kd.event_run hg (w1 := w') (v := v) ?_ (by rw [hd]; exact hk)
  unfold execOp
  simp [hop, resolve, Deferred.ofValue, invoke, Act.eval, hargs, hrun]
end
section
variable {P : Program} {ops : Array Oper} {rest : List Oper} {o : Oper} {a : Act} {Q : Exit → Act → World → Prop} {α : Type}
end
structure SetBlk (w w' : World) (g : Nat) : Prop where
  keep : ∀ i, i ≠ g → w'.heap[i]? = w.heap[i]?
  size : w'.heap.size = w.heap.size
  os : w'.os = w.os
  tape : w'.tape = w.tape
  output : w'.output = w.output
theorem SetBlk.of_setCells (w : World) (g o : Nat) (vs : List Value) : SetBlk w (w.setCells g o vs) g := by
  obtain ⟨s1, s2, s3, s4⟩ := setCells_same g vs o w
  exact ⟨fun i hi => setCells_far vs o i hi, s4, s1, s2, s3⟩
theorem SetBlk.refl (w : World) (g : Nat) : SetBlk w w g := ⟨fun _ _ => rfl, rfl, rfl, rfl, rfl⟩
theorem SetBlk.trans {w w1 w2 : World} {g : Nat} (h : SetBlk w w1 g) (k : SetBlk w1 w2 g) : SetBlk w w2 g :=
  ⟨fun i hi => (k.keep i hi).trans (h.keep i hi), k.size.trans h.size, k.os.trans h.os, k.tape.trans h.tape, k.output.trans h.output⟩
theorem SetBlk.drewN {w w1 : World} {g : Nat} (h : SetBlk w w1 g) (n : Nat) : SetBlk w (w1.drewN n) g := ⟨h.keep, h.size, h.os, h.tape, h.output⟩
theorem SetBlk.below {w0 w w1 : World} {g B : Nat} (h : SetBlk w w1 g) (hB : Below B w0 w) (hg : B ≤ g) : Below B w0 w1 :=
  ⟨h.os.trans hB.os, h.tape.trans hB.tape, h.output.trans hB.output, by rw [h.size]; exact hB.size, fun i hi => (h.keep i (by omega)).trans (hB.block i hi)⟩
theorem SetBlk.kept {w w1 : World} {g : Nat} {S : Nat → Prop} (h : SetBlk w w1 g) (hS : S g) : Kept w w1 S :=
  ⟨by rw [h.size]; exact Nat.le_refl _, fun i _ hn => h.keep i (fun he => hn (he ▸ hS))⟩
theorem SetBlk.keepBut {w w1 : World} {g : Nat} (h : SetBlk w w1 g) : KeepBut w w1 g none :=
  ⟨by rw [h.size]; exact Nat.le_refl _, fun i _ hn _ => h.keep i hn⟩
section
variable {P : Program} {ops : Array Oper} {rest : List Oper} {o : Oper} {a : Act} {Q : Exit → Act → World → Prop} {W : World}
theorem clear_win (hgd : o.guard = none) (x : Operand) (t e : TypeId) (ho : o.op = .call { callee := .builtin .clear, args := #[x], argTypes := #[t] })
    (ht : P.underlying t = some (.slice e)) (hinfo : (P.info? e).map (fun i => (i.zero, i.size, i.bytes)) = some (some (.int .u64 0), 1, 8)) {g off m c : Nat} (hm : 0 < m)
    (hx : a.eval x = .slice (some ⟨g, off, none⟩) m c) {cur : Array Value} (hb : W.heap[g]? = some (.cells cur e (0, 0))) (hin : off + m ≤ cur.size)
    (h : ∀ w1 cur1, w1.heap[g]? = some (.cells cur1 e (0, 0)) → cur1.size = cur.size → cur1.toList = cur.toList.take off ++ List.replicate m (.int .u64 0) ++ cur.toList.drop (off + m) → SetBlk W w1 g → wpList P ops Q rest (a.put o.dst (.tuple #[])) w1) :
    wpList P ops Q (o :: rest) a W := by
  obtain ⟨i0, hi, hzz⟩ := Option.map_eq_some_iff.1 hinfo
  simp only [Prod.mk.injEq] at hzz
  obtain ⟨hz0, hz1, hz2⟩ := hzz
  have hz : (Builtin.zeroCells (Value.int IntKind.u64 0).cells m).toList = List.replicate m (.int .u64 0) := by
    apply List.ext_getElem
    · simp [Builtin.zeroCells, Value.cells]
    · intro i h1 h2
      have hmod : i % 1 = 0 := Nat.mod_one i
      simp [Builtin.zeroCells, Value.cells, hmod]
  have hst := run_storeCells_cells (P := P) g off (List.replicate m (.int .u64 0)) 0 W (by
      intro j hj
      have hj' : j < m := by simpa using hj
      rw [cell_of_row W g _ cur e (0, 0) hb]
      simp; omega) (fun j _ => blk_frozen hb _) (by
      intro v hv
      rw [(List.mem_replicate.1 hv).2]
      rfl)
  obtain ⟨cur', h3, h4, h5⟩ := setCells_row (List.replicate m (.int .u64 0)) off W cur hb (by simpa using hin)
  have hrun : (Builtin.clear_ #[t] o.type #[.slice (some ⟨g, off, none⟩) m c]).run P W = .ok (.tuple #[]) (W.setCells g off (List.replicate m (.int .u64 0))) := by
    cases m with
    | zero => omega
    | succ m =>
      simp only [Nat.add_zero] at hst
      simp [Builtin.clear_, run_underlying ht, zeroValue, typeInfo, hi, hz0, hz, hst]
  refine wpList_plain hgd fun K hK => ?_
  unfold Oper.wp execOp
  simp only [ho, resolve, invoke, builtin, Sem.run_bind, Sem.run_pure, Result.andThen_ok, List.map_toArray, List.map_cons, List.map_nil, hx, hrun]
  exact hK _ _ (h _ cur' h3 h4 (by simpa using h5) (SetBlk.of_setCells W g off _))
theorem copy_win (hgd : o.guard = none) (s x : Operand) (t e : TypeId) (ho : o.op = .call { callee := .builtin .copy, args := #[s, x], argTypes := #[t, t] })
    (ht : P.underlying t = some (.slice e)) (hinfo : (P.info? e).map (·.size) = some 1) {g off m c : Nat} (hs : a.eval s = .slice (some ⟨g, off, none⟩) m c)
    {A : Option Addr} {c2 : Nat} {ys : List Int} (hx : a.eval x = .slice A ys.length c2) {cur : Array Value} (hb : W.heap[g]? = some (.cells cur e (0, 0))) (hin : off + m ≤ cur.size)
    (hC : Kd.C (Kd.int .u64) W A ys.length ys) (hn : ys.length ≤ m)
    (h : ∀ w1 cur1, w1.heap[g]? = some (.cells cur1 e (0, 0)) → cur1.size = cur.size → cur1.toList = cur.toList.take off ++ nums .u64 ys ++ cur.toList.drop (off + ys.length) → SetBlk W w1 g → wpList P ops Q rest (a.put o.dst (.int .i64 (ys.length : Int))) w1) :
    wpList P ops Q (o :: rest) a W := by
  have fin : ∀ w1 cur1, (Builtin.copy_ #[t, t] o.type #[.slice (some ⟨g, off, none⟩) m c, .slice A ys.length c2]).run P W = .ok (goInt ((ys.length : Nat) : Int)) w1 → w1.heap[g]? = some (.cells cur1 e (0, 0)) → cur1.size = cur.size → cur1.toList = cur.toList.take off ++ nums .u64 ys ++ cur.toList.drop (off + ys.length) → SetBlk W w1 g → wpList P ops Q (o :: rest) a W := by
    intro w1 cur1 hr h1 h2 h3 h4
    refine wpList_plain hgd fun K hK => ?_
    unfold Oper.wp execOp
    simp only [ho, resolve, invoke, builtin, Sem.run_bind, Sem.run_pure, Result.andThen_ok, List.map_toArray, List.map_cons, List.map_nil, hs, hx, hr]
    exact hK _ _ (h w1 cur1 h1 h2 h3 h4)
  have hR := Kd.reads_of_C (enc := Value.int .u64) (d := (0 : Int)) (h1 := fun _ => rfl) hC
  rcases Nat.eq_zero_or_pos ys.length with h0 | hp
  · refine fin W cur ?_ hb rfl ?_ (SetBlk.refl W g)
    · rw [h0]
      exact run_copy_none W t t o.type e (some ⟨g, off, none⟩) A m c 0 c2 ht hinfo (by simp)
    · obtain rfl := List.eq_nil_of_length_eq_zero h0
      simp [nums]
  · obtain ⟨ad, hA, hc⟩ := hR.2.2 hp
    have hl : (nums .u64 ys).length = ys.length := nums_length _ _
    have hsrc : ∀ j u, (nums .u64 ys)[j]? = some u → W.cell? (ad.add j) = some u := by
      intro j u hu
      have hj : j < ys.length := by
        rcases Nat.lt_or_ge j ys.length with h | h
        · exact h
        · rw [List.getElem?_eq_none (by rw [hl]; exact h)] at hu
          cases hu
      rw [hc j hj, ← hu]
      simp [nums, List.getD_eq_getElem?_getD, List.getElem?_eq_getElem hj]
    have hr := run_copy_cells (P := P) W t t o.type e g off m c ad ys.length c2 (nums .u64 ys) ht hinfo (by rw [hl]; exact (Nat.min_eq_left hn).symm) hsrc
      (fun j hj => by rw [cell_of_row W g _ cur e (0, 0) hb]; simp; omega) (fun j _ => blk_frozen hb _) (by intro u hu; simp only [nums, List.mem_map] at hu; obtain ⟨q, _, rfl⟩ := hu; rfl)
    obtain ⟨cur', h3, h4, h5⟩ := setCells_row (nums .u64 ys) off W cur hb (by rw [hl]; omega)
    refine fin _ cur' (by rw [hA, hr, hl]) h3 h4 (by rw [h5, hl]) (SetBlk.of_setCells W g off _)
end
theorem step_list (c c1 c2 : List Value) (off m : Nat) (ys : List Int) (hin : off + m ≤ c.length) (hn : ys.length ≤ m) (h1 : c1 = c.take off ++ List.replicate m (.int .u64 0) ++ c.drop (off + m))
    (h2 : c2 = c1.take off ++ nums .u64 ys ++ c1.drop (off + ys.length)) : c2 = c.take off ++ nums .u64 (ys ++ List.replicate (m - ys.length) 0) ++ c.drop (off + m) := by
  have hl : (c.take off).length = off := by rw [List.length_take]; omega
  have e1 : c1.take off = c.take off := by
    rw [h1, List.append_assoc, List.take_append_of_le_length (by omega), List.take_of_length_le (by omega)]
  have e2 : c1.drop (off + ys.length) = List.replicate (m - ys.length) (.int .u64 0) ++ c.drop (off + m) := by
    rw [h1, List.append_assoc, List.drop_append, hl, List.drop_of_length_le (by omega), List.nil_append, Nat.add_sub_cancel_left,
      List.drop_append_of_le_length (by simpa using hn), List.drop_replicate]
  rw [h2, e1, e2, nums_append]
  simp [nums, List.append_assoc]
theorem win_list (c : List Value) (n lo m : Nat) (l0 u' : List Int) (hl : l0.length = n) (hc : n ≤ c.length) (h : c.take n = nums .u64 l0) (hlm : lo + m ≤ n) (hu : u'.length = m) :
    (c.take lo ++ nums .u64 u' ++ c.drop (lo + m)).take n = nums .u64 (l0.take lo ++ u' ++ l0.drop (lo + m)) := by
  have h1 : c.take lo = nums .u64 (l0.take lo) := by
    have := congrArg (List.take lo) h
    rw [List.take_take, Nat.min_eq_left (by omega)] at this
    rw [this]; simp [nums, List.map_take]
  have h2 : (c.drop (lo + m)).take (n - (lo + m)) = nums .u64 (l0.drop (lo + m)) := by
    have := congrArg (List.drop (lo + m)) h
    rw [List.drop_take] at this
    rw [this]; simp [nums, List.map_drop]
  have hl1 : (c.take lo ++ nums .u64 u').length = lo + m := by
    rw [List.length_append, List.length_take, nums_length]; omega
  rw [List.take_append, hl1, List.take_of_length_le (by omega), h2, h1, nums_append, nums_append]
def CallsCopy (P : Program) (ts : Array TypeId) (args : Array Value) (w : World) (R : Ending → World → Prop) : Prop :=
  ∀ ty, ∃ v w', (Builtin.copy_ ts ty args).run P w = .ok v w' ∧ R (.returned v) w'
theorem CallsCopy.mono {P : Program} {ts : Array TypeId} {args : Array Value} {w : World} {R R' : Ending → World → Prop} (h : CallsCopy P ts args w R) (hr : ∀ e w', R e w' → R' e w') : CallsCopy P ts args w R' := by
  intro ty
  obtain ⟨v, w', h1, h2⟩ := h ty
  exact ⟨v, w', h1, hr _ _ h2⟩
section
variable {P : Program} {ops : Array Oper} {Q : Exit → Act → World → Prop}
theorem goesB_ {rest : List Oper} {oi : Oper} {a : Act} {w : World} (N : Option Tmp) (hd : oi.dst = N) (hg : oi.guard = none) {as : Array Operand} {ts : Array TypeId} (args : Array Value)
    (hop : oi.op = .call { callee := .builtin .copy, args := as, argTypes := ts }) (hargs : as.map a.eval = args)
    (h : CallsCopy P ts args w fun e w' => ∃ v, e = .returned v ∧ wpList P ops Q rest (a.put N v) w') : wpList P ops Q (oi :: rest) a w := by
  obtain ⟨v, w', hrun, v', he, hk⟩ := h oi.type
  injection he with he
  subst he
  refine Kd.event_run hg (w1 := w') (v := v) ?_ (by rw [hd]; exact hk)
  unfold execOp
  simp only [hop, resolve, invoke, builtin, Sem.run_bind, Sem.run_pure, Result.andThen_ok, hargs, hrun]
end
theorem run_copy_win {P : Program} {W : World} (ty t e : TypeId) (ht : P.underlying t = some (.slice e)) (hinfo : (P.info? e).map (·.size) = some 1) {g off m c : Nat} {A : Option Addr} {c2 : Nat} {ys : List Int} {cur : Array Value}
    (hb : W.heap[g]? = some (.cells cur e (0, 0))) (hin : off + m ≤ cur.size) (hC : Kd.C (Kd.int .u64) W A ys.length ys) (hn : ys.length ≤ m) :
    ∃ w1 cur1, (Builtin.copy_ #[t, t] ty #[.slice (some ⟨g, off, none⟩) m c, .slice A ys.length c2]).run P W = .ok (.int .i64 ((ys.length : Nat) : Int)) w1 ∧ w1.heap[g]? = some (.cells cur1 e (0, 0)) ∧ cur1.size = cur.size ∧
      cur1.toList = cur.toList.take off ++ nums .u64 ys ++ cur.toList.drop (off + ys.length) ∧ SetBlk W w1 g := by
  have hR := Kd.reads_of_C (enc := Value.int .u64) (d := (0 : Int)) (h1 := fun _ => rfl) hC
  rcases Nat.eq_zero_or_pos ys.length with h0 | hp
  · refine ⟨W, cur, ?_, hb, rfl, ?_, SetBlk.refl W g⟩
    · rw [h0]
      exact run_copy_none W t t ty e (some ⟨g, off, none⟩) A m c 0 c2 ht hinfo (by simp)
    · obtain rfl := List.eq_nil_of_length_eq_zero h0
      simp [nums]
  · obtain ⟨ad, hA, hc⟩ := hR.2.2 hp
    have hl : (nums .u64 ys).length = ys.length := nums_length _ _
    have hsrc : ∀ j u, (nums .u64 ys)[j]? = some u → W.cell? (ad.add j) = some u := by
      intro j u hu
      have hj : j < ys.length := by
        rcases Nat.lt_or_ge j ys.length with h | h
        · exact h
        · rw [List.getElem?_eq_none (by rw [hl]; exact h)] at hu
          cases hu
      rw [hc j hj, ← hu]
      simp [nums, List.getD_eq_getElem?_getD, List.getElem?_eq_getElem hj]
    have hr := run_copy_cells (P := P) W t t ty e g off m c ad ys.length c2 (nums .u64 ys) ht hinfo (by rw [hl]; exact (Nat.min_eq_left hn).symm) hsrc
      (fun j hj => by rw [cell_of_row W g _ cur e (0, 0) hb]; simp; omega) (fun j _ => blk_frozen hb _) (by intro u hu; simp only [nums, List.mem_map] at hu; obtain ⟨q, _, rfl⟩ := hu; rfl)
    obtain ⟨cur', h3, h4, h5⟩ := setCells_row (nums .u64 ys) off W cur hb (by rw [hl]; omega)
    exact ⟨_, cur', by rw [hA, hr, hl]; rfl, h3, h4, by rw [h5, hl], SetBlk.of_setCells W g off _⟩
def copyTo.f (l0 l1 : List Int) : Option (Int × List Int) := if l1.length ≤ l0.length then some ((l1.length : Int), l1 ++ l0.drop l1.length) else none
theorem copyTo_calls {P : Program} (t e : TypeId) (ht : P.underlying t = some (.slice e)) (hinfo : (P.info? e).map (·.size) = some 1) (P0_ : Nat → Prop) (u9000_ : Value) (l0 : List Int) (A1 : Option Addr) (c1 : Nat) (l1 : List Int) (r1 : Int) (r2 : List Int) (w0 w : World) (hB : Below w0.heap.size w0 w)
    (ho0 : Kd.R (Kd.int .u64) e w w0.heap.size P0_ u9000_ l0) (hr1 : ∀ W_, Kept w W_ (fun k_ => P0_ k_) → Kd.C (Kd.int .u64) W_ A1 l1.length l1) (hc1 : l1.length ≤ c1) (h : copyTo.f l0 l1 = some (r1, r2)) :
    CallsCopy P #[t, t] #[u9000_, .slice A1 l1.length c1] w fun en w' => en = .returned (.int .i64 r1) ∧ Kd.R (Kd.int .u64) e w' w0.heap.size (fun k_ => (P0_ k_ ∨ w.heap.size ≤ k_)) u9000_ r2 ∧ Below w0.heap.size w0 w' ∧ Kept w w' (fun k_ => P0_ k_) := by
  unfold copyTo.f at h
  by_cases hl : l1.length ≤ l0.length
  · rw [if_pos hl] at h
    simp only [Option.some.injEq, Prod.mk.injEq] at h
    obtain ⟨rfl, rfl⟩ := h
    intro ty
    have hown := Kd.own_of_R ho0
    have hC1 := hr1 w (Kept.refl w _)
    rcases hown.2 with ⟨hv, hz⟩ | ⟨g, cap, cur, hv, hb, hh, hnc, hcm, hcs, htake⟩
    · obtain rfl := List.eq_nil_of_length_eq_zero hz
      obtain rfl := List.eq_nil_of_length_eq_zero (show l1.length = 0 by simpa using hl)
      refine ⟨.int .i64 0, w, ?_, rfl, by simpa using Kd.R_mono ho0 (fun _ hk => .inl hk), hB, Kept.refl w _⟩
      rw [hv]
      exact run_copy_none w t t ty e none A1 0 0 0 c1 ht hinfo (by simp)
    · have hP0 : P0_ g := ho0.1 g (by rw [hv]; rfl)
      have hcs' : cur.size = cap := by simpa using hcs
      have htk : cur.toList.take l0.length = nums .u64 l0 := by rw [Nat.mul_one] at htake; exact htake
      have hcz : l0.length ≤ cur.toList.length := by have e_ : cur.toList.length = cap := (Array.length_toList).trans hcs'; omega
      obtain ⟨w1, cur1, hrun, hb1, hs1, ht1, hk1⟩ := run_copy_win (c := cap) (c2 := c1) ty t e ht hinfo (off := 0) (m := l0.length) hh (by rw [hcs']; omega) hC1 hl
      refine ⟨_, w1, by rw [hv]; exact hrun, rfl, ?_, hk1.below hB hb, hk1.kept hP0⟩
      have hrl : (l1 ++ l0.drop l1.length).length = l0.length := by simp only [List.length_append, List.length_drop]; omega
      refine Kd.R_of_own (enc := Value.int .u64) (h1 := fun _ => rfl) ?_ (fun q hq => ?_)
      · refine ⟨by simp [encs_length], .inr ⟨g, cap, cur1, by rw [hrl]; exact hv, hb, hb1, by rw [hrl]; exact hnc, hcm, by rw [hs1, hcs', Nat.mul_one], ?_⟩⟩
        have hw := win_list cur.toList l0.length 0 l1.length l0 l1 rfl hcz htk (by omega) rfl
        rw [hrl, ht1, Nat.mul_one]
        simp only [List.take_zero, List.nil_append, Nat.zero_add] at hw ⊢
        exact hw
      · have : q = g := by rw [hv] at hq; simp [Value.ownBlock] at hq; omega
        exact .inl (this ▸ hP0)
  · rw [if_neg hl] at h
    cases h
def WinOf (u : Value) (n : Nat) (lo hi : Int) (Aw : Option Addr) (m cw : Nat) : Prop :=
  ∃ A cap, u = .slice A n cap ∧ Aw = (if cap = lo.toNat then A else A.map (·.add (lo.toNat * 1))) ∧ m = hi.toNat - lo.toNat ∧ m ≤ cw ∧ lo.toNat ≤ hi.toNat ∧ hi.toNat ≤ n
def StepPost (e : TypeId) (w : World) (g off : Nat) (l0 : List Int) (cur : Array Value) (r : Int × List Int) (en : Ending) (w' : World) : Prop :=
  en = .returned (.int .u64 r.1) ∧ r.2.length = l0.length ∧ ∃ wm cur', Below w.heap.size w wm ∧ SetBlk wm w' g ∧ w'.heap[g]? = some (.cells cur' e (0, 0)) ∧ cur'.size = cur.size ∧
    cur'.toList = cur.toList.take off ++ nums .u64 r.2 ++ cur.toList.drop (off + l0.length)
end Go.Proofs.Ytaegboehjpjfnaa.Mine

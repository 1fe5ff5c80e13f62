/-
  Sums, differences, quotients of floats: a draw where there is no number.
-/
import Derived.Test.YtpjlplkoiedhjaaMetB
namespace Go.Proofs.Ytpjlplkoiedhjaa
open Go.RowKit Go.Shoal

/-- What the operation may give. -/
def Arith (op : BinOp) (x y r : Nat) : Prop := r < B64 ∧ ((floatBits op .f64 x y = some r) ∨ (floatBits op .f64 x y = none ∧ isN r = true))
def IsOp (op : BinOp) : Prop := op = .add ∨ op = .sub ∨ op = .quo
theorem nan_word (t : Nat) : t % 2 * 2 ^ 63 + 0x7ff0000000000000 + 1 + t / 2 % (2 ^ 52 - 1) < B64 ∧ isN (t % 2 * 2 ^ 63 + 0x7ff0000000000000 + 1 + t / 2 % (2 ^ 52 - 1)) = true := by
  have e1 : B64 = 18446744073709551616 := by decide
  have e2 : B63 = 9223372036854775808 := by decide
  have e3 : INF = 9218868437227405312 := by decide
  have h1 := Nat.mod_lt t (show 0 < 2 by decide)
  have h2 := Nat.mod_lt (t / 2) (show 0 < 2 ^ 52 - 1 by decide)
  generalize t / 2 % (2 ^ 52 - 1) = b at *
  generalize t % 2 = a at *
  unfold isN
  rw [decide_eq_true_eq, e1, e2, e3]
  rcases Nat.lt_or_ge a 1 with ha | ha
  · obtain rfl : a = 0 := by omega
    omega
  · obtain rfl : a = 1 := by omega
    omega
theorem arith_run {P : Program} (op : BinOp) (hop : IsOp op) (t : TypeId) (x y : Nat) (w : World) : ∃ r k, (binOp op t (.float .f64 x) (.float .f64 y)).run P w = .ok (.float .f64 r) (w.drewN k) ∧ Arith op x y r := by
  cases h : floatBits op .f64 x y with
  | some r =>
    have hw := floatBits_wf h
    exact ⟨r, 0, run_float_arith w op t .f64 x y r h, by simpa [Lit.wf, B64] using hw, .inl h⟩
  | none =>
    obtain ⟨q, hq⟩ : ∃ q, q = (Question.nanBits .f64 x y).cut (w.tape w.drawn (.nanBits .f64 x y)) := ⟨_, rfl⟩
    have hq2 := nan_word (w.tape w.drawn (.nanBits .f64 x y))
    refine ⟨q, 1, ?_, ?_, .inr ⟨h, ?_⟩⟩
    · rcases hop with rfl | rfl | rfl <;> (unfold floatBits at h; simp only at h; simp [binOp, Op.floatArith, h, hq, Question.forced, World.drew_is_drewN])
    · rw [hq]; exact hq2.1
    · rw [hq]; exact hq2.2
section
variable {P : Program} {w : World}
theorem wp_arith {o : Oper} {a : Act} {K : Act → World → Prop} {Q : Exit → Act → World → Prop} (op : BinOp) (x y : Operand) (t u : TypeId) (ho : o.op = .binOp op t x y u) (hop : IsOp op) (b c : Nat) (hx : a.eval x = .float .f64 b) (hy : a.eval y = .float .f64 c)
    (h : ∀ r k, Arith op b c r → K (a.put o.dst (.float .f64 r)) (w.drewN k)) : o.wp P a w K Q := by
  obtain ⟨r, k, hr, ha⟩ := arith_run (P := P) op hop t b c w
  unfold Oper.wp execOp
  rcases hop with rfl | rfl | rfl <;> simp [ho, hx, hy, hr, eqGuard] <;> exact h r k ha
theorem wpList_arith {ops : Array Oper} {rest : List Oper} {o : Oper} {a : Act} {Q : Exit → Act → World → Prop} (hgd : o.guard = none) (op : BinOp) (x y : Operand) (t u : TypeId) (ho : o.op = .binOp op t x y u) (hop : IsOp op) (b c : Nat) (hx : a.eval x = .float .f64 b) (hy : a.eval y = .float .f64 c)
    (h : ∀ r k, Arith op b c r → wpList P ops Q rest (a.put o.dst (.float .f64 r)) (w.drewN k)) : wpList P ops Q (o :: rest) a w :=
  wpList_plain hgd fun _ hK => wp_arith op x y t u ho hop b c hx hy fun r k ha => hK _ _ (h r k ha)
theorem step_arith {ops : Array Oper} {o : Oper} {a : Act} {K : Act → World → Prop} {Q : Exit → Act → World → Prop} {E : Prop} (hgd : o.guard = none) (op : BinOp) (x y : Operand) (t u : TypeId) (ho : o.op = .binOp op t x y u) (hop : IsOp op) (b c : Nat) (hx : a.eval x = .float .f64 b) (hy : a.eval y = .float .f64 c)
    (h : ∀ r k, Arith op b c r → K (a.put o.dst (.float .f64 r)) (w.drewN k)) : if Region.wanted o (yielded ops a.tmps) = true then Oper.wp P o a w K Q else E := by
  have hw : Region.wanted o (yielded ops a.tmps) = true := by simp [Region.wanted, hgd]
  rw [if_pos hw]
  exact wp_arith op x y t u ho hop b c hx hy h
end
/-- Is it without end? -/
def isI (x : Nat) : Bool := x % B63 == INF
theorem abs_any (x : Nat) (hx : x < B64) (w : World) : Calls Try.prog 50 #[.float .f64 x] w fun e w' => e = .returned (.float .f64 (x % B63)) ∧ w = w' := by
  have hb := andnot_top x hx
  have hl : x % B63 < B64 := Nat.lt_trans (Nat.mod_lt _ (by decide)) (by decide)
  go_enter Try.func50, Try.ntmps50
  go_wp2
  go_ret
  exact ⟨rfl, rfl⟩
theorem low_lt (x : Nat) : x % B63 < B63 := Nat.mod_lt _ (by decide)
theorem order_max (x : Nat) (hn : isN x = false) : (FloatKind.f64.format.order (x % B63) 9218868437227405311 == some Ordering.gt) = isI x := by
  show (Ieee.double.order (x % B63) 9218868437227405311 == some Ordering.gt) = isI x
  have e2 : B63 = 9223372036854775808 := by decide
  have e3 : INF = 9218868437227405312 := by decide
  have hl := low_lt x
  have h0 : isN (x % B63) = false := by
    unfold isN at hn ⊢
    rw [Nat.mod_mod]; exact hn
  have hx : x % B63 ≤ INF := by
    unfold isN at hn
    simpa using hn
  have hv : ∀ r, r < B63 → valI r = (mag r : Int) := fun r hr => by
    unfold valI isNeg
    rw [Nat.div_eq_of_lt hr, Nat.mod_eq_of_lt hr]
    rfl
  rw [order_some h0 (by decide), hv _ hl, hv _ (by decide)]
  unfold isI
  by_cases h : x % B63 = INF
  · have := mag_lt (show 9218868437227405311 < x % B63 by rw [h, e3]; decide)
    rw [Int.compare_eq_gt.2 (by omega)]
    simp [h]
  · have := mag_le (show x % B63 ≤ 9218868437227405311 by omega)
    have hc : compare (mag (x % B63) : Int) (mag 9218868437227405311 : Int) ≠ .gt := fun e => by
      have := Int.compare_eq_gt.1 e
      omega
    rw [beq_eq_false_iff_ne.2 h, beq_eq_false_iff_ne.2 (fun e => hc (Option.some.inj e))]
theorem isinf_any (x : Nat) (hx : x < B64) (hn : isN x = false) (w : World) : Calls Try.prog 40 #[.float .f64 x, .int .i64 0] w fun e w' => e = .returned (.bool (isI x)) ∧ w = w' := by
  have HO := Lib.hid (order_max x hn)
  have HA := Lib.hid (abs_any x hx)
  clear hx hn
  generalize isI x = q at *
  go_enter Try.func40, Try.ntmps40
  go_wp2_with fail
  refine (HA.out _).mono ?_
  rintro e w1 ⟨rfl, rfl⟩
  go_wp2
  go_ret
  exact ⟨ret_bool HO.out, rfl⟩
end Go.Proofs.Ytpjlplkoiedhjaa

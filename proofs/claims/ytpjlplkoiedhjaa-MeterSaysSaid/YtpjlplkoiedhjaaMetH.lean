/-
  The mean.
-/
import Derived.Test.YtpjlplkoiedhjaaMetG
namespace Go.Proofs.Ytpjlplkoiedhjaa
open Go.RowKit Go.Shoal

def MeanOf (m : Mt) (r : Nat) : Prop := (m.n = 0 ∧ r = nanW) ∨ (m.n ≠ 0 ∧ Arith .quo m.s (floatOfInt .f64 (m.n : Int)) r)
def Told (w : World) (R : Nat → Prop) (e : Ending) (w' : World) : Prop := (∃ r, e = .returned (.float .f64 r) ∧ R r) ∧ ∃ n, w' = w.drewN n
theorem mean_any (g : Nat) (v : Value) (m : Mt) (w : World) (h : MAt w g v m) : Calls Try.prog 16 #[.pointer (some ⟨g, 0, none⟩)] w (Told w (MeanOf m)) := by
  obtain ⟨-, c1, -, c3, -, -, -⟩ := h.cellsAre
  clear h
  by_cases hn : m.n = 0
  · have HN := Lib.hid (nan_any w)
    have HE : Hid (MeanOf m nanW) := Lib.hid (.inl ⟨hn, rfl⟩)
    have t1 : ((m.n : Int) == 0) = true := by rw [beq_iff_eq]; omega
    have t2 : (m.n : Int) = 0 := by omega
    clear hn
    go_enter Try.func16, Try.ntmps16
    go_wp2_with fail
    refine HN.out.mono ?_
    rintro e w1 ⟨rfl, rfl⟩
    go_wp2
    go_ret
    exact ⟨⟨_, rfl, HE.out⟩, 0, rfl⟩
  · have HE : Hid (∀ r, Arith .quo m.s (floatOfInt .f64 (m.n : Int)) r → MeanOf m r) := Lib.hid fun r hr => .inr ⟨hn, hr⟩
    have t1 : ((m.n : Int) == 0) = false := by rw [beq_eq_false_iff_ne]; omega
    have t2 : ¬ ((m.n : Int) = 0) := by omega
    clear hn
    go_enter Try.func16, Try.ntmps16
    go_upto_region 3 with fail
    refine wp_region_part (S := fun w' => w'.cell? ⟨g, 1, none⟩ = some (.int .i64 (m.n : Int)) ∧ w'.cell? ⟨g, 3, none⟩ = some (.float .f64 m.s)) [] (by kernel_rfl) ?_ (fun hHeld => ?_)
    · exact ⟨c1, c3⟩
    refine wpPart_take (i := 0) (oi := { dst := some 9, op := Op.move (Operand.tmp 0), type := 24, pos := "meter.go:60", after := #[], guard := none }) (v := ?_) rfl (by kernel_rfl) (by kernel_rfl) (by kernel_rfl) (by kernel_rfl) (by kernel_rfl) (fun _ _ _ h => h) (Or.inl ⟨by rfl, ?_⟩) (by assumption) ?_
    rotate_left
    · intro w hSw; (try dsimp only at hSw); go_simp <;> with_reducible rfl
    try simp only [Act.put, List.setIfInBounds_toArray, List.set_cons_zero, List.set_cons_succ]
    refine wpPart_take (i := 1) (oi := { dst := some 10, op := Op.nilCheck (Operand.tmp 9), type := 0, pos := "meter.go:60", after := #[{ on := 0, ground := Ground.data }], guard := none }) (v := ?_) rfl (by kernel_rfl) (by kernel_rfl) (by kernel_rfl) (by kernel_rfl) (by kernel_rfl) (fun _ _ _ h => h) (Or.inl ⟨by rfl, ?_⟩) (by assumption) ?_
    rotate_left
    · intro w hSw; (try dsimp only at hSw); go_simp <;> with_reducible rfl
    try simp only [Act.put, List.setIfInBounds_toArray, List.set_cons_zero, List.set_cons_succ]
    refine wpPart_take (i := 2) (oi := { dst := some 11, op := Op.fieldAddr 51 (Operand.tmp 10) 3, type := 0, pos := "meter.go:60", after := #[{ on := 1, ground := Ground.data }], guard := none }) (v := ?_) rfl (by kernel_rfl) (by kernel_rfl) (by kernel_rfl) (by kernel_rfl) (by kernel_rfl) (fun _ _ _ h => h) (Or.inl ⟨by rfl, ?_⟩) (by assumption) ?_
    rotate_left
    · intro w hSw; (try dsimp only at hSw); go_simp <;> with_reducible rfl
    try simp only [Act.put, List.setIfInBounds_toArray, List.set_cons_zero, List.set_cons_succ]
    refine wpPart_take (i := 3) (oi := { dst := some 12, op := Op.load 22 (Operand.tmp 11), type := 22, pos := "meter.go:60", after := #[{ on := 2, ground := Ground.data }], guard := none }) (v := ?_) rfl (by kernel_rfl) (by kernel_rfl) (by kernel_rfl) (by kernel_rfl) (by kernel_rfl) (fun _ _ _ h => h) (Or.inl ⟨by rfl, ?_⟩) (by assumption) ?_
    rotate_left
    · intro w hSw; (try dsimp only at hSw); go_simp <;> with_reducible rfl
    try simp only [Act.put, List.setIfInBounds_toArray, List.set_cons_zero, List.set_cons_succ]
    refine wpPart_take (i := 4) (oi := { dst := some 13, op := Op.move (Operand.tmp 0), type := 24, pos := "meter.go:60", after := #[], guard := none }) (v := ?_) rfl (by kernel_rfl) (by kernel_rfl) (by kernel_rfl) (by kernel_rfl) (by kernel_rfl) (fun _ _ _ h => h) (Or.inl ⟨by rfl, ?_⟩) (by assumption) ?_
    rotate_left
    · intro w hSw; (try dsimp only at hSw); go_simp <;> with_reducible rfl
    try simp only [Act.put, List.setIfInBounds_toArray, List.set_cons_zero, List.set_cons_succ]
    refine wpPart_take (i := 5) (oi := { dst := some 14, op := Op.nilCheck (Operand.tmp 13), type := 0, pos := "meter.go:60", after := #[{ on := 4, ground := Ground.data }], guard := none }) (v := ?_) rfl (by kernel_rfl) (by kernel_rfl) (by kernel_rfl) (by kernel_rfl) (by kernel_rfl) (fun _ _ _ h => h) (Or.inl ⟨by rfl, ?_⟩) (by assumption) ?_
    rotate_left
    · intro w hSw; (try dsimp only at hSw); go_simp <;> with_reducible rfl
    try simp only [Act.put, List.setIfInBounds_toArray, List.set_cons_zero, List.set_cons_succ]
    refine wpPart_take (i := 6) (oi := { dst := some 15, op := Op.fieldAddr 51 (Operand.tmp 14) 1, type := 0, pos := "meter.go:60", after := #[{ on := 5, ground := Ground.data }], guard := none }) (v := ?_) rfl (by kernel_rfl) (by kernel_rfl) (by kernel_rfl) (by kernel_rfl) (by kernel_rfl) (fun _ _ _ h => h) (Or.inl ⟨by rfl, ?_⟩) (by assumption) ?_
    rotate_left
    · intro w hSw; (try dsimp only at hSw); go_simp <;> with_reducible rfl
    try simp only [Act.put, List.setIfInBounds_toArray, List.set_cons_zero, List.set_cons_succ]
    refine wpPart_take (i := 7) (oi := { dst := some 16, op := Op.load 2 (Operand.tmp 15), type := 2, pos := "meter.go:60", after := #[{ on := 6, ground := Ground.data }], guard := none }) (v := ?_) rfl (by kernel_rfl) (by kernel_rfl) (by kernel_rfl) (by kernel_rfl) (by kernel_rfl) (fun _ _ _ h => h) (Or.inl ⟨by rfl, ?_⟩) (by assumption) ?_
    rotate_left
    · intro w hSw; (try dsimp only at hSw); go_simp <;> with_reducible rfl
    try simp only [Act.put, List.setIfInBounds_toArray, List.set_cons_zero, List.set_cons_succ]
    refine wpPart_take (i := 8) (oi := { dst := some 17, op := Op.convert 2 22 (Operand.tmp 16), type := 22, pos := "meter.go:60", after := #[{ on := 7, ground := Ground.data }], guard := none }) (v := ?_) rfl (by kernel_rfl) (by kernel_rfl) (by kernel_rfl) (by kernel_rfl) (by kernel_rfl) (fun _ _ _ h => h) (Or.inl ⟨by rfl, ?_⟩) (by assumption) ?_
    rotate_left
    · intro w hSw; (try dsimp only at hSw); go_simp <;> with_reducible rfl
    try simp only [Act.put, List.setIfInBounds_toArray, List.set_cons_zero, List.set_cons_succ]
    refine wpPart_ready (rs := [9]) (by kernel_rfl) (by simp) ?_
    refine AllPart.cons (o := { dst := some 18, op := Op.binOp BinOp.quo 22 (Operand.tmp 12) (Operand.tmp 17) 22, type := 22, pos := "meter.go:60", after := #[{ on := 3, ground := Ground.data }, { on := 8, ground := Ground.data }], guard := none }) rfl (by kernel_rfl) (fun K hK => ?_) AllPart.nil
    refine step_arith (by rfl) .quo _ _ _ _ (by rfl) (.inr (.inr rfl)) _ _ (by rfl) (by rfl) ?_
    intro r kr hr
    refine hK.out _ _ ?_ (fun hHeld => ?_)
    · exact ⟨hHeld.1, hHeld.2⟩
    clear hK K
    try simp only [Act.put, List.setIfInBounds_toArray, List.set_cons_zero, List.set_cons_succ]
    refine wpPart_take (i := 10) (oi := { dst := some 2, op := Op.assign (Operand.tmp 18), type := 22, pos := "meter.go:60", after := #[{ on := 9, ground := Ground.data }, { on := 0, ground := Ground.phase }, { on := 1, ground := Ground.phase }, { on := 2, ground := Ground.phase }, { on := 3, ground := Ground.phase }, { on := 4, ground := Ground.phase }, { on := 5, ground := Ground.phase }, { on := 6, ground := Ground.phase }, { on := 7, ground := Ground.phase }, { on := 8, ground := Ground.phase }, { on := 9, ground := Ground.phase }], guard := none }) (v := ?_) rfl (by kernel_rfl) (by kernel_rfl) (by kernel_rfl) (by kernel_rfl) (by kernel_rfl) (fun _ _ _ h => h) (Or.inl ⟨by rfl, ?_⟩) (by assumption) ?_
    rotate_left
    · intro w hSw; (try dsimp only at hSw); go_simp <;> with_reducible rfl
    try simp only [Act.put, List.setIfInBounds_toArray, List.set_cons_zero, List.set_cons_succ]
    refine wpPart_done (by kernel_rfl) ?_ _
    go_wp2
    go_ret
    exact ⟨⟨_, rfl, HE.out _ hr⟩, 1 + kr, by rw [← World.drewN_drew]⟩
end Go.Proofs.Ytpjlplkoiedhjaa

/-
  The walk of PlacePlain, a case at a time.
-/
import Derived.Test.YtcnjllkmliphkaaPlaceE
namespace Go.Proofs.Ytcnjllkmliphkaa
open Go.RowKit Go.Shoal

set_option maxRecDepth 100000 in
set_option maxHeartbeats 8000000 in
theorem pl_one1 (n e p : Int) (w : World) (h1 : 1 ≤ n) (h2 : n ≤ 16) (he : e = 1) (h4 : 0 ≤ p) (h5 : p < n) (h6 : n ≤ 1) : Calls Try.prog 3 #[.int .i64 n, .int .i64 e, .int .i64 p] w fun d w' => d = .returned (.bool true) ∧ Mod (fun _ => False) w w' := by
  have HB1 : Hid ((plainCf n e).good = true) := by show _ = _; rw [plain_good]; simp only [inB, Bool.and_eq_true, decide_eq_true_eq]; omega
  have HB2 : Hid ((plainCf n e).keeps p 0 = true) := by show _ = _; rw [plain_keeps]; simp only [inB, Bool.and_eq_true, decide_eq_true_eq]; omega
  have HB3 : Hid ((plainCf n e).may p (lessOf (allOf n) (oneOf p)) = false) := by show _ = _; rw [plain_may]; exact Bool.eq_false_iff.2 (fun h => by simp only [inB, Bool.and_eq_true, decide_eq_true_eq] at h; omega)
  have e1 : (e == 1) = true := by simp [he]
  clear he
  have h7 : ¬ 1 < n := by omega
  have h8 : decide (1 < n) = false := decide_eq_false h7
  go_enter Try.func3, Try.ntmps3
  go_wp2_with fail
  refine (awake_calls w).mono ?_
  rintro d w1 ⟨rfl, hm1⟩
  have HM1 := Lib.hid hm1
  clear hm1
  go_wp2_with fail
  refine (plain_any n e w1).mono ?_
  rintro d w2 ⟨v, rfl, hs2, hm2⟩
  have HS2 := Lib.hid hs2
  have HM2 := Lib.hid (HM1.out.trans hm2)
  obtain ⟨A, c, rfl, _, _, _⟩ := hs2
  clear hm2
  have hH : HeldC w w2.heap.size n (plainCf n e).vars 2 3 2 8 64 e (.slice A 1 c) (w2.alloc (.cells #[.int .i64 n, .slice A 1 c, .int .i64 2, .int .i64 3, .int .i64 2, .int .i64 8, .int .i64 64, .int .i64 e] 25)) :=
    Held.cells ⟨blk_new _ _, HS2.out.mod (S := fun _ => False) ((Mod.refl _ _).alloc _) (fun _ _ x => x), HM2.out.alloc _⟩
  unfold Cf.val Cf.cells plainCf
  go_wp2_with fail
  clear HS2
  have HH := Lib.hid hH
  clear hH
  generalize hwq : w2.alloc _ = wq at HH ⊢
  clear hwq
  generalize w2.heap.size = B at HH ⊢
  have hH := HH.out
  clear HH
  have HG : Hid (∀ W, HeldC w B n (plainCf n e).vars 2 3 2 8 64 e (.slice A 1 c) W → Calls Try.prog 7 #[.agg #[.int .i64 n, .slice A 1 c, .int .i64 2, .int .i64 3, .int .i64 2, .int .i64 8, .int .i64 64, .int .i64 e]] W fun d w' => d = .returned (.bool true) ∧ HeldC w B n (plainCf n e).vars 2 3 2 8 64 e (.slice A 1 c) w') :=
    fun W h => (good_any (plainCf n e) (.slice A 1 c) W h.1.2.1).mono fun _ _ ⟨x, y⟩ => ⟨by rw [x, HB1.out], h.mod y⟩
  have HKp : Hid (∀ W, HeldC w B n (plainCf n e).vars 2 3 2 8 64 e (.slice A 1 c) W → Calls Try.prog 8 #[.agg #[.int .i64 n, .slice A 1 c, .int .i64 2, .int .i64 3, .int .i64 2, .int .i64 8, .int .i64 64, .int .i64 e], .int .i64 p, .int .i64 0] W fun d w' => d = .returned (.bool true) ∧ HeldC w B n (plainCf n e).vars 2 3 2 8 64 e (.slice A 1 c) w') :=
    fun W h => (keeps_any (plainCf n e) (.slice A 1 c) p 0 W h.1.2.1).mono fun _ _ ⟨x, y⟩ => ⟨by rw [x, HB2.out], h.mod y⟩
  have HMy : Hid (∀ W, HeldC w B n (plainCf n e).vars 2 3 2 8 64 e (.slice A 1 c) W → Calls Try.prog 9 #[.agg #[.int .i64 n, .slice A 1 c, .int .i64 2, .int .i64 3, .int .i64 2, .int .i64 8, .int .i64 64, .int .i64 e], .int .i64 p, .int .u64 ((lessOf (allOf n) (oneOf p) : Nat) : Int)] W fun d w' => d = .returned (.bool false) ∧ HeldC w B n (plainCf n e).vars 2 3 2 8 64 e (.slice A 1 c) w') :=
    fun W h => (may_any (plainCf n e) (.slice A 1 c) p _ W h.1.2.1 (less_lt _ _ (allOf_lt n))).mono fun _ _ ⟨x, y⟩ => ⟨by rw [x, HB3.out], h.mod y⟩
  have hAN := andnot_bits n p
  have HAl := Lib.hid (all_any n)
  generalize hu : setOf [p] = u at hAN
  have HOf : Hid (∀ W : World, Calls Try.prog 11 #[.slice (some ⟨W.heap.size, 0, none⟩) 1 1] (W.alloc (.cells #[.int .i64 p] 3)) fun d w' => d = .returned (.int .u64 (u : Int)) ∧ W.alloc (.cells #[.int .i64 p] 3) = w') := fun W => by
    rw [← hu]; exact of_any _ [p] _ (Ints.new W 3 1 [p]) (by simp)
  have HOfD : Hid (∀ W : World, Calls Try.prog 11 #[.slice (some ⟨W.heap.size, 0, none⟩) 1 1] (W.alloc (.cells #[.int .i64 p] 3)).drew fun d w' => d = .returned (.int .u64 (u : Int)) ∧ (W.alloc (.cells #[.int .i64 p] 3)).drew = w') := fun W => by
    rw [← hu]; exact of_any _ [p] (W.alloc (.cells #[.int .i64 p] 3)).drew (Ints.new W 3 1 [p]) (by simp)
  generalize allOf n = a at hAN HAl HMy
  generalize lessOf a (oneOf p) = tt at hAN HMy
  generalize (plainCf n e).vars = vs at hH HG HKp HMy
  unfold HeldC at hH HG HKp HMy
  clear hu
  refine wp_region_held_drew (S := (fun w' => Held w B ⟨n, vs, 2, 3, 2, 8, 64, e⟩ (.slice A 1 c) w' ∧ w'.cell? ⟨B, 0, none⟩ = some (.int .i64 n) ∧ w'.cell? ⟨B, 1, none⟩ = some (.slice A 1 c) ∧ w'.cell? ⟨B, 2, none⟩ = some (.int .i64 2) ∧ w'.cell? ⟨B, 3, none⟩ = some (.int .i64 3) ∧ w'.cell? ⟨B, 4, none⟩ = some (.int .i64 2) ∧ w'.cell? ⟨B, 5, none⟩ = some (.int .i64 8) ∧ w'.cell? ⟨B, 6, none⟩ = some (.int .i64 64) ∧ w'.cell? ⟨B, 7, none⟩ = some (.int .i64 e))) (by kernel_rfl) ?_ (fun hHeld => ?_)
  · exact HeldC.drew hH
  refine wpAnyH_take (i := 0) (oi := { dst := some 55, op := Op.load 25 (Operand.tmp 7), type := 25, pos := "law.go:83", after := #[], guard := none }) (v := ?_) rfl (by kernel_rfl) (by kernel_rfl) (by kernel_rfl) (fun _ _ _ h => h) (Or.inl ⟨by rfl, ?_⟩) (by assumption) ?_
  rotate_left
  · intro w hSw; (try dsimp only at hSw); go_simp <;> with_reducible rfl
  try simp only [Act.put, List.setIfInBounds_toArray, List.set_cons_zero, List.set_cons_succ]
  refine wpAnyH_take (i := 2) (oi := { dst := some 57, op := Op.move (Operand.tmp 8), type := 4, pos := "law.go:83", after := #[], guard := none }) (v := ?_) rfl (by kernel_rfl) (by kernel_rfl) (by kernel_rfl) (fun _ _ _ h => h) (Or.inl ⟨by rfl, ?_⟩) (by assumption) ?_
  rotate_left
  · intro w hSw; (try dsimp only at hSw); go_simp <;> with_reducible rfl
  try simp only [Act.put, List.setIfInBounds_toArray, List.set_cons_zero, List.set_cons_succ]
  refine wpAnyH_ready (rs := [1]) (by kernel_rfl) (by simp) ?_
  refine AllReadyH.cons (o := { dst := some 56, op := Op.call { callee := Callee.value (Operand.func 7), args := #[Operand.tmp 55], argTypes := #[25] }, type := 4, pos := "law.go:83", after := #[{ on := 0, ground := Ground.data }], guard := none }) rfl (fun K hK => ?_) AllReadyH.nil
  go_simp
  (first | (go_at_call 7; refine (HG.out _ (by assumption)).mono ?_; rintro d w' ⟨rfl, hS⟩) | (go_at_call 8; refine (HKp.out _ (by assumption)).mono ?_; rintro d w' ⟨rfl, hS⟩) | (go_at_call 9; refine (HMy.out _ (by assumption)).mono ?_; rintro d w' ⟨rfl, hS⟩) | (go_at_call 10; refine (HAl.out _).mono ?_; rintro d w' ⟨rfl, rfl⟩) | (go_at_call 11; refine (HOf.out _).mono ?_; rintro d w' ⟨rfl, rfl⟩) | (go_at_call 10; refine (HAl.out _).mono ?_; rintro d w' ⟨rfl, rfl⟩) | (go_at_call 11; refine (HOfD.out _).mono ?_; rintro d w' ⟨rfl, rfl⟩))
  refine hK.out _ _ ?_ (fun hHeld => ?_)
  · (first | assumption | exact (HeldC.alloc (by assumption) _) | exact (HeldC.drew (by assumption)))
  clear hK K
  try simp only [Act.put, List.setIfInBounds_toArray, List.set_cons_zero, List.set_cons_succ]
  refine wpAnyH_take (i := 3) (oi := { dst := some 58, op := Op.binOp BinOp.eql 4 (Operand.tmp 56) (Operand.tmp 57) 4, type := 4, pos := "law.go:83", after := #[{ on := 1, ground := Ground.data }, { on := 2, ground := Ground.data }], guard := none }) (v := ?_) rfl (by kernel_rfl) (by kernel_rfl) (by kernel_rfl) (fun _ _ _ h => h) (Or.inl ⟨by rfl, ?_⟩) (by assumption) ?_
  rotate_left
  · intro w hSw; (try dsimp only at hSw); go_simp <;> with_reducible rfl
  try simp only [Act.put, List.setIfInBounds_toArray, List.set_cons_zero, List.set_cons_succ]
  refine wpAnyH_take (i := 4) (oi := { dst := some 59, op := Op.move (Operand.tmp 58), type := 4, pos := "law.go:83", after := #[{ on := 3, ground := Ground.data }, { on := 1, ground := Ground.chain }], guard := none }) (v := ?_) rfl (by kernel_rfl) (by kernel_rfl) (by kernel_rfl) (fun _ _ _ h => h) (Or.inl ⟨by rfl, ?_⟩) (by assumption) ?_
  rotate_left
  · intro w hSw; (try dsimp only at hSw); go_simp <;> with_reducible rfl
  try simp only [Act.put, List.setIfInBounds_toArray, List.set_cons_zero, List.set_cons_succ]
  refine wpAnyH_take (i := 5) (oi := { dst := some 60, op := Op.load 25 (Operand.tmp 7), type := 25, pos := "law.go:83", after := #[{ on := 4, ground := Ground.guard }], guard := some (4, true) }) (v := ?_) rfl (by kernel_rfl) (by kernel_rfl) (by kernel_rfl) (fun _ _ _ h => h) (Or.inl ⟨by rfl, ?_⟩) (by assumption) ?_
  rotate_left
  · intro w hSw; (try dsimp only at hSw); go_simp <;> with_reducible rfl
  try simp only [Act.put, List.setIfInBounds_toArray, List.set_cons_zero, List.set_cons_succ]
  refine wpAnyH_take (i := 6) (oi := { dst := some 61, op := Op.move (Operand.tmp 2), type := 3, pos := "law.go:83", after := #[{ on := 4, ground := Ground.guard }], guard := some (4, true) }) (v := ?_) rfl (by kernel_rfl) (by kernel_rfl) (by kernel_rfl) (fun _ _ _ h => h) (Or.inl ⟨by rfl, ?_⟩) (by assumption) ?_
  rotate_left
  · intro w hSw; (try dsimp only at hSw); go_simp <;> with_reducible rfl
  try simp only [Act.put, List.setIfInBounds_toArray, List.set_cons_zero, List.set_cons_succ]
  refine wpAnyH_take (i := 8) (oi := { dst := some 63, op := Op.move (Operand.tmp 9), type := 4, pos := "law.go:83", after := #[{ on := 4, ground := Ground.guard }], guard := some (4, true) }) (v := ?_) rfl (by kernel_rfl) (by kernel_rfl) (by kernel_rfl) (fun _ _ _ h => h) (Or.inl ⟨by rfl, ?_⟩) (by assumption) ?_
  rotate_left
  · intro w hSw; (try dsimp only at hSw); go_simp <;> with_reducible rfl
  try simp only [Act.put, List.setIfInBounds_toArray, List.set_cons_zero, List.set_cons_succ]
  refine wpAnyH_ready (rs := [7]) (by kernel_rfl) (by simp) ?_
  refine AllReadyH.cons (o := { dst := some 62, op := Op.call { callee := Callee.value (Operand.func 8), args := #[Operand.tmp 60, Operand.tmp 61, Operand.const (Value.int IntKind.i64 0)], argTypes := #[25, 3, 3] }, type := 4, pos := "law.go:83", after := #[{ on := 5, ground := Ground.data }, { on := 6, ground := Ground.data }, { on := 4, ground := Ground.chain }, { on := 4, ground := Ground.guard }], guard := some (4, true) }) rfl (fun K hK => ?_) AllReadyH.nil
  go_simp
  (first | (go_at_call 7; refine (HG.out _ (by assumption)).mono ?_; rintro d w' ⟨rfl, hS⟩) | (go_at_call 8; refine (HKp.out _ (by assumption)).mono ?_; rintro d w' ⟨rfl, hS⟩) | (go_at_call 9; refine (HMy.out _ (by assumption)).mono ?_; rintro d w' ⟨rfl, hS⟩) | (go_at_call 10; refine (HAl.out _).mono ?_; rintro d w' ⟨rfl, rfl⟩) | (go_at_call 11; refine (HOf.out _).mono ?_; rintro d w' ⟨rfl, rfl⟩) | (go_at_call 10; refine (HAl.out _).mono ?_; rintro d w' ⟨rfl, rfl⟩) | (go_at_call 11; refine (HOfD.out _).mono ?_; rintro d w' ⟨rfl, rfl⟩))
  refine hK.out _ _ ?_ (fun hHeld => ?_)
  · (first | assumption | exact (HeldC.alloc (by assumption) _) | exact (HeldC.drew (by assumption)))
  clear hK K
  try simp only [Act.put, List.setIfInBounds_toArray, List.set_cons_zero, List.set_cons_succ]
  refine wpAnyH_take (i := 9) (oi := { dst := some 64, op := Op.binOp BinOp.eql 4 (Operand.tmp 62) (Operand.tmp 63) 4, type := 4, pos := "law.go:83", after := #[{ on := 7, ground := Ground.data }, { on := 8, ground := Ground.data }, { on := 4, ground := Ground.guard }], guard := some (4, true) }) (v := ?_) rfl (by kernel_rfl) (by kernel_rfl) (by kernel_rfl) (fun _ _ _ h => h) (Or.inl ⟨by rfl, ?_⟩) (by assumption) ?_
  rotate_left
  · intro w hSw; (try dsimp only at hSw); go_simp <;> with_reducible rfl
  try simp only [Act.put, List.setIfInBounds_toArray, List.set_cons_zero, List.set_cons_succ]
  refine wpAnyH_take (i := 10) (oi := { dst := some 65, op := Op.pick (Operand.tmp 59) (Operand.tmp 64) (Operand.const (Value.bool false)), type := 4, pos := "law.go:83", after := #[{ on := 4, ground := Ground.data }, { on := 9, ground := Ground.data }], guard := none }) (v := ?_) rfl (by kernel_rfl) (by kernel_rfl) (by kernel_rfl) (fun _ _ _ h => h) (Or.inl ⟨by rfl, ?_⟩) (by assumption) ?_
  rotate_left
  · intro w hSw; (try dsimp only at hSw); go_simp <;> with_reducible rfl
  try simp only [Act.put, List.setIfInBounds_toArray, List.set_cons_zero, List.set_cons_succ]
  refine wpAnyH_take (i := 11) (oi := { dst := some 66, op := Op.move (Operand.tmp 65), type := 4, pos := "law.go:83", after := #[{ on := 10, ground := Ground.data }, { on := 7, ground := Ground.chain }], guard := none }) (v := ?_) rfl (by kernel_rfl) (by kernel_rfl) (by kernel_rfl) (fun _ _ _ h => h) (Or.inl ⟨by rfl, ?_⟩) (by assumption) ?_
  rotate_left
  · intro w hSw; (try dsimp only at hSw); go_simp <;> with_reducible rfl
  try simp only [Act.put, List.setIfInBounds_toArray, List.set_cons_zero, List.set_cons_succ]
  refine wpAnyH_take (i := 12) (oi := { dst := some 67, op := Op.load 25 (Operand.tmp 7), type := 25, pos := "law.go:83", after := #[{ on := 11, ground := Ground.guard }], guard := some (11, true) }) (v := ?_) rfl (by kernel_rfl) (by kernel_rfl) (by kernel_rfl) (fun _ _ _ h => h) (Or.inl ⟨by rfl, ?_⟩) (by assumption) ?_
  rotate_left
  · intro w hSw; (try dsimp only at hSw); go_simp <;> with_reducible rfl
  try simp only [Act.put, List.setIfInBounds_toArray, List.set_cons_zero, List.set_cons_succ]
  refine wpAnyH_take (i := 13) (oi := { dst := some 68, op := Op.move (Operand.tmp 2), type := 3, pos := "law.go:83", after := #[{ on := 11, ground := Ground.guard }], guard := some (11, true) }) (v := ?_) rfl (by kernel_rfl) (by kernel_rfl) (by kernel_rfl) (fun _ _ _ h => h) (Or.inl ⟨by rfl, ?_⟩) (by assumption) ?_
  rotate_left
  · intro w hSw; (try dsimp only at hSw); go_simp <;> with_reducible rfl
  try simp only [Act.put, List.setIfInBounds_toArray, List.set_cons_zero, List.set_cons_succ]
  refine wpAnyH_take (i := 14) (oi := { dst := some 69, op := Op.move (Operand.tmp 0), type := 3, pos := "law.go:83", after := #[{ on := 11, ground := Ground.guard }], guard := some (11, true) }) (v := ?_) rfl (by kernel_rfl) (by kernel_rfl) (by kernel_rfl) (fun _ _ _ h => h) (Or.inl ⟨by rfl, ?_⟩) (by assumption) ?_
  rotate_left
  · intro w hSw; (try dsimp only at hSw); go_simp <;> with_reducible rfl
  try simp only [Act.put, List.setIfInBounds_toArray, List.set_cons_zero, List.set_cons_succ]
  refine wpAnyH_take (i := 16) (oi := { dst := some 71, op := Op.move (Operand.tmp 2), type := 3, pos := "law.go:83", after := #[{ on := 11, ground := Ground.guard }], guard := some (11, true) }) (v := ?_) rfl (by kernel_rfl) (by kernel_rfl) (by kernel_rfl) (fun _ _ _ h => h) (Or.inl ⟨by rfl, ?_⟩) (by assumption) ?_
  rotate_left
  · intro w hSw; (try dsimp only at hSw); go_simp <;> with_reducible rfl
  try simp only [Act.put, List.setIfInBounds_toArray, List.set_cons_zero, List.set_cons_succ]
  refine wpAnyH_take (i := 21) (oi := { dst := some 76, op := Op.move (Operand.tmp 9), type := 4, pos := "law.go:83", after := #[{ on := 11, ground := Ground.guard }], guard := some (11, true) }) (v := ?_) rfl (by kernel_rfl) (by kernel_rfl) (by kernel_rfl) (fun _ _ _ h => h) (Or.inl ⟨by rfl, ?_⟩) (by assumption) ?_
  rotate_left
  · intro w hSw; (try dsimp only at hSw); go_simp <;> with_reducible rfl
  try simp only [Act.put, List.setIfInBounds_toArray, List.set_cons_zero, List.set_cons_succ]
  refine wpAnyH_ready (rs := [15, 17]) (by kernel_rfl) (by simp) ?_
  refine AllReadyH.cons (o := { dst := some 70, op := Op.call { callee := Callee.value (Operand.func 10), args := #[Operand.tmp 69], argTypes := #[3] }, type := 31, pos := "law.go:83", after := #[{ on := 14, ground := Ground.data }, { on := 11, ground := Ground.chain }, { on := 11, ground := Ground.guard }], guard := some (11, true) }) rfl (fun K hK => ?_) ?_
  · skip
    go_simp
    (first | (go_at_call 7; refine (HG.out _ (by assumption)).mono ?_; rintro d w' ⟨rfl, hS⟩) | (go_at_call 8; refine (HKp.out _ (by assumption)).mono ?_; rintro d w' ⟨rfl, hS⟩) | (go_at_call 9; refine (HMy.out _ (by assumption)).mono ?_; rintro d w' ⟨rfl, hS⟩) | (go_at_call 10; refine (HAl.out _).mono ?_; rintro d w' ⟨rfl, rfl⟩) | (go_at_call 11; refine (HOf.out _).mono ?_; rintro d w' ⟨rfl, rfl⟩) | (go_at_call 10; refine (HAl.out _).mono ?_; rintro d w' ⟨rfl, rfl⟩) | (go_at_call 11; refine (HOfD.out _).mono ?_; rintro d w' ⟨rfl, rfl⟩))
    refine hK.out _ _ ?_ (fun hHeld => ?_)
    · (first | assumption | exact (HeldC.alloc (by assumption) _) | exact (HeldC.drew (by assumption)))
    clear hK K
    try simp only [Act.put, List.setIfInBounds_toArray, List.set_cons_zero, List.set_cons_succ]
    refine wpAnyH_ready (rs := [17]) (by kernel_rfl) (by simp) ?_
    refine AllReadyH.cons (o := { dst := some 72, op := Op.buildSlice 39 1 #[(0, Operand.tmp 71)], type := 39, pos := "law.go:83", after := #[{ on := 16, ground := Ground.data }, { on := 11, ground := Ground.guard }], guard := some (11, true) }) rfl (fun K hK => ?_) AllReadyH.nil
    go_simp
    refine hK.out _ _ ?_ (fun hHeld => ?_)
    · (first | assumption | exact (HeldC.alloc (by assumption) _) | exact (HeldC.drew (by assumption)))
    clear hK K
    try simp only [Act.put, List.setIfInBounds_toArray, List.set_cons_zero, List.set_cons_succ]
    refine wpAnyH_ready (rs := [18]) (by kernel_rfl) (by simp) ?_
    refine AllReadyH.cons (o := { dst := some 73, op := Op.call { callee := Callee.value (Operand.func 11), args := #[Operand.tmp 72], argTypes := #[39] }, type := 31, pos := "law.go:83", after := #[{ on := 17, ground := Ground.data }, { on := 15, ground := Ground.chain }, { on := 11, ground := Ground.guard }], guard := some (11, true) }) rfl (fun K hK => ?_) AllReadyH.nil
    go_simp
    (first | (go_at_call 7; refine (HG.out _ (by assumption)).mono ?_; rintro d w' ⟨rfl, hS⟩) | (go_at_call 8; refine (HKp.out _ (by assumption)).mono ?_; rintro d w' ⟨rfl, hS⟩) | (go_at_call 9; refine (HMy.out _ (by assumption)).mono ?_; rintro d w' ⟨rfl, hS⟩) | (go_at_call 10; refine (HAl.out _).mono ?_; rintro d w' ⟨rfl, rfl⟩) | (go_at_call 11; refine (HOf.out _).mono ?_; rintro d w' ⟨rfl, rfl⟩) | (go_at_call 10; refine (HAl.out _).mono ?_; rintro d w' ⟨rfl, rfl⟩) | (go_at_call 11; refine (HOfD.out _).mono ?_; rintro d w' ⟨rfl, rfl⟩))
    refine hK.out _ _ ?_ (fun hHeld => ?_)
    · (first | assumption | exact (HeldC.alloc (by assumption) _) | exact (HeldC.drew (by assumption)))
    clear hK K
    try simp only [Act.put, List.setIfInBounds_toArray, List.set_cons_zero, List.set_cons_succ]
    refine wpAnyH_take (i := 19) (oi := { dst := some 74, op := Op.binOp BinOp.andNot 31 (Operand.tmp 70) (Operand.tmp 73) 31, type := 31, pos := "law.go:83", after := #[{ on := 15, ground := Ground.data }, { on := 18, ground := Ground.data }, { on := 11, ground := Ground.guard }], guard := some (11, true) }) (v := ?_) rfl (by kernel_rfl) (by kernel_rfl) (by kernel_rfl) (fun _ _ _ h => h) (Or.inl ⟨by rfl, ?_⟩) (by assumption) ?_
    rotate_left
    · intro w hSw; (try dsimp only at hSw); go_simp <;> with_reducible rfl
    try simp only [Act.put, List.setIfInBounds_toArray, List.set_cons_zero, List.set_cons_succ]
    refine wpAnyH_ready (rs := [20]) (by kernel_rfl) (by simp) ?_
    refine AllReadyH.cons (o := { dst := some 75, op := Op.call { callee := Callee.value (Operand.func 9), args := #[Operand.tmp 67, Operand.tmp 68, Operand.tmp 74], argTypes := #[25, 3, 31] }, type := 4, pos := "law.go:83", after := #[{ on := 12, ground := Ground.data }, { on := 13, ground := Ground.data }, { on := 19, ground := Ground.data }, { on := 18, ground := Ground.chain }, { on := 11, ground := Ground.guard }], guard := some (11, true) }) rfl (fun K hK => ?_) AllReadyH.nil
    go_simp
    (first | (go_at_call 7; refine (HG.out _ (by assumption)).mono ?_; rintro d w' ⟨rfl, hS⟩) | (go_at_call 8; refine (HKp.out _ (by assumption)).mono ?_; rintro d w' ⟨rfl, hS⟩) | (go_at_call 9; refine (HMy.out _ (by assumption)).mono ?_; rintro d w' ⟨rfl, hS⟩) | (go_at_call 10; refine (HAl.out _).mono ?_; rintro d w' ⟨rfl, rfl⟩) | (go_at_call 11; refine (HOf.out _).mono ?_; rintro d w' ⟨rfl, rfl⟩) | (go_at_call 10; refine (HAl.out _).mono ?_; rintro d w' ⟨rfl, rfl⟩) | (go_at_call 11; refine (HOfD.out _).mono ?_; rintro d w' ⟨rfl, rfl⟩))
    refine hK.out _ _ ?_ (fun hHeld => ?_)
    · (first | assumption | exact (HeldC.alloc (by assumption) _) | exact (HeldC.drew (by assumption)))
    clear hK K
    try simp only [Act.put, List.setIfInBounds_toArray, List.set_cons_zero, List.set_cons_succ]
    refine wpAnyH_take (i := 22) (oi := { dst := some 77, op := Op.move (Operand.tmp 76), type := 4, pos := "law.go:83", after := #[{ on := 21, ground := Ground.data }, { on := 20, ground := Ground.chain }, { on := 11, ground := Ground.guard }], guard := some (11, true) }) (v := ?_) rfl (by kernel_rfl) (by kernel_rfl) (by kernel_rfl) (fun _ _ _ h => h) (Or.inl ⟨by rfl, ?_⟩) (by assumption) ?_
    rotate_left
    · intro w hSw; (try dsimp only at hSw); go_simp <;> with_reducible rfl
    try simp only [Act.put, List.setIfInBounds_toArray, List.set_cons_zero, List.set_cons_succ]
    refine wpAnyH_take (i := 23) (oi := { dst := some 78, op := Op.move (Operand.tmp 0), type := 3, pos := "law.go:83", after := #[{ on := 22, ground := Ground.guard }], guard := some (22, true) }) (v := ?_) rfl (by kernel_rfl) (by kernel_rfl) (by kernel_rfl) (fun _ _ _ h => h) (Or.inl ⟨by rfl, ?_⟩) (by assumption) ?_
    rotate_left
    · intro w hSw; (try dsimp only at hSw); go_simp <;> with_reducible rfl
    try simp only [Act.put, List.setIfInBounds_toArray, List.set_cons_zero, List.set_cons_succ]
    refine wpAnyH_take (i := 24) (oi := { dst := some 79, op := Op.binOp BinOp.gtr 3 (Operand.tmp 78) (Operand.const (Value.int IntKind.i64 1)) 3, type := 4, pos := "law.go:83", after := #[{ on := 23, ground := Ground.data }, { on := 22, ground := Ground.guard }], guard := some (22, true) }) (v := ?_) rfl (by kernel_rfl) (by kernel_rfl) (by kernel_rfl) (fun _ _ _ h => h) (Or.inl ⟨by rfl, ?_⟩) (by assumption) ?_
    rotate_left
    · intro w hSw; (try dsimp only at hSw); go_simp <;> with_reducible rfl
    try simp only [Act.put, List.setIfInBounds_toArray, List.set_cons_zero, List.set_cons_succ]
    refine wpAnyH_take (i := 25) (oi := { dst := some 80, op := Op.pick (Operand.tmp 77) (Operand.tmp 79) (Operand.const (Value.bool false)), type := 4, pos := "law.go:83", after := #[{ on := 22, ground := Ground.data }, { on := 24, ground := Ground.data }, { on := 11, ground := Ground.guard }], guard := some (11, true) }) (v := ?_) rfl (by kernel_rfl) (by kernel_rfl) (by kernel_rfl) (fun _ _ _ h => h) (Or.inl ⟨by rfl, ?_⟩) (by assumption) ?_
    rotate_left
    · intro w hSw; (try dsimp only at hSw); go_simp <;> with_reducible rfl
    try simp only [Act.put, List.setIfInBounds_toArray, List.set_cons_zero, List.set_cons_succ]
    refine wpAnyH_take (i := 26) (oi := { dst := some 81, op := Op.binOp BinOp.eql 4 (Operand.tmp 75) (Operand.tmp 80) 4, type := 4, pos := "law.go:83", after := #[{ on := 20, ground := Ground.data }, { on := 25, ground := Ground.data }, { on := 11, ground := Ground.guard }], guard := some (11, true) }) (v := ?_) rfl (by kernel_rfl) (by kernel_rfl) (by kernel_rfl) (fun _ _ _ h => h) (Or.inl ⟨by rfl, ?_⟩) (by assumption) ?_
    rotate_left
    · intro w hSw; (try dsimp only at hSw); go_simp <;> with_reducible rfl
    try simp only [Act.put, List.setIfInBounds_toArray, List.set_cons_zero, List.set_cons_succ]
    refine wpAnyH_take (i := 27) (oi := { dst := some 82, op := Op.pick (Operand.tmp 66) (Operand.tmp 81) (Operand.const (Value.bool false)), type := 4, pos := "law.go:83", after := #[{ on := 11, ground := Ground.data }, { on := 26, ground := Ground.data }], guard := none }) (v := ?_) rfl (by kernel_rfl) (by kernel_rfl) (by kernel_rfl) (fun _ _ _ h => h) (Or.inl ⟨by rfl, ?_⟩) (by assumption) ?_
    rotate_left
    · intro w hSw; (try dsimp only at hSw); go_simp <;> with_reducible rfl
    try simp only [Act.put, List.setIfInBounds_toArray, List.set_cons_zero, List.set_cons_succ]
    refine wpAnyH_take (i := 28) (oi := { dst := some 6, op := Op.assign (Operand.tmp 82), type := 4, pos := "law.go:83", after := #[{ on := 27, ground := Ground.data }, { on := 22, ground := Ground.chain }, { on := 0, ground := Ground.phase }, { on := 1, ground := Ground.phase }, { on := 2, ground := Ground.phase }, { on := 3, ground := Ground.phase }, { on := 4, ground := Ground.phase }, { on := 5, ground := Ground.phase }, { on := 6, ground := Ground.phase }, { on := 7, ground := Ground.phase }, { on := 8, ground := Ground.phase }, { on := 9, ground := Ground.phase }, { on := 10, ground := Ground.phase }, { on := 11, ground := Ground.phase }, { on := 12, ground := Ground.phase }, { on := 13, ground := Ground.phase }, { on := 14, ground := Ground.phase }, { on := 15, ground := Ground.phase }, { on := 16, ground := Ground.phase }, { on := 17, ground := Ground.phase }, { on := 18, ground := Ground.phase }, { on := 19, ground := Ground.phase }, { on := 20, ground := Ground.phase }, { on := 21, ground := Ground.phase }, { on := 22, ground := Ground.phase }, { on := 23, ground := Ground.phase }, { on := 24, ground := Ground.phase }, { on := 25, ground := Ground.phase }, { on := 26, ground := Ground.phase }, { on := 27, ground := Ground.phase }], guard := none }) (v := ?_) rfl (by kernel_rfl) (by kernel_rfl) (by kernel_rfl) (fun _ _ _ h => h) (Or.inl ⟨by rfl, ?_⟩) (by assumption) ?_
    rotate_left
    · intro w hSw; (try dsimp only at hSw); go_simp <;> with_reducible rfl
    try simp only [Act.put, List.setIfInBounds_toArray, List.set_cons_zero, List.set_cons_succ]
    refine wpAnyH_done (by kernel_rfl) ?_ _
    go_wp2
    go_ret
    exact ⟨rfl, HeldC.modOf (by assumption)⟩
  refine AllReadyH.cons (o := { dst := some 72, op := Op.buildSlice 39 1 #[(0, Operand.tmp 71)], type := 39, pos := "law.go:83", after := #[{ on := 16, ground := Ground.data }, { on := 11, ground := Ground.guard }], guard := some (11, true) }) rfl (fun K hK => ?_) ?_
  · skip
    go_simp
    refine hK.out _ _ ?_ (fun hHeld => ?_)
    · (first | assumption | exact (HeldC.alloc (by assumption) _) | exact (HeldC.drew (by assumption)))
    clear hK K
    try simp only [Act.put, List.setIfInBounds_toArray, List.set_cons_zero, List.set_cons_succ]
    refine wpAnyH_ready (rs := [15]) (by kernel_rfl) (by simp) ?_
    refine AllReadyH.cons (o := { dst := some 70, op := Op.call { callee := Callee.value (Operand.func 10), args := #[Operand.tmp 69], argTypes := #[3] }, type := 31, pos := "law.go:83", after := #[{ on := 14, ground := Ground.data }, { on := 11, ground := Ground.chain }, { on := 11, ground := Ground.guard }], guard := some (11, true) }) rfl (fun K hK => ?_) AllReadyH.nil
    go_simp
    (first | (go_at_call 7; refine (HG.out _ (by assumption)).mono ?_; rintro d w' ⟨rfl, hS⟩) | (go_at_call 8; refine (HKp.out _ (by assumption)).mono ?_; rintro d w' ⟨rfl, hS⟩) | (go_at_call 9; refine (HMy.out _ (by assumption)).mono ?_; rintro d w' ⟨rfl, hS⟩) | (go_at_call 10; refine (HAl.out _).mono ?_; rintro d w' ⟨rfl, rfl⟩) | (go_at_call 11; refine (HOf.out _).mono ?_; rintro d w' ⟨rfl, rfl⟩) | (go_at_call 10; refine (HAl.out _).mono ?_; rintro d w' ⟨rfl, rfl⟩) | (go_at_call 11; refine (HOfD.out _).mono ?_; rintro d w' ⟨rfl, rfl⟩))
    refine hK.out _ _ ?_ (fun hHeld => ?_)
    · (first | assumption | exact (HeldC.alloc (by assumption) _) | exact (HeldC.drew (by assumption)))
    clear hK K
    try simp only [Act.put, List.setIfInBounds_toArray, List.set_cons_zero, List.set_cons_succ]
    refine wpAnyH_ready (rs := [18]) (by kernel_rfl) (by simp) ?_
    refine AllReadyH.cons (o := { dst := some 73, op := Op.call { callee := Callee.value (Operand.func 11), args := #[Operand.tmp 72], argTypes := #[39] }, type := 31, pos := "law.go:83", after := #[{ on := 17, ground := Ground.data }, { on := 15, ground := Ground.chain }, { on := 11, ground := Ground.guard }], guard := some (11, true) }) rfl (fun K hK => ?_) AllReadyH.nil
    go_simp
    (first | (go_at_call 7; refine (HG.out _ (by assumption)).mono ?_; rintro d w' ⟨rfl, hS⟩) | (go_at_call 8; refine (HKp.out _ (by assumption)).mono ?_; rintro d w' ⟨rfl, hS⟩) | (go_at_call 9; refine (HMy.out _ (by assumption)).mono ?_; rintro d w' ⟨rfl, hS⟩) | (go_at_call 10; refine (HAl.out _).mono ?_; rintro d w' ⟨rfl, rfl⟩) | (go_at_call 11; refine (HOf.out _).mono ?_; rintro d w' ⟨rfl, rfl⟩) | (go_at_call 10; refine (HAl.out _).mono ?_; rintro d w' ⟨rfl, rfl⟩) | (go_at_call 11; refine (HOfD.out _).mono ?_; rintro d w' ⟨rfl, rfl⟩))
    refine hK.out _ _ ?_ (fun hHeld => ?_)
    · (first | assumption | exact (HeldC.alloc (by assumption) _) | exact (HeldC.drew (by assumption)))
    clear hK K
    try simp only [Act.put, List.setIfInBounds_toArray, List.set_cons_zero, List.set_cons_succ]
    refine wpAnyH_take (i := 19) (oi := { dst := some 74, op := Op.binOp BinOp.andNot 31 (Operand.tmp 70) (Operand.tmp 73) 31, type := 31, pos := "law.go:83", after := #[{ on := 15, ground := Ground.data }, { on := 18, ground := Ground.data }, { on := 11, ground := Ground.guard }], guard := some (11, true) }) (v := ?_) rfl (by kernel_rfl) (by kernel_rfl) (by kernel_rfl) (fun _ _ _ h => h) (Or.inl ⟨by rfl, ?_⟩) (by assumption) ?_
    rotate_left
    · intro w hSw; (try dsimp only at hSw); go_simp <;> with_reducible rfl
    try simp only [Act.put, List.setIfInBounds_toArray, List.set_cons_zero, List.set_cons_succ]
    refine wpAnyH_ready (rs := [20]) (by kernel_rfl) (by simp) ?_
    refine AllReadyH.cons (o := { dst := some 75, op := Op.call { callee := Callee.value (Operand.func 9), args := #[Operand.tmp 67, Operand.tmp 68, Operand.tmp 74], argTypes := #[25, 3, 31] }, type := 4, pos := "law.go:83", after := #[{ on := 12, ground := Ground.data }, { on := 13, ground := Ground.data }, { on := 19, ground := Ground.data }, { on := 18, ground := Ground.chain }, { on := 11, ground := Ground.guard }], guard := some (11, true) }) rfl (fun K hK => ?_) AllReadyH.nil
    go_simp
    (first | (go_at_call 7; refine (HG.out _ (by assumption)).mono ?_; rintro d w' ⟨rfl, hS⟩) | (go_at_call 8; refine (HKp.out _ (by assumption)).mono ?_; rintro d w' ⟨rfl, hS⟩) | (go_at_call 9; refine (HMy.out _ (by assumption)).mono ?_; rintro d w' ⟨rfl, hS⟩) | (go_at_call 10; refine (HAl.out _).mono ?_; rintro d w' ⟨rfl, rfl⟩) | (go_at_call 11; refine (HOf.out _).mono ?_; rintro d w' ⟨rfl, rfl⟩) | (go_at_call 10; refine (HAl.out _).mono ?_; rintro d w' ⟨rfl, rfl⟩) | (go_at_call 11; refine (HOfD.out _).mono ?_; rintro d w' ⟨rfl, rfl⟩))
    refine hK.out _ _ ?_ (fun hHeld => ?_)
    · (first | assumption | exact (HeldC.alloc (by assumption) _) | exact (HeldC.drew (by assumption)))
    clear hK K
    try simp only [Act.put, List.setIfInBounds_toArray, List.set_cons_zero, List.set_cons_succ]
    refine wpAnyH_take (i := 22) (oi := { dst := some 77, op := Op.move (Operand.tmp 76), type := 4, pos := "law.go:83", after := #[{ on := 21, ground := Ground.data }, { on := 20, ground := Ground.chain }, { on := 11, ground := Ground.guard }], guard := some (11, true) }) (v := ?_) rfl (by kernel_rfl) (by kernel_rfl) (by kernel_rfl) (fun _ _ _ h => h) (Or.inl ⟨by rfl, ?_⟩) (by assumption) ?_
    rotate_left
    · intro w hSw; (try dsimp only at hSw); go_simp <;> with_reducible rfl
    try simp only [Act.put, List.setIfInBounds_toArray, List.set_cons_zero, List.set_cons_succ]
    refine wpAnyH_take (i := 23) (oi := { dst := some 78, op := Op.move (Operand.tmp 0), type := 3, pos := "law.go:83", after := #[{ on := 22, ground := Ground.guard }], guard := some (22, true) }) (v := ?_) rfl (by kernel_rfl) (by kernel_rfl) (by kernel_rfl) (fun _ _ _ h => h) (Or.inl ⟨by rfl, ?_⟩) (by assumption) ?_
    rotate_left
    · intro w hSw; (try dsimp only at hSw); go_simp <;> with_reducible rfl
    try simp only [Act.put, List.setIfInBounds_toArray, List.set_cons_zero, List.set_cons_succ]
    refine wpAnyH_take (i := 24) (oi := { dst := some 79, op := Op.binOp BinOp.gtr 3 (Operand.tmp 78) (Operand.const (Value.int IntKind.i64 1)) 3, type := 4, pos := "law.go:83", after := #[{ on := 23, ground := Ground.data }, { on := 22, ground := Ground.guard }], guard := some (22, true) }) (v := ?_) rfl (by kernel_rfl) (by kernel_rfl) (by kernel_rfl) (fun _ _ _ h => h) (Or.inl ⟨by rfl, ?_⟩) (by assumption) ?_
    rotate_left
    · intro w hSw; (try dsimp only at hSw); go_simp <;> with_reducible rfl
    try simp only [Act.put, List.setIfInBounds_toArray, List.set_cons_zero, List.set_cons_succ]
    refine wpAnyH_take (i := 25) (oi := { dst := some 80, op := Op.pick (Operand.tmp 77) (Operand.tmp 79) (Operand.const (Value.bool false)), type := 4, pos := "law.go:83", after := #[{ on := 22, ground := Ground.data }, { on := 24, ground := Ground.data }, { on := 11, ground := Ground.guard }], guard := some (11, true) }) (v := ?_) rfl (by kernel_rfl) (by kernel_rfl) (by kernel_rfl) (fun _ _ _ h => h) (Or.inl ⟨by rfl, ?_⟩) (by assumption) ?_
    rotate_left
    · intro w hSw; (try dsimp only at hSw); go_simp <;> with_reducible rfl
    try simp only [Act.put, List.setIfInBounds_toArray, List.set_cons_zero, List.set_cons_succ]
    refine wpAnyH_take (i := 26) (oi := { dst := some 81, op := Op.binOp BinOp.eql 4 (Operand.tmp 75) (Operand.tmp 80) 4, type := 4, pos := "law.go:83", after := #[{ on := 20, ground := Ground.data }, { on := 25, ground := Ground.data }, { on := 11, ground := Ground.guard }], guard := some (11, true) }) (v := ?_) rfl (by kernel_rfl) (by kernel_rfl) (by kernel_rfl) (fun _ _ _ h => h) (Or.inl ⟨by rfl, ?_⟩) (by assumption) ?_
    rotate_left
    · intro w hSw; (try dsimp only at hSw); go_simp <;> with_reducible rfl
    try simp only [Act.put, List.setIfInBounds_toArray, List.set_cons_zero, List.set_cons_succ]
    refine wpAnyH_take (i := 27) (oi := { dst := some 82, op := Op.pick (Operand.tmp 66) (Operand.tmp 81) (Operand.const (Value.bool false)), type := 4, pos := "law.go:83", after := #[{ on := 11, ground := Ground.data }, { on := 26, ground := Ground.data }], guard := none }) (v := ?_) rfl (by kernel_rfl) (by kernel_rfl) (by kernel_rfl) (fun _ _ _ h => h) (Or.inl ⟨by rfl, ?_⟩) (by assumption) ?_
    rotate_left
    · intro w hSw; (try dsimp only at hSw); go_simp <;> with_reducible rfl
    try simp only [Act.put, List.setIfInBounds_toArray, List.set_cons_zero, List.set_cons_succ]
    refine wpAnyH_take (i := 28) (oi := { dst := some 6, op := Op.assign (Operand.tmp 82), type := 4, pos := "law.go:83", after := #[{ on := 27, ground := Ground.data }, { on := 22, ground := Ground.chain }, { on := 0, ground := Ground.phase }, { on := 1, ground := Ground.phase }, { on := 2, ground := Ground.phase }, { on := 3, ground := Ground.phase }, { on := 4, ground := Ground.phase }, { on := 5, ground := Ground.phase }, { on := 6, ground := Ground.phase }, { on := 7, ground := Ground.phase }, { on := 8, ground := Ground.phase }, { on := 9, ground := Ground.phase }, { on := 10, ground := Ground.phase }, { on := 11, ground := Ground.phase }, { on := 12, ground := Ground.phase }, { on := 13, ground := Ground.phase }, { on := 14, ground := Ground.phase }, { on := 15, ground := Ground.phase }, { on := 16, ground := Ground.phase }, { on := 17, ground := Ground.phase }, { on := 18, ground := Ground.phase }, { on := 19, ground := Ground.phase }, { on := 20, ground := Ground.phase }, { on := 21, ground := Ground.phase }, { on := 22, ground := Ground.phase }, { on := 23, ground := Ground.phase }, { on := 24, ground := Ground.phase }, { on := 25, ground := Ground.phase }, { on := 26, ground := Ground.phase }, { on := 27, ground := Ground.phase }], guard := none }) (v := ?_) rfl (by kernel_rfl) (by kernel_rfl) (by kernel_rfl) (fun _ _ _ h => h) (Or.inl ⟨by rfl, ?_⟩) (by assumption) ?_
    rotate_left
    · intro w hSw; (try dsimp only at hSw); go_simp <;> with_reducible rfl
    try simp only [Act.put, List.setIfInBounds_toArray, List.set_cons_zero, List.set_cons_succ]
    refine wpAnyH_done (by kernel_rfl) ?_ _
    go_wp2
    go_ret
    exact ⟨rfl, HeldC.modOf (by assumption)⟩
  exact AllReadyH.nil

set_option maxRecDepth 100000 in
set_option maxHeartbeats 8000000 in
theorem pl_neg2 (n e p : Int) (w : World) (h1 : 1 ≤ n) (h2 : n ≤ 16) (he : e = 2) (h4 : p < 0) : Calls Try.prog 3 #[.int .i64 n, .int .i64 e, .int .i64 p] w fun d w' => d = .returned (.bool true) ∧ Mod (fun _ => False) w w' := by
  have HB1 : Hid ((plainCf n e).good = true) := by show _ = _; rw [plain_good]; simp only [inB, Bool.and_eq_true, decide_eq_true_eq]; omega
  have HB2 : Hid ((plainCf n e).keeps p 0 = false) := by show _ = _; rw [plain_keeps]; exact Bool.eq_false_iff.2 (fun h => by simp only [inB, Bool.and_eq_true, decide_eq_true_eq] at h; omega)
  have HB3 : Hid ((plainCf n e).may p (lessOf (allOf n) (oneOf p)) = false) := by show _ = _; rw [plain_may]; exact Bool.eq_false_iff.2 (fun h => by simp only [inB, Bool.and_eq_true, decide_eq_true_eq] at h; omega)
  have e1 : (e == 1) = false := by simp [he]
  have e2 : (e == 2) = true := by simp [he]
  clear he
  go_enter Try.func3, Try.ntmps3
  go_wp2_with fail
  refine (awake_calls w).mono ?_
  rintro d w1 ⟨rfl, hm1⟩
  have HM1 := Lib.hid hm1
  clear hm1
  go_wp2_with fail
  refine (plain_any n e w1).mono ?_
  rintro d w2 ⟨v, rfl, hs2, hm2⟩
  have HS2 := Lib.hid hs2
  have HM2 := Lib.hid (HM1.out.trans hm2)
  obtain ⟨A, c, rfl, _, _, _⟩ := hs2
  clear hm2
  have hH : HeldC w w2.heap.size n (plainCf n e).vars 2 3 2 8 64 e (.slice A 1 c) (w2.alloc (.cells #[.int .i64 n, .slice A 1 c, .int .i64 2, .int .i64 3, .int .i64 2, .int .i64 8, .int .i64 64, .int .i64 e] 25)) :=
    Held.cells ⟨blk_new _ _, HS2.out.mod (S := fun _ => False) ((Mod.refl _ _).alloc _) (fun _ _ x => x), HM2.out.alloc _⟩
  unfold Cf.val Cf.cells plainCf
  go_wp2_with fail
  clear HS2
  have HH := Lib.hid hH
  clear hH
  generalize hwq : w2.alloc _ = wq at HH ⊢
  clear hwq
  generalize w2.heap.size = B at HH ⊢
  have hH := HH.out
  clear HH
  have HG : Hid (∀ W, HeldC w B n (plainCf n e).vars 2 3 2 8 64 e (.slice A 1 c) W → Calls Try.prog 7 #[.agg #[.int .i64 n, .slice A 1 c, .int .i64 2, .int .i64 3, .int .i64 2, .int .i64 8, .int .i64 64, .int .i64 e]] W fun d w' => d = .returned (.bool true) ∧ HeldC w B n (plainCf n e).vars 2 3 2 8 64 e (.slice A 1 c) w') :=
    fun W h => (good_any (plainCf n e) (.slice A 1 c) W h.1.2.1).mono fun _ _ ⟨x, y⟩ => ⟨by rw [x, HB1.out], h.mod y⟩
  have HKp : Hid (∀ W, HeldC w B n (plainCf n e).vars 2 3 2 8 64 e (.slice A 1 c) W → Calls Try.prog 8 #[.agg #[.int .i64 n, .slice A 1 c, .int .i64 2, .int .i64 3, .int .i64 2, .int .i64 8, .int .i64 64, .int .i64 e], .int .i64 p, .int .i64 0] W fun d w' => d = .returned (.bool false) ∧ HeldC w B n (plainCf n e).vars 2 3 2 8 64 e (.slice A 1 c) w') :=
    fun W h => (keeps_any (plainCf n e) (.slice A 1 c) p 0 W h.1.2.1).mono fun _ _ ⟨x, y⟩ => ⟨by rw [x, HB2.out], h.mod y⟩
  have HMy : Hid (∀ W, HeldC w B n (plainCf n e).vars 2 3 2 8 64 e (.slice A 1 c) W → Calls Try.prog 9 #[.agg #[.int .i64 n, .slice A 1 c, .int .i64 2, .int .i64 3, .int .i64 2, .int .i64 8, .int .i64 64, .int .i64 e], .int .i64 p, .int .u64 ((lessOf (allOf n) (oneOf p) : Nat) : Int)] W fun d w' => d = .returned (.bool false) ∧ HeldC w B n (plainCf n e).vars 2 3 2 8 64 e (.slice A 1 c) w') :=
    fun W h => (may_any (plainCf n e) (.slice A 1 c) p _ W h.1.2.1 (less_lt _ _ (allOf_lt n))).mono fun _ _ ⟨x, y⟩ => ⟨by rw [x, HB3.out], h.mod y⟩
  have hAN := andnot_bits n p
  have HAl := Lib.hid (all_any n)
  generalize hu : setOf [p] = u at hAN
  have HOf : Hid (∀ W : World, Calls Try.prog 11 #[.slice (some ⟨W.heap.size, 0, none⟩) 1 1] (W.alloc (.cells #[.int .i64 p] 3)) fun d w' => d = .returned (.int .u64 (u : Int)) ∧ W.alloc (.cells #[.int .i64 p] 3) = w') := fun W => by
    rw [← hu]; exact of_any _ [p] _ (Ints.new W 3 1 [p]) (by simp)
  have HOfD : Hid (∀ W : World, Calls Try.prog 11 #[.slice (some ⟨W.heap.size, 0, none⟩) 1 1] (W.alloc (.cells #[.int .i64 p] 3)).drew fun d w' => d = .returned (.int .u64 (u : Int)) ∧ (W.alloc (.cells #[.int .i64 p] 3)).drew = w') := fun W => by
    rw [← hu]; exact of_any _ [p] (W.alloc (.cells #[.int .i64 p] 3)).drew (Ints.new W 3 1 [p]) (by simp)
  generalize allOf n = a at hAN HAl HMy
  generalize lessOf a (oneOf p) = tt at hAN HMy
  generalize (plainCf n e).vars = vs at hH HG HKp HMy
  unfold HeldC at hH HG HKp HMy
  clear hu
  refine wp_region_held_drew (S := (fun w' => Held w B ⟨n, vs, 2, 3, 2, 8, 64, e⟩ (.slice A 1 c) w' ∧ w'.cell? ⟨B, 0, none⟩ = some (.int .i64 n) ∧ w'.cell? ⟨B, 1, none⟩ = some (.slice A 1 c) ∧ w'.cell? ⟨B, 2, none⟩ = some (.int .i64 2) ∧ w'.cell? ⟨B, 3, none⟩ = some (.int .i64 3) ∧ w'.cell? ⟨B, 4, none⟩ = some (.int .i64 2) ∧ w'.cell? ⟨B, 5, none⟩ = some (.int .i64 8) ∧ w'.cell? ⟨B, 6, none⟩ = some (.int .i64 64) ∧ w'.cell? ⟨B, 7, none⟩ = some (.int .i64 e))) (by kernel_rfl) ?_ (fun hHeld => ?_)
  · exact HeldC.drew hH
  refine wpAnyH_take (i := 0) (oi := { dst := some 55, op := Op.load 25 (Operand.tmp 7), type := 25, pos := "law.go:83", after := #[], guard := none }) (v := ?_) rfl (by kernel_rfl) (by kernel_rfl) (by kernel_rfl) (fun _ _ _ h => h) (Or.inl ⟨by rfl, ?_⟩) (by assumption) ?_
  rotate_left
  · intro w hSw; (try dsimp only at hSw); go_simp <;> with_reducible rfl
  try simp only [Act.put, List.setIfInBounds_toArray, List.set_cons_zero, List.set_cons_succ]
  refine wpAnyH_take (i := 2) (oi := { dst := some 57, op := Op.move (Operand.tmp 8), type := 4, pos := "law.go:83", after := #[], guard := none }) (v := ?_) rfl (by kernel_rfl) (by kernel_rfl) (by kernel_rfl) (fun _ _ _ h => h) (Or.inl ⟨by rfl, ?_⟩) (by assumption) ?_
  rotate_left
  · intro w hSw; (try dsimp only at hSw); go_simp <;> with_reducible rfl
  try simp only [Act.put, List.setIfInBounds_toArray, List.set_cons_zero, List.set_cons_succ]
  refine wpAnyH_ready (rs := [1]) (by kernel_rfl) (by simp) ?_
  refine AllReadyH.cons (o := { dst := some 56, op := Op.call { callee := Callee.value (Operand.func 7), args := #[Operand.tmp 55], argTypes := #[25] }, type := 4, pos := "law.go:83", after := #[{ on := 0, ground := Ground.data }], guard := none }) rfl (fun K hK => ?_) AllReadyH.nil
  go_simp
  (first | (go_at_call 7; refine (HG.out _ (by assumption)).mono ?_; rintro d w' ⟨rfl, hS⟩) | (go_at_call 8; refine (HKp.out _ (by assumption)).mono ?_; rintro d w' ⟨rfl, hS⟩) | (go_at_call 9; refine (HMy.out _ (by assumption)).mono ?_; rintro d w' ⟨rfl, hS⟩) | (go_at_call 10; refine (HAl.out _).mono ?_; rintro d w' ⟨rfl, rfl⟩) | (go_at_call 11; refine (HOf.out _).mono ?_; rintro d w' ⟨rfl, rfl⟩) | (go_at_call 10; refine (HAl.out _).mono ?_; rintro d w' ⟨rfl, rfl⟩) | (go_at_call 11; refine (HOfD.out _).mono ?_; rintro d w' ⟨rfl, rfl⟩))
  refine hK.out _ _ ?_ (fun hHeld => ?_)
  · (first | assumption | exact (HeldC.alloc (by assumption) _) | exact (HeldC.drew (by assumption)))
  clear hK K
  try simp only [Act.put, List.setIfInBounds_toArray, List.set_cons_zero, List.set_cons_succ]
  refine wpAnyH_take (i := 3) (oi := { dst := some 58, op := Op.binOp BinOp.eql 4 (Operand.tmp 56) (Operand.tmp 57) 4, type := 4, pos := "law.go:83", after := #[{ on := 1, ground := Ground.data }, { on := 2, ground := Ground.data }], guard := none }) (v := ?_) rfl (by kernel_rfl) (by kernel_rfl) (by kernel_rfl) (fun _ _ _ h => h) (Or.inl ⟨by rfl, ?_⟩) (by assumption) ?_
  rotate_left
  · intro w hSw; (try dsimp only at hSw); go_simp <;> with_reducible rfl
  try simp only [Act.put, List.setIfInBounds_toArray, List.set_cons_zero, List.set_cons_succ]
  refine wpAnyH_take (i := 4) (oi := { dst := some 59, op := Op.move (Operand.tmp 58), type := 4, pos := "law.go:83", after := #[{ on := 3, ground := Ground.data }, { on := 1, ground := Ground.chain }], guard := none }) (v := ?_) rfl (by kernel_rfl) (by kernel_rfl) (by kernel_rfl) (fun _ _ _ h => h) (Or.inl ⟨by rfl, ?_⟩) (by assumption) ?_
  rotate_left
  · intro w hSw; (try dsimp only at hSw); go_simp <;> with_reducible rfl
  try simp only [Act.put, List.setIfInBounds_toArray, List.set_cons_zero, List.set_cons_succ]
  refine wpAnyH_take (i := 5) (oi := { dst := some 60, op := Op.load 25 (Operand.tmp 7), type := 25, pos := "law.go:83", after := #[{ on := 4, ground := Ground.guard }], guard := some (4, true) }) (v := ?_) rfl (by kernel_rfl) (by kernel_rfl) (by kernel_rfl) (fun _ _ _ h => h) (Or.inl ⟨by rfl, ?_⟩) (by assumption) ?_
  rotate_left
  · intro w hSw; (try dsimp only at hSw); go_simp <;> with_reducible rfl
  try simp only [Act.put, List.setIfInBounds_toArray, List.set_cons_zero, List.set_cons_succ]
  refine wpAnyH_take (i := 6) (oi := { dst := some 61, op := Op.move (Operand.tmp 2), type := 3, pos := "law.go:83", after := #[{ on := 4, ground := Ground.guard }], guard := some (4, true) }) (v := ?_) rfl (by kernel_rfl) (by kernel_rfl) (by kernel_rfl) (fun _ _ _ h => h) (Or.inl ⟨by rfl, ?_⟩) (by assumption) ?_
  rotate_left
  · intro w hSw; (try dsimp only at hSw); go_simp <;> with_reducible rfl
  try simp only [Act.put, List.setIfInBounds_toArray, List.set_cons_zero, List.set_cons_succ]
  refine wpAnyH_take (i := 8) (oi := { dst := some 63, op := Op.move (Operand.tmp 9), type := 4, pos := "law.go:83", after := #[{ on := 4, ground := Ground.guard }], guard := some (4, true) }) (v := ?_) rfl (by kernel_rfl) (by kernel_rfl) (by kernel_rfl) (fun _ _ _ h => h) (Or.inl ⟨by rfl, ?_⟩) (by assumption) ?_
  rotate_left
  · intro w hSw; (try dsimp only at hSw); go_simp <;> with_reducible rfl
  try simp only [Act.put, List.setIfInBounds_toArray, List.set_cons_zero, List.set_cons_succ]
  refine wpAnyH_ready (rs := [7]) (by kernel_rfl) (by simp) ?_
  refine AllReadyH.cons (o := { dst := some 62, op := Op.call { callee := Callee.value (Operand.func 8), args := #[Operand.tmp 60, Operand.tmp 61, Operand.const (Value.int IntKind.i64 0)], argTypes := #[25, 3, 3] }, type := 4, pos := "law.go:83", after := #[{ on := 5, ground := Ground.data }, { on := 6, ground := Ground.data }, { on := 4, ground := Ground.chain }, { on := 4, ground := Ground.guard }], guard := some (4, true) }) rfl (fun K hK => ?_) AllReadyH.nil
  go_simp
  (first | (go_at_call 7; refine (HG.out _ (by assumption)).mono ?_; rintro d w' ⟨rfl, hS⟩) | (go_at_call 8; refine (HKp.out _ (by assumption)).mono ?_; rintro d w' ⟨rfl, hS⟩) | (go_at_call 9; refine (HMy.out _ (by assumption)).mono ?_; rintro d w' ⟨rfl, hS⟩) | (go_at_call 10; refine (HAl.out _).mono ?_; rintro d w' ⟨rfl, rfl⟩) | (go_at_call 11; refine (HOf.out _).mono ?_; rintro d w' ⟨rfl, rfl⟩) | (go_at_call 10; refine (HAl.out _).mono ?_; rintro d w' ⟨rfl, rfl⟩) | (go_at_call 11; refine (HOfD.out _).mono ?_; rintro d w' ⟨rfl, rfl⟩))
  refine hK.out _ _ ?_ (fun hHeld => ?_)
  · (first | assumption | exact (HeldC.alloc (by assumption) _) | exact (HeldC.drew (by assumption)))
  clear hK K
  try simp only [Act.put, List.setIfInBounds_toArray, List.set_cons_zero, List.set_cons_succ]
  refine wpAnyH_take (i := 9) (oi := { dst := some 64, op := Op.binOp BinOp.eql 4 (Operand.tmp 62) (Operand.tmp 63) 4, type := 4, pos := "law.go:83", after := #[{ on := 7, ground := Ground.data }, { on := 8, ground := Ground.data }, { on := 4, ground := Ground.guard }], guard := some (4, true) }) (v := ?_) rfl (by kernel_rfl) (by kernel_rfl) (by kernel_rfl) (fun _ _ _ h => h) (Or.inl ⟨by rfl, ?_⟩) (by assumption) ?_
  rotate_left
  · intro w hSw; (try dsimp only at hSw); go_simp <;> with_reducible rfl
  try simp only [Act.put, List.setIfInBounds_toArray, List.set_cons_zero, List.set_cons_succ]
  refine wpAnyH_take (i := 10) (oi := { dst := some 65, op := Op.pick (Operand.tmp 59) (Operand.tmp 64) (Operand.const (Value.bool false)), type := 4, pos := "law.go:83", after := #[{ on := 4, ground := Ground.data }, { on := 9, ground := Ground.data }], guard := none }) (v := ?_) rfl (by kernel_rfl) (by kernel_rfl) (by kernel_rfl) (fun _ _ _ h => h) (Or.inl ⟨by rfl, ?_⟩) (by assumption) ?_
  rotate_left
  · intro w hSw; (try dsimp only at hSw); go_simp <;> with_reducible rfl
  try simp only [Act.put, List.setIfInBounds_toArray, List.set_cons_zero, List.set_cons_succ]
  refine wpAnyH_take (i := 11) (oi := { dst := some 66, op := Op.move (Operand.tmp 65), type := 4, pos := "law.go:83", after := #[{ on := 10, ground := Ground.data }, { on := 7, ground := Ground.chain }], guard := none }) (v := ?_) rfl (by kernel_rfl) (by kernel_rfl) (by kernel_rfl) (fun _ _ _ h => h) (Or.inl ⟨by rfl, ?_⟩) (by assumption) ?_
  rotate_left
  · intro w hSw; (try dsimp only at hSw); go_simp <;> with_reducible rfl
  try simp only [Act.put, List.setIfInBounds_toArray, List.set_cons_zero, List.set_cons_succ]
  refine wpAnyH_take (i := 12) (oi := { dst := some 67, op := Op.load 25 (Operand.tmp 7), type := 25, pos := "law.go:83", after := #[{ on := 11, ground := Ground.guard }], guard := some (11, true) }) (v := ?_) rfl (by kernel_rfl) (by kernel_rfl) (by kernel_rfl) (fun _ _ _ h => h) (Or.inl ⟨by rfl, ?_⟩) (by assumption) ?_
  rotate_left
  · intro w hSw; (try dsimp only at hSw); go_simp <;> with_reducible rfl
  try simp only [Act.put, List.setIfInBounds_toArray, List.set_cons_zero, List.set_cons_succ]
  refine wpAnyH_take (i := 13) (oi := { dst := some 68, op := Op.move (Operand.tmp 2), type := 3, pos := "law.go:83", after := #[{ on := 11, ground := Ground.guard }], guard := some (11, true) }) (v := ?_) rfl (by kernel_rfl) (by kernel_rfl) (by kernel_rfl) (fun _ _ _ h => h) (Or.inl ⟨by rfl, ?_⟩) (by assumption) ?_
  rotate_left
  · intro w hSw; (try dsimp only at hSw); go_simp <;> with_reducible rfl
  try simp only [Act.put, List.setIfInBounds_toArray, List.set_cons_zero, List.set_cons_succ]
  refine wpAnyH_take (i := 14) (oi := { dst := some 69, op := Op.move (Operand.tmp 0), type := 3, pos := "law.go:83", after := #[{ on := 11, ground := Ground.guard }], guard := some (11, true) }) (v := ?_) rfl (by kernel_rfl) (by kernel_rfl) (by kernel_rfl) (fun _ _ _ h => h) (Or.inl ⟨by rfl, ?_⟩) (by assumption) ?_
  rotate_left
  · intro w hSw; (try dsimp only at hSw); go_simp <;> with_reducible rfl
  try simp only [Act.put, List.setIfInBounds_toArray, List.set_cons_zero, List.set_cons_succ]
  refine wpAnyH_take (i := 16) (oi := { dst := some 71, op := Op.move (Operand.tmp 2), type := 3, pos := "law.go:83", after := #[{ on := 11, ground := Ground.guard }], guard := some (11, true) }) (v := ?_) rfl (by kernel_rfl) (by kernel_rfl) (by kernel_rfl) (fun _ _ _ h => h) (Or.inl ⟨by rfl, ?_⟩) (by assumption) ?_
  rotate_left
  · intro w hSw; (try dsimp only at hSw); go_simp <;> with_reducible rfl
  try simp only [Act.put, List.setIfInBounds_toArray, List.set_cons_zero, List.set_cons_succ]
  refine wpAnyH_take (i := 21) (oi := { dst := some 76, op := Op.move (Operand.tmp 9), type := 4, pos := "law.go:83", after := #[{ on := 11, ground := Ground.guard }], guard := some (11, true) }) (v := ?_) rfl (by kernel_rfl) (by kernel_rfl) (by kernel_rfl) (fun _ _ _ h => h) (Or.inl ⟨by rfl, ?_⟩) (by assumption) ?_
  rotate_left
  · intro w hSw; (try dsimp only at hSw); go_simp <;> with_reducible rfl
  try simp only [Act.put, List.setIfInBounds_toArray, List.set_cons_zero, List.set_cons_succ]
  refine wpAnyH_ready (rs := [15, 17]) (by kernel_rfl) (by simp) ?_
  refine AllReadyH.cons (o := { dst := some 70, op := Op.call { callee := Callee.value (Operand.func 10), args := #[Operand.tmp 69], argTypes := #[3] }, type := 31, pos := "law.go:83", after := #[{ on := 14, ground := Ground.data }, { on := 11, ground := Ground.chain }, { on := 11, ground := Ground.guard }], guard := some (11, true) }) rfl (fun K hK => ?_) ?_
  · skip
    go_simp
    (first | (go_at_call 7; refine (HG.out _ (by assumption)).mono ?_; rintro d w' ⟨rfl, hS⟩) | (go_at_call 8; refine (HKp.out _ (by assumption)).mono ?_; rintro d w' ⟨rfl, hS⟩) | (go_at_call 9; refine (HMy.out _ (by assumption)).mono ?_; rintro d w' ⟨rfl, hS⟩) | (go_at_call 10; refine (HAl.out _).mono ?_; rintro d w' ⟨rfl, rfl⟩) | (go_at_call 11; refine (HOf.out _).mono ?_; rintro d w' ⟨rfl, rfl⟩) | (go_at_call 10; refine (HAl.out _).mono ?_; rintro d w' ⟨rfl, rfl⟩) | (go_at_call 11; refine (HOfD.out _).mono ?_; rintro d w' ⟨rfl, rfl⟩))
    refine hK.out _ _ ?_ (fun hHeld => ?_)
    · (first | assumption | exact (HeldC.alloc (by assumption) _) | exact (HeldC.drew (by assumption)))
    clear hK K
    try simp only [Act.put, List.setIfInBounds_toArray, List.set_cons_zero, List.set_cons_succ]
    refine wpAnyH_ready (rs := [17]) (by kernel_rfl) (by simp) ?_
    refine AllReadyH.cons (o := { dst := some 72, op := Op.buildSlice 39 1 #[(0, Operand.tmp 71)], type := 39, pos := "law.go:83", after := #[{ on := 16, ground := Ground.data }, { on := 11, ground := Ground.guard }], guard := some (11, true) }) rfl (fun K hK => ?_) AllReadyH.nil
    go_simp
    refine hK.out _ _ ?_ (fun hHeld => ?_)
    · (first | assumption | exact (HeldC.alloc (by assumption) _) | exact (HeldC.drew (by assumption)))
    clear hK K
    try simp only [Act.put, List.setIfInBounds_toArray, List.set_cons_zero, List.set_cons_succ]
    refine wpAnyH_ready (rs := [18]) (by kernel_rfl) (by simp) ?_
    refine AllReadyH.cons (o := { dst := some 73, op := Op.call { callee := Callee.value (Operand.func 11), args := #[Operand.tmp 72], argTypes := #[39] }, type := 31, pos := "law.go:83", after := #[{ on := 17, ground := Ground.data }, { on := 15, ground := Ground.chain }, { on := 11, ground := Ground.guard }], guard := some (11, true) }) rfl (fun K hK => ?_) AllReadyH.nil
    go_simp
    (first | (go_at_call 7; refine (HG.out _ (by assumption)).mono ?_; rintro d w' ⟨rfl, hS⟩) | (go_at_call 8; refine (HKp.out _ (by assumption)).mono ?_; rintro d w' ⟨rfl, hS⟩) | (go_at_call 9; refine (HMy.out _ (by assumption)).mono ?_; rintro d w' ⟨rfl, hS⟩) | (go_at_call 10; refine (HAl.out _).mono ?_; rintro d w' ⟨rfl, rfl⟩) | (go_at_call 11; refine (HOf.out _).mono ?_; rintro d w' ⟨rfl, rfl⟩) | (go_at_call 10; refine (HAl.out _).mono ?_; rintro d w' ⟨rfl, rfl⟩) | (go_at_call 11; refine (HOfD.out _).mono ?_; rintro d w' ⟨rfl, rfl⟩))
    refine hK.out _ _ ?_ (fun hHeld => ?_)
    · (first | assumption | exact (HeldC.alloc (by assumption) _) | exact (HeldC.drew (by assumption)))
    clear hK K
    try simp only [Act.put, List.setIfInBounds_toArray, List.set_cons_zero, List.set_cons_succ]
    refine wpAnyH_take (i := 19) (oi := { dst := some 74, op := Op.binOp BinOp.andNot 31 (Operand.tmp 70) (Operand.tmp 73) 31, type := 31, pos := "law.go:83", after := #[{ on := 15, ground := Ground.data }, { on := 18, ground := Ground.data }, { on := 11, ground := Ground.guard }], guard := some (11, true) }) (v := ?_) rfl (by kernel_rfl) (by kernel_rfl) (by kernel_rfl) (fun _ _ _ h => h) (Or.inl ⟨by rfl, ?_⟩) (by assumption) ?_
    rotate_left
    · intro w hSw; (try dsimp only at hSw); go_simp <;> with_reducible rfl
    try simp only [Act.put, List.setIfInBounds_toArray, List.set_cons_zero, List.set_cons_succ]
    refine wpAnyH_ready (rs := [20]) (by kernel_rfl) (by simp) ?_
    refine AllReadyH.cons (o := { dst := some 75, op := Op.call { callee := Callee.value (Operand.func 9), args := #[Operand.tmp 67, Operand.tmp 68, Operand.tmp 74], argTypes := #[25, 3, 31] }, type := 4, pos := "law.go:83", after := #[{ on := 12, ground := Ground.data }, { on := 13, ground := Ground.data }, { on := 19, ground := Ground.data }, { on := 18, ground := Ground.chain }, { on := 11, ground := Ground.guard }], guard := some (11, true) }) rfl (fun K hK => ?_) AllReadyH.nil
    go_simp
    (first | (go_at_call 7; refine (HG.out _ (by assumption)).mono ?_; rintro d w' ⟨rfl, hS⟩) | (go_at_call 8; refine (HKp.out _ (by assumption)).mono ?_; rintro d w' ⟨rfl, hS⟩) | (go_at_call 9; refine (HMy.out _ (by assumption)).mono ?_; rintro d w' ⟨rfl, hS⟩) | (go_at_call 10; refine (HAl.out _).mono ?_; rintro d w' ⟨rfl, rfl⟩) | (go_at_call 11; refine (HOf.out _).mono ?_; rintro d w' ⟨rfl, rfl⟩) | (go_at_call 10; refine (HAl.out _).mono ?_; rintro d w' ⟨rfl, rfl⟩) | (go_at_call 11; refine (HOfD.out _).mono ?_; rintro d w' ⟨rfl, rfl⟩))
    refine hK.out _ _ ?_ (fun hHeld => ?_)
    · (first | assumption | exact (HeldC.alloc (by assumption) _) | exact (HeldC.drew (by assumption)))
    clear hK K
    try simp only [Act.put, List.setIfInBounds_toArray, List.set_cons_zero, List.set_cons_succ]
    refine wpAnyH_take (i := 22) (oi := { dst := some 77, op := Op.move (Operand.tmp 76), type := 4, pos := "law.go:83", after := #[{ on := 21, ground := Ground.data }, { on := 20, ground := Ground.chain }, { on := 11, ground := Ground.guard }], guard := some (11, true) }) (v := ?_) rfl (by kernel_rfl) (by kernel_rfl) (by kernel_rfl) (fun _ _ _ h => h) (Or.inl ⟨by rfl, ?_⟩) (by assumption) ?_
    rotate_left
    · intro w hSw; (try dsimp only at hSw); go_simp <;> with_reducible rfl
    try simp only [Act.put, List.setIfInBounds_toArray, List.set_cons_zero, List.set_cons_succ]
    refine wpAnyH_take (i := 23) (oi := { dst := some 78, op := Op.move (Operand.tmp 0), type := 3, pos := "law.go:83", after := #[{ on := 22, ground := Ground.guard }], guard := some (22, true) }) (v := undef) rfl (by kernel_rfl) (by kernel_rfl) (by kernel_rfl) (fun _ _ _ h => h) (Or.inr ⟨by rfl, rfl⟩) (by assumption) ?_
    try simp only [Act.put, List.setIfInBounds_toArray, List.set_cons_zero, List.set_cons_succ]
    refine wpAnyH_take (i := 24) (oi := { dst := some 79, op := Op.binOp BinOp.gtr 3 (Operand.tmp 78) (Operand.const (Value.int IntKind.i64 1)) 3, type := 4, pos := "law.go:83", after := #[{ on := 23, ground := Ground.data }, { on := 22, ground := Ground.guard }], guard := some (22, true) }) (v := undef) rfl (by kernel_rfl) (by kernel_rfl) (by kernel_rfl) (fun _ _ _ h => h) (Or.inr ⟨by rfl, rfl⟩) (by assumption) ?_
    try simp only [Act.put, List.setIfInBounds_toArray, List.set_cons_zero, List.set_cons_succ]
    refine wpAnyH_take (i := 25) (oi := { dst := some 80, op := Op.pick (Operand.tmp 77) (Operand.tmp 79) (Operand.const (Value.bool false)), type := 4, pos := "law.go:83", after := #[{ on := 22, ground := Ground.data }, { on := 24, ground := Ground.data }, { on := 11, ground := Ground.guard }], guard := some (11, true) }) (v := ?_) rfl (by kernel_rfl) (by kernel_rfl) (by kernel_rfl) (fun _ _ _ h => h) (Or.inl ⟨by rfl, ?_⟩) (by assumption) ?_
    rotate_left
    · intro w hSw; (try dsimp only at hSw); go_simp <;> with_reducible rfl
    try simp only [Act.put, List.setIfInBounds_toArray, List.set_cons_zero, List.set_cons_succ]
    refine wpAnyH_take (i := 26) (oi := { dst := some 81, op := Op.binOp BinOp.eql 4 (Operand.tmp 75) (Operand.tmp 80) 4, type := 4, pos := "law.go:83", after := #[{ on := 20, ground := Ground.data }, { on := 25, ground := Ground.data }, { on := 11, ground := Ground.guard }], guard := some (11, true) }) (v := ?_) rfl (by kernel_rfl) (by kernel_rfl) (by kernel_rfl) (fun _ _ _ h => h) (Or.inl ⟨by rfl, ?_⟩) (by assumption) ?_
    rotate_left
    · intro w hSw; (try dsimp only at hSw); go_simp <;> with_reducible rfl
    try simp only [Act.put, List.setIfInBounds_toArray, List.set_cons_zero, List.set_cons_succ]
    refine wpAnyH_take (i := 27) (oi := { dst := some 82, op := Op.pick (Operand.tmp 66) (Operand.tmp 81) (Operand.const (Value.bool false)), type := 4, pos := "law.go:83", after := #[{ on := 11, ground := Ground.data }, { on := 26, ground := Ground.data }], guard := none }) (v := ?_) rfl (by kernel_rfl) (by kernel_rfl) (by kernel_rfl) (fun _ _ _ h => h) (Or.inl ⟨by rfl, ?_⟩) (by assumption) ?_
    rotate_left
    · intro w hSw; (try dsimp only at hSw); go_simp <;> with_reducible rfl
    try simp only [Act.put, List.setIfInBounds_toArray, List.set_cons_zero, List.set_cons_succ]
    refine wpAnyH_take (i := 28) (oi := { dst := some 6, op := Op.assign (Operand.tmp 82), type := 4, pos := "law.go:83", after := #[{ on := 27, ground := Ground.data }, { on := 22, ground := Ground.chain }, { on := 0, ground := Ground.phase }, { on := 1, ground := Ground.phase }, { on := 2, ground := Ground.phase }, { on := 3, ground := Ground.phase }, { on := 4, ground := Ground.phase }, { on := 5, ground := Ground.phase }, { on := 6, ground := Ground.phase }, { on := 7, ground := Ground.phase }, { on := 8, ground := Ground.phase }, { on := 9, ground := Ground.phase }, { on := 10, ground := Ground.phase }, { on := 11, ground := Ground.phase }, { on := 12, ground := Ground.phase }, { on := 13, ground := Ground.phase }, { on := 14, ground := Ground.phase }, { on := 15, ground := Ground.phase }, { on := 16, ground := Ground.phase }, { on := 17, ground := Ground.phase }, { on := 18, ground := Ground.phase }, { on := 19, ground := Ground.phase }, { on := 20, ground := Ground.phase }, { on := 21, ground := Ground.phase }, { on := 22, ground := Ground.phase }, { on := 23, ground := Ground.phase }, { on := 24, ground := Ground.phase }, { on := 25, ground := Ground.phase }, { on := 26, ground := Ground.phase }, { on := 27, ground := Ground.phase }], guard := none }) (v := ?_) rfl (by kernel_rfl) (by kernel_rfl) (by kernel_rfl) (fun _ _ _ h => h) (Or.inl ⟨by rfl, ?_⟩) (by assumption) ?_
    rotate_left
    · intro w hSw; (try dsimp only at hSw); go_simp <;> with_reducible rfl
    try simp only [Act.put, List.setIfInBounds_toArray, List.set_cons_zero, List.set_cons_succ]
    refine wpAnyH_done (by kernel_rfl) ?_ _
    go_wp2
    go_ret
    exact ⟨rfl, HeldC.modOf (by assumption)⟩
  refine AllReadyH.cons (o := { dst := some 72, op := Op.buildSlice 39 1 #[(0, Operand.tmp 71)], type := 39, pos := "law.go:83", after := #[{ on := 16, ground := Ground.data }, { on := 11, ground := Ground.guard }], guard := some (11, true) }) rfl (fun K hK => ?_) ?_
  · skip
    go_simp
    refine hK.out _ _ ?_ (fun hHeld => ?_)
    · (first | assumption | exact (HeldC.alloc (by assumption) _) | exact (HeldC.drew (by assumption)))
    clear hK K
    try simp only [Act.put, List.setIfInBounds_toArray, List.set_cons_zero, List.set_cons_succ]
    refine wpAnyH_ready (rs := [15]) (by kernel_rfl) (by simp) ?_
    refine AllReadyH.cons (o := { dst := some 70, op := Op.call { callee := Callee.value (Operand.func 10), args := #[Operand.tmp 69], argTypes := #[3] }, type := 31, pos := "law.go:83", after := #[{ on := 14, ground := Ground.data }, { on := 11, ground := Ground.chain }, { on := 11, ground := Ground.guard }], guard := some (11, true) }) rfl (fun K hK => ?_) AllReadyH.nil
    go_simp
    (first | (go_at_call 7; refine (HG.out _ (by assumption)).mono ?_; rintro d w' ⟨rfl, hS⟩) | (go_at_call 8; refine (HKp.out _ (by assumption)).mono ?_; rintro d w' ⟨rfl, hS⟩) | (go_at_call 9; refine (HMy.out _ (by assumption)).mono ?_; rintro d w' ⟨rfl, hS⟩) | (go_at_call 10; refine (HAl.out _).mono ?_; rintro d w' ⟨rfl, rfl⟩) | (go_at_call 11; refine (HOf.out _).mono ?_; rintro d w' ⟨rfl, rfl⟩) | (go_at_call 10; refine (HAl.out _).mono ?_; rintro d w' ⟨rfl, rfl⟩) | (go_at_call 11; refine (HOfD.out _).mono ?_; rintro d w' ⟨rfl, rfl⟩))
    refine hK.out _ _ ?_ (fun hHeld => ?_)
    · (first | assumption | exact (HeldC.alloc (by assumption) _) | exact (HeldC.drew (by assumption)))
    clear hK K
    try simp only [Act.put, List.setIfInBounds_toArray, List.set_cons_zero, List.set_cons_succ]
    refine wpAnyH_ready (rs := [18]) (by kernel_rfl) (by simp) ?_
    refine AllReadyH.cons (o := { dst := some 73, op := Op.call { callee := Callee.value (Operand.func 11), args := #[Operand.tmp 72], argTypes := #[39] }, type := 31, pos := "law.go:83", after := #[{ on := 17, ground := Ground.data }, { on := 15, ground := Ground.chain }, { on := 11, ground := Ground.guard }], guard := some (11, true) }) rfl (fun K hK => ?_) AllReadyH.nil
    go_simp
    (first | (go_at_call 7; refine (HG.out _ (by assumption)).mono ?_; rintro d w' ⟨rfl, hS⟩) | (go_at_call 8; refine (HKp.out _ (by assumption)).mono ?_; rintro d w' ⟨rfl, hS⟩) | (go_at_call 9; refine (HMy.out _ (by assumption)).mono ?_; rintro d w' ⟨rfl, hS⟩) | (go_at_call 10; refine (HAl.out _).mono ?_; rintro d w' ⟨rfl, rfl⟩) | (go_at_call 11; refine (HOf.out _).mono ?_; rintro d w' ⟨rfl, rfl⟩) | (go_at_call 10; refine (HAl.out _).mono ?_; rintro d w' ⟨rfl, rfl⟩) | (go_at_call 11; refine (HOfD.out _).mono ?_; rintro d w' ⟨rfl, rfl⟩))
    refine hK.out _ _ ?_ (fun hHeld => ?_)
    · (first | assumption | exact (HeldC.alloc (by assumption) _) | exact (HeldC.drew (by assumption)))
    clear hK K
    try simp only [Act.put, List.setIfInBounds_toArray, List.set_cons_zero, List.set_cons_succ]
    refine wpAnyH_take (i := 19) (oi := { dst := some 74, op := Op.binOp BinOp.andNot 31 (Operand.tmp 70) (Operand.tmp 73) 31, type := 31, pos := "law.go:83", after := #[{ on := 15, ground := Ground.data }, { on := 18, ground := Ground.data }, { on := 11, ground := Ground.guard }], guard := some (11, true) }) (v := ?_) rfl (by kernel_rfl) (by kernel_rfl) (by kernel_rfl) (fun _ _ _ h => h) (Or.inl ⟨by rfl, ?_⟩) (by assumption) ?_
    rotate_left
    · intro w hSw; (try dsimp only at hSw); go_simp <;> with_reducible rfl
    try simp only [Act.put, List.setIfInBounds_toArray, List.set_cons_zero, List.set_cons_succ]
    refine wpAnyH_ready (rs := [20]) (by kernel_rfl) (by simp) ?_
    refine AllReadyH.cons (o := { dst := some 75, op := Op.call { callee := Callee.value (Operand.func 9), args := #[Operand.tmp 67, Operand.tmp 68, Operand.tmp 74], argTypes := #[25, 3, 31] }, type := 4, pos := "law.go:83", after := #[{ on := 12, ground := Ground.data }, { on := 13, ground := Ground.data }, { on := 19, ground := Ground.data }, { on := 18, ground := Ground.chain }, { on := 11, ground := Ground.guard }], guard := some (11, true) }) rfl (fun K hK => ?_) AllReadyH.nil
    go_simp
    (first | (go_at_call 7; refine (HG.out _ (by assumption)).mono ?_; rintro d w' ⟨rfl, hS⟩) | (go_at_call 8; refine (HKp.out _ (by assumption)).mono ?_; rintro d w' ⟨rfl, hS⟩) | (go_at_call 9; refine (HMy.out _ (by assumption)).mono ?_; rintro d w' ⟨rfl, hS⟩) | (go_at_call 10; refine (HAl.out _).mono ?_; rintro d w' ⟨rfl, rfl⟩) | (go_at_call 11; refine (HOf.out _).mono ?_; rintro d w' ⟨rfl, rfl⟩) | (go_at_call 10; refine (HAl.out _).mono ?_; rintro d w' ⟨rfl, rfl⟩) | (go_at_call 11; refine (HOfD.out _).mono ?_; rintro d w' ⟨rfl, rfl⟩))
    refine hK.out _ _ ?_ (fun hHeld => ?_)
    · (first | assumption | exact (HeldC.alloc (by assumption) _) | exact (HeldC.drew (by assumption)))
    clear hK K
    try simp only [Act.put, List.setIfInBounds_toArray, List.set_cons_zero, List.set_cons_succ]
    refine wpAnyH_take (i := 22) (oi := { dst := some 77, op := Op.move (Operand.tmp 76), type := 4, pos := "law.go:83", after := #[{ on := 21, ground := Ground.data }, { on := 20, ground := Ground.chain }, { on := 11, ground := Ground.guard }], guard := some (11, true) }) (v := ?_) rfl (by kernel_rfl) (by kernel_rfl) (by kernel_rfl) (fun _ _ _ h => h) (Or.inl ⟨by rfl, ?_⟩) (by assumption) ?_
    rotate_left
    · intro w hSw; (try dsimp only at hSw); go_simp <;> with_reducible rfl
    try simp only [Act.put, List.setIfInBounds_toArray, List.set_cons_zero, List.set_cons_succ]
    refine wpAnyH_take (i := 23) (oi := { dst := some 78, op := Op.move (Operand.tmp 0), type := 3, pos := "law.go:83", after := #[{ on := 22, ground := Ground.guard }], guard := some (22, true) }) (v := undef) rfl (by kernel_rfl) (by kernel_rfl) (by kernel_rfl) (fun _ _ _ h => h) (Or.inr ⟨by rfl, rfl⟩) (by assumption) ?_
    try simp only [Act.put, List.setIfInBounds_toArray, List.set_cons_zero, List.set_cons_succ]
    refine wpAnyH_take (i := 24) (oi := { dst := some 79, op := Op.binOp BinOp.gtr 3 (Operand.tmp 78) (Operand.const (Value.int IntKind.i64 1)) 3, type := 4, pos := "law.go:83", after := #[{ on := 23, ground := Ground.data }, { on := 22, ground := Ground.guard }], guard := some (22, true) }) (v := undef) rfl (by kernel_rfl) (by kernel_rfl) (by kernel_rfl) (fun _ _ _ h => h) (Or.inr ⟨by rfl, rfl⟩) (by assumption) ?_
    try simp only [Act.put, List.setIfInBounds_toArray, List.set_cons_zero, List.set_cons_succ]
    refine wpAnyH_take (i := 25) (oi := { dst := some 80, op := Op.pick (Operand.tmp 77) (Operand.tmp 79) (Operand.const (Value.bool false)), type := 4, pos := "law.go:83", after := #[{ on := 22, ground := Ground.data }, { on := 24, ground := Ground.data }, { on := 11, ground := Ground.guard }], guard := some (11, true) }) (v := ?_) rfl (by kernel_rfl) (by kernel_rfl) (by kernel_rfl) (fun _ _ _ h => h) (Or.inl ⟨by rfl, ?_⟩) (by assumption) ?_
    rotate_left
    · intro w hSw; (try dsimp only at hSw); go_simp <;> with_reducible rfl
    try simp only [Act.put, List.setIfInBounds_toArray, List.set_cons_zero, List.set_cons_succ]
    refine wpAnyH_take (i := 26) (oi := { dst := some 81, op := Op.binOp BinOp.eql 4 (Operand.tmp 75) (Operand.tmp 80) 4, type := 4, pos := "law.go:83", after := #[{ on := 20, ground := Ground.data }, { on := 25, ground := Ground.data }, { on := 11, ground := Ground.guard }], guard := some (11, true) }) (v := ?_) rfl (by kernel_rfl) (by kernel_rfl) (by kernel_rfl) (fun _ _ _ h => h) (Or.inl ⟨by rfl, ?_⟩) (by assumption) ?_
    rotate_left
    · intro w hSw; (try dsimp only at hSw); go_simp <;> with_reducible rfl
    try simp only [Act.put, List.setIfInBounds_toArray, List.set_cons_zero, List.set_cons_succ]
    refine wpAnyH_take (i := 27) (oi := { dst := some 82, op := Op.pick (Operand.tmp 66) (Operand.tmp 81) (Operand.const (Value.bool false)), type := 4, pos := "law.go:83", after := #[{ on := 11, ground := Ground.data }, { on := 26, ground := Ground.data }], guard := none }) (v := ?_) rfl (by kernel_rfl) (by kernel_rfl) (by kernel_rfl) (fun _ _ _ h => h) (Or.inl ⟨by rfl, ?_⟩) (by assumption) ?_
    rotate_left
    · intro w hSw; (try dsimp only at hSw); go_simp <;> with_reducible rfl
    try simp only [Act.put, List.setIfInBounds_toArray, List.set_cons_zero, List.set_cons_succ]
    refine wpAnyH_take (i := 28) (oi := { dst := some 6, op := Op.assign (Operand.tmp 82), type := 4, pos := "law.go:83", after := #[{ on := 27, ground := Ground.data }, { on := 22, ground := Ground.chain }, { on := 0, ground := Ground.phase }, { on := 1, ground := Ground.phase }, { on := 2, ground := Ground.phase }, { on := 3, ground := Ground.phase }, { on := 4, ground := Ground.phase }, { on := 5, ground := Ground.phase }, { on := 6, ground := Ground.phase }, { on := 7, ground := Ground.phase }, { on := 8, ground := Ground.phase }, { on := 9, ground := Ground.phase }, { on := 10, ground := Ground.phase }, { on := 11, ground := Ground.phase }, { on := 12, ground := Ground.phase }, { on := 13, ground := Ground.phase }, { on := 14, ground := Ground.phase }, { on := 15, ground := Ground.phase }, { on := 16, ground := Ground.phase }, { on := 17, ground := Ground.phase }, { on := 18, ground := Ground.phase }, { on := 19, ground := Ground.phase }, { on := 20, ground := Ground.phase }, { on := 21, ground := Ground.phase }, { on := 22, ground := Ground.phase }, { on := 23, ground := Ground.phase }, { on := 24, ground := Ground.phase }, { on := 25, ground := Ground.phase }, { on := 26, ground := Ground.phase }, { on := 27, ground := Ground.phase }], guard := none }) (v := ?_) rfl (by kernel_rfl) (by kernel_rfl) (by kernel_rfl) (fun _ _ _ h => h) (Or.inl ⟨by rfl, ?_⟩) (by assumption) ?_
    rotate_left
    · intro w hSw; (try dsimp only at hSw); go_simp <;> with_reducible rfl
    try simp only [Act.put, List.setIfInBounds_toArray, List.set_cons_zero, List.set_cons_succ]
    refine wpAnyH_done (by kernel_rfl) ?_ _
    go_wp2
    go_ret
    exact ⟨rfl, HeldC.modOf (by assumption)⟩
  exact AllReadyH.nil

set_option maxRecDepth 100000 in
set_option maxHeartbeats 8000000 in
theorem pl_past2 (n e p : Int) (w : World) (h1 : 1 ≤ n) (h2 : n ≤ 16) (he : e = 2) (h4 : 0 ≤ p) (h5 : n ≤ p) : Calls Try.prog 3 #[.int .i64 n, .int .i64 e, .int .i64 p] w fun d w' => d = .returned (.bool true) ∧ Mod (fun _ => False) w w' := by
  have HB1 : Hid ((plainCf n e).good = true) := by show _ = _; rw [plain_good]; simp only [inB, Bool.and_eq_true, decide_eq_true_eq]; omega
  have HB2 : Hid ((plainCf n e).keeps p 0 = false) := by show _ = _; rw [plain_keeps]; exact Bool.eq_false_iff.2 (fun h => by simp only [inB, Bool.and_eq_true, decide_eq_true_eq] at h; omega)
  have HB3 : Hid ((plainCf n e).may p (lessOf (allOf n) (oneOf p)) = false) := by show _ = _; rw [plain_may]; exact Bool.eq_false_iff.2 (fun h => by simp only [inB, Bool.and_eq_true, decide_eq_true_eq] at h; omega)
  have e1 : (e == 1) = false := by simp [he]
  have e2 : (e == 2) = true := by simp [he]
  clear he
  have h7 : ¬ p < n := by omega
  have h8 : decide (p < n) = false := decide_eq_false h7
  go_enter Try.func3, Try.ntmps3
  go_wp2_with fail
  refine (awake_calls w).mono ?_
  rintro d w1 ⟨rfl, hm1⟩
  have HM1 := Lib.hid hm1
  clear hm1
  go_wp2_with fail
  refine (plain_any n e w1).mono ?_
  rintro d w2 ⟨v, rfl, hs2, hm2⟩
  have HS2 := Lib.hid hs2
  have HM2 := Lib.hid (HM1.out.trans hm2)
  obtain ⟨A, c, rfl, _, _, _⟩ := hs2
  clear hm2
  have hH : HeldC w w2.heap.size n (plainCf n e).vars 2 3 2 8 64 e (.slice A 1 c) (w2.alloc (.cells #[.int .i64 n, .slice A 1 c, .int .i64 2, .int .i64 3, .int .i64 2, .int .i64 8, .int .i64 64, .int .i64 e] 25)) :=
    Held.cells ⟨blk_new _ _, HS2.out.mod (S := fun _ => False) ((Mod.refl _ _).alloc _) (fun _ _ x => x), HM2.out.alloc _⟩
  unfold Cf.val Cf.cells plainCf
  go_wp2_with fail
  clear HS2
  have HH := Lib.hid hH
  clear hH
  generalize hwq : w2.alloc _ = wq at HH ⊢
  clear hwq
  generalize w2.heap.size = B at HH ⊢
  have hH := HH.out
  clear HH
  have HG : Hid (∀ W, HeldC w B n (plainCf n e).vars 2 3 2 8 64 e (.slice A 1 c) W → Calls Try.prog 7 #[.agg #[.int .i64 n, .slice A 1 c, .int .i64 2, .int .i64 3, .int .i64 2, .int .i64 8, .int .i64 64, .int .i64 e]] W fun d w' => d = .returned (.bool true) ∧ HeldC w B n (plainCf n e).vars 2 3 2 8 64 e (.slice A 1 c) w') :=
    fun W h => (good_any (plainCf n e) (.slice A 1 c) W h.1.2.1).mono fun _ _ ⟨x, y⟩ => ⟨by rw [x, HB1.out], h.mod y⟩
  have HKp : Hid (∀ W, HeldC w B n (plainCf n e).vars 2 3 2 8 64 e (.slice A 1 c) W → Calls Try.prog 8 #[.agg #[.int .i64 n, .slice A 1 c, .int .i64 2, .int .i64 3, .int .i64 2, .int .i64 8, .int .i64 64, .int .i64 e], .int .i64 p, .int .i64 0] W fun d w' => d = .returned (.bool false) ∧ HeldC w B n (plainCf n e).vars 2 3 2 8 64 e (.slice A 1 c) w') :=
    fun W h => (keeps_any (plainCf n e) (.slice A 1 c) p 0 W h.1.2.1).mono fun _ _ ⟨x, y⟩ => ⟨by rw [x, HB2.out], h.mod y⟩
  have HMy : Hid (∀ W, HeldC w B n (plainCf n e).vars 2 3 2 8 64 e (.slice A 1 c) W → Calls Try.prog 9 #[.agg #[.int .i64 n, .slice A 1 c, .int .i64 2, .int .i64 3, .int .i64 2, .int .i64 8, .int .i64 64, .int .i64 e], .int .i64 p, .int .u64 ((lessOf (allOf n) (oneOf p) : Nat) : Int)] W fun d w' => d = .returned (.bool false) ∧ HeldC w B n (plainCf n e).vars 2 3 2 8 64 e (.slice A 1 c) w') :=
    fun W h => (may_any (plainCf n e) (.slice A 1 c) p _ W h.1.2.1 (less_lt _ _ (allOf_lt n))).mono fun _ _ ⟨x, y⟩ => ⟨by rw [x, HB3.out], h.mod y⟩
  have hAN := andnot_bits n p
  have HAl := Lib.hid (all_any n)
  generalize hu : setOf [p] = u at hAN
  have HOf : Hid (∀ W : World, Calls Try.prog 11 #[.slice (some ⟨W.heap.size, 0, none⟩) 1 1] (W.alloc (.cells #[.int .i64 p] 3)) fun d w' => d = .returned (.int .u64 (u : Int)) ∧ W.alloc (.cells #[.int .i64 p] 3) = w') := fun W => by
    rw [← hu]; exact of_any _ [p] _ (Ints.new W 3 1 [p]) (by simp)
  have HOfD : Hid (∀ W : World, Calls Try.prog 11 #[.slice (some ⟨W.heap.size, 0, none⟩) 1 1] (W.alloc (.cells #[.int .i64 p] 3)).drew fun d w' => d = .returned (.int .u64 (u : Int)) ∧ (W.alloc (.cells #[.int .i64 p] 3)).drew = w') := fun W => by
    rw [← hu]; exact of_any _ [p] (W.alloc (.cells #[.int .i64 p] 3)).drew (Ints.new W 3 1 [p]) (by simp)
  generalize allOf n = a at hAN HAl HMy
  generalize lessOf a (oneOf p) = tt at hAN HMy
  generalize (plainCf n e).vars = vs at hH HG HKp HMy
  unfold HeldC at hH HG HKp HMy
  clear hu
  refine wp_region_held_drew (S := (fun w' => Held w B ⟨n, vs, 2, 3, 2, 8, 64, e⟩ (.slice A 1 c) w' ∧ w'.cell? ⟨B, 0, none⟩ = some (.int .i64 n) ∧ w'.cell? ⟨B, 1, none⟩ = some (.slice A 1 c) ∧ w'.cell? ⟨B, 2, none⟩ = some (.int .i64 2) ∧ w'.cell? ⟨B, 3, none⟩ = some (.int .i64 3) ∧ w'.cell? ⟨B, 4, none⟩ = some (.int .i64 2) ∧ w'.cell? ⟨B, 5, none⟩ = some (.int .i64 8) ∧ w'.cell? ⟨B, 6, none⟩ = some (.int .i64 64) ∧ w'.cell? ⟨B, 7, none⟩ = some (.int .i64 e))) (by kernel_rfl) ?_ (fun hHeld => ?_)
  · exact HeldC.drew hH
  refine wpAnyH_take (i := 0) (oi := { dst := some 55, op := Op.load 25 (Operand.tmp 7), type := 25, pos := "law.go:83", after := #[], guard := none }) (v := ?_) rfl (by kernel_rfl) (by kernel_rfl) (by kernel_rfl) (fun _ _ _ h => h) (Or.inl ⟨by rfl, ?_⟩) (by assumption) ?_
  rotate_left
  · intro w hSw; (try dsimp only at hSw); go_simp <;> with_reducible rfl
  try simp only [Act.put, List.setIfInBounds_toArray, List.set_cons_zero, List.set_cons_succ]
  refine wpAnyH_take (i := 2) (oi := { dst := some 57, op := Op.move (Operand.tmp 8), type := 4, pos := "law.go:83", after := #[], guard := none }) (v := ?_) rfl (by kernel_rfl) (by kernel_rfl) (by kernel_rfl) (fun _ _ _ h => h) (Or.inl ⟨by rfl, ?_⟩) (by assumption) ?_
  rotate_left
  · intro w hSw; (try dsimp only at hSw); go_simp <;> with_reducible rfl
  try simp only [Act.put, List.setIfInBounds_toArray, List.set_cons_zero, List.set_cons_succ]
  refine wpAnyH_ready (rs := [1]) (by kernel_rfl) (by simp) ?_
  refine AllReadyH.cons (o := { dst := some 56, op := Op.call { callee := Callee.value (Operand.func 7), args := #[Operand.tmp 55], argTypes := #[25] }, type := 4, pos := "law.go:83", after := #[{ on := 0, ground := Ground.data }], guard := none }) rfl (fun K hK => ?_) AllReadyH.nil
  go_simp
  (first | (go_at_call 7; refine (HG.out _ (by assumption)).mono ?_; rintro d w' ⟨rfl, hS⟩) | (go_at_call 8; refine (HKp.out _ (by assumption)).mono ?_; rintro d w' ⟨rfl, hS⟩) | (go_at_call 9; refine (HMy.out _ (by assumption)).mono ?_; rintro d w' ⟨rfl, hS⟩) | (go_at_call 10; refine (HAl.out _).mono ?_; rintro d w' ⟨rfl, rfl⟩) | (go_at_call 11; refine (HOf.out _).mono ?_; rintro d w' ⟨rfl, rfl⟩) | (go_at_call 10; refine (HAl.out _).mono ?_; rintro d w' ⟨rfl, rfl⟩) | (go_at_call 11; refine (HOfD.out _).mono ?_; rintro d w' ⟨rfl, rfl⟩))
  refine hK.out _ _ ?_ (fun hHeld => ?_)
  · (first | assumption | exact (HeldC.alloc (by assumption) _) | exact (HeldC.drew (by assumption)))
  clear hK K
  try simp only [Act.put, List.setIfInBounds_toArray, List.set_cons_zero, List.set_cons_succ]
  refine wpAnyH_take (i := 3) (oi := { dst := some 58, op := Op.binOp BinOp.eql 4 (Operand.tmp 56) (Operand.tmp 57) 4, type := 4, pos := "law.go:83", after := #[{ on := 1, ground := Ground.data }, { on := 2, ground := Ground.data }], guard := none }) (v := ?_) rfl (by kernel_rfl) (by kernel_rfl) (by kernel_rfl) (fun _ _ _ h => h) (Or.inl ⟨by rfl, ?_⟩) (by assumption) ?_
  rotate_left
  · intro w hSw; (try dsimp only at hSw); go_simp <;> with_reducible rfl
  try simp only [Act.put, List.setIfInBounds_toArray, List.set_cons_zero, List.set_cons_succ]
  refine wpAnyH_take (i := 4) (oi := { dst := some 59, op := Op.move (Operand.tmp 58), type := 4, pos := "law.go:83", after := #[{ on := 3, ground := Ground.data }, { on := 1, ground := Ground.chain }], guard := none }) (v := ?_) rfl (by kernel_rfl) (by kernel_rfl) (by kernel_rfl) (fun _ _ _ h => h) (Or.inl ⟨by rfl, ?_⟩) (by assumption) ?_
  rotate_left
  · intro w hSw; (try dsimp only at hSw); go_simp <;> with_reducible rfl
  try simp only [Act.put, List.setIfInBounds_toArray, List.set_cons_zero, List.set_cons_succ]
  refine wpAnyH_take (i := 5) (oi := { dst := some 60, op := Op.load 25 (Operand.tmp 7), type := 25, pos := "law.go:83", after := #[{ on := 4, ground := Ground.guard }], guard := some (4, true) }) (v := ?_) rfl (by kernel_rfl) (by kernel_rfl) (by kernel_rfl) (fun _ _ _ h => h) (Or.inl ⟨by rfl, ?_⟩) (by assumption) ?_
  rotate_left
  · intro w hSw; (try dsimp only at hSw); go_simp <;> with_reducible rfl
  try simp only [Act.put, List.setIfInBounds_toArray, List.set_cons_zero, List.set_cons_succ]
  refine wpAnyH_take (i := 6) (oi := { dst := some 61, op := Op.move (Operand.tmp 2), type := 3, pos := "law.go:83", after := #[{ on := 4, ground := Ground.guard }], guard := some (4, true) }) (v := ?_) rfl (by kernel_rfl) (by kernel_rfl) (by kernel_rfl) (fun _ _ _ h => h) (Or.inl ⟨by rfl, ?_⟩) (by assumption) ?_
  rotate_left
  · intro w hSw; (try dsimp only at hSw); go_simp <;> with_reducible rfl
  try simp only [Act.put, List.setIfInBounds_toArray, List.set_cons_zero, List.set_cons_succ]
  refine wpAnyH_take (i := 8) (oi := { dst := some 63, op := Op.move (Operand.tmp 9), type := 4, pos := "law.go:83", after := #[{ on := 4, ground := Ground.guard }], guard := some (4, true) }) (v := ?_) rfl (by kernel_rfl) (by kernel_rfl) (by kernel_rfl) (fun _ _ _ h => h) (Or.inl ⟨by rfl, ?_⟩) (by assumption) ?_
  rotate_left
  · intro w hSw; (try dsimp only at hSw); go_simp <;> with_reducible rfl
  try simp only [Act.put, List.setIfInBounds_toArray, List.set_cons_zero, List.set_cons_succ]
  refine wpAnyH_ready (rs := [7]) (by kernel_rfl) (by simp) ?_
  refine AllReadyH.cons (o := { dst := some 62, op := Op.call { callee := Callee.value (Operand.func 8), args := #[Operand.tmp 60, Operand.tmp 61, Operand.const (Value.int IntKind.i64 0)], argTypes := #[25, 3, 3] }, type := 4, pos := "law.go:83", after := #[{ on := 5, ground := Ground.data }, { on := 6, ground := Ground.data }, { on := 4, ground := Ground.chain }, { on := 4, ground := Ground.guard }], guard := some (4, true) }) rfl (fun K hK => ?_) AllReadyH.nil
  go_simp
  (first | (go_at_call 7; refine (HG.out _ (by assumption)).mono ?_; rintro d w' ⟨rfl, hS⟩) | (go_at_call 8; refine (HKp.out _ (by assumption)).mono ?_; rintro d w' ⟨rfl, hS⟩) | (go_at_call 9; refine (HMy.out _ (by assumption)).mono ?_; rintro d w' ⟨rfl, hS⟩) | (go_at_call 10; refine (HAl.out _).mono ?_; rintro d w' ⟨rfl, rfl⟩) | (go_at_call 11; refine (HOf.out _).mono ?_; rintro d w' ⟨rfl, rfl⟩) | (go_at_call 10; refine (HAl.out _).mono ?_; rintro d w' ⟨rfl, rfl⟩) | (go_at_call 11; refine (HOfD.out _).mono ?_; rintro d w' ⟨rfl, rfl⟩))
  refine hK.out _ _ ?_ (fun hHeld => ?_)
  · (first | assumption | exact (HeldC.alloc (by assumption) _) | exact (HeldC.drew (by assumption)))
  clear hK K
  try simp only [Act.put, List.setIfInBounds_toArray, List.set_cons_zero, List.set_cons_succ]
  refine wpAnyH_take (i := 9) (oi := { dst := some 64, op := Op.binOp BinOp.eql 4 (Operand.tmp 62) (Operand.tmp 63) 4, type := 4, pos := "law.go:83", after := #[{ on := 7, ground := Ground.data }, { on := 8, ground := Ground.data }, { on := 4, ground := Ground.guard }], guard := some (4, true) }) (v := ?_) rfl (by kernel_rfl) (by kernel_rfl) (by kernel_rfl) (fun _ _ _ h => h) (Or.inl ⟨by rfl, ?_⟩) (by assumption) ?_
  rotate_left
  · intro w hSw; (try dsimp only at hSw); go_simp <;> with_reducible rfl
  try simp only [Act.put, List.setIfInBounds_toArray, List.set_cons_zero, List.set_cons_succ]
  refine wpAnyH_take (i := 10) (oi := { dst := some 65, op := Op.pick (Operand.tmp 59) (Operand.tmp 64) (Operand.const (Value.bool false)), type := 4, pos := "law.go:83", after := #[{ on := 4, ground := Ground.data }, { on := 9, ground := Ground.data }], guard := none }) (v := ?_) rfl (by kernel_rfl) (by kernel_rfl) (by kernel_rfl) (fun _ _ _ h => h) (Or.inl ⟨by rfl, ?_⟩) (by assumption) ?_
  rotate_left
  · intro w hSw; (try dsimp only at hSw); go_simp <;> with_reducible rfl
  try simp only [Act.put, List.setIfInBounds_toArray, List.set_cons_zero, List.set_cons_succ]
  refine wpAnyH_take (i := 11) (oi := { dst := some 66, op := Op.move (Operand.tmp 65), type := 4, pos := "law.go:83", after := #[{ on := 10, ground := Ground.data }, { on := 7, ground := Ground.chain }], guard := none }) (v := ?_) rfl (by kernel_rfl) (by kernel_rfl) (by kernel_rfl) (fun _ _ _ h => h) (Or.inl ⟨by rfl, ?_⟩) (by assumption) ?_
  rotate_left
  · intro w hSw; (try dsimp only at hSw); go_simp <;> with_reducible rfl
  try simp only [Act.put, List.setIfInBounds_toArray, List.set_cons_zero, List.set_cons_succ]
  refine wpAnyH_take (i := 12) (oi := { dst := some 67, op := Op.load 25 (Operand.tmp 7), type := 25, pos := "law.go:83", after := #[{ on := 11, ground := Ground.guard }], guard := some (11, true) }) (v := ?_) rfl (by kernel_rfl) (by kernel_rfl) (by kernel_rfl) (fun _ _ _ h => h) (Or.inl ⟨by rfl, ?_⟩) (by assumption) ?_
  rotate_left
  · intro w hSw; (try dsimp only at hSw); go_simp <;> with_reducible rfl
  try simp only [Act.put, List.setIfInBounds_toArray, List.set_cons_zero, List.set_cons_succ]
  refine wpAnyH_take (i := 13) (oi := { dst := some 68, op := Op.move (Operand.tmp 2), type := 3, pos := "law.go:83", after := #[{ on := 11, ground := Ground.guard }], guard := some (11, true) }) (v := ?_) rfl (by kernel_rfl) (by kernel_rfl) (by kernel_rfl) (fun _ _ _ h => h) (Or.inl ⟨by rfl, ?_⟩) (by assumption) ?_
  rotate_left
  · intro w hSw; (try dsimp only at hSw); go_simp <;> with_reducible rfl
  try simp only [Act.put, List.setIfInBounds_toArray, List.set_cons_zero, List.set_cons_succ]
  refine wpAnyH_take (i := 14) (oi := { dst := some 69, op := Op.move (Operand.tmp 0), type := 3, pos := "law.go:83", after := #[{ on := 11, ground := Ground.guard }], guard := some (11, true) }) (v := ?_) rfl (by kernel_rfl) (by kernel_rfl) (by kernel_rfl) (fun _ _ _ h => h) (Or.inl ⟨by rfl, ?_⟩) (by assumption) ?_
  rotate_left
  · intro w hSw; (try dsimp only at hSw); go_simp <;> with_reducible rfl
  try simp only [Act.put, List.setIfInBounds_toArray, List.set_cons_zero, List.set_cons_succ]
  refine wpAnyH_take (i := 16) (oi := { dst := some 71, op := Op.move (Operand.tmp 2), type := 3, pos := "law.go:83", after := #[{ on := 11, ground := Ground.guard }], guard := some (11, true) }) (v := ?_) rfl (by kernel_rfl) (by kernel_rfl) (by kernel_rfl) (fun _ _ _ h => h) (Or.inl ⟨by rfl, ?_⟩) (by assumption) ?_
  rotate_left
  · intro w hSw; (try dsimp only at hSw); go_simp <;> with_reducible rfl
  try simp only [Act.put, List.setIfInBounds_toArray, List.set_cons_zero, List.set_cons_succ]
  refine wpAnyH_take (i := 21) (oi := { dst := some 76, op := Op.move (Operand.tmp 9), type := 4, pos := "law.go:83", after := #[{ on := 11, ground := Ground.guard }], guard := some (11, true) }) (v := ?_) rfl (by kernel_rfl) (by kernel_rfl) (by kernel_rfl) (fun _ _ _ h => h) (Or.inl ⟨by rfl, ?_⟩) (by assumption) ?_
  rotate_left
  · intro w hSw; (try dsimp only at hSw); go_simp <;> with_reducible rfl
  try simp only [Act.put, List.setIfInBounds_toArray, List.set_cons_zero, List.set_cons_succ]
  refine wpAnyH_ready (rs := [15, 17]) (by kernel_rfl) (by simp) ?_
  refine AllReadyH.cons (o := { dst := some 70, op := Op.call { callee := Callee.value (Operand.func 10), args := #[Operand.tmp 69], argTypes := #[3] }, type := 31, pos := "law.go:83", after := #[{ on := 14, ground := Ground.data }, { on := 11, ground := Ground.chain }, { on := 11, ground := Ground.guard }], guard := some (11, true) }) rfl (fun K hK => ?_) ?_
  · skip
    go_simp
    (first | (go_at_call 7; refine (HG.out _ (by assumption)).mono ?_; rintro d w' ⟨rfl, hS⟩) | (go_at_call 8; refine (HKp.out _ (by assumption)).mono ?_; rintro d w' ⟨rfl, hS⟩) | (go_at_call 9; refine (HMy.out _ (by assumption)).mono ?_; rintro d w' ⟨rfl, hS⟩) | (go_at_call 10; refine (HAl.out _).mono ?_; rintro d w' ⟨rfl, rfl⟩) | (go_at_call 11; refine (HOf.out _).mono ?_; rintro d w' ⟨rfl, rfl⟩) | (go_at_call 10; refine (HAl.out _).mono ?_; rintro d w' ⟨rfl, rfl⟩) | (go_at_call 11; refine (HOfD.out _).mono ?_; rintro d w' ⟨rfl, rfl⟩))
    refine hK.out _ _ ?_ (fun hHeld => ?_)
    · (first | assumption | exact (HeldC.alloc (by assumption) _) | exact (HeldC.drew (by assumption)))
    clear hK K
    try simp only [Act.put, List.setIfInBounds_toArray, List.set_cons_zero, List.set_cons_succ]
    refine wpAnyH_ready (rs := [17]) (by kernel_rfl) (by simp) ?_
    refine AllReadyH.cons (o := { dst := some 72, op := Op.buildSlice 39 1 #[(0, Operand.tmp 71)], type := 39, pos := "law.go:83", after := #[{ on := 16, ground := Ground.data }, { on := 11, ground := Ground.guard }], guard := some (11, true) }) rfl (fun K hK => ?_) AllReadyH.nil
    go_simp
    refine hK.out _ _ ?_ (fun hHeld => ?_)
    · (first | assumption | exact (HeldC.alloc (by assumption) _) | exact (HeldC.drew (by assumption)))
    clear hK K
    try simp only [Act.put, List.setIfInBounds_toArray, List.set_cons_zero, List.set_cons_succ]
    refine wpAnyH_ready (rs := [18]) (by kernel_rfl) (by simp) ?_
    refine AllReadyH.cons (o := { dst := some 73, op := Op.call { callee := Callee.value (Operand.func 11), args := #[Operand.tmp 72], argTypes := #[39] }, type := 31, pos := "law.go:83", after := #[{ on := 17, ground := Ground.data }, { on := 15, ground := Ground.chain }, { on := 11, ground := Ground.guard }], guard := some (11, true) }) rfl (fun K hK => ?_) AllReadyH.nil
    go_simp
    (first | (go_at_call 7; refine (HG.out _ (by assumption)).mono ?_; rintro d w' ⟨rfl, hS⟩) | (go_at_call 8; refine (HKp.out _ (by assumption)).mono ?_; rintro d w' ⟨rfl, hS⟩) | (go_at_call 9; refine (HMy.out _ (by assumption)).mono ?_; rintro d w' ⟨rfl, hS⟩) | (go_at_call 10; refine (HAl.out _).mono ?_; rintro d w' ⟨rfl, rfl⟩) | (go_at_call 11; refine (HOf.out _).mono ?_; rintro d w' ⟨rfl, rfl⟩) | (go_at_call 10; refine (HAl.out _).mono ?_; rintro d w' ⟨rfl, rfl⟩) | (go_at_call 11; refine (HOfD.out _).mono ?_; rintro d w' ⟨rfl, rfl⟩))
    refine hK.out _ _ ?_ (fun hHeld => ?_)
    · (first | assumption | exact (HeldC.alloc (by assumption) _) | exact (HeldC.drew (by assumption)))
    clear hK K
    try simp only [Act.put, List.setIfInBounds_toArray, List.set_cons_zero, List.set_cons_succ]
    refine wpAnyH_take (i := 19) (oi := { dst := some 74, op := Op.binOp BinOp.andNot 31 (Operand.tmp 70) (Operand.tmp 73) 31, type := 31, pos := "law.go:83", after := #[{ on := 15, ground := Ground.data }, { on := 18, ground := Ground.data }, { on := 11, ground := Ground.guard }], guard := some (11, true) }) (v := ?_) rfl (by kernel_rfl) (by kernel_rfl) (by kernel_rfl) (fun _ _ _ h => h) (Or.inl ⟨by rfl, ?_⟩) (by assumption) ?_
    rotate_left
    · intro w hSw; (try dsimp only at hSw); go_simp <;> with_reducible rfl
    try simp only [Act.put, List.setIfInBounds_toArray, List.set_cons_zero, List.set_cons_succ]
    refine wpAnyH_ready (rs := [20]) (by kernel_rfl) (by simp) ?_
    refine AllReadyH.cons (o := { dst := some 75, op := Op.call { callee := Callee.value (Operand.func 9), args := #[Operand.tmp 67, Operand.tmp 68, Operand.tmp 74], argTypes := #[25, 3, 31] }, type := 4, pos := "law.go:83", after := #[{ on := 12, ground := Ground.data }, { on := 13, ground := Ground.data }, { on := 19, ground := Ground.data }, { on := 18, ground := Ground.chain }, { on := 11, ground := Ground.guard }], guard := some (11, true) }) rfl (fun K hK => ?_) AllReadyH.nil
    go_simp
    (first | (go_at_call 7; refine (HG.out _ (by assumption)).mono ?_; rintro d w' ⟨rfl, hS⟩) | (go_at_call 8; refine (HKp.out _ (by assumption)).mono ?_; rintro d w' ⟨rfl, hS⟩) | (go_at_call 9; refine (HMy.out _ (by assumption)).mono ?_; rintro d w' ⟨rfl, hS⟩) | (go_at_call 10; refine (HAl.out _).mono ?_; rintro d w' ⟨rfl, rfl⟩) | (go_at_call 11; refine (HOf.out _).mono ?_; rintro d w' ⟨rfl, rfl⟩) | (go_at_call 10; refine (HAl.out _).mono ?_; rintro d w' ⟨rfl, rfl⟩) | (go_at_call 11; refine (HOfD.out _).mono ?_; rintro d w' ⟨rfl, rfl⟩))
    refine hK.out _ _ ?_ (fun hHeld => ?_)
    · (first | assumption | exact (HeldC.alloc (by assumption) _) | exact (HeldC.drew (by assumption)))
    clear hK K
    try simp only [Act.put, List.setIfInBounds_toArray, List.set_cons_zero, List.set_cons_succ]
    refine wpAnyH_take (i := 22) (oi := { dst := some 77, op := Op.move (Operand.tmp 76), type := 4, pos := "law.go:83", after := #[{ on := 21, ground := Ground.data }, { on := 20, ground := Ground.chain }, { on := 11, ground := Ground.guard }], guard := some (11, true) }) (v := ?_) rfl (by kernel_rfl) (by kernel_rfl) (by kernel_rfl) (fun _ _ _ h => h) (Or.inl ⟨by rfl, ?_⟩) (by assumption) ?_
    rotate_left
    · intro w hSw; (try dsimp only at hSw); go_simp <;> with_reducible rfl
    try simp only [Act.put, List.setIfInBounds_toArray, List.set_cons_zero, List.set_cons_succ]
    refine wpAnyH_take (i := 23) (oi := { dst := some 78, op := Op.move (Operand.tmp 0), type := 3, pos := "law.go:83", after := #[{ on := 22, ground := Ground.guard }], guard := some (22, true) }) (v := undef) rfl (by kernel_rfl) (by kernel_rfl) (by kernel_rfl) (fun _ _ _ h => h) (Or.inr ⟨by rfl, rfl⟩) (by assumption) ?_
    try simp only [Act.put, List.setIfInBounds_toArray, List.set_cons_zero, List.set_cons_succ]
    refine wpAnyH_take (i := 24) (oi := { dst := some 79, op := Op.binOp BinOp.gtr 3 (Operand.tmp 78) (Operand.const (Value.int IntKind.i64 1)) 3, type := 4, pos := "law.go:83", after := #[{ on := 23, ground := Ground.data }, { on := 22, ground := Ground.guard }], guard := some (22, true) }) (v := undef) rfl (by kernel_rfl) (by kernel_rfl) (by kernel_rfl) (fun _ _ _ h => h) (Or.inr ⟨by rfl, rfl⟩) (by assumption) ?_
    try simp only [Act.put, List.setIfInBounds_toArray, List.set_cons_zero, List.set_cons_succ]
    refine wpAnyH_take (i := 25) (oi := { dst := some 80, op := Op.pick (Operand.tmp 77) (Operand.tmp 79) (Operand.const (Value.bool false)), type := 4, pos := "law.go:83", after := #[{ on := 22, ground := Ground.data }, { on := 24, ground := Ground.data }, { on := 11, ground := Ground.guard }], guard := some (11, true) }) (v := ?_) rfl (by kernel_rfl) (by kernel_rfl) (by kernel_rfl) (fun _ _ _ h => h) (Or.inl ⟨by rfl, ?_⟩) (by assumption) ?_
    rotate_left
    · intro w hSw; (try dsimp only at hSw); go_simp <;> with_reducible rfl
    try simp only [Act.put, List.setIfInBounds_toArray, List.set_cons_zero, List.set_cons_succ]
    refine wpAnyH_take (i := 26) (oi := { dst := some 81, op := Op.binOp BinOp.eql 4 (Operand.tmp 75) (Operand.tmp 80) 4, type := 4, pos := "law.go:83", after := #[{ on := 20, ground := Ground.data }, { on := 25, ground := Ground.data }, { on := 11, ground := Ground.guard }], guard := some (11, true) }) (v := ?_) rfl (by kernel_rfl) (by kernel_rfl) (by kernel_rfl) (fun _ _ _ h => h) (Or.inl ⟨by rfl, ?_⟩) (by assumption) ?_
    rotate_left
    · intro w hSw; (try dsimp only at hSw); go_simp <;> with_reducible rfl
    try simp only [Act.put, List.setIfInBounds_toArray, List.set_cons_zero, List.set_cons_succ]
    refine wpAnyH_take (i := 27) (oi := { dst := some 82, op := Op.pick (Operand.tmp 66) (Operand.tmp 81) (Operand.const (Value.bool false)), type := 4, pos := "law.go:83", after := #[{ on := 11, ground := Ground.data }, { on := 26, ground := Ground.data }], guard := none }) (v := ?_) rfl (by kernel_rfl) (by kernel_rfl) (by kernel_rfl) (fun _ _ _ h => h) (Or.inl ⟨by rfl, ?_⟩) (by assumption) ?_
    rotate_left
    · intro w hSw; (try dsimp only at hSw); go_simp <;> with_reducible rfl
    try simp only [Act.put, List.setIfInBounds_toArray, List.set_cons_zero, List.set_cons_succ]
    refine wpAnyH_take (i := 28) (oi := { dst := some 6, op := Op.assign (Operand.tmp 82), type := 4, pos := "law.go:83", after := #[{ on := 27, ground := Ground.data }, { on := 22, ground := Ground.chain }, { on := 0, ground := Ground.phase }, { on := 1, ground := Ground.phase }, { on := 2, ground := Ground.phase }, { on := 3, ground := Ground.phase }, { on := 4, ground := Ground.phase }, { on := 5, ground := Ground.phase }, { on := 6, ground := Ground.phase }, { on := 7, ground := Ground.phase }, { on := 8, ground := Ground.phase }, { on := 9, ground := Ground.phase }, { on := 10, ground := Ground.phase }, { on := 11, ground := Ground.phase }, { on := 12, ground := Ground.phase }, { on := 13, ground := Ground.phase }, { on := 14, ground := Ground.phase }, { on := 15, ground := Ground.phase }, { on := 16, ground := Ground.phase }, { on := 17, ground := Ground.phase }, { on := 18, ground := Ground.phase }, { on := 19, ground := Ground.phase }, { on := 20, ground := Ground.phase }, { on := 21, ground := Ground.phase }, { on := 22, ground := Ground.phase }, { on := 23, ground := Ground.phase }, { on := 24, ground := Ground.phase }, { on := 25, ground := Ground.phase }, { on := 26, ground := Ground.phase }, { on := 27, ground := Ground.phase }], guard := none }) (v := ?_) rfl (by kernel_rfl) (by kernel_rfl) (by kernel_rfl) (fun _ _ _ h => h) (Or.inl ⟨by rfl, ?_⟩) (by assumption) ?_
    rotate_left
    · intro w hSw; (try dsimp only at hSw); go_simp <;> with_reducible rfl
    try simp only [Act.put, List.setIfInBounds_toArray, List.set_cons_zero, List.set_cons_succ]
    refine wpAnyH_done (by kernel_rfl) ?_ _
    go_wp2
    go_ret
    exact ⟨rfl, HeldC.modOf (by assumption)⟩
  refine AllReadyH.cons (o := { dst := some 72, op := Op.buildSlice 39 1 #[(0, Operand.tmp 71)], type := 39, pos := "law.go:83", after := #[{ on := 16, ground := Ground.data }, { on := 11, ground := Ground.guard }], guard := some (11, true) }) rfl (fun K hK => ?_) ?_
  · skip
    go_simp
    refine hK.out _ _ ?_ (fun hHeld => ?_)
    · (first | assumption | exact (HeldC.alloc (by assumption) _) | exact (HeldC.drew (by assumption)))
    clear hK K
    try simp only [Act.put, List.setIfInBounds_toArray, List.set_cons_zero, List.set_cons_succ]
    refine wpAnyH_ready (rs := [15]) (by kernel_rfl) (by simp) ?_
    refine AllReadyH.cons (o := { dst := some 70, op := Op.call { callee := Callee.value (Operand.func 10), args := #[Operand.tmp 69], argTypes := #[3] }, type := 31, pos := "law.go:83", after := #[{ on := 14, ground := Ground.data }, { on := 11, ground := Ground.chain }, { on := 11, ground := Ground.guard }], guard := some (11, true) }) rfl (fun K hK => ?_) AllReadyH.nil
    go_simp
    (first | (go_at_call 7; refine (HG.out _ (by assumption)).mono ?_; rintro d w' ⟨rfl, hS⟩) | (go_at_call 8; refine (HKp.out _ (by assumption)).mono ?_; rintro d w' ⟨rfl, hS⟩) | (go_at_call 9; refine (HMy.out _ (by assumption)).mono ?_; rintro d w' ⟨rfl, hS⟩) | (go_at_call 10; refine (HAl.out _).mono ?_; rintro d w' ⟨rfl, rfl⟩) | (go_at_call 11; refine (HOf.out _).mono ?_; rintro d w' ⟨rfl, rfl⟩) | (go_at_call 10; refine (HAl.out _).mono ?_; rintro d w' ⟨rfl, rfl⟩) | (go_at_call 11; refine (HOfD.out _).mono ?_; rintro d w' ⟨rfl, rfl⟩))
    refine hK.out _ _ ?_ (fun hHeld => ?_)
    · (first | assumption | exact (HeldC.alloc (by assumption) _) | exact (HeldC.drew (by assumption)))
    clear hK K
    try simp only [Act.put, List.setIfInBounds_toArray, List.set_cons_zero, List.set_cons_succ]
    refine wpAnyH_ready (rs := [18]) (by kernel_rfl) (by simp) ?_
    refine AllReadyH.cons (o := { dst := some 73, op := Op.call { callee := Callee.value (Operand.func 11), args := #[Operand.tmp 72], argTypes := #[39] }, type := 31, pos := "law.go:83", after := #[{ on := 17, ground := Ground.data }, { on := 15, ground := Ground.chain }, { on := 11, ground := Ground.guard }], guard := some (11, true) }) rfl (fun K hK => ?_) AllReadyH.nil
    go_simp
    (first | (go_at_call 7; refine (HG.out _ (by assumption)).mono ?_; rintro d w' ⟨rfl, hS⟩) | (go_at_call 8; refine (HKp.out _ (by assumption)).mono ?_; rintro d w' ⟨rfl, hS⟩) | (go_at_call 9; refine (HMy.out _ (by assumption)).mono ?_; rintro d w' ⟨rfl, hS⟩) | (go_at_call 10; refine (HAl.out _).mono ?_; rintro d w' ⟨rfl, rfl⟩) | (go_at_call 11; refine (HOf.out _).mono ?_; rintro d w' ⟨rfl, rfl⟩) | (go_at_call 10; refine (HAl.out _).mono ?_; rintro d w' ⟨rfl, rfl⟩) | (go_at_call 11; refine (HOfD.out _).mono ?_; rintro d w' ⟨rfl, rfl⟩))
    refine hK.out _ _ ?_ (fun hHeld => ?_)
    · (first | assumption | exact (HeldC.alloc (by assumption) _) | exact (HeldC.drew (by assumption)))
    clear hK K
    try simp only [Act.put, List.setIfInBounds_toArray, List.set_cons_zero, List.set_cons_succ]
    refine wpAnyH_take (i := 19) (oi := { dst := some 74, op := Op.binOp BinOp.andNot 31 (Operand.tmp 70) (Operand.tmp 73) 31, type := 31, pos := "law.go:83", after := #[{ on := 15, ground := Ground.data }, { on := 18, ground := Ground.data }, { on := 11, ground := Ground.guard }], guard := some (11, true) }) (v := ?_) rfl (by kernel_rfl) (by kernel_rfl) (by kernel_rfl) (fun _ _ _ h => h) (Or.inl ⟨by rfl, ?_⟩) (by assumption) ?_
    rotate_left
    · intro w hSw; (try dsimp only at hSw); go_simp <;> with_reducible rfl
    try simp only [Act.put, List.setIfInBounds_toArray, List.set_cons_zero, List.set_cons_succ]
    refine wpAnyH_ready (rs := [20]) (by kernel_rfl) (by simp) ?_
    refine AllReadyH.cons (o := { dst := some 75, op := Op.call { callee := Callee.value (Operand.func 9), args := #[Operand.tmp 67, Operand.tmp 68, Operand.tmp 74], argTypes := #[25, 3, 31] }, type := 4, pos := "law.go:83", after := #[{ on := 12, ground := Ground.data }, { on := 13, ground := Ground.data }, { on := 19, ground := Ground.data }, { on := 18, ground := Ground.chain }, { on := 11, ground := Ground.guard }], guard := some (11, true) }) rfl (fun K hK => ?_) AllReadyH.nil
    go_simp
    (first | (go_at_call 7; refine (HG.out _ (by assumption)).mono ?_; rintro d w' ⟨rfl, hS⟩) | (go_at_call 8; refine (HKp.out _ (by assumption)).mono ?_; rintro d w' ⟨rfl, hS⟩) | (go_at_call 9; refine (HMy.out _ (by assumption)).mono ?_; rintro d w' ⟨rfl, hS⟩) | (go_at_call 10; refine (HAl.out _).mono ?_; rintro d w' ⟨rfl, rfl⟩) | (go_at_call 11; refine (HOf.out _).mono ?_; rintro d w' ⟨rfl, rfl⟩) | (go_at_call 10; refine (HAl.out _).mono ?_; rintro d w' ⟨rfl, rfl⟩) | (go_at_call 11; refine (HOfD.out _).mono ?_; rintro d w' ⟨rfl, rfl⟩))
    refine hK.out _ _ ?_ (fun hHeld => ?_)
    · (first | assumption | exact (HeldC.alloc (by assumption) _) | exact (HeldC.drew (by assumption)))
    clear hK K
    try simp only [Act.put, List.setIfInBounds_toArray, List.set_cons_zero, List.set_cons_succ]
    refine wpAnyH_take (i := 22) (oi := { dst := some 77, op := Op.move (Operand.tmp 76), type := 4, pos := "law.go:83", after := #[{ on := 21, ground := Ground.data }, { on := 20, ground := Ground.chain }, { on := 11, ground := Ground.guard }], guard := some (11, true) }) (v := ?_) rfl (by kernel_rfl) (by kernel_rfl) (by kernel_rfl) (fun _ _ _ h => h) (Or.inl ⟨by rfl, ?_⟩) (by assumption) ?_
    rotate_left
    · intro w hSw; (try dsimp only at hSw); go_simp <;> with_reducible rfl
    try simp only [Act.put, List.setIfInBounds_toArray, List.set_cons_zero, List.set_cons_succ]
    refine wpAnyH_take (i := 23) (oi := { dst := some 78, op := Op.move (Operand.tmp 0), type := 3, pos := "law.go:83", after := #[{ on := 22, ground := Ground.guard }], guard := some (22, true) }) (v := undef) rfl (by kernel_rfl) (by kernel_rfl) (by kernel_rfl) (fun _ _ _ h => h) (Or.inr ⟨by rfl, rfl⟩) (by assumption) ?_
    try simp only [Act.put, List.setIfInBounds_toArray, List.set_cons_zero, List.set_cons_succ]
    refine wpAnyH_take (i := 24) (oi := { dst := some 79, op := Op.binOp BinOp.gtr 3 (Operand.tmp 78) (Operand.const (Value.int IntKind.i64 1)) 3, type := 4, pos := "law.go:83", after := #[{ on := 23, ground := Ground.data }, { on := 22, ground := Ground.guard }], guard := some (22, true) }) (v := undef) rfl (by kernel_rfl) (by kernel_rfl) (by kernel_rfl) (fun _ _ _ h => h) (Or.inr ⟨by rfl, rfl⟩) (by assumption) ?_
    try simp only [Act.put, List.setIfInBounds_toArray, List.set_cons_zero, List.set_cons_succ]
    refine wpAnyH_take (i := 25) (oi := { dst := some 80, op := Op.pick (Operand.tmp 77) (Operand.tmp 79) (Operand.const (Value.bool false)), type := 4, pos := "law.go:83", after := #[{ on := 22, ground := Ground.data }, { on := 24, ground := Ground.data }, { on := 11, ground := Ground.guard }], guard := some (11, true) }) (v := ?_) rfl (by kernel_rfl) (by kernel_rfl) (by kernel_rfl) (fun _ _ _ h => h) (Or.inl ⟨by rfl, ?_⟩) (by assumption) ?_
    rotate_left
    · intro w hSw; (try dsimp only at hSw); go_simp <;> with_reducible rfl
    try simp only [Act.put, List.setIfInBounds_toArray, List.set_cons_zero, List.set_cons_succ]
    refine wpAnyH_take (i := 26) (oi := { dst := some 81, op := Op.binOp BinOp.eql 4 (Operand.tmp 75) (Operand.tmp 80) 4, type := 4, pos := "law.go:83", after := #[{ on := 20, ground := Ground.data }, { on := 25, ground := Ground.data }, { on := 11, ground := Ground.guard }], guard := some (11, true) }) (v := ?_) rfl (by kernel_rfl) (by kernel_rfl) (by kernel_rfl) (fun _ _ _ h => h) (Or.inl ⟨by rfl, ?_⟩) (by assumption) ?_
    rotate_left
    · intro w hSw; (try dsimp only at hSw); go_simp <;> with_reducible rfl
    try simp only [Act.put, List.setIfInBounds_toArray, List.set_cons_zero, List.set_cons_succ]
    refine wpAnyH_take (i := 27) (oi := { dst := some 82, op := Op.pick (Operand.tmp 66) (Operand.tmp 81) (Operand.const (Value.bool false)), type := 4, pos := "law.go:83", after := #[{ on := 11, ground := Ground.data }, { on := 26, ground := Ground.data }], guard := none }) (v := ?_) rfl (by kernel_rfl) (by kernel_rfl) (by kernel_rfl) (fun _ _ _ h => h) (Or.inl ⟨by rfl, ?_⟩) (by assumption) ?_
    rotate_left
    · intro w hSw; (try dsimp only at hSw); go_simp <;> with_reducible rfl
    try simp only [Act.put, List.setIfInBounds_toArray, List.set_cons_zero, List.set_cons_succ]
    refine wpAnyH_take (i := 28) (oi := { dst := some 6, op := Op.assign (Operand.tmp 82), type := 4, pos := "law.go:83", after := #[{ on := 27, ground := Ground.data }, { on := 22, ground := Ground.chain }, { on := 0, ground := Ground.phase }, { on := 1, ground := Ground.phase }, { on := 2, ground := Ground.phase }, { on := 3, ground := Ground.phase }, { on := 4, ground := Ground.phase }, { on := 5, ground := Ground.phase }, { on := 6, ground := Ground.phase }, { on := 7, ground := Ground.phase }, { on := 8, ground := Ground.phase }, { on := 9, ground := Ground.phase }, { on := 10, ground := Ground.phase }, { on := 11, ground := Ground.phase }, { on := 12, ground := Ground.phase }, { on := 13, ground := Ground.phase }, { on := 14, ground := Ground.phase }, { on := 15, ground := Ground.phase }, { on := 16, ground := Ground.phase }, { on := 17, ground := Ground.phase }, { on := 18, ground := Ground.phase }, { on := 19, ground := Ground.phase }, { on := 20, ground := Ground.phase }, { on := 21, ground := Ground.phase }, { on := 22, ground := Ground.phase }, { on := 23, ground := Ground.phase }, { on := 24, ground := Ground.phase }, { on := 25, ground := Ground.phase }, { on := 26, ground := Ground.phase }, { on := 27, ground := Ground.phase }], guard := none }) (v := ?_) rfl (by kernel_rfl) (by kernel_rfl) (by kernel_rfl) (fun _ _ _ h => h) (Or.inl ⟨by rfl, ?_⟩) (by assumption) ?_
    rotate_left
    · intro w hSw; (try dsimp only at hSw); go_simp <;> with_reducible rfl
    try simp only [Act.put, List.setIfInBounds_toArray, List.set_cons_zero, List.set_cons_succ]
    refine wpAnyH_done (by kernel_rfl) ?_ _
    go_wp2
    go_ret
    exact ⟨rfl, HeldC.modOf (by assumption)⟩
  exact AllReadyH.nil

set_option maxRecDepth 100000 in
set_option maxHeartbeats 8000000 in
theorem pl_many2 (n e p : Int) (w : World) (h1 : 1 ≤ n) (h2 : n ≤ 16) (he : e = 2) (h4 : 0 ≤ p) (h5 : p < n) (h6 : 1 < n) : Calls Try.prog 3 #[.int .i64 n, .int .i64 e, .int .i64 p] w fun d w' => d = .returned (.bool true) ∧ Mod (fun _ => False) w w' := by
  have HB1 : Hid ((plainCf n e).good = true) := by show _ = _; rw [plain_good]; simp only [inB, Bool.and_eq_true, decide_eq_true_eq]; omega
  have HB2 : Hid ((plainCf n e).keeps p 0 = true) := by show _ = _; rw [plain_keeps]; simp only [inB, Bool.and_eq_true, decide_eq_true_eq]; omega
  have HB3 : Hid ((plainCf n e).may p (lessOf (allOf n) (oneOf p)) = true) := by show _ = _; rw [plain_may]; simp only [inB, Bool.and_eq_true, decide_eq_true_eq]; omega
  have e1 : (e == 1) = false := by simp [he]
  have e2 : (e == 2) = true := by simp [he]
  clear he
  go_enter Try.func3, Try.ntmps3
  go_wp2_with fail
  refine (awake_calls w).mono ?_
  rintro d w1 ⟨rfl, hm1⟩
  have HM1 := Lib.hid hm1
  clear hm1
  go_wp2_with fail
  refine (plain_any n e w1).mono ?_
  rintro d w2 ⟨v, rfl, hs2, hm2⟩
  have HS2 := Lib.hid hs2
  have HM2 := Lib.hid (HM1.out.trans hm2)
  obtain ⟨A, c, rfl, _, _, _⟩ := hs2
  clear hm2
  have hH : HeldC w w2.heap.size n (plainCf n e).vars 2 3 2 8 64 e (.slice A 1 c) (w2.alloc (.cells #[.int .i64 n, .slice A 1 c, .int .i64 2, .int .i64 3, .int .i64 2, .int .i64 8, .int .i64 64, .int .i64 e] 25)) :=
    Held.cells ⟨blk_new _ _, HS2.out.mod (S := fun _ => False) ((Mod.refl _ _).alloc _) (fun _ _ x => x), HM2.out.alloc _⟩
  unfold Cf.val Cf.cells plainCf
  go_wp2_with fail
  clear HS2
  have HH := Lib.hid hH
  clear hH
  generalize hwq : w2.alloc _ = wq at HH ⊢
  clear hwq
  generalize w2.heap.size = B at HH ⊢
  have hH := HH.out
  clear HH
  have HG : Hid (∀ W, HeldC w B n (plainCf n e).vars 2 3 2 8 64 e (.slice A 1 c) W → Calls Try.prog 7 #[.agg #[.int .i64 n, .slice A 1 c, .int .i64 2, .int .i64 3, .int .i64 2, .int .i64 8, .int .i64 64, .int .i64 e]] W fun d w' => d = .returned (.bool true) ∧ HeldC w B n (plainCf n e).vars 2 3 2 8 64 e (.slice A 1 c) w') :=
    fun W h => (good_any (plainCf n e) (.slice A 1 c) W h.1.2.1).mono fun _ _ ⟨x, y⟩ => ⟨by rw [x, HB1.out], h.mod y⟩
  have HKp : Hid (∀ W, HeldC w B n (plainCf n e).vars 2 3 2 8 64 e (.slice A 1 c) W → Calls Try.prog 8 #[.agg #[.int .i64 n, .slice A 1 c, .int .i64 2, .int .i64 3, .int .i64 2, .int .i64 8, .int .i64 64, .int .i64 e], .int .i64 p, .int .i64 0] W fun d w' => d = .returned (.bool true) ∧ HeldC w B n (plainCf n e).vars 2 3 2 8 64 e (.slice A 1 c) w') :=
    fun W h => (keeps_any (plainCf n e) (.slice A 1 c) p 0 W h.1.2.1).mono fun _ _ ⟨x, y⟩ => ⟨by rw [x, HB2.out], h.mod y⟩
  have HMy : Hid (∀ W, HeldC w B n (plainCf n e).vars 2 3 2 8 64 e (.slice A 1 c) W → Calls Try.prog 9 #[.agg #[.int .i64 n, .slice A 1 c, .int .i64 2, .int .i64 3, .int .i64 2, .int .i64 8, .int .i64 64, .int .i64 e], .int .i64 p, .int .u64 ((lessOf (allOf n) (oneOf p) : Nat) : Int)] W fun d w' => d = .returned (.bool true) ∧ HeldC w B n (plainCf n e).vars 2 3 2 8 64 e (.slice A 1 c) w') :=
    fun W h => (may_any (plainCf n e) (.slice A 1 c) p _ W h.1.2.1 (less_lt _ _ (allOf_lt n))).mono fun _ _ ⟨x, y⟩ => ⟨by rw [x, HB3.out], h.mod y⟩
  have hAN := andnot_bits n p
  have HAl := Lib.hid (all_any n)
  generalize hu : setOf [p] = u at hAN
  have HOf : Hid (∀ W : World, Calls Try.prog 11 #[.slice (some ⟨W.heap.size, 0, none⟩) 1 1] (W.alloc (.cells #[.int .i64 p] 3)) fun d w' => d = .returned (.int .u64 (u : Int)) ∧ W.alloc (.cells #[.int .i64 p] 3) = w') := fun W => by
    rw [← hu]; exact of_any _ [p] _ (Ints.new W 3 1 [p]) (by simp)
  have HOfD : Hid (∀ W : World, Calls Try.prog 11 #[.slice (some ⟨W.heap.size, 0, none⟩) 1 1] (W.alloc (.cells #[.int .i64 p] 3)).drew fun d w' => d = .returned (.int .u64 (u : Int)) ∧ (W.alloc (.cells #[.int .i64 p] 3)).drew = w') := fun W => by
    rw [← hu]; exact of_any _ [p] (W.alloc (.cells #[.int .i64 p] 3)).drew (Ints.new W 3 1 [p]) (by simp)
  generalize allOf n = a at hAN HAl HMy
  generalize lessOf a (oneOf p) = tt at hAN HMy
  generalize (plainCf n e).vars = vs at hH HG HKp HMy
  unfold HeldC at hH HG HKp HMy
  clear hu
  refine wp_region_held_drew (S := (fun w' => Held w B ⟨n, vs, 2, 3, 2, 8, 64, e⟩ (.slice A 1 c) w' ∧ w'.cell? ⟨B, 0, none⟩ = some (.int .i64 n) ∧ w'.cell? ⟨B, 1, none⟩ = some (.slice A 1 c) ∧ w'.cell? ⟨B, 2, none⟩ = some (.int .i64 2) ∧ w'.cell? ⟨B, 3, none⟩ = some (.int .i64 3) ∧ w'.cell? ⟨B, 4, none⟩ = some (.int .i64 2) ∧ w'.cell? ⟨B, 5, none⟩ = some (.int .i64 8) ∧ w'.cell? ⟨B, 6, none⟩ = some (.int .i64 64) ∧ w'.cell? ⟨B, 7, none⟩ = some (.int .i64 e))) (by kernel_rfl) ?_ (fun hHeld => ?_)
  · exact HeldC.drew hH
  refine wpAnyH_take (i := 0) (oi := { dst := some 55, op := Op.load 25 (Operand.tmp 7), type := 25, pos := "law.go:83", after := #[], guard := none }) (v := ?_) rfl (by kernel_rfl) (by kernel_rfl) (by kernel_rfl) (fun _ _ _ h => h) (Or.inl ⟨by rfl, ?_⟩) (by assumption) ?_
  rotate_left
  · intro w hSw; (try dsimp only at hSw); go_simp <;> with_reducible rfl
  try simp only [Act.put, List.setIfInBounds_toArray, List.set_cons_zero, List.set_cons_succ]
  refine wpAnyH_take (i := 2) (oi := { dst := some 57, op := Op.move (Operand.tmp 8), type := 4, pos := "law.go:83", after := #[], guard := none }) (v := ?_) rfl (by kernel_rfl) (by kernel_rfl) (by kernel_rfl) (fun _ _ _ h => h) (Or.inl ⟨by rfl, ?_⟩) (by assumption) ?_
  rotate_left
  · intro w hSw; (try dsimp only at hSw); go_simp <;> with_reducible rfl
  try simp only [Act.put, List.setIfInBounds_toArray, List.set_cons_zero, List.set_cons_succ]
  refine wpAnyH_ready (rs := [1]) (by kernel_rfl) (by simp) ?_
  refine AllReadyH.cons (o := { dst := some 56, op := Op.call { callee := Callee.value (Operand.func 7), args := #[Operand.tmp 55], argTypes := #[25] }, type := 4, pos := "law.go:83", after := #[{ on := 0, ground := Ground.data }], guard := none }) rfl (fun K hK => ?_) AllReadyH.nil
  go_simp
  (first | (go_at_call 7; refine (HG.out _ (by assumption)).mono ?_; rintro d w' ⟨rfl, hS⟩) | (go_at_call 8; refine (HKp.out _ (by assumption)).mono ?_; rintro d w' ⟨rfl, hS⟩) | (go_at_call 9; refine (HMy.out _ (by assumption)).mono ?_; rintro d w' ⟨rfl, hS⟩) | (go_at_call 10; refine (HAl.out _).mono ?_; rintro d w' ⟨rfl, rfl⟩) | (go_at_call 11; refine (HOf.out _).mono ?_; rintro d w' ⟨rfl, rfl⟩) | (go_at_call 10; refine (HAl.out _).mono ?_; rintro d w' ⟨rfl, rfl⟩) | (go_at_call 11; refine (HOfD.out _).mono ?_; rintro d w' ⟨rfl, rfl⟩))
  refine hK.out _ _ ?_ (fun hHeld => ?_)
  · (first | assumption | exact (HeldC.alloc (by assumption) _) | exact (HeldC.drew (by assumption)))
  clear hK K
  try simp only [Act.put, List.setIfInBounds_toArray, List.set_cons_zero, List.set_cons_succ]
  refine wpAnyH_take (i := 3) (oi := { dst := some 58, op := Op.binOp BinOp.eql 4 (Operand.tmp 56) (Operand.tmp 57) 4, type := 4, pos := "law.go:83", after := #[{ on := 1, ground := Ground.data }, { on := 2, ground := Ground.data }], guard := none }) (v := ?_) rfl (by kernel_rfl) (by kernel_rfl) (by kernel_rfl) (fun _ _ _ h => h) (Or.inl ⟨by rfl, ?_⟩) (by assumption) ?_
  rotate_left
  · intro w hSw; (try dsimp only at hSw); go_simp <;> with_reducible rfl
  try simp only [Act.put, List.setIfInBounds_toArray, List.set_cons_zero, List.set_cons_succ]
  refine wpAnyH_take (i := 4) (oi := { dst := some 59, op := Op.move (Operand.tmp 58), type := 4, pos := "law.go:83", after := #[{ on := 3, ground := Ground.data }, { on := 1, ground := Ground.chain }], guard := none }) (v := ?_) rfl (by kernel_rfl) (by kernel_rfl) (by kernel_rfl) (fun _ _ _ h => h) (Or.inl ⟨by rfl, ?_⟩) (by assumption) ?_
  rotate_left
  · intro w hSw; (try dsimp only at hSw); go_simp <;> with_reducible rfl
  try simp only [Act.put, List.setIfInBounds_toArray, List.set_cons_zero, List.set_cons_succ]
  refine wpAnyH_take (i := 5) (oi := { dst := some 60, op := Op.load 25 (Operand.tmp 7), type := 25, pos := "law.go:83", after := #[{ on := 4, ground := Ground.guard }], guard := some (4, true) }) (v := ?_) rfl (by kernel_rfl) (by kernel_rfl) (by kernel_rfl) (fun _ _ _ h => h) (Or.inl ⟨by rfl, ?_⟩) (by assumption) ?_
  rotate_left
  · intro w hSw; (try dsimp only at hSw); go_simp <;> with_reducible rfl
  try simp only [Act.put, List.setIfInBounds_toArray, List.set_cons_zero, List.set_cons_succ]
  refine wpAnyH_take (i := 6) (oi := { dst := some 61, op := Op.move (Operand.tmp 2), type := 3, pos := "law.go:83", after := #[{ on := 4, ground := Ground.guard }], guard := some (4, true) }) (v := ?_) rfl (by kernel_rfl) (by kernel_rfl) (by kernel_rfl) (fun _ _ _ h => h) (Or.inl ⟨by rfl, ?_⟩) (by assumption) ?_
  rotate_left
  · intro w hSw; (try dsimp only at hSw); go_simp <;> with_reducible rfl
  try simp only [Act.put, List.setIfInBounds_toArray, List.set_cons_zero, List.set_cons_succ]
  refine wpAnyH_take (i := 8) (oi := { dst := some 63, op := Op.move (Operand.tmp 9), type := 4, pos := "law.go:83", after := #[{ on := 4, ground := Ground.guard }], guard := some (4, true) }) (v := ?_) rfl (by kernel_rfl) (by kernel_rfl) (by kernel_rfl) (fun _ _ _ h => h) (Or.inl ⟨by rfl, ?_⟩) (by assumption) ?_
  rotate_left
  · intro w hSw; (try dsimp only at hSw); go_simp <;> with_reducible rfl
  try simp only [Act.put, List.setIfInBounds_toArray, List.set_cons_zero, List.set_cons_succ]
  refine wpAnyH_ready (rs := [7]) (by kernel_rfl) (by simp) ?_
  refine AllReadyH.cons (o := { dst := some 62, op := Op.call { callee := Callee.value (Operand.func 8), args := #[Operand.tmp 60, Operand.tmp 61, Operand.const (Value.int IntKind.i64 0)], argTypes := #[25, 3, 3] }, type := 4, pos := "law.go:83", after := #[{ on := 5, ground := Ground.data }, { on := 6, ground := Ground.data }, { on := 4, ground := Ground.chain }, { on := 4, ground := Ground.guard }], guard := some (4, true) }) rfl (fun K hK => ?_) AllReadyH.nil
  go_simp
  (first | (go_at_call 7; refine (HG.out _ (by assumption)).mono ?_; rintro d w' ⟨rfl, hS⟩) | (go_at_call 8; refine (HKp.out _ (by assumption)).mono ?_; rintro d w' ⟨rfl, hS⟩) | (go_at_call 9; refine (HMy.out _ (by assumption)).mono ?_; rintro d w' ⟨rfl, hS⟩) | (go_at_call 10; refine (HAl.out _).mono ?_; rintro d w' ⟨rfl, rfl⟩) | (go_at_call 11; refine (HOf.out _).mono ?_; rintro d w' ⟨rfl, rfl⟩) | (go_at_call 10; refine (HAl.out _).mono ?_; rintro d w' ⟨rfl, rfl⟩) | (go_at_call 11; refine (HOfD.out _).mono ?_; rintro d w' ⟨rfl, rfl⟩))
  refine hK.out _ _ ?_ (fun hHeld => ?_)
  · (first | assumption | exact (HeldC.alloc (by assumption) _) | exact (HeldC.drew (by assumption)))
  clear hK K
  try simp only [Act.put, List.setIfInBounds_toArray, List.set_cons_zero, List.set_cons_succ]
  refine wpAnyH_take (i := 9) (oi := { dst := some 64, op := Op.binOp BinOp.eql 4 (Operand.tmp 62) (Operand.tmp 63) 4, type := 4, pos := "law.go:83", after := #[{ on := 7, ground := Ground.data }, { on := 8, ground := Ground.data }, { on := 4, ground := Ground.guard }], guard := some (4, true) }) (v := ?_) rfl (by kernel_rfl) (by kernel_rfl) (by kernel_rfl) (fun _ _ _ h => h) (Or.inl ⟨by rfl, ?_⟩) (by assumption) ?_
  rotate_left
  · intro w hSw; (try dsimp only at hSw); go_simp <;> with_reducible rfl
  try simp only [Act.put, List.setIfInBounds_toArray, List.set_cons_zero, List.set_cons_succ]
  refine wpAnyH_take (i := 10) (oi := { dst := some 65, op := Op.pick (Operand.tmp 59) (Operand.tmp 64) (Operand.const (Value.bool false)), type := 4, pos := "law.go:83", after := #[{ on := 4, ground := Ground.data }, { on := 9, ground := Ground.data }], guard := none }) (v := ?_) rfl (by kernel_rfl) (by kernel_rfl) (by kernel_rfl) (fun _ _ _ h => h) (Or.inl ⟨by rfl, ?_⟩) (by assumption) ?_
  rotate_left
  · intro w hSw; (try dsimp only at hSw); go_simp <;> with_reducible rfl
  try simp only [Act.put, List.setIfInBounds_toArray, List.set_cons_zero, List.set_cons_succ]
  refine wpAnyH_take (i := 11) (oi := { dst := some 66, op := Op.move (Operand.tmp 65), type := 4, pos := "law.go:83", after := #[{ on := 10, ground := Ground.data }, { on := 7, ground := Ground.chain }], guard := none }) (v := ?_) rfl (by kernel_rfl) (by kernel_rfl) (by kernel_rfl) (fun _ _ _ h => h) (Or.inl ⟨by rfl, ?_⟩) (by assumption) ?_
  rotate_left
  · intro w hSw; (try dsimp only at hSw); go_simp <;> with_reducible rfl
  try simp only [Act.put, List.setIfInBounds_toArray, List.set_cons_zero, List.set_cons_succ]
  refine wpAnyH_take (i := 12) (oi := { dst := some 67, op := Op.load 25 (Operand.tmp 7), type := 25, pos := "law.go:83", after := #[{ on := 11, ground := Ground.guard }], guard := some (11, true) }) (v := ?_) rfl (by kernel_rfl) (by kernel_rfl) (by kernel_rfl) (fun _ _ _ h => h) (Or.inl ⟨by rfl, ?_⟩) (by assumption) ?_
  rotate_left
  · intro w hSw; (try dsimp only at hSw); go_simp <;> with_reducible rfl
  try simp only [Act.put, List.setIfInBounds_toArray, List.set_cons_zero, List.set_cons_succ]
  refine wpAnyH_take (i := 13) (oi := { dst := some 68, op := Op.move (Operand.tmp 2), type := 3, pos := "law.go:83", after := #[{ on := 11, ground := Ground.guard }], guard := some (11, true) }) (v := ?_) rfl (by kernel_rfl) (by kernel_rfl) (by kernel_rfl) (fun _ _ _ h => h) (Or.inl ⟨by rfl, ?_⟩) (by assumption) ?_
  rotate_left
  · intro w hSw; (try dsimp only at hSw); go_simp <;> with_reducible rfl
  try simp only [Act.put, List.setIfInBounds_toArray, List.set_cons_zero, List.set_cons_succ]
  refine wpAnyH_take (i := 14) (oi := { dst := some 69, op := Op.move (Operand.tmp 0), type := 3, pos := "law.go:83", after := #[{ on := 11, ground := Ground.guard }], guard := some (11, true) }) (v := ?_) rfl (by kernel_rfl) (by kernel_rfl) (by kernel_rfl) (fun _ _ _ h => h) (Or.inl ⟨by rfl, ?_⟩) (by assumption) ?_
  rotate_left
  · intro w hSw; (try dsimp only at hSw); go_simp <;> with_reducible rfl
  try simp only [Act.put, List.setIfInBounds_toArray, List.set_cons_zero, List.set_cons_succ]
  refine wpAnyH_take (i := 16) (oi := { dst := some 71, op := Op.move (Operand.tmp 2), type := 3, pos := "law.go:83", after := #[{ on := 11, ground := Ground.guard }], guard := some (11, true) }) (v := ?_) rfl (by kernel_rfl) (by kernel_rfl) (by kernel_rfl) (fun _ _ _ h => h) (Or.inl ⟨by rfl, ?_⟩) (by assumption) ?_
  rotate_left
  · intro w hSw; (try dsimp only at hSw); go_simp <;> with_reducible rfl
  try simp only [Act.put, List.setIfInBounds_toArray, List.set_cons_zero, List.set_cons_succ]
  refine wpAnyH_take (i := 21) (oi := { dst := some 76, op := Op.move (Operand.tmp 9), type := 4, pos := "law.go:83", after := #[{ on := 11, ground := Ground.guard }], guard := some (11, true) }) (v := ?_) rfl (by kernel_rfl) (by kernel_rfl) (by kernel_rfl) (fun _ _ _ h => h) (Or.inl ⟨by rfl, ?_⟩) (by assumption) ?_
  rotate_left
  · intro w hSw; (try dsimp only at hSw); go_simp <;> with_reducible rfl
  try simp only [Act.put, List.setIfInBounds_toArray, List.set_cons_zero, List.set_cons_succ]
  refine wpAnyH_ready (rs := [15, 17]) (by kernel_rfl) (by simp) ?_
  refine AllReadyH.cons (o := { dst := some 70, op := Op.call { callee := Callee.value (Operand.func 10), args := #[Operand.tmp 69], argTypes := #[3] }, type := 31, pos := "law.go:83", after := #[{ on := 14, ground := Ground.data }, { on := 11, ground := Ground.chain }, { on := 11, ground := Ground.guard }], guard := some (11, true) }) rfl (fun K hK => ?_) ?_
  · skip
    go_simp
    (first | (go_at_call 7; refine (HG.out _ (by assumption)).mono ?_; rintro d w' ⟨rfl, hS⟩) | (go_at_call 8; refine (HKp.out _ (by assumption)).mono ?_; rintro d w' ⟨rfl, hS⟩) | (go_at_call 9; refine (HMy.out _ (by assumption)).mono ?_; rintro d w' ⟨rfl, hS⟩) | (go_at_call 10; refine (HAl.out _).mono ?_; rintro d w' ⟨rfl, rfl⟩) | (go_at_call 11; refine (HOf.out _).mono ?_; rintro d w' ⟨rfl, rfl⟩) | (go_at_call 10; refine (HAl.out _).mono ?_; rintro d w' ⟨rfl, rfl⟩) | (go_at_call 11; refine (HOfD.out _).mono ?_; rintro d w' ⟨rfl, rfl⟩))
    refine hK.out _ _ ?_ (fun hHeld => ?_)
    · (first | assumption | exact (HeldC.alloc (by assumption) _) | exact (HeldC.drew (by assumption)))
    clear hK K
    try simp only [Act.put, List.setIfInBounds_toArray, List.set_cons_zero, List.set_cons_succ]
    refine wpAnyH_ready (rs := [17]) (by kernel_rfl) (by simp) ?_
    refine AllReadyH.cons (o := { dst := some 72, op := Op.buildSlice 39 1 #[(0, Operand.tmp 71)], type := 39, pos := "law.go:83", after := #[{ on := 16, ground := Ground.data }, { on := 11, ground := Ground.guard }], guard := some (11, true) }) rfl (fun K hK => ?_) AllReadyH.nil
    go_simp
    refine hK.out _ _ ?_ (fun hHeld => ?_)
    · (first | assumption | exact (HeldC.alloc (by assumption) _) | exact (HeldC.drew (by assumption)))
    clear hK K
    try simp only [Act.put, List.setIfInBounds_toArray, List.set_cons_zero, List.set_cons_succ]
    refine wpAnyH_ready (rs := [18]) (by kernel_rfl) (by simp) ?_
    refine AllReadyH.cons (o := { dst := some 73, op := Op.call { callee := Callee.value (Operand.func 11), args := #[Operand.tmp 72], argTypes := #[39] }, type := 31, pos := "law.go:83", after := #[{ on := 17, ground := Ground.data }, { on := 15, ground := Ground.chain }, { on := 11, ground := Ground.guard }], guard := some (11, true) }) rfl (fun K hK => ?_) AllReadyH.nil
    go_simp
    (first | (go_at_call 7; refine (HG.out _ (by assumption)).mono ?_; rintro d w' ⟨rfl, hS⟩) | (go_at_call 8; refine (HKp.out _ (by assumption)).mono ?_; rintro d w' ⟨rfl, hS⟩) | (go_at_call 9; refine (HMy.out _ (by assumption)).mono ?_; rintro d w' ⟨rfl, hS⟩) | (go_at_call 10; refine (HAl.out _).mono ?_; rintro d w' ⟨rfl, rfl⟩) | (go_at_call 11; refine (HOf.out _).mono ?_; rintro d w' ⟨rfl, rfl⟩) | (go_at_call 10; refine (HAl.out _).mono ?_; rintro d w' ⟨rfl, rfl⟩) | (go_at_call 11; refine (HOfD.out _).mono ?_; rintro d w' ⟨rfl, rfl⟩))
    refine hK.out _ _ ?_ (fun hHeld => ?_)
    · (first | assumption | exact (HeldC.alloc (by assumption) _) | exact (HeldC.drew (by assumption)))
    clear hK K
    try simp only [Act.put, List.setIfInBounds_toArray, List.set_cons_zero, List.set_cons_succ]
    refine wpAnyH_take (i := 19) (oi := { dst := some 74, op := Op.binOp BinOp.andNot 31 (Operand.tmp 70) (Operand.tmp 73) 31, type := 31, pos := "law.go:83", after := #[{ on := 15, ground := Ground.data }, { on := 18, ground := Ground.data }, { on := 11, ground := Ground.guard }], guard := some (11, true) }) (v := ?_) rfl (by kernel_rfl) (by kernel_rfl) (by kernel_rfl) (fun _ _ _ h => h) (Or.inl ⟨by rfl, ?_⟩) (by assumption) ?_
    rotate_left
    · intro w hSw; (try dsimp only at hSw); go_simp <;> with_reducible rfl
    try simp only [Act.put, List.setIfInBounds_toArray, List.set_cons_zero, List.set_cons_succ]
    refine wpAnyH_ready (rs := [20]) (by kernel_rfl) (by simp) ?_
    refine AllReadyH.cons (o := { dst := some 75, op := Op.call { callee := Callee.value (Operand.func 9), args := #[Operand.tmp 67, Operand.tmp 68, Operand.tmp 74], argTypes := #[25, 3, 31] }, type := 4, pos := "law.go:83", after := #[{ on := 12, ground := Ground.data }, { on := 13, ground := Ground.data }, { on := 19, ground := Ground.data }, { on := 18, ground := Ground.chain }, { on := 11, ground := Ground.guard }], guard := some (11, true) }) rfl (fun K hK => ?_) AllReadyH.nil
    go_simp
    (first | (go_at_call 7; refine (HG.out _ (by assumption)).mono ?_; rintro d w' ⟨rfl, hS⟩) | (go_at_call 8; refine (HKp.out _ (by assumption)).mono ?_; rintro d w' ⟨rfl, hS⟩) | (go_at_call 9; refine (HMy.out _ (by assumption)).mono ?_; rintro d w' ⟨rfl, hS⟩) | (go_at_call 10; refine (HAl.out _).mono ?_; rintro d w' ⟨rfl, rfl⟩) | (go_at_call 11; refine (HOf.out _).mono ?_; rintro d w' ⟨rfl, rfl⟩) | (go_at_call 10; refine (HAl.out _).mono ?_; rintro d w' ⟨rfl, rfl⟩) | (go_at_call 11; refine (HOfD.out _).mono ?_; rintro d w' ⟨rfl, rfl⟩))
    refine hK.out _ _ ?_ (fun hHeld => ?_)
    · (first | assumption | exact (HeldC.alloc (by assumption) _) | exact (HeldC.drew (by assumption)))
    clear hK K
    try simp only [Act.put, List.setIfInBounds_toArray, List.set_cons_zero, List.set_cons_succ]
    refine wpAnyH_take (i := 22) (oi := { dst := some 77, op := Op.move (Operand.tmp 76), type := 4, pos := "law.go:83", after := #[{ on := 21, ground := Ground.data }, { on := 20, ground := Ground.chain }, { on := 11, ground := Ground.guard }], guard := some (11, true) }) (v := ?_) rfl (by kernel_rfl) (by kernel_rfl) (by kernel_rfl) (fun _ _ _ h => h) (Or.inl ⟨by rfl, ?_⟩) (by assumption) ?_
    rotate_left
    · intro w hSw; (try dsimp only at hSw); go_simp <;> with_reducible rfl
    try simp only [Act.put, List.setIfInBounds_toArray, List.set_cons_zero, List.set_cons_succ]
    refine wpAnyH_take (i := 23) (oi := { dst := some 78, op := Op.move (Operand.tmp 0), type := 3, pos := "law.go:83", after := #[{ on := 22, ground := Ground.guard }], guard := some (22, true) }) (v := ?_) rfl (by kernel_rfl) (by kernel_rfl) (by kernel_rfl) (fun _ _ _ h => h) (Or.inl ⟨by rfl, ?_⟩) (by assumption) ?_
    rotate_left
    · intro w hSw; (try dsimp only at hSw); go_simp <;> with_reducible rfl
    try simp only [Act.put, List.setIfInBounds_toArray, List.set_cons_zero, List.set_cons_succ]
    refine wpAnyH_take (i := 24) (oi := { dst := some 79, op := Op.binOp BinOp.gtr 3 (Operand.tmp 78) (Operand.const (Value.int IntKind.i64 1)) 3, type := 4, pos := "law.go:83", after := #[{ on := 23, ground := Ground.data }, { on := 22, ground := Ground.guard }], guard := some (22, true) }) (v := ?_) rfl (by kernel_rfl) (by kernel_rfl) (by kernel_rfl) (fun _ _ _ h => h) (Or.inl ⟨by rfl, ?_⟩) (by assumption) ?_
    rotate_left
    · intro w hSw; (try dsimp only at hSw); go_simp <;> with_reducible rfl
    try simp only [Act.put, List.setIfInBounds_toArray, List.set_cons_zero, List.set_cons_succ]
    refine wpAnyH_take (i := 25) (oi := { dst := some 80, op := Op.pick (Operand.tmp 77) (Operand.tmp 79) (Operand.const (Value.bool false)), type := 4, pos := "law.go:83", after := #[{ on := 22, ground := Ground.data }, { on := 24, ground := Ground.data }, { on := 11, ground := Ground.guard }], guard := some (11, true) }) (v := ?_) rfl (by kernel_rfl) (by kernel_rfl) (by kernel_rfl) (fun _ _ _ h => h) (Or.inl ⟨by rfl, ?_⟩) (by assumption) ?_
    rotate_left
    · intro w hSw; (try dsimp only at hSw); go_simp <;> with_reducible rfl
    try simp only [Act.put, List.setIfInBounds_toArray, List.set_cons_zero, List.set_cons_succ]
    refine wpAnyH_take (i := 26) (oi := { dst := some 81, op := Op.binOp BinOp.eql 4 (Operand.tmp 75) (Operand.tmp 80) 4, type := 4, pos := "law.go:83", after := #[{ on := 20, ground := Ground.data }, { on := 25, ground := Ground.data }, { on := 11, ground := Ground.guard }], guard := some (11, true) }) (v := ?_) rfl (by kernel_rfl) (by kernel_rfl) (by kernel_rfl) (fun _ _ _ h => h) (Or.inl ⟨by rfl, ?_⟩) (by assumption) ?_
    rotate_left
    · intro w hSw; (try dsimp only at hSw); go_simp <;> with_reducible rfl
    try simp only [Act.put, List.setIfInBounds_toArray, List.set_cons_zero, List.set_cons_succ]
    refine wpAnyH_take (i := 27) (oi := { dst := some 82, op := Op.pick (Operand.tmp 66) (Operand.tmp 81) (Operand.const (Value.bool false)), type := 4, pos := "law.go:83", after := #[{ on := 11, ground := Ground.data }, { on := 26, ground := Ground.data }], guard := none }) (v := ?_) rfl (by kernel_rfl) (by kernel_rfl) (by kernel_rfl) (fun _ _ _ h => h) (Or.inl ⟨by rfl, ?_⟩) (by assumption) ?_
    rotate_left
    · intro w hSw; (try dsimp only at hSw); go_simp <;> with_reducible rfl
    try simp only [Act.put, List.setIfInBounds_toArray, List.set_cons_zero, List.set_cons_succ]
    refine wpAnyH_take (i := 28) (oi := { dst := some 6, op := Op.assign (Operand.tmp 82), type := 4, pos := "law.go:83", after := #[{ on := 27, ground := Ground.data }, { on := 22, ground := Ground.chain }, { on := 0, ground := Ground.phase }, { on := 1, ground := Ground.phase }, { on := 2, ground := Ground.phase }, { on := 3, ground := Ground.phase }, { on := 4, ground := Ground.phase }, { on := 5, ground := Ground.phase }, { on := 6, ground := Ground.phase }, { on := 7, ground := Ground.phase }, { on := 8, ground := Ground.phase }, { on := 9, ground := Ground.phase }, { on := 10, ground := Ground.phase }, { on := 11, ground := Ground.phase }, { on := 12, ground := Ground.phase }, { on := 13, ground := Ground.phase }, { on := 14, ground := Ground.phase }, { on := 15, ground := Ground.phase }, { on := 16, ground := Ground.phase }, { on := 17, ground := Ground.phase }, { on := 18, ground := Ground.phase }, { on := 19, ground := Ground.phase }, { on := 20, ground := Ground.phase }, { on := 21, ground := Ground.phase }, { on := 22, ground := Ground.phase }, { on := 23, ground := Ground.phase }, { on := 24, ground := Ground.phase }, { on := 25, ground := Ground.phase }, { on := 26, ground := Ground.phase }, { on := 27, ground := Ground.phase }], guard := none }) (v := ?_) rfl (by kernel_rfl) (by kernel_rfl) (by kernel_rfl) (fun _ _ _ h => h) (Or.inl ⟨by rfl, ?_⟩) (by assumption) ?_
    rotate_left
    · intro w hSw; (try dsimp only at hSw); go_simp <;> with_reducible rfl
    try simp only [Act.put, List.setIfInBounds_toArray, List.set_cons_zero, List.set_cons_succ]
    refine wpAnyH_done (by kernel_rfl) ?_ _
    go_wp2
    go_ret
    exact ⟨rfl, HeldC.modOf (by assumption)⟩
  refine AllReadyH.cons (o := { dst := some 72, op := Op.buildSlice 39 1 #[(0, Operand.tmp 71)], type := 39, pos := "law.go:83", after := #[{ on := 16, ground := Ground.data }, { on := 11, ground := Ground.guard }], guard := some (11, true) }) rfl (fun K hK => ?_) ?_
  · skip
    go_simp
    refine hK.out _ _ ?_ (fun hHeld => ?_)
    · (first | assumption | exact (HeldC.alloc (by assumption) _) | exact (HeldC.drew (by assumption)))
    clear hK K
    try simp only [Act.put, List.setIfInBounds_toArray, List.set_cons_zero, List.set_cons_succ]
    refine wpAnyH_ready (rs := [15]) (by kernel_rfl) (by simp) ?_
    refine AllReadyH.cons (o := { dst := some 70, op := Op.call { callee := Callee.value (Operand.func 10), args := #[Operand.tmp 69], argTypes := #[3] }, type := 31, pos := "law.go:83", after := #[{ on := 14, ground := Ground.data }, { on := 11, ground := Ground.chain }, { on := 11, ground := Ground.guard }], guard := some (11, true) }) rfl (fun K hK => ?_) AllReadyH.nil
    go_simp
    (first | (go_at_call 7; refine (HG.out _ (by assumption)).mono ?_; rintro d w' ⟨rfl, hS⟩) | (go_at_call 8; refine (HKp.out _ (by assumption)).mono ?_; rintro d w' ⟨rfl, hS⟩) | (go_at_call 9; refine (HMy.out _ (by assumption)).mono ?_; rintro d w' ⟨rfl, hS⟩) | (go_at_call 10; refine (HAl.out _).mono ?_; rintro d w' ⟨rfl, rfl⟩) | (go_at_call 11; refine (HOf.out _).mono ?_; rintro d w' ⟨rfl, rfl⟩) | (go_at_call 10; refine (HAl.out _).mono ?_; rintro d w' ⟨rfl, rfl⟩) | (go_at_call 11; refine (HOfD.out _).mono ?_; rintro d w' ⟨rfl, rfl⟩))
    refine hK.out _ _ ?_ (fun hHeld => ?_)
    · (first | assumption | exact (HeldC.alloc (by assumption) _) | exact (HeldC.drew (by assumption)))
    clear hK K
    try simp only [Act.put, List.setIfInBounds_toArray, List.set_cons_zero, List.set_cons_succ]
    refine wpAnyH_ready (rs := [18]) (by kernel_rfl) (by simp) ?_
    refine AllReadyH.cons (o := { dst := some 73, op := Op.call { callee := Callee.value (Operand.func 11), args := #[Operand.tmp 72], argTypes := #[39] }, type := 31, pos := "law.go:83", after := #[{ on := 17, ground := Ground.data }, { on := 15, ground := Ground.chain }, { on := 11, ground := Ground.guard }], guard := some (11, true) }) rfl (fun K hK => ?_) AllReadyH.nil
    go_simp
    (first | (go_at_call 7; refine (HG.out _ (by assumption)).mono ?_; rintro d w' ⟨rfl, hS⟩) | (go_at_call 8; refine (HKp.out _ (by assumption)).mono ?_; rintro d w' ⟨rfl, hS⟩) | (go_at_call 9; refine (HMy.out _ (by assumption)).mono ?_; rintro d w' ⟨rfl, hS⟩) | (go_at_call 10; refine (HAl.out _).mono ?_; rintro d w' ⟨rfl, rfl⟩) | (go_at_call 11; refine (HOf.out _).mono ?_; rintro d w' ⟨rfl, rfl⟩) | (go_at_call 10; refine (HAl.out _).mono ?_; rintro d w' ⟨rfl, rfl⟩) | (go_at_call 11; refine (HOfD.out _).mono ?_; rintro d w' ⟨rfl, rfl⟩))
    refine hK.out _ _ ?_ (fun hHeld => ?_)
    · (first | assumption | exact (HeldC.alloc (by assumption) _) | exact (HeldC.drew (by assumption)))
    clear hK K
    try simp only [Act.put, List.setIfInBounds_toArray, List.set_cons_zero, List.set_cons_succ]
    refine wpAnyH_take (i := 19) (oi := { dst := some 74, op := Op.binOp BinOp.andNot 31 (Operand.tmp 70) (Operand.tmp 73) 31, type := 31, pos := "law.go:83", after := #[{ on := 15, ground := Ground.data }, { on := 18, ground := Ground.data }, { on := 11, ground := Ground.guard }], guard := some (11, true) }) (v := ?_) rfl (by kernel_rfl) (by kernel_rfl) (by kernel_rfl) (fun _ _ _ h => h) (Or.inl ⟨by rfl, ?_⟩) (by assumption) ?_
    rotate_left
    · intro w hSw; (try dsimp only at hSw); go_simp <;> with_reducible rfl
    try simp only [Act.put, List.setIfInBounds_toArray, List.set_cons_zero, List.set_cons_succ]
    refine wpAnyH_ready (rs := [20]) (by kernel_rfl) (by simp) ?_
    refine AllReadyH.cons (o := { dst := some 75, op := Op.call { callee := Callee.value (Operand.func 9), args := #[Operand.tmp 67, Operand.tmp 68, Operand.tmp 74], argTypes := #[25, 3, 31] }, type := 4, pos := "law.go:83", after := #[{ on := 12, ground := Ground.data }, { on := 13, ground := Ground.data }, { on := 19, ground := Ground.data }, { on := 18, ground := Ground.chain }, { on := 11, ground := Ground.guard }], guard := some (11, true) }) rfl (fun K hK => ?_) AllReadyH.nil
    go_simp
    (first | (go_at_call 7; refine (HG.out _ (by assumption)).mono ?_; rintro d w' ⟨rfl, hS⟩) | (go_at_call 8; refine (HKp.out _ (by assumption)).mono ?_; rintro d w' ⟨rfl, hS⟩) | (go_at_call 9; refine (HMy.out _ (by assumption)).mono ?_; rintro d w' ⟨rfl, hS⟩) | (go_at_call 10; refine (HAl.out _).mono ?_; rintro d w' ⟨rfl, rfl⟩) | (go_at_call 11; refine (HOf.out _).mono ?_; rintro d w' ⟨rfl, rfl⟩) | (go_at_call 10; refine (HAl.out _).mono ?_; rintro d w' ⟨rfl, rfl⟩) | (go_at_call 11; refine (HOfD.out _).mono ?_; rintro d w' ⟨rfl, rfl⟩))
    refine hK.out _ _ ?_ (fun hHeld => ?_)
    · (first | assumption | exact (HeldC.alloc (by assumption) _) | exact (HeldC.drew (by assumption)))
    clear hK K
    try simp only [Act.put, List.setIfInBounds_toArray, List.set_cons_zero, List.set_cons_succ]
    refine wpAnyH_take (i := 22) (oi := { dst := some 77, op := Op.move (Operand.tmp 76), type := 4, pos := "law.go:83", after := #[{ on := 21, ground := Ground.data }, { on := 20, ground := Ground.chain }, { on := 11, ground := Ground.guard }], guard := some (11, true) }) (v := ?_) rfl (by kernel_rfl) (by kernel_rfl) (by kernel_rfl) (fun _ _ _ h => h) (Or.inl ⟨by rfl, ?_⟩) (by assumption) ?_
    rotate_left
    · intro w hSw; (try dsimp only at hSw); go_simp <;> with_reducible rfl
    try simp only [Act.put, List.setIfInBounds_toArray, List.set_cons_zero, List.set_cons_succ]
    refine wpAnyH_take (i := 23) (oi := { dst := some 78, op := Op.move (Operand.tmp 0), type := 3, pos := "law.go:83", after := #[{ on := 22, ground := Ground.guard }], guard := some (22, true) }) (v := ?_) rfl (by kernel_rfl) (by kernel_rfl) (by kernel_rfl) (fun _ _ _ h => h) (Or.inl ⟨by rfl, ?_⟩) (by assumption) ?_
    rotate_left
    · intro w hSw; (try dsimp only at hSw); go_simp <;> with_reducible rfl
    try simp only [Act.put, List.setIfInBounds_toArray, List.set_cons_zero, List.set_cons_succ]
    refine wpAnyH_take (i := 24) (oi := { dst := some 79, op := Op.binOp BinOp.gtr 3 (Operand.tmp 78) (Operand.const (Value.int IntKind.i64 1)) 3, type := 4, pos := "law.go:83", after := #[{ on := 23, ground := Ground.data }, { on := 22, ground := Ground.guard }], guard := some (22, true) }) (v := ?_) rfl (by kernel_rfl) (by kernel_rfl) (by kernel_rfl) (fun _ _ _ h => h) (Or.inl ⟨by rfl, ?_⟩) (by assumption) ?_
    rotate_left
    · intro w hSw; (try dsimp only at hSw); go_simp <;> with_reducible rfl
    try simp only [Act.put, List.setIfInBounds_toArray, List.set_cons_zero, List.set_cons_succ]
    refine wpAnyH_take (i := 25) (oi := { dst := some 80, op := Op.pick (Operand.tmp 77) (Operand.tmp 79) (Operand.const (Value.bool false)), type := 4, pos := "law.go:83", after := #[{ on := 22, ground := Ground.data }, { on := 24, ground := Ground.data }, { on := 11, ground := Ground.guard }], guard := some (11, true) }) (v := ?_) rfl (by kernel_rfl) (by kernel_rfl) (by kernel_rfl) (fun _ _ _ h => h) (Or.inl ⟨by rfl, ?_⟩) (by assumption) ?_
    rotate_left
    · intro w hSw; (try dsimp only at hSw); go_simp <;> with_reducible rfl
    try simp only [Act.put, List.setIfInBounds_toArray, List.set_cons_zero, List.set_cons_succ]
    refine wpAnyH_take (i := 26) (oi := { dst := some 81, op := Op.binOp BinOp.eql 4 (Operand.tmp 75) (Operand.tmp 80) 4, type := 4, pos := "law.go:83", after := #[{ on := 20, ground := Ground.data }, { on := 25, ground := Ground.data }, { on := 11, ground := Ground.guard }], guard := some (11, true) }) (v := ?_) rfl (by kernel_rfl) (by kernel_rfl) (by kernel_rfl) (fun _ _ _ h => h) (Or.inl ⟨by rfl, ?_⟩) (by assumption) ?_
    rotate_left
    · intro w hSw; (try dsimp only at hSw); go_simp <;> with_reducible rfl
    try simp only [Act.put, List.setIfInBounds_toArray, List.set_cons_zero, List.set_cons_succ]
    refine wpAnyH_take (i := 27) (oi := { dst := some 82, op := Op.pick (Operand.tmp 66) (Operand.tmp 81) (Operand.const (Value.bool false)), type := 4, pos := "law.go:83", after := #[{ on := 11, ground := Ground.data }, { on := 26, ground := Ground.data }], guard := none }) (v := ?_) rfl (by kernel_rfl) (by kernel_rfl) (by kernel_rfl) (fun _ _ _ h => h) (Or.inl ⟨by rfl, ?_⟩) (by assumption) ?_
    rotate_left
    · intro w hSw; (try dsimp only at hSw); go_simp <;> with_reducible rfl
    try simp only [Act.put, List.setIfInBounds_toArray, List.set_cons_zero, List.set_cons_succ]
    refine wpAnyH_take (i := 28) (oi := { dst := some 6, op := Op.assign (Operand.tmp 82), type := 4, pos := "law.go:83", after := #[{ on := 27, ground := Ground.data }, { on := 22, ground := Ground.chain }, { on := 0, ground := Ground.phase }, { on := 1, ground := Ground.phase }, { on := 2, ground := Ground.phase }, { on := 3, ground := Ground.phase }, { on := 4, ground := Ground.phase }, { on := 5, ground := Ground.phase }, { on := 6, ground := Ground.phase }, { on := 7, ground := Ground.phase }, { on := 8, ground := Ground.phase }, { on := 9, ground := Ground.phase }, { on := 10, ground := Ground.phase }, { on := 11, ground := Ground.phase }, { on := 12, ground := Ground.phase }, { on := 13, ground := Ground.phase }, { on := 14, ground := Ground.phase }, { on := 15, ground := Ground.phase }, { on := 16, ground := Ground.phase }, { on := 17, ground := Ground.phase }, { on := 18, ground := Ground.phase }, { on := 19, ground := Ground.phase }, { on := 20, ground := Ground.phase }, { on := 21, ground := Ground.phase }, { on := 22, ground := Ground.phase }, { on := 23, ground := Ground.phase }, { on := 24, ground := Ground.phase }, { on := 25, ground := Ground.phase }, { on := 26, ground := Ground.phase }, { on := 27, ground := Ground.phase }], guard := none }) (v := ?_) rfl (by kernel_rfl) (by kernel_rfl) (by kernel_rfl) (fun _ _ _ h => h) (Or.inl ⟨by rfl, ?_⟩) (by assumption) ?_
    rotate_left
    · intro w hSw; (try dsimp only at hSw); go_simp <;> with_reducible rfl
    try simp only [Act.put, List.setIfInBounds_toArray, List.set_cons_zero, List.set_cons_succ]
    refine wpAnyH_done (by kernel_rfl) ?_ _
    go_wp2
    go_ret
    exact ⟨rfl, HeldC.modOf (by assumption)⟩
  exact AllReadyH.nil

set_option maxRecDepth 100000 in
set_option maxHeartbeats 8000000 in
theorem pl_one2 (n e p : Int) (w : World) (h1 : 1 ≤ n) (h2 : n ≤ 16) (he : e = 2) (h4 : 0 ≤ p) (h5 : p < n) (h6 : n ≤ 1) : Calls Try.prog 3 #[.int .i64 n, .int .i64 e, .int .i64 p] w fun d w' => d = .returned (.bool true) ∧ Mod (fun _ => False) w w' := by
  have HB1 : Hid ((plainCf n e).good = true) := by show _ = _; rw [plain_good]; simp only [inB, Bool.and_eq_true, decide_eq_true_eq]; omega
  have HB2 : Hid ((plainCf n e).keeps p 0 = true) := by show _ = _; rw [plain_keeps]; simp only [inB, Bool.and_eq_true, decide_eq_true_eq]; omega
  have HB3 : Hid ((plainCf n e).may p (lessOf (allOf n) (oneOf p)) = false) := by show _ = _; rw [plain_may]; exact Bool.eq_false_iff.2 (fun h => by simp only [inB, Bool.and_eq_true, decide_eq_true_eq] at h; omega)
  have e1 : (e == 1) = false := by simp [he]
  have e2 : (e == 2) = true := by simp [he]
  clear he
  have h7 : ¬ 1 < n := by omega
  have h8 : decide (1 < n) = false := decide_eq_false h7
  go_enter Try.func3, Try.ntmps3
  go_wp2_with fail
  refine (awake_calls w).mono ?_
  rintro d w1 ⟨rfl, hm1⟩
  have HM1 := Lib.hid hm1
  clear hm1
  go_wp2_with fail
  refine (plain_any n e w1).mono ?_
  rintro d w2 ⟨v, rfl, hs2, hm2⟩
  have HS2 := Lib.hid hs2
  have HM2 := Lib.hid (HM1.out.trans hm2)
  obtain ⟨A, c, rfl, _, _, _⟩ := hs2
  clear hm2
  have hH : HeldC w w2.heap.size n (plainCf n e).vars 2 3 2 8 64 e (.slice A 1 c) (w2.alloc (.cells #[.int .i64 n, .slice A 1 c, .int .i64 2, .int .i64 3, .int .i64 2, .int .i64 8, .int .i64 64, .int .i64 e] 25)) :=
    Held.cells ⟨blk_new _ _, HS2.out.mod (S := fun _ => False) ((Mod.refl _ _).alloc _) (fun _ _ x => x), HM2.out.alloc _⟩
  unfold Cf.val Cf.cells plainCf
  go_wp2_with fail
  clear HS2
  have HH := Lib.hid hH
  clear hH
  generalize hwq : w2.alloc _ = wq at HH ⊢
  clear hwq
  generalize w2.heap.size = B at HH ⊢
  have hH := HH.out
  clear HH
  have HG : Hid (∀ W, HeldC w B n (plainCf n e).vars 2 3 2 8 64 e (.slice A 1 c) W → Calls Try.prog 7 #[.agg #[.int .i64 n, .slice A 1 c, .int .i64 2, .int .i64 3, .int .i64 2, .int .i64 8, .int .i64 64, .int .i64 e]] W fun d w' => d = .returned (.bool true) ∧ HeldC w B n (plainCf n e).vars 2 3 2 8 64 e (.slice A 1 c) w') :=
    fun W h => (good_any (plainCf n e) (.slice A 1 c) W h.1.2.1).mono fun _ _ ⟨x, y⟩ => ⟨by rw [x, HB1.out], h.mod y⟩
  have HKp : Hid (∀ W, HeldC w B n (plainCf n e).vars 2 3 2 8 64 e (.slice A 1 c) W → Calls Try.prog 8 #[.agg #[.int .i64 n, .slice A 1 c, .int .i64 2, .int .i64 3, .int .i64 2, .int .i64 8, .int .i64 64, .int .i64 e], .int .i64 p, .int .i64 0] W fun d w' => d = .returned (.bool true) ∧ HeldC w B n (plainCf n e).vars 2 3 2 8 64 e (.slice A 1 c) w') :=
    fun W h => (keeps_any (plainCf n e) (.slice A 1 c) p 0 W h.1.2.1).mono fun _ _ ⟨x, y⟩ => ⟨by rw [x, HB2.out], h.mod y⟩
  have HMy : Hid (∀ W, HeldC w B n (plainCf n e).vars 2 3 2 8 64 e (.slice A 1 c) W → Calls Try.prog 9 #[.agg #[.int .i64 n, .slice A 1 c, .int .i64 2, .int .i64 3, .int .i64 2, .int .i64 8, .int .i64 64, .int .i64 e], .int .i64 p, .int .u64 ((lessOf (allOf n) (oneOf p) : Nat) : Int)] W fun d w' => d = .returned (.bool false) ∧ HeldC w B n (plainCf n e).vars 2 3 2 8 64 e (.slice A 1 c) w') :=
    fun W h => (may_any (plainCf n e) (.slice A 1 c) p _ W h.1.2.1 (less_lt _ _ (allOf_lt n))).mono fun _ _ ⟨x, y⟩ => ⟨by rw [x, HB3.out], h.mod y⟩
  have hAN := andnot_bits n p
  have HAl := Lib.hid (all_any n)
  generalize hu : setOf [p] = u at hAN
  have HOf : Hid (∀ W : World, Calls Try.prog 11 #[.slice (some ⟨W.heap.size, 0, none⟩) 1 1] (W.alloc (.cells #[.int .i64 p] 3)) fun d w' => d = .returned (.int .u64 (u : Int)) ∧ W.alloc (.cells #[.int .i64 p] 3) = w') := fun W => by
    rw [← hu]; exact of_any _ [p] _ (Ints.new W 3 1 [p]) (by simp)
  have HOfD : Hid (∀ W : World, Calls Try.prog 11 #[.slice (some ⟨W.heap.size, 0, none⟩) 1 1] (W.alloc (.cells #[.int .i64 p] 3)).drew fun d w' => d = .returned (.int .u64 (u : Int)) ∧ (W.alloc (.cells #[.int .i64 p] 3)).drew = w') := fun W => by
    rw [← hu]; exact of_any _ [p] (W.alloc (.cells #[.int .i64 p] 3)).drew (Ints.new W 3 1 [p]) (by simp)
  generalize allOf n = a at hAN HAl HMy
  generalize lessOf a (oneOf p) = tt at hAN HMy
  generalize (plainCf n e).vars = vs at hH HG HKp HMy
  unfold HeldC at hH HG HKp HMy
  clear hu
  refine wp_region_held_drew (S := (fun w' => Held w B ⟨n, vs, 2, 3, 2, 8, 64, e⟩ (.slice A 1 c) w' ∧ w'.cell? ⟨B, 0, none⟩ = some (.int .i64 n) ∧ w'.cell? ⟨B, 1, none⟩ = some (.slice A 1 c) ∧ w'.cell? ⟨B, 2, none⟩ = some (.int .i64 2) ∧ w'.cell? ⟨B, 3, none⟩ = some (.int .i64 3) ∧ w'.cell? ⟨B, 4, none⟩ = some (.int .i64 2) ∧ w'.cell? ⟨B, 5, none⟩ = some (.int .i64 8) ∧ w'.cell? ⟨B, 6, none⟩ = some (.int .i64 64) ∧ w'.cell? ⟨B, 7, none⟩ = some (.int .i64 e))) (by kernel_rfl) ?_ (fun hHeld => ?_)
  · exact HeldC.drew hH
  refine wpAnyH_take (i := 0) (oi := { dst := some 55, op := Op.load 25 (Operand.tmp 7), type := 25, pos := "law.go:83", after := #[], guard := none }) (v := ?_) rfl (by kernel_rfl) (by kernel_rfl) (by kernel_rfl) (fun _ _ _ h => h) (Or.inl ⟨by rfl, ?_⟩) (by assumption) ?_
  rotate_left
  · intro w hSw; (try dsimp only at hSw); go_simp <;> with_reducible rfl
  try simp only [Act.put, List.setIfInBounds_toArray, List.set_cons_zero, List.set_cons_succ]
  refine wpAnyH_take (i := 2) (oi := { dst := some 57, op := Op.move (Operand.tmp 8), type := 4, pos := "law.go:83", after := #[], guard := none }) (v := ?_) rfl (by kernel_rfl) (by kernel_rfl) (by kernel_rfl) (fun _ _ _ h => h) (Or.inl ⟨by rfl, ?_⟩) (by assumption) ?_
  rotate_left
  · intro w hSw; (try dsimp only at hSw); go_simp <;> with_reducible rfl
  try simp only [Act.put, List.setIfInBounds_toArray, List.set_cons_zero, List.set_cons_succ]
  refine wpAnyH_ready (rs := [1]) (by kernel_rfl) (by simp) ?_
  refine AllReadyH.cons (o := { dst := some 56, op := Op.call { callee := Callee.value (Operand.func 7), args := #[Operand.tmp 55], argTypes := #[25] }, type := 4, pos := "law.go:83", after := #[{ on := 0, ground := Ground.data }], guard := none }) rfl (fun K hK => ?_) AllReadyH.nil
  go_simp
  (first | (go_at_call 7; refine (HG.out _ (by assumption)).mono ?_; rintro d w' ⟨rfl, hS⟩) | (go_at_call 8; refine (HKp.out _ (by assumption)).mono ?_; rintro d w' ⟨rfl, hS⟩) | (go_at_call 9; refine (HMy.out _ (by assumption)).mono ?_; rintro d w' ⟨rfl, hS⟩) | (go_at_call 10; refine (HAl.out _).mono ?_; rintro d w' ⟨rfl, rfl⟩) | (go_at_call 11; refine (HOf.out _).mono ?_; rintro d w' ⟨rfl, rfl⟩) | (go_at_call 10; refine (HAl.out _).mono ?_; rintro d w' ⟨rfl, rfl⟩) | (go_at_call 11; refine (HOfD.out _).mono ?_; rintro d w' ⟨rfl, rfl⟩))
  refine hK.out _ _ ?_ (fun hHeld => ?_)
  · (first | assumption | exact (HeldC.alloc (by assumption) _) | exact (HeldC.drew (by assumption)))
  clear hK K
  try simp only [Act.put, List.setIfInBounds_toArray, List.set_cons_zero, List.set_cons_succ]
  refine wpAnyH_take (i := 3) (oi := { dst := some 58, op := Op.binOp BinOp.eql 4 (Operand.tmp 56) (Operand.tmp 57) 4, type := 4, pos := "law.go:83", after := #[{ on := 1, ground := Ground.data }, { on := 2, ground := Ground.data }], guard := none }) (v := ?_) rfl (by kernel_rfl) (by kernel_rfl) (by kernel_rfl) (fun _ _ _ h => h) (Or.inl ⟨by rfl, ?_⟩) (by assumption) ?_
  rotate_left
  · intro w hSw; (try dsimp only at hSw); go_simp <;> with_reducible rfl
  try simp only [Act.put, List.setIfInBounds_toArray, List.set_cons_zero, List.set_cons_succ]
  refine wpAnyH_take (i := 4) (oi := { dst := some 59, op := Op.move (Operand.tmp 58), type := 4, pos := "law.go:83", after := #[{ on := 3, ground := Ground.data }, { on := 1, ground := Ground.chain }], guard := none }) (v := ?_) rfl (by kernel_rfl) (by kernel_rfl) (by kernel_rfl) (fun _ _ _ h => h) (Or.inl ⟨by rfl, ?_⟩) (by assumption) ?_
  rotate_left
  · intro w hSw; (try dsimp only at hSw); go_simp <;> with_reducible rfl
  try simp only [Act.put, List.setIfInBounds_toArray, List.set_cons_zero, List.set_cons_succ]
  refine wpAnyH_take (i := 5) (oi := { dst := some 60, op := Op.load 25 (Operand.tmp 7), type := 25, pos := "law.go:83", after := #[{ on := 4, ground := Ground.guard }], guard := some (4, true) }) (v := ?_) rfl (by kernel_rfl) (by kernel_rfl) (by kernel_rfl) (fun _ _ _ h => h) (Or.inl ⟨by rfl, ?_⟩) (by assumption) ?_
  rotate_left
  · intro w hSw; (try dsimp only at hSw); go_simp <;> with_reducible rfl
  try simp only [Act.put, List.setIfInBounds_toArray, List.set_cons_zero, List.set_cons_succ]
  refine wpAnyH_take (i := 6) (oi := { dst := some 61, op := Op.move (Operand.tmp 2), type := 3, pos := "law.go:83", after := #[{ on := 4, ground := Ground.guard }], guard := some (4, true) }) (v := ?_) rfl (by kernel_rfl) (by kernel_rfl) (by kernel_rfl) (fun _ _ _ h => h) (Or.inl ⟨by rfl, ?_⟩) (by assumption) ?_
  rotate_left
  · intro w hSw; (try dsimp only at hSw); go_simp <;> with_reducible rfl
  try simp only [Act.put, List.setIfInBounds_toArray, List.set_cons_zero, List.set_cons_succ]
  refine wpAnyH_take (i := 8) (oi := { dst := some 63, op := Op.move (Operand.tmp 9), type := 4, pos := "law.go:83", after := #[{ on := 4, ground := Ground.guard }], guard := some (4, true) }) (v := ?_) rfl (by kernel_rfl) (by kernel_rfl) (by kernel_rfl) (fun _ _ _ h => h) (Or.inl ⟨by rfl, ?_⟩) (by assumption) ?_
  rotate_left
  · intro w hSw; (try dsimp only at hSw); go_simp <;> with_reducible rfl
  try simp only [Act.put, List.setIfInBounds_toArray, List.set_cons_zero, List.set_cons_succ]
  refine wpAnyH_ready (rs := [7]) (by kernel_rfl) (by simp) ?_
  refine AllReadyH.cons (o := { dst := some 62, op := Op.call { callee := Callee.value (Operand.func 8), args := #[Operand.tmp 60, Operand.tmp 61, Operand.const (Value.int IntKind.i64 0)], argTypes := #[25, 3, 3] }, type := 4, pos := "law.go:83", after := #[{ on := 5, ground := Ground.data }, { on := 6, ground := Ground.data }, { on := 4, ground := Ground.chain }, { on := 4, ground := Ground.guard }], guard := some (4, true) }) rfl (fun K hK => ?_) AllReadyH.nil
  go_simp
  (first | (go_at_call 7; refine (HG.out _ (by assumption)).mono ?_; rintro d w' ⟨rfl, hS⟩) | (go_at_call 8; refine (HKp.out _ (by assumption)).mono ?_; rintro d w' ⟨rfl, hS⟩) | (go_at_call 9; refine (HMy.out _ (by assumption)).mono ?_; rintro d w' ⟨rfl, hS⟩) | (go_at_call 10; refine (HAl.out _).mono ?_; rintro d w' ⟨rfl, rfl⟩) | (go_at_call 11; refine (HOf.out _).mono ?_; rintro d w' ⟨rfl, rfl⟩) | (go_at_call 10; refine (HAl.out _).mono ?_; rintro d w' ⟨rfl, rfl⟩) | (go_at_call 11; refine (HOfD.out _).mono ?_; rintro d w' ⟨rfl, rfl⟩))
  refine hK.out _ _ ?_ (fun hHeld => ?_)
  · (first | assumption | exact (HeldC.alloc (by assumption) _) | exact (HeldC.drew (by assumption)))
  clear hK K
  try simp only [Act.put, List.setIfInBounds_toArray, List.set_cons_zero, List.set_cons_succ]
  refine wpAnyH_take (i := 9) (oi := { dst := some 64, op := Op.binOp BinOp.eql 4 (Operand.tmp 62) (Operand.tmp 63) 4, type := 4, pos := "law.go:83", after := #[{ on := 7, ground := Ground.data }, { on := 8, ground := Ground.data }, { on := 4, ground := Ground.guard }], guard := some (4, true) }) (v := ?_) rfl (by kernel_rfl) (by kernel_rfl) (by kernel_rfl) (fun _ _ _ h => h) (Or.inl ⟨by rfl, ?_⟩) (by assumption) ?_
  rotate_left
  · intro w hSw; (try dsimp only at hSw); go_simp <;> with_reducible rfl
  try simp only [Act.put, List.setIfInBounds_toArray, List.set_cons_zero, List.set_cons_succ]
  refine wpAnyH_take (i := 10) (oi := { dst := some 65, op := Op.pick (Operand.tmp 59) (Operand.tmp 64) (Operand.const (Value.bool false)), type := 4, pos := "law.go:83", after := #[{ on := 4, ground := Ground.data }, { on := 9, ground := Ground.data }], guard := none }) (v := ?_) rfl (by kernel_rfl) (by kernel_rfl) (by kernel_rfl) (fun _ _ _ h => h) (Or.inl ⟨by rfl, ?_⟩) (by assumption) ?_
  rotate_left
  · intro w hSw; (try dsimp only at hSw); go_simp <;> with_reducible rfl
  try simp only [Act.put, List.setIfInBounds_toArray, List.set_cons_zero, List.set_cons_succ]
  refine wpAnyH_take (i := 11) (oi := { dst := some 66, op := Op.move (Operand.tmp 65), type := 4, pos := "law.go:83", after := #[{ on := 10, ground := Ground.data }, { on := 7, ground := Ground.chain }], guard := none }) (v := ?_) rfl (by kernel_rfl) (by kernel_rfl) (by kernel_rfl) (fun _ _ _ h => h) (Or.inl ⟨by rfl, ?_⟩) (by assumption) ?_
  rotate_left
  · intro w hSw; (try dsimp only at hSw); go_simp <;> with_reducible rfl
  try simp only [Act.put, List.setIfInBounds_toArray, List.set_cons_zero, List.set_cons_succ]
  refine wpAnyH_take (i := 12) (oi := { dst := some 67, op := Op.load 25 (Operand.tmp 7), type := 25, pos := "law.go:83", after := #[{ on := 11, ground := Ground.guard }], guard := some (11, true) }) (v := ?_) rfl (by kernel_rfl) (by kernel_rfl) (by kernel_rfl) (fun _ _ _ h => h) (Or.inl ⟨by rfl, ?_⟩) (by assumption) ?_
  rotate_left
  · intro w hSw; (try dsimp only at hSw); go_simp <;> with_reducible rfl
  try simp only [Act.put, List.setIfInBounds_toArray, List.set_cons_zero, List.set_cons_succ]
  refine wpAnyH_take (i := 13) (oi := { dst := some 68, op := Op.move (Operand.tmp 2), type := 3, pos := "law.go:83", after := #[{ on := 11, ground := Ground.guard }], guard := some (11, true) }) (v := ?_) rfl (by kernel_rfl) (by kernel_rfl) (by kernel_rfl) (fun _ _ _ h => h) (Or.inl ⟨by rfl, ?_⟩) (by assumption) ?_
  rotate_left
  · intro w hSw; (try dsimp only at hSw); go_simp <;> with_reducible rfl
  try simp only [Act.put, List.setIfInBounds_toArray, List.set_cons_zero, List.set_cons_succ]
  refine wpAnyH_take (i := 14) (oi := { dst := some 69, op := Op.move (Operand.tmp 0), type := 3, pos := "law.go:83", after := #[{ on := 11, ground := Ground.guard }], guard := some (11, true) }) (v := ?_) rfl (by kernel_rfl) (by kernel_rfl) (by kernel_rfl) (fun _ _ _ h => h) (Or.inl ⟨by rfl, ?_⟩) (by assumption) ?_
  rotate_left
  · intro w hSw; (try dsimp only at hSw); go_simp <;> with_reducible rfl
  try simp only [Act.put, List.setIfInBounds_toArray, List.set_cons_zero, List.set_cons_succ]
  refine wpAnyH_take (i := 16) (oi := { dst := some 71, op := Op.move (Operand.tmp 2), type := 3, pos := "law.go:83", after := #[{ on := 11, ground := Ground.guard }], guard := some (11, true) }) (v := ?_) rfl (by kernel_rfl) (by kernel_rfl) (by kernel_rfl) (fun _ _ _ h => h) (Or.inl ⟨by rfl, ?_⟩) (by assumption) ?_
  rotate_left
  · intro w hSw; (try dsimp only at hSw); go_simp <;> with_reducible rfl
  try simp only [Act.put, List.setIfInBounds_toArray, List.set_cons_zero, List.set_cons_succ]
  refine wpAnyH_take (i := 21) (oi := { dst := some 76, op := Op.move (Operand.tmp 9), type := 4, pos := "law.go:83", after := #[{ on := 11, ground := Ground.guard }], guard := some (11, true) }) (v := ?_) rfl (by kernel_rfl) (by kernel_rfl) (by kernel_rfl) (fun _ _ _ h => h) (Or.inl ⟨by rfl, ?_⟩) (by assumption) ?_
  rotate_left
  · intro w hSw; (try dsimp only at hSw); go_simp <;> with_reducible rfl
  try simp only [Act.put, List.setIfInBounds_toArray, List.set_cons_zero, List.set_cons_succ]
  refine wpAnyH_ready (rs := [15, 17]) (by kernel_rfl) (by simp) ?_
  refine AllReadyH.cons (o := { dst := some 70, op := Op.call { callee := Callee.value (Operand.func 10), args := #[Operand.tmp 69], argTypes := #[3] }, type := 31, pos := "law.go:83", after := #[{ on := 14, ground := Ground.data }, { on := 11, ground := Ground.chain }, { on := 11, ground := Ground.guard }], guard := some (11, true) }) rfl (fun K hK => ?_) ?_
  · skip
    go_simp
    (first | (go_at_call 7; refine (HG.out _ (by assumption)).mono ?_; rintro d w' ⟨rfl, hS⟩) | (go_at_call 8; refine (HKp.out _ (by assumption)).mono ?_; rintro d w' ⟨rfl, hS⟩) | (go_at_call 9; refine (HMy.out _ (by assumption)).mono ?_; rintro d w' ⟨rfl, hS⟩) | (go_at_call 10; refine (HAl.out _).mono ?_; rintro d w' ⟨rfl, rfl⟩) | (go_at_call 11; refine (HOf.out _).mono ?_; rintro d w' ⟨rfl, rfl⟩) | (go_at_call 10; refine (HAl.out _).mono ?_; rintro d w' ⟨rfl, rfl⟩) | (go_at_call 11; refine (HOfD.out _).mono ?_; rintro d w' ⟨rfl, rfl⟩))
    refine hK.out _ _ ?_ (fun hHeld => ?_)
    · (first | assumption | exact (HeldC.alloc (by assumption) _) | exact (HeldC.drew (by assumption)))
    clear hK K
    try simp only [Act.put, List.setIfInBounds_toArray, List.set_cons_zero, List.set_cons_succ]
    refine wpAnyH_ready (rs := [17]) (by kernel_rfl) (by simp) ?_
    refine AllReadyH.cons (o := { dst := some 72, op := Op.buildSlice 39 1 #[(0, Operand.tmp 71)], type := 39, pos := "law.go:83", after := #[{ on := 16, ground := Ground.data }, { on := 11, ground := Ground.guard }], guard := some (11, true) }) rfl (fun K hK => ?_) AllReadyH.nil
    go_simp
    refine hK.out _ _ ?_ (fun hHeld => ?_)
    · (first | assumption | exact (HeldC.alloc (by assumption) _) | exact (HeldC.drew (by assumption)))
    clear hK K
    try simp only [Act.put, List.setIfInBounds_toArray, List.set_cons_zero, List.set_cons_succ]
    refine wpAnyH_ready (rs := [18]) (by kernel_rfl) (by simp) ?_
    refine AllReadyH.cons (o := { dst := some 73, op := Op.call { callee := Callee.value (Operand.func 11), args := #[Operand.tmp 72], argTypes := #[39] }, type := 31, pos := "law.go:83", after := #[{ on := 17, ground := Ground.data }, { on := 15, ground := Ground.chain }, { on := 11, ground := Ground.guard }], guard := some (11, true) }) rfl (fun K hK => ?_) AllReadyH.nil
    go_simp
    (first | (go_at_call 7; refine (HG.out _ (by assumption)).mono ?_; rintro d w' ⟨rfl, hS⟩) | (go_at_call 8; refine (HKp.out _ (by assumption)).mono ?_; rintro d w' ⟨rfl, hS⟩) | (go_at_call 9; refine (HMy.out _ (by assumption)).mono ?_; rintro d w' ⟨rfl, hS⟩) | (go_at_call 10; refine (HAl.out _).mono ?_; rintro d w' ⟨rfl, rfl⟩) | (go_at_call 11; refine (HOf.out _).mono ?_; rintro d w' ⟨rfl, rfl⟩) | (go_at_call 10; refine (HAl.out _).mono ?_; rintro d w' ⟨rfl, rfl⟩) | (go_at_call 11; refine (HOfD.out _).mono ?_; rintro d w' ⟨rfl, rfl⟩))
    refine hK.out _ _ ?_ (fun hHeld => ?_)
    · (first | assumption | exact (HeldC.alloc (by assumption) _) | exact (HeldC.drew (by assumption)))
    clear hK K
    try simp only [Act.put, List.setIfInBounds_toArray, List.set_cons_zero, List.set_cons_succ]
    refine wpAnyH_take (i := 19) (oi := { dst := some 74, op := Op.binOp BinOp.andNot 31 (Operand.tmp 70) (Operand.tmp 73) 31, type := 31, pos := "law.go:83", after := #[{ on := 15, ground := Ground.data }, { on := 18, ground := Ground.data }, { on := 11, ground := Ground.guard }], guard := some (11, true) }) (v := ?_) rfl (by kernel_rfl) (by kernel_rfl) (by kernel_rfl) (fun _ _ _ h => h) (Or.inl ⟨by rfl, ?_⟩) (by assumption) ?_
    rotate_left
    · intro w hSw; (try dsimp only at hSw); go_simp <;> with_reducible rfl
    try simp only [Act.put, List.setIfInBounds_toArray, List.set_cons_zero, List.set_cons_succ]
    refine wpAnyH_ready (rs := [20]) (by kernel_rfl) (by simp) ?_
    refine AllReadyH.cons (o := { dst := some 75, op := Op.call { callee := Callee.value (Operand.func 9), args := #[Operand.tmp 67, Operand.tmp 68, Operand.tmp 74], argTypes := #[25, 3, 31] }, type := 4, pos := "law.go:83", after := #[{ on := 12, ground := Ground.data }, { on := 13, ground := Ground.data }, { on := 19, ground := Ground.data }, { on := 18, ground := Ground.chain }, { on := 11, ground := Ground.guard }], guard := some (11, true) }) rfl (fun K hK => ?_) AllReadyH.nil
    go_simp
    (first | (go_at_call 7; refine (HG.out _ (by assumption)).mono ?_; rintro d w' ⟨rfl, hS⟩) | (go_at_call 8; refine (HKp.out _ (by assumption)).mono ?_; rintro d w' ⟨rfl, hS⟩) | (go_at_call 9; refine (HMy.out _ (by assumption)).mono ?_; rintro d w' ⟨rfl, hS⟩) | (go_at_call 10; refine (HAl.out _).mono ?_; rintro d w' ⟨rfl, rfl⟩) | (go_at_call 11; refine (HOf.out _).mono ?_; rintro d w' ⟨rfl, rfl⟩) | (go_at_call 10; refine (HAl.out _).mono ?_; rintro d w' ⟨rfl, rfl⟩) | (go_at_call 11; refine (HOfD.out _).mono ?_; rintro d w' ⟨rfl, rfl⟩))
    refine hK.out _ _ ?_ (fun hHeld => ?_)
    · (first | assumption | exact (HeldC.alloc (by assumption) _) | exact (HeldC.drew (by assumption)))
    clear hK K
    try simp only [Act.put, List.setIfInBounds_toArray, List.set_cons_zero, List.set_cons_succ]
    refine wpAnyH_take (i := 22) (oi := { dst := some 77, op := Op.move (Operand.tmp 76), type := 4, pos := "law.go:83", after := #[{ on := 21, ground := Ground.data }, { on := 20, ground := Ground.chain }, { on := 11, ground := Ground.guard }], guard := some (11, true) }) (v := ?_) rfl (by kernel_rfl) (by kernel_rfl) (by kernel_rfl) (fun _ _ _ h => h) (Or.inl ⟨by rfl, ?_⟩) (by assumption) ?_
    rotate_left
    · intro w hSw; (try dsimp only at hSw); go_simp <;> with_reducible rfl
    try simp only [Act.put, List.setIfInBounds_toArray, List.set_cons_zero, List.set_cons_succ]
    refine wpAnyH_take (i := 23) (oi := { dst := some 78, op := Op.move (Operand.tmp 0), type := 3, pos := "law.go:83", after := #[{ on := 22, ground := Ground.guard }], guard := some (22, true) }) (v := ?_) rfl (by kernel_rfl) (by kernel_rfl) (by kernel_rfl) (fun _ _ _ h => h) (Or.inl ⟨by rfl, ?_⟩) (by assumption) ?_
    rotate_left
    · intro w hSw; (try dsimp only at hSw); go_simp <;> with_reducible rfl
    try simp only [Act.put, List.setIfInBounds_toArray, List.set_cons_zero, List.set_cons_succ]
    refine wpAnyH_take (i := 24) (oi := { dst := some 79, op := Op.binOp BinOp.gtr 3 (Operand.tmp 78) (Operand.const (Value.int IntKind.i64 1)) 3, type := 4, pos := "law.go:83", after := #[{ on := 23, ground := Ground.data }, { on := 22, ground := Ground.guard }], guard := some (22, true) }) (v := ?_) rfl (by kernel_rfl) (by kernel_rfl) (by kernel_rfl) (fun _ _ _ h => h) (Or.inl ⟨by rfl, ?_⟩) (by assumption) ?_
    rotate_left
    · intro w hSw; (try dsimp only at hSw); go_simp <;> with_reducible rfl
    try simp only [Act.put, List.setIfInBounds_toArray, List.set_cons_zero, List.set_cons_succ]
    refine wpAnyH_take (i := 25) (oi := { dst := some 80, op := Op.pick (Operand.tmp 77) (Operand.tmp 79) (Operand.const (Value.bool false)), type := 4, pos := "law.go:83", after := #[{ on := 22, ground := Ground.data }, { on := 24, ground := Ground.data }, { on := 11, ground := Ground.guard }], guard := some (11, true) }) (v := ?_) rfl (by kernel_rfl) (by kernel_rfl) (by kernel_rfl) (fun _ _ _ h => h) (Or.inl ⟨by rfl, ?_⟩) (by assumption) ?_
    rotate_left
    · intro w hSw; (try dsimp only at hSw); go_simp <;> with_reducible rfl
    try simp only [Act.put, List.setIfInBounds_toArray, List.set_cons_zero, List.set_cons_succ]
    refine wpAnyH_take (i := 26) (oi := { dst := some 81, op := Op.binOp BinOp.eql 4 (Operand.tmp 75) (Operand.tmp 80) 4, type := 4, pos := "law.go:83", after := #[{ on := 20, ground := Ground.data }, { on := 25, ground := Ground.data }, { on := 11, ground := Ground.guard }], guard := some (11, true) }) (v := ?_) rfl (by kernel_rfl) (by kernel_rfl) (by kernel_rfl) (fun _ _ _ h => h) (Or.inl ⟨by rfl, ?_⟩) (by assumption) ?_
    rotate_left
    · intro w hSw; (try dsimp only at hSw); go_simp <;> with_reducible rfl
    try simp only [Act.put, List.setIfInBounds_toArray, List.set_cons_zero, List.set_cons_succ]
    refine wpAnyH_take (i := 27) (oi := { dst := some 82, op := Op.pick (Operand.tmp 66) (Operand.tmp 81) (Operand.const (Value.bool false)), type := 4, pos := "law.go:83", after := #[{ on := 11, ground := Ground.data }, { on := 26, ground := Ground.data }], guard := none }) (v := ?_) rfl (by kernel_rfl) (by kernel_rfl) (by kernel_rfl) (fun _ _ _ h => h) (Or.inl ⟨by rfl, ?_⟩) (by assumption) ?_
    rotate_left
    · intro w hSw; (try dsimp only at hSw); go_simp <;> with_reducible rfl
    try simp only [Act.put, List.setIfInBounds_toArray, List.set_cons_zero, List.set_cons_succ]
    refine wpAnyH_take (i := 28) (oi := { dst := some 6, op := Op.assign (Operand.tmp 82), type := 4, pos := "law.go:83", after := #[{ on := 27, ground := Ground.data }, { on := 22, ground := Ground.chain }, { on := 0, ground := Ground.phase }, { on := 1, ground := Ground.phase }, { on := 2, ground := Ground.phase }, { on := 3, ground := Ground.phase }, { on := 4, ground := Ground.phase }, { on := 5, ground := Ground.phase }, { on := 6, ground := Ground.phase }, { on := 7, ground := Ground.phase }, { on := 8, ground := Ground.phase }, { on := 9, ground := Ground.phase }, { on := 10, ground := Ground.phase }, { on := 11, ground := Ground.phase }, { on := 12, ground := Ground.phase }, { on := 13, ground := Ground.phase }, { on := 14, ground := Ground.phase }, { on := 15, ground := Ground.phase }, { on := 16, ground := Ground.phase }, { on := 17, ground := Ground.phase }, { on := 18, ground := Ground.phase }, { on := 19, ground := Ground.phase }, { on := 20, ground := Ground.phase }, { on := 21, ground := Ground.phase }, { on := 22, ground := Ground.phase }, { on := 23, ground := Ground.phase }, { on := 24, ground := Ground.phase }, { on := 25, ground := Ground.phase }, { on := 26, ground := Ground.phase }, { on := 27, ground := Ground.phase }], guard := none }) (v := ?_) rfl (by kernel_rfl) (by kernel_rfl) (by kernel_rfl) (fun _ _ _ h => h) (Or.inl ⟨by rfl, ?_⟩) (by assumption) ?_
    rotate_left
    · intro w hSw; (try dsimp only at hSw); go_simp <;> with_reducible rfl
    try simp only [Act.put, List.setIfInBounds_toArray, List.set_cons_zero, List.set_cons_succ]
    refine wpAnyH_done (by kernel_rfl) ?_ _
    go_wp2
    go_ret
    exact ⟨rfl, HeldC.modOf (by assumption)⟩
  refine AllReadyH.cons (o := { dst := some 72, op := Op.buildSlice 39 1 #[(0, Operand.tmp 71)], type := 39, pos := "law.go:83", after := #[{ on := 16, ground := Ground.data }, { on := 11, ground := Ground.guard }], guard := some (11, true) }) rfl (fun K hK => ?_) ?_
  · skip
    go_simp
    refine hK.out _ _ ?_ (fun hHeld => ?_)
    · (first | assumption | exact (HeldC.alloc (by assumption) _) | exact (HeldC.drew (by assumption)))
    clear hK K
    try simp only [Act.put, List.setIfInBounds_toArray, List.set_cons_zero, List.set_cons_succ]
    refine wpAnyH_ready (rs := [15]) (by kernel_rfl) (by simp) ?_
    refine AllReadyH.cons (o := { dst := some 70, op := Op.call { callee := Callee.value (Operand.func 10), args := #[Operand.tmp 69], argTypes := #[3] }, type := 31, pos := "law.go:83", after := #[{ on := 14, ground := Ground.data }, { on := 11, ground := Ground.chain }, { on := 11, ground := Ground.guard }], guard := some (11, true) }) rfl (fun K hK => ?_) AllReadyH.nil
    go_simp
    (first | (go_at_call 7; refine (HG.out _ (by assumption)).mono ?_; rintro d w' ⟨rfl, hS⟩) | (go_at_call 8; refine (HKp.out _ (by assumption)).mono ?_; rintro d w' ⟨rfl, hS⟩) | (go_at_call 9; refine (HMy.out _ (by assumption)).mono ?_; rintro d w' ⟨rfl, hS⟩) | (go_at_call 10; refine (HAl.out _).mono ?_; rintro d w' ⟨rfl, rfl⟩) | (go_at_call 11; refine (HOf.out _).mono ?_; rintro d w' ⟨rfl, rfl⟩) | (go_at_call 10; refine (HAl.out _).mono ?_; rintro d w' ⟨rfl, rfl⟩) | (go_at_call 11; refine (HOfD.out _).mono ?_; rintro d w' ⟨rfl, rfl⟩))
    refine hK.out _ _ ?_ (fun hHeld => ?_)
    · (first | assumption | exact (HeldC.alloc (by assumption) _) | exact (HeldC.drew (by assumption)))
    clear hK K
    try simp only [Act.put, List.setIfInBounds_toArray, List.set_cons_zero, List.set_cons_succ]
    refine wpAnyH_ready (rs := [18]) (by kernel_rfl) (by simp) ?_
    refine AllReadyH.cons (o := { dst := some 73, op := Op.call { callee := Callee.value (Operand.func 11), args := #[Operand.tmp 72], argTypes := #[39] }, type := 31, pos := "law.go:83", after := #[{ on := 17, ground := Ground.data }, { on := 15, ground := Ground.chain }, { on := 11, ground := Ground.guard }], guard := some (11, true) }) rfl (fun K hK => ?_) AllReadyH.nil
    go_simp
    (first | (go_at_call 7; refine (HG.out _ (by assumption)).mono ?_; rintro d w' ⟨rfl, hS⟩) | (go_at_call 8; refine (HKp.out _ (by assumption)).mono ?_; rintro d w' ⟨rfl, hS⟩) | (go_at_call 9; refine (HMy.out _ (by assumption)).mono ?_; rintro d w' ⟨rfl, hS⟩) | (go_at_call 10; refine (HAl.out _).mono ?_; rintro d w' ⟨rfl, rfl⟩) | (go_at_call 11; refine (HOf.out _).mono ?_; rintro d w' ⟨rfl, rfl⟩) | (go_at_call 10; refine (HAl.out _).mono ?_; rintro d w' ⟨rfl, rfl⟩) | (go_at_call 11; refine (HOfD.out _).mono ?_; rintro d w' ⟨rfl, rfl⟩))
    refine hK.out _ _ ?_ (fun hHeld => ?_)
    · (first | assumption | exact (HeldC.alloc (by assumption) _) | exact (HeldC.drew (by assumption)))
    clear hK K
    try simp only [Act.put, List.setIfInBounds_toArray, List.set_cons_zero, List.set_cons_succ]
    refine wpAnyH_take (i := 19) (oi := { dst := some 74, op := Op.binOp BinOp.andNot 31 (Operand.tmp 70) (Operand.tmp 73) 31, type := 31, pos := "law.go:83", after := #[{ on := 15, ground := Ground.data }, { on := 18, ground := Ground.data }, { on := 11, ground := Ground.guard }], guard := some (11, true) }) (v := ?_) rfl (by kernel_rfl) (by kernel_rfl) (by kernel_rfl) (fun _ _ _ h => h) (Or.inl ⟨by rfl, ?_⟩) (by assumption) ?_
    rotate_left
    · intro w hSw; (try dsimp only at hSw); go_simp <;> with_reducible rfl
    try simp only [Act.put, List.setIfInBounds_toArray, List.set_cons_zero, List.set_cons_succ]
    refine wpAnyH_ready (rs := [20]) (by kernel_rfl) (by simp) ?_
    refine AllReadyH.cons (o := { dst := some 75, op := Op.call { callee := Callee.value (Operand.func 9), args := #[Operand.tmp 67, Operand.tmp 68, Operand.tmp 74], argTypes := #[25, 3, 31] }, type := 4, pos := "law.go:83", after := #[{ on := 12, ground := Ground.data }, { on := 13, ground := Ground.data }, { on := 19, ground := Ground.data }, { on := 18, ground := Ground.chain }, { on := 11, ground := Ground.guard }], guard := some (11, true) }) rfl (fun K hK => ?_) AllReadyH.nil
    go_simp
    (first | (go_at_call 7; refine (HG.out _ (by assumption)).mono ?_; rintro d w' ⟨rfl, hS⟩) | (go_at_call 8; refine (HKp.out _ (by assumption)).mono ?_; rintro d w' ⟨rfl, hS⟩) | (go_at_call 9; refine (HMy.out _ (by assumption)).mono ?_; rintro d w' ⟨rfl, hS⟩) | (go_at_call 10; refine (HAl.out _).mono ?_; rintro d w' ⟨rfl, rfl⟩) | (go_at_call 11; refine (HOf.out _).mono ?_; rintro d w' ⟨rfl, rfl⟩) | (go_at_call 10; refine (HAl.out _).mono ?_; rintro d w' ⟨rfl, rfl⟩) | (go_at_call 11; refine (HOfD.out _).mono ?_; rintro d w' ⟨rfl, rfl⟩))
    refine hK.out _ _ ?_ (fun hHeld => ?_)
    · (first | assumption | exact (HeldC.alloc (by assumption) _) | exact (HeldC.drew (by assumption)))
    clear hK K
    try simp only [Act.put, List.setIfInBounds_toArray, List.set_cons_zero, List.set_cons_succ]
    refine wpAnyH_take (i := 22) (oi := { dst := some 77, op := Op.move (Operand.tmp 76), type := 4, pos := "law.go:83", after := #[{ on := 21, ground := Ground.data }, { on := 20, ground := Ground.chain }, { on := 11, ground := Ground.guard }], guard := some (11, true) }) (v := ?_) rfl (by kernel_rfl) (by kernel_rfl) (by kernel_rfl) (fun _ _ _ h => h) (Or.inl ⟨by rfl, ?_⟩) (by assumption) ?_
    rotate_left
    · intro w hSw; (try dsimp only at hSw); go_simp <;> with_reducible rfl
    try simp only [Act.put, List.setIfInBounds_toArray, List.set_cons_zero, List.set_cons_succ]
    refine wpAnyH_take (i := 23) (oi := { dst := some 78, op := Op.move (Operand.tmp 0), type := 3, pos := "law.go:83", after := #[{ on := 22, ground := Ground.guard }], guard := some (22, true) }) (v := ?_) rfl (by kernel_rfl) (by kernel_rfl) (by kernel_rfl) (fun _ _ _ h => h) (Or.inl ⟨by rfl, ?_⟩) (by assumption) ?_
    rotate_left
    · intro w hSw; (try dsimp only at hSw); go_simp <;> with_reducible rfl
    try simp only [Act.put, List.setIfInBounds_toArray, List.set_cons_zero, List.set_cons_succ]
    refine wpAnyH_take (i := 24) (oi := { dst := some 79, op := Op.binOp BinOp.gtr 3 (Operand.tmp 78) (Operand.const (Value.int IntKind.i64 1)) 3, type := 4, pos := "law.go:83", after := #[{ on := 23, ground := Ground.data }, { on := 22, ground := Ground.guard }], guard := some (22, true) }) (v := ?_) rfl (by kernel_rfl) (by kernel_rfl) (by kernel_rfl) (fun _ _ _ h => h) (Or.inl ⟨by rfl, ?_⟩) (by assumption) ?_
    rotate_left
    · intro w hSw; (try dsimp only at hSw); go_simp <;> with_reducible rfl
    try simp only [Act.put, List.setIfInBounds_toArray, List.set_cons_zero, List.set_cons_succ]
    refine wpAnyH_take (i := 25) (oi := { dst := some 80, op := Op.pick (Operand.tmp 77) (Operand.tmp 79) (Operand.const (Value.bool false)), type := 4, pos := "law.go:83", after := #[{ on := 22, ground := Ground.data }, { on := 24, ground := Ground.data }, { on := 11, ground := Ground.guard }], guard := some (11, true) }) (v := ?_) rfl (by kernel_rfl) (by kernel_rfl) (by kernel_rfl) (fun _ _ _ h => h) (Or.inl ⟨by rfl, ?_⟩) (by assumption) ?_
    rotate_left
    · intro w hSw; (try dsimp only at hSw); go_simp <;> with_reducible rfl
    try simp only [Act.put, List.setIfInBounds_toArray, List.set_cons_zero, List.set_cons_succ]
    refine wpAnyH_take (i := 26) (oi := { dst := some 81, op := Op.binOp BinOp.eql 4 (Operand.tmp 75) (Operand.tmp 80) 4, type := 4, pos := "law.go:83", after := #[{ on := 20, ground := Ground.data }, { on := 25, ground := Ground.data }, { on := 11, ground := Ground.guard }], guard := some (11, true) }) (v := ?_) rfl (by kernel_rfl) (by kernel_rfl) (by kernel_rfl) (fun _ _ _ h => h) (Or.inl ⟨by rfl, ?_⟩) (by assumption) ?_
    rotate_left
    · intro w hSw; (try dsimp only at hSw); go_simp <;> with_reducible rfl
    try simp only [Act.put, List.setIfInBounds_toArray, List.set_cons_zero, List.set_cons_succ]
    refine wpAnyH_take (i := 27) (oi := { dst := some 82, op := Op.pick (Operand.tmp 66) (Operand.tmp 81) (Operand.const (Value.bool false)), type := 4, pos := "law.go:83", after := #[{ on := 11, ground := Ground.data }, { on := 26, ground := Ground.data }], guard := none }) (v := ?_) rfl (by kernel_rfl) (by kernel_rfl) (by kernel_rfl) (fun _ _ _ h => h) (Or.inl ⟨by rfl, ?_⟩) (by assumption) ?_
    rotate_left
    · intro w hSw; (try dsimp only at hSw); go_simp <;> with_reducible rfl
    try simp only [Act.put, List.setIfInBounds_toArray, List.set_cons_zero, List.set_cons_succ]
    refine wpAnyH_take (i := 28) (oi := { dst := some 6, op := Op.assign (Operand.tmp 82), type := 4, pos := "law.go:83", after := #[{ on := 27, ground := Ground.data }, { on := 22, ground := Ground.chain }, { on := 0, ground := Ground.phase }, { on := 1, ground := Ground.phase }, { on := 2, ground := Ground.phase }, { on := 3, ground := Ground.phase }, { on := 4, ground := Ground.phase }, { on := 5, ground := Ground.phase }, { on := 6, ground := Ground.phase }, { on := 7, ground := Ground.phase }, { on := 8, ground := Ground.phase }, { on := 9, ground := Ground.phase }, { on := 10, ground := Ground.phase }, { on := 11, ground := Ground.phase }, { on := 12, ground := Ground.phase }, { on := 13, ground := Ground.phase }, { on := 14, ground := Ground.phase }, { on := 15, ground := Ground.phase }, { on := 16, ground := Ground.phase }, { on := 17, ground := Ground.phase }, { on := 18, ground := Ground.phase }, { on := 19, ground := Ground.phase }, { on := 20, ground := Ground.phase }, { on := 21, ground := Ground.phase }, { on := 22, ground := Ground.phase }, { on := 23, ground := Ground.phase }, { on := 24, ground := Ground.phase }, { on := 25, ground := Ground.phase }, { on := 26, ground := Ground.phase }, { on := 27, ground := Ground.phase }], guard := none }) (v := ?_) rfl (by kernel_rfl) (by kernel_rfl) (by kernel_rfl) (fun _ _ _ h => h) (Or.inl ⟨by rfl, ?_⟩) (by assumption) ?_
    rotate_left
    · intro w hSw; (try dsimp only at hSw); go_simp <;> with_reducible rfl
    try simp only [Act.put, List.setIfInBounds_toArray, List.set_cons_zero, List.set_cons_succ]
    refine wpAnyH_done (by kernel_rfl) ?_ _
    go_wp2
    go_ret
    exact ⟨rfl, HeldC.modOf (by assumption)⟩
  exact AllReadyH.nil
theorem pl_any (n e p : Int) (w : World) : Calls Try.prog 3 #[.int .i64 n, .int .i64 e, .int .i64 p] w fun d w' => d = .returned (.bool true) ∧ Below w.heap.size w w' := by
  have h : Calls Try.prog 3 #[.int .i64 n, .int .i64 e, .int .i64 p] w fun d w' => d = .returned (.bool true) ∧ Mod (fun _ => False) w w' := by
    by_cases h1 : n < 1
    · exact pl_low n e p w h1
    by_cases h2 : 16 < n
    · exact pl_high n e p w (by omega) h2
    by_cases he1 : e = 1
    · by_cases h4 : p < 0
      · exact pl_neg1 n e p w (by omega) (by omega) he1 h4
      by_cases h5 : n ≤ p
      · exact pl_past1 n e p w (by omega) (by omega) he1 (by omega) h5
      by_cases h6 : 1 < n
      · exact pl_many1 n e p w (by omega) (by omega) he1 (by omega) (by omega) h6
      · exact pl_one1 n e p w (by omega) (by omega) he1 (by omega) (by omega) (by omega)
    by_cases he2 : e = 2
    · by_cases h4 : p < 0
      · exact pl_neg2 n e p w (by omega) (by omega) he2 h4
      by_cases h5 : n ≤ p
      · exact pl_past2 n e p w (by omega) (by omega) he2 (by omega) h5
      by_cases h6 : 1 < n
      · exact pl_many2 n e p w (by omega) (by omega) he2 (by omega) (by omega) h6
      · exact pl_one2 n e p w (by omega) (by omega) he2 (by omega) (by omega) (by omega)
    exact pl_engine n e p w (by omega) (by omega) he1 he2
  exact h.mono fun _ _ ⟨x, y⟩ => ⟨x, y.none_below⟩
end Go.Proofs.Ytcnjllkmliphkaa

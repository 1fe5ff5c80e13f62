/-
  The walk of PlaceMay.
-/
import Derived.Test.YtcnjllkmliphkaaPlaceG
namespace Go.Proofs.Ytcnjllkmliphkaa
open Go.RowKit Go.Shoal Go.WideShapes

set_option maxHeartbeats 2000000 in
theorem pm_long (c : Cf) (v : Value) (p : Int) (s t : Int) (w : World) (h : SetsIn w v c.vars) (hl : 30 < c.vars.length) :
    Calls Try.prog 4 #[c.val v, .int .i64 p, .int .u64 s, .int .u64 t] w fun d w' => d = .returned (.bool true) ∧ Mod (fun _ => False) w w' := by
  obtain ⟨n, l, wi, q, f, m, b, en⟩ := c
  obtain ⟨A, cp, rfl, hm, hx, hw⟩ := h
  unfold maxLen at hm
  have h1 : 30 < l.length := hl
  clear hx hw hl
  unfold Cf.val Cf.cells
  show Calls Try.prog 4 #[.agg #[.int .i64 n, .slice A l.length cp, .int .i64 wi, .int .i64 q, .int .i64 f, .int .i64 m, .int .i64 b, .int .i64 en], .int .i64 p, .int .u64 s, .int .u64 t] w _
  have hm2 : l.length ≤ 2 ^ 63 - 1 := hm
  have HB : Hid ((w.alloc (.cells #[.int .i64 n, .slice A l.length cp, .int .i64 wi, .int .i64 q, .int .i64 f, .int .i64 m, .int .i64 b, .int .i64 en] 25)).heap[w.heap.size]? = some (.cells #[.int .i64 n, .slice A l.length cp, .int .i64 wi, .int .i64 q, .int .i64 f, .int .i64 m, .int .i64 b, .int .i64 en] 25 (0, 0))) := blk_new _ _
  have HM0 : Hid (Mod (fun _ => False) w (w.alloc (.cells #[.int .i64 n, .slice A l.length cp, .int .i64 wi, .int .i64 q, .int .i64 f, .int .i64 m, .int .i64 b, .int .i64 en] 25))) := (Mod.refl _ _).alloc _
  clear hm
  go_enter Try.func4, Try.ntmps4
  go_wp2_with fail
  refine (awake_calls _).mono ?_
  rintro d w1 ⟨rfl, hm1⟩
  have c1 := (blk_cell (hm1.blk HB.out (fun x => x)) 1).trans rfl
  have HM1 := Lib.hid (HM0.out.trans hm1)
  clear hm1
  go_wp2
  go_ret
  exact ⟨rfl, HM1.out⟩

set_option maxRecDepth 100000 in
set_option maxHeartbeats 8000000 in
theorem pm_short (c : Cf) (v : Value) (p : Int) (s t : Nat) (w : World) (h : SetsIn w v c.vars) (hl : c.vars.length ≤ 30) (hs : s < 18446744073709551616) (ht : t < 18446744073709551616) :
    Calls Try.prog 4 #[c.val v, .int .i64 p, .int .u64 s, .int .u64 t] w fun d w' => d = .returned (.bool true) ∧ Mod (fun _ => False) w w' := by
  obtain ⟨n, l, wi, q, f, m, b, en⟩ := c
  have HV := h
  obtain ⟨A, cp, rfl, hm, hx, hw⟩ := h
  unfold maxLen at hm
  have h1 : l.length ≤ 30 := hl
  clear hx hw hl
  unfold Cf.val Cf.cells
  show Calls Try.prog 4 #[.agg #[.int .i64 n, .slice A l.length cp, .int .i64 wi, .int .i64 q, .int .i64 f, .int .i64 m, .int .i64 b, .int .i64 en], .int .i64 p, .int .u64 s, .int .u64 t] w _
  have HHB : Hid (HeldC w w.heap.size n l wi q f m b en (.slice A l.length cp) (w.alloc (.cells #[.int .i64 n, .slice A l.length cp, .int .i64 wi, .int .i64 q, .int .i64 f, .int .i64 m, .int .i64 b, .int .i64 en] 25))) :=
    Held.cells ⟨blk_new _ _, HV.mod (S := fun _ => False) ((Mod.refl _ _).alloc _) (fun _ _ x => x), (Mod.refl _ _).alloc _⟩
  have HY : Hid (∀ B W (r : Nat), r < 18446744073709551616 → HeldC w B n l wi q f m b en (.slice A l.length cp) W → Calls Try.prog 9 #[.agg #[.int .i64 n, .slice A l.length cp, .int .i64 wi, .int .i64 q, .int .i64 f, .int .i64 m, .int .i64 b, .int .i64 en], .int .i64 p, .int .u64 (r : Int)] W fun d w' => d = .returned (.bool (Cf.may ⟨n, l, wi, q, f, m, b, en⟩ p r)) ∧ HeldC w B n l wi q f m b en (.slice A l.length cp) w') :=
    fun B W r hr h => (may_any ⟨n, l, wi, q, f, m, b, en⟩ (.slice A l.length cp) p r W h.1.2.1 hr).mono fun _ _ ⟨x, y⟩ => ⟨x, h.mod y⟩
  have hAND := u64_and_nat s t hs ht
  have hP : Hid (s &&& t ≠ 0 → Cf.may ⟨n, l, wi, q, f, m, b, en⟩ p s = true → Cf.may ⟨n, l, wi, q, f, m, b, en⟩ p (s &&& t) = true) := fun h0 h1 => may_part _ _ _ _ hs h1 h0
  have hQ : Hid (s &&& t < 18446744073709551616) := and_lt hs
  have hOR := u64_or_nat s (oneOf p) hs (oneOf_lt p)
  have hOL : Hid (s ||| oneOf p < 18446744073709551616) := or_lt hs (oneOf_lt p)
  have HOM : Hid (∀ B W, HeldC w B n l wi q f m b en (.slice A l.length cp) W → Calls Try.prog 9 #[.agg #[.int .i64 n, .slice A l.length cp, .int .i64 wi, .int .i64 q, .int .i64 f, .int .i64 m, .int .i64 b, .int .i64 en], .int .i64 p, .int .u64 ((s ||| oneOf p : Nat) : Int)] W fun d w' => d = .returned (.bool false) ∧ HeldC w B n l wi q f m b en (.slice A l.length cp) w') :=
    fun B W h => by have k := HY.out B W _ hOL.out h; rw [may_own] at k; exact k
  have HOfD : Hid (∀ W : World, Calls Try.prog 11 #[.slice (some ⟨W.heap.size, 0, none⟩) 1 1] (W.alloc (.cells #[.int .i64 p] 3)).drew fun d w' => d = .returned (.int .u64 ((oneOf p : Nat) : Int)) ∧ (W.alloc (.cells #[.int .i64 p] 3)).drew = w') := fun W => by
    have k := of_any _ [p] (W.alloc (.cells #[.int .i64 p] 3)).drew (Ints.new W 3 1 [p]) (by simp)
    rw [show setOf [p] = oneOf p by simp [setOf]] at k
    exact k
  have HS1 : Hid (∀ B W, HeldC w B n l wi q f m b en (.slice A l.length cp) W → Calls Try.prog 9 #[.agg #[.int .i64 n, .slice A l.length cp, .int .i64 wi, .int .i64 q, .int .i64 f, .int .i64 m, .int .i64 b, .int .i64 en], .int .i64 p, .int .u64 (s : Int)] W fun d w' => d = .returned (.bool (Cf.may ⟨n, l, wi, q, f, m, b, en⟩ p s)) ∧ HeldC w B n l wi q f m b en (.slice A l.length cp) w') := fun B W h => HY.out B W s hs h
  have HS2 : Hid (∀ B W, HeldC w B n l wi q f m b en (.slice A l.length cp) W → Calls Try.prog 9 #[.agg #[.int .i64 n, .slice A l.length cp, .int .i64 wi, .int .i64 q, .int .i64 f, .int .i64 m, .int .i64 b, .int .i64 en], .int .i64 p, .int .u64 ((s &&& t : Nat) : Int)] W fun d w' => d = .returned (.bool (Cf.may ⟨n, l, wi, q, f, m, b, en⟩ p (s &&& t))) ∧ HeldC w B n l wi q f m b en (.slice A l.length cp) w') := fun B W h => HY.out B W _ hQ.out h
  clear HV HY
  generalize s &&& t = st at hAND hP hQ HS2
  generalize s ||| oneOf p = so at hOR hOL HOM
  generalize oneOf p = op at hOR HOfD
  generalize Cf.may ⟨n, l, wi, q, f, m, b, en⟩ p s = r1 at hP HS1
  generalize Cf.may ⟨n, l, wi, q, f, m, b, en⟩ p st = r2 at hP HS2
  cases r1
  · go_enter Try.func4, Try.ntmps4
    go_wp2_with fail
    refine (awake_calls _).mono ?_
    rintro d w1 ⟨rfl, hm1⟩
    have HH := Lib.hid (HHB.out.mod hm1)
    clear hm1 HHB
    generalize w.heap.size = B at HH
    have HA := HS1.out B
    have HB := HS2.out B
    have HO := Lib.hid (HOM.out B)
    have HA := Lib.hid HA
    have HB := Lib.hid HB
    clear HS1 HS2 HOM
    have hHx := HH.out.2
    go_wp2_with fail
    refine (HA.out _ HH.out).mono ?_
    rintro d w2 ⟨rfl, hh2⟩
    clear hHx HH
    have HH := Lib.hid hh2
    clear hh2
    have hHx := HH.out.2
    go_wp2
    clear hHx
    unfold HeldC at HH HO
    have hH := HH.out
    refine wp_region_held_drew (S := fun w' => Held w B ⟨n, l, wi, q, f, m, b, en⟩ (.slice A l.length cp) w' ∧ w'.cell? ⟨B, 0, none⟩ = some (.int .i64 n) ∧ w'.cell? ⟨B, 1, none⟩ = some (.slice A l.length cp) ∧ w'.cell? ⟨B, 2, none⟩ = some (.int .i64 wi) ∧ w'.cell? ⟨B, 3, none⟩ = some (.int .i64 q) ∧ w'.cell? ⟨B, 4, none⟩ = some (.int .i64 f) ∧ w'.cell? ⟨B, 5, none⟩ = some (.int .i64 m) ∧ w'.cell? ⟨B, 6, none⟩ = some (.int .i64 b) ∧ w'.cell? ⟨B, 7, none⟩ = some (.int .i64 en)) (by kernel_rfl) ?_ (fun hHeld => ?_)
    · exact HeldC.drew hH
    refine wpAnyH_take (i := 0) (oi := { dst := some 36, op := Op.load 25 (Operand.tmp 4), type := 25, pos := "more.go:40", after := #[], guard := none }) (v := ?_) rfl (by kernel_rfl) (by kernel_rfl) (by kernel_rfl) (fun _ _ _ h => h) (Or.inl ⟨by rfl, ?_⟩) (by assumption) ?_
    rotate_left
    · intro w hSw; (try dsimp only at hSw); go_simp <;> with_reducible rfl
    try simp only [Act.put, List.setIfInBounds_toArray, List.set_cons_zero, List.set_cons_succ]
    refine wpAnyH_take (i := 1) (oi := { dst := some 37, op := Op.move (Operand.tmp 1), type := 3, pos := "more.go:40", after := #[], guard := none }) (v := ?_) rfl (by kernel_rfl) (by kernel_rfl) (by kernel_rfl) (fun _ _ _ h => h) (Or.inl ⟨by rfl, ?_⟩) (by assumption) ?_
    rotate_left
    · intro w hSw; (try dsimp only at hSw); go_simp <;> with_reducible rfl
    try simp only [Act.put, List.setIfInBounds_toArray, List.set_cons_zero, List.set_cons_succ]
    refine wpAnyH_take (i := 2) (oi := { dst := some 38, op := Op.move (Operand.tmp 9), type := 31, pos := "more.go:40", after := #[], guard := none }) (v := ?_) rfl (by kernel_rfl) (by kernel_rfl) (by kernel_rfl) (fun _ _ _ h => h) (Or.inl ⟨by rfl, ?_⟩) (by assumption) ?_
    rotate_left
    · intro w hSw; (try dsimp only at hSw); go_simp <;> with_reducible rfl
    try simp only [Act.put, List.setIfInBounds_toArray, List.set_cons_zero, List.set_cons_succ]
    refine wpAnyH_take (i := 3) (oi := { dst := some 39, op := Op.move (Operand.tmp 1), type := 3, pos := "more.go:40", after := #[], guard := none }) (v := ?_) rfl (by kernel_rfl) (by kernel_rfl) (by kernel_rfl) (fun _ _ _ h => h) (Or.inl ⟨by rfl, ?_⟩) (by assumption) ?_
    rotate_left
    · intro w hSw; (try dsimp only at hSw); go_simp <;> with_reducible rfl
    try simp only [Act.put, List.setIfInBounds_toArray, List.set_cons_zero, List.set_cons_succ]
    refine wpAnyH_ready (rs := [4]) (by kernel_rfl) (by simp) ?_
    refine AllReadyH.cons (o := { dst := some 40, op := Op.buildSlice 39 1 #[(0, Operand.tmp 39)], type := 39, pos := "more.go:40", after := #[{ on := 3, ground := Ground.data }], guard := none }) rfl (fun K hK => ?_) AllReadyH.nil
    go_simp
    refine hK.out _ _ ?_ (fun hHeld => ?_)
    · (first | assumption | exact (HeldC.alloc (by assumption) _) | exact (HeldC.drew (by assumption)))
    clear hK K
    try simp only [Act.put, List.setIfInBounds_toArray, List.set_cons_zero, List.set_cons_succ]
    refine wpAnyH_ready (rs := [5]) (by kernel_rfl) (by simp) ?_
    refine AllReadyH.cons (o := { dst := some 41, op := Op.call { callee := Callee.value (Operand.func 11), args := #[Operand.tmp 40], argTypes := #[39] }, type := 31, pos := "more.go:40", after := #[{ on := 4, ground := Ground.data }], guard := none }) rfl (fun K hK => ?_) AllReadyH.nil
    go_simp
    (first | (go_at_call 9; refine (HO.out _ (by assumption)).mono ?_; rintro d w' ⟨rfl, hS⟩) | (go_at_call 11; refine (HOfD.out _).mono ?_; rintro d w' ⟨rfl, rfl⟩))
    refine hK.out _ _ ?_ (fun hHeld => ?_)
    · (first | assumption | exact (HeldC.alloc (by assumption) _) | exact (HeldC.drew (by assumption)))
    clear hK K
    try simp only [Act.put, List.setIfInBounds_toArray, List.set_cons_zero, List.set_cons_succ]
    refine wpAnyH_take (i := 6) (oi := { dst := some 42, op := Op.binOp BinOp.or 31 (Operand.tmp 38) (Operand.tmp 41) 31, type := 31, pos := "more.go:40", after := #[{ on := 2, ground := Ground.data }, { on := 5, ground := Ground.data }], guard := none }) (v := ?_) rfl (by kernel_rfl) (by kernel_rfl) (by kernel_rfl) (fun _ _ _ h => h) (Or.inl ⟨by rfl, ?_⟩) (by assumption) ?_
    rotate_left
    · intro w hSw; (try dsimp only at hSw); go_simp <;> with_reducible rfl
    try simp only [Act.put, List.setIfInBounds_toArray, List.set_cons_zero, List.set_cons_succ]
    refine wpAnyH_ready (rs := [7]) (by kernel_rfl) (by simp) ?_
    refine AllReadyH.cons (o := { dst := some 43, op := Op.call { callee := Callee.value (Operand.func 9), args := #[Operand.tmp 36, Operand.tmp 37, Operand.tmp 42], argTypes := #[25, 3, 31] }, type := 4, pos := "more.go:40", after := #[{ on := 0, ground := Ground.data }, { on := 1, ground := Ground.data }, { on := 6, ground := Ground.data }, { on := 5, ground := Ground.chain }], guard := none }) rfl (fun K hK => ?_) AllReadyH.nil
    go_simp
    (first | (go_at_call 9; refine (HO.out _ (by assumption)).mono ?_; rintro d w' ⟨rfl, hS⟩) | (go_at_call 11; refine (HOfD.out _).mono ?_; rintro d w' ⟨rfl, rfl⟩))
    refine hK.out _ _ ?_ (fun hHeld => ?_)
    · (first | assumption | exact (HeldC.alloc (by assumption) _) | exact (HeldC.drew (by assumption)))
    clear hK K
    try simp only [Act.put, List.setIfInBounds_toArray, List.set_cons_zero, List.set_cons_succ]
    refine wpAnyH_take (i := 8) (oi := { dst := some 44, op := Op.unOp UnOp.not 4 (Operand.tmp 43), type := 4, pos := "more.go:40", after := #[{ on := 7, ground := Ground.data }], guard := none }) (v := ?_) rfl (by kernel_rfl) (by kernel_rfl) (by kernel_rfl) (fun _ _ _ h => h) (Or.inl ⟨by rfl, ?_⟩) (by assumption) ?_
    rotate_left
    · intro w hSw; (try dsimp only at hSw); go_simp <;> with_reducible rfl
    try simp only [Act.put, List.setIfInBounds_toArray, List.set_cons_zero, List.set_cons_succ]
    refine wpAnyH_take (i := 9) (oi := { dst := some 45, op := Op.move (Operand.tmp 44), type := 4, pos := "more.go:40", after := #[{ on := 8, ground := Ground.data }, { on := 7, ground := Ground.chain }], guard := none }) (v := ?_) rfl (by kernel_rfl) (by kernel_rfl) (by kernel_rfl) (fun _ _ _ h => h) (Or.inl ⟨by rfl, ?_⟩) (by assumption) ?_
    rotate_left
    · intro w hSw; (try dsimp only at hSw); go_simp <;> with_reducible rfl
    try simp only [Act.put, List.setIfInBounds_toArray, List.set_cons_zero, List.set_cons_succ]
    refine wpAnyH_take (i := 10) (oi := { dst := some 46, op := Op.move (Operand.tmp 1), type := 3, pos := "more.go:40", after := #[{ on := 9, ground := Ground.guard }], guard := some (9, false) }) (v := undef) rfl (by kernel_rfl) (by kernel_rfl) (by kernel_rfl) (fun _ _ _ h => h) (Or.inr ⟨by rfl, rfl⟩) (by assumption) ?_
    try simp only [Act.put, List.setIfInBounds_toArray, List.set_cons_zero, List.set_cons_succ]
    refine wpAnyH_take (i := 11) (oi := { dst := some 47, op := Op.binOp BinOp.lss 3 (Operand.tmp 46) (Operand.const (Value.int IntKind.i64 0)) 3, type := 4, pos := "more.go:40", after := #[{ on := 10, ground := Ground.data }, { on := 9, ground := Ground.guard }], guard := some (9, false) }) (v := undef) rfl (by kernel_rfl) (by kernel_rfl) (by kernel_rfl) (fun _ _ _ h => h) (Or.inr ⟨by rfl, rfl⟩) (by assumption) ?_
    try simp only [Act.put, List.setIfInBounds_toArray, List.set_cons_zero, List.set_cons_succ]
    refine wpAnyH_take (i := 12) (oi := { dst := some 48, op := Op.pick (Operand.tmp 45) (Operand.const (Value.bool true)) (Operand.tmp 47), type := 4, pos := "more.go:40", after := #[{ on := 9, ground := Ground.data }, { on := 11, ground := Ground.data }], guard := none }) (v := ?_) rfl (by kernel_rfl) (by kernel_rfl) (by kernel_rfl) (fun _ _ _ h => h) (Or.inl ⟨by rfl, ?_⟩) (by assumption) ?_
    rotate_left
    · intro w hSw; (try dsimp only at hSw); go_simp <;> with_reducible rfl
    try simp only [Act.put, List.setIfInBounds_toArray, List.set_cons_zero, List.set_cons_succ]
    refine wpAnyH_take (i := 13) (oi := { dst := some 49, op := Op.move (Operand.tmp 48), type := 4, pos := "more.go:40", after := #[{ on := 12, ground := Ground.data }, { on := 9, ground := Ground.chain }], guard := none }) (v := ?_) rfl (by kernel_rfl) (by kernel_rfl) (by kernel_rfl) (fun _ _ _ h => h) (Or.inl ⟨by rfl, ?_⟩) (by assumption) ?_
    rotate_left
    · intro w hSw; (try dsimp only at hSw); go_simp <;> with_reducible rfl
    try simp only [Act.put, List.setIfInBounds_toArray, List.set_cons_zero, List.set_cons_succ]
    refine wpAnyH_take (i := 14) (oi := { dst := some 50, op := Op.move (Operand.tmp 1), type := 3, pos := "more.go:40", after := #[{ on := 13, ground := Ground.guard }], guard := some (13, false) }) (v := undef) rfl (by kernel_rfl) (by kernel_rfl) (by kernel_rfl) (fun _ _ _ h => h) (Or.inr ⟨by rfl, rfl⟩) (by assumption) ?_
    try simp only [Act.put, List.setIfInBounds_toArray, List.set_cons_zero, List.set_cons_succ]
    refine wpAnyH_take (i := 15) (oi := { dst := some 51, op := Op.binOp BinOp.gtr 3 (Operand.tmp 50) (Operand.const (Value.int IntKind.i64 63)) 3, type := 4, pos := "more.go:40", after := #[{ on := 14, ground := Ground.data }, { on := 13, ground := Ground.guard }], guard := some (13, false) }) (v := undef) rfl (by kernel_rfl) (by kernel_rfl) (by kernel_rfl) (fun _ _ _ h => h) (Or.inr ⟨by rfl, rfl⟩) (by assumption) ?_
    try simp only [Act.put, List.setIfInBounds_toArray, List.set_cons_zero, List.set_cons_succ]
    refine wpAnyH_take (i := 16) (oi := { dst := some 52, op := Op.pick (Operand.tmp 49) (Operand.const (Value.bool true)) (Operand.tmp 51), type := 4, pos := "more.go:40", after := #[{ on := 13, ground := Ground.data }, { on := 15, ground := Ground.data }], guard := none }) (v := ?_) rfl (by kernel_rfl) (by kernel_rfl) (by kernel_rfl) (fun _ _ _ h => h) (Or.inl ⟨by rfl, ?_⟩) (by assumption) ?_
    rotate_left
    · intro w hSw; (try dsimp only at hSw); go_simp <;> with_reducible rfl
    try simp only [Act.put, List.setIfInBounds_toArray, List.set_cons_zero, List.set_cons_succ]
    refine wpAnyH_take (i := 17) (oi := { dst := some 8, op := Op.assign (Operand.tmp 52), type := 4, pos := "more.go:40", after := #[{ on := 16, ground := Ground.data }, { on := 13, ground := Ground.chain }, { on := 0, ground := Ground.phase }, { on := 1, ground := Ground.phase }, { on := 2, ground := Ground.phase }, { on := 3, ground := Ground.phase }, { on := 4, ground := Ground.phase }, { on := 5, ground := Ground.phase }, { on := 6, ground := Ground.phase }, { on := 7, ground := Ground.phase }, { on := 8, ground := Ground.phase }, { on := 9, ground := Ground.phase }, { on := 10, ground := Ground.phase }, { on := 11, ground := Ground.phase }, { on := 12, ground := Ground.phase }, { on := 13, ground := Ground.phase }, { on := 14, ground := Ground.phase }, { on := 15, ground := Ground.phase }, { on := 16, ground := Ground.phase }], guard := none }) (v := ?_) rfl (by kernel_rfl) (by kernel_rfl) (by kernel_rfl) (fun _ _ _ h => h) (Or.inl ⟨by rfl, ?_⟩) (by assumption) ?_
    rotate_left
    · intro w hSw; (try dsimp only at hSw); go_simp <;> with_reducible rfl
    try simp only [Act.put, List.setIfInBounds_toArray, List.set_cons_zero, List.set_cons_succ]
    refine wpAnyH_done (by kernel_rfl) ?_ _
    go_wp2
    go_ret
    exact ⟨rfl, HeldC.modOf (by assumption)⟩
  · by_cases h0 : st = 0
    · subst h0
      go_enter Try.func4, Try.ntmps4
      go_wp2_with fail
      refine (awake_calls _).mono ?_
      rintro d w1 ⟨rfl, hm1⟩
      have HH := Lib.hid (HHB.out.mod hm1)
      clear hm1 HHB
      generalize w.heap.size = B at HH
      have HA := HS1.out B
      have HB := HS2.out B
      have HO := Lib.hid (HOM.out B)
      have HA := Lib.hid HA
      have HB := Lib.hid HB
      clear HS1 HS2 HOM
      have hHx := HH.out.2
      go_wp2_with fail
      refine (HA.out _ HH.out).mono ?_
      rintro d w2 ⟨rfl, hh2⟩
      clear hHx HH
      have HH := Lib.hid hh2
      clear hh2
      have hHx := HH.out.2
      go_wp2
      clear hHx
      unfold HeldC at HH HO
      have hH := HH.out
      refine wp_region_held_drew (S := fun w' => Held w B ⟨n, l, wi, q, f, m, b, en⟩ (.slice A l.length cp) w' ∧ w'.cell? ⟨B, 0, none⟩ = some (.int .i64 n) ∧ w'.cell? ⟨B, 1, none⟩ = some (.slice A l.length cp) ∧ w'.cell? ⟨B, 2, none⟩ = some (.int .i64 wi) ∧ w'.cell? ⟨B, 3, none⟩ = some (.int .i64 q) ∧ w'.cell? ⟨B, 4, none⟩ = some (.int .i64 f) ∧ w'.cell? ⟨B, 5, none⟩ = some (.int .i64 m) ∧ w'.cell? ⟨B, 6, none⟩ = some (.int .i64 b) ∧ w'.cell? ⟨B, 7, none⟩ = some (.int .i64 en)) (by kernel_rfl) ?_ (fun hHeld => ?_)
      · exact HeldC.drew hH
      refine wpAnyH_take (i := 0) (oi := { dst := some 36, op := Op.load 25 (Operand.tmp 4), type := 25, pos := "more.go:40", after := #[], guard := none }) (v := ?_) rfl (by kernel_rfl) (by kernel_rfl) (by kernel_rfl) (fun _ _ _ h => h) (Or.inl ⟨by rfl, ?_⟩) (by assumption) ?_
      rotate_left
      · intro w hSw; (try dsimp only at hSw); go_simp <;> with_reducible rfl
      try simp only [Act.put, List.setIfInBounds_toArray, List.set_cons_zero, List.set_cons_succ]
      refine wpAnyH_take (i := 1) (oi := { dst := some 37, op := Op.move (Operand.tmp 1), type := 3, pos := "more.go:40", after := #[], guard := none }) (v := ?_) rfl (by kernel_rfl) (by kernel_rfl) (by kernel_rfl) (fun _ _ _ h => h) (Or.inl ⟨by rfl, ?_⟩) (by assumption) ?_
      rotate_left
      · intro w hSw; (try dsimp only at hSw); go_simp <;> with_reducible rfl
      try simp only [Act.put, List.setIfInBounds_toArray, List.set_cons_zero, List.set_cons_succ]
      refine wpAnyH_take (i := 2) (oi := { dst := some 38, op := Op.move (Operand.tmp 9), type := 31, pos := "more.go:40", after := #[], guard := none }) (v := ?_) rfl (by kernel_rfl) (by kernel_rfl) (by kernel_rfl) (fun _ _ _ h => h) (Or.inl ⟨by rfl, ?_⟩) (by assumption) ?_
      rotate_left
      · intro w hSw; (try dsimp only at hSw); go_simp <;> with_reducible rfl
      try simp only [Act.put, List.setIfInBounds_toArray, List.set_cons_zero, List.set_cons_succ]
      refine wpAnyH_take (i := 3) (oi := { dst := some 39, op := Op.move (Operand.tmp 1), type := 3, pos := "more.go:40", after := #[], guard := none }) (v := ?_) rfl (by kernel_rfl) (by kernel_rfl) (by kernel_rfl) (fun _ _ _ h => h) (Or.inl ⟨by rfl, ?_⟩) (by assumption) ?_
      rotate_left
      · intro w hSw; (try dsimp only at hSw); go_simp <;> with_reducible rfl
      try simp only [Act.put, List.setIfInBounds_toArray, List.set_cons_zero, List.set_cons_succ]
      refine wpAnyH_ready (rs := [4]) (by kernel_rfl) (by simp) ?_
      refine AllReadyH.cons (o := { dst := some 40, op := Op.buildSlice 39 1 #[(0, Operand.tmp 39)], type := 39, pos := "more.go:40", after := #[{ on := 3, ground := Ground.data }], guard := none }) rfl (fun K hK => ?_) AllReadyH.nil
      go_simp
      refine hK.out _ _ ?_ (fun hHeld => ?_)
      · (first | assumption | exact (HeldC.alloc (by assumption) _) | exact (HeldC.drew (by assumption)))
      clear hK K
      try simp only [Act.put, List.setIfInBounds_toArray, List.set_cons_zero, List.set_cons_succ]
      refine wpAnyH_ready (rs := [5]) (by kernel_rfl) (by simp) ?_
      refine AllReadyH.cons (o := { dst := some 41, op := Op.call { callee := Callee.value (Operand.func 11), args := #[Operand.tmp 40], argTypes := #[39] }, type := 31, pos := "more.go:40", after := #[{ on := 4, ground := Ground.data }], guard := none }) rfl (fun K hK => ?_) AllReadyH.nil
      go_simp
      (first | (go_at_call 9; refine (HO.out _ (by assumption)).mono ?_; rintro d w' ⟨rfl, hS⟩) | (go_at_call 11; refine (HOfD.out _).mono ?_; rintro d w' ⟨rfl, rfl⟩))
      refine hK.out _ _ ?_ (fun hHeld => ?_)
      · (first | assumption | exact (HeldC.alloc (by assumption) _) | exact (HeldC.drew (by assumption)))
      clear hK K
      try simp only [Act.put, List.setIfInBounds_toArray, List.set_cons_zero, List.set_cons_succ]
      refine wpAnyH_take (i := 6) (oi := { dst := some 42, op := Op.binOp BinOp.or 31 (Operand.tmp 38) (Operand.tmp 41) 31, type := 31, pos := "more.go:40", after := #[{ on := 2, ground := Ground.data }, { on := 5, ground := Ground.data }], guard := none }) (v := ?_) rfl (by kernel_rfl) (by kernel_rfl) (by kernel_rfl) (fun _ _ _ h => h) (Or.inl ⟨by rfl, ?_⟩) (by assumption) ?_
      rotate_left
      · intro w hSw; (try dsimp only at hSw); go_simp <;> with_reducible rfl
      try simp only [Act.put, List.setIfInBounds_toArray, List.set_cons_zero, List.set_cons_succ]
      refine wpAnyH_ready (rs := [7]) (by kernel_rfl) (by simp) ?_
      refine AllReadyH.cons (o := { dst := some 43, op := Op.call { callee := Callee.value (Operand.func 9), args := #[Operand.tmp 36, Operand.tmp 37, Operand.tmp 42], argTypes := #[25, 3, 31] }, type := 4, pos := "more.go:40", after := #[{ on := 0, ground := Ground.data }, { on := 1, ground := Ground.data }, { on := 6, ground := Ground.data }, { on := 5, ground := Ground.chain }], guard := none }) rfl (fun K hK => ?_) AllReadyH.nil
      go_simp
      (first | (go_at_call 9; refine (HO.out _ (by assumption)).mono ?_; rintro d w' ⟨rfl, hS⟩) | (go_at_call 11; refine (HOfD.out _).mono ?_; rintro d w' ⟨rfl, rfl⟩))
      refine hK.out _ _ ?_ (fun hHeld => ?_)
      · (first | assumption | exact (HeldC.alloc (by assumption) _) | exact (HeldC.drew (by assumption)))
      clear hK K
      try simp only [Act.put, List.setIfInBounds_toArray, List.set_cons_zero, List.set_cons_succ]
      refine wpAnyH_take (i := 8) (oi := { dst := some 44, op := Op.unOp UnOp.not 4 (Operand.tmp 43), type := 4, pos := "more.go:40", after := #[{ on := 7, ground := Ground.data }], guard := none }) (v := ?_) rfl (by kernel_rfl) (by kernel_rfl) (by kernel_rfl) (fun _ _ _ h => h) (Or.inl ⟨by rfl, ?_⟩) (by assumption) ?_
      rotate_left
      · intro w hSw; (try dsimp only at hSw); go_simp <;> with_reducible rfl
      try simp only [Act.put, List.setIfInBounds_toArray, List.set_cons_zero, List.set_cons_succ]
      refine wpAnyH_take (i := 9) (oi := { dst := some 45, op := Op.move (Operand.tmp 44), type := 4, pos := "more.go:40", after := #[{ on := 8, ground := Ground.data }, { on := 7, ground := Ground.chain }], guard := none }) (v := ?_) rfl (by kernel_rfl) (by kernel_rfl) (by kernel_rfl) (fun _ _ _ h => h) (Or.inl ⟨by rfl, ?_⟩) (by assumption) ?_
      rotate_left
      · intro w hSw; (try dsimp only at hSw); go_simp <;> with_reducible rfl
      try simp only [Act.put, List.setIfInBounds_toArray, List.set_cons_zero, List.set_cons_succ]
      refine wpAnyH_take (i := 10) (oi := { dst := some 46, op := Op.move (Operand.tmp 1), type := 3, pos := "more.go:40", after := #[{ on := 9, ground := Ground.guard }], guard := some (9, false) }) (v := undef) rfl (by kernel_rfl) (by kernel_rfl) (by kernel_rfl) (fun _ _ _ h => h) (Or.inr ⟨by rfl, rfl⟩) (by assumption) ?_
      try simp only [Act.put, List.setIfInBounds_toArray, List.set_cons_zero, List.set_cons_succ]
      refine wpAnyH_take (i := 11) (oi := { dst := some 47, op := Op.binOp BinOp.lss 3 (Operand.tmp 46) (Operand.const (Value.int IntKind.i64 0)) 3, type := 4, pos := "more.go:40", after := #[{ on := 10, ground := Ground.data }, { on := 9, ground := Ground.guard }], guard := some (9, false) }) (v := undef) rfl (by kernel_rfl) (by kernel_rfl) (by kernel_rfl) (fun _ _ _ h => h) (Or.inr ⟨by rfl, rfl⟩) (by assumption) ?_
      try simp only [Act.put, List.setIfInBounds_toArray, List.set_cons_zero, List.set_cons_succ]
      refine wpAnyH_take (i := 12) (oi := { dst := some 48, op := Op.pick (Operand.tmp 45) (Operand.const (Value.bool true)) (Operand.tmp 47), type := 4, pos := "more.go:40", after := #[{ on := 9, ground := Ground.data }, { on := 11, ground := Ground.data }], guard := none }) (v := ?_) rfl (by kernel_rfl) (by kernel_rfl) (by kernel_rfl) (fun _ _ _ h => h) (Or.inl ⟨by rfl, ?_⟩) (by assumption) ?_
      rotate_left
      · intro w hSw; (try dsimp only at hSw); go_simp <;> with_reducible rfl
      try simp only [Act.put, List.setIfInBounds_toArray, List.set_cons_zero, List.set_cons_succ]
      refine wpAnyH_take (i := 13) (oi := { dst := some 49, op := Op.move (Operand.tmp 48), type := 4, pos := "more.go:40", after := #[{ on := 12, ground := Ground.data }, { on := 9, ground := Ground.chain }], guard := none }) (v := ?_) rfl (by kernel_rfl) (by kernel_rfl) (by kernel_rfl) (fun _ _ _ h => h) (Or.inl ⟨by rfl, ?_⟩) (by assumption) ?_
      rotate_left
      · intro w hSw; (try dsimp only at hSw); go_simp <;> with_reducible rfl
      try simp only [Act.put, List.setIfInBounds_toArray, List.set_cons_zero, List.set_cons_succ]
      refine wpAnyH_take (i := 14) (oi := { dst := some 50, op := Op.move (Operand.tmp 1), type := 3, pos := "more.go:40", after := #[{ on := 13, ground := Ground.guard }], guard := some (13, false) }) (v := undef) rfl (by kernel_rfl) (by kernel_rfl) (by kernel_rfl) (fun _ _ _ h => h) (Or.inr ⟨by rfl, rfl⟩) (by assumption) ?_
      try simp only [Act.put, List.setIfInBounds_toArray, List.set_cons_zero, List.set_cons_succ]
      refine wpAnyH_take (i := 15) (oi := { dst := some 51, op := Op.binOp BinOp.gtr 3 (Operand.tmp 50) (Operand.const (Value.int IntKind.i64 63)) 3, type := 4, pos := "more.go:40", after := #[{ on := 14, ground := Ground.data }, { on := 13, ground := Ground.guard }], guard := some (13, false) }) (v := undef) rfl (by kernel_rfl) (by kernel_rfl) (by kernel_rfl) (fun _ _ _ h => h) (Or.inr ⟨by rfl, rfl⟩) (by assumption) ?_
      try simp only [Act.put, List.setIfInBounds_toArray, List.set_cons_zero, List.set_cons_succ]
      refine wpAnyH_take (i := 16) (oi := { dst := some 52, op := Op.pick (Operand.tmp 49) (Operand.const (Value.bool true)) (Operand.tmp 51), type := 4, pos := "more.go:40", after := #[{ on := 13, ground := Ground.data }, { on := 15, ground := Ground.data }], guard := none }) (v := ?_) rfl (by kernel_rfl) (by kernel_rfl) (by kernel_rfl) (fun _ _ _ h => h) (Or.inl ⟨by rfl, ?_⟩) (by assumption) ?_
      rotate_left
      · intro w hSw; (try dsimp only at hSw); go_simp <;> with_reducible rfl
      try simp only [Act.put, List.setIfInBounds_toArray, List.set_cons_zero, List.set_cons_succ]
      refine wpAnyH_take (i := 17) (oi := { dst := some 8, op := Op.assign (Operand.tmp 52), type := 4, pos := "more.go:40", after := #[{ on := 16, ground := Ground.data }, { on := 13, ground := Ground.chain }, { on := 0, ground := Ground.phase }, { on := 1, ground := Ground.phase }, { on := 2, ground := Ground.phase }, { on := 3, ground := Ground.phase }, { on := 4, ground := Ground.phase }, { on := 5, ground := Ground.phase }, { on := 6, ground := Ground.phase }, { on := 7, ground := Ground.phase }, { on := 8, ground := Ground.phase }, { on := 9, ground := Ground.phase }, { on := 10, ground := Ground.phase }, { on := 11, ground := Ground.phase }, { on := 12, ground := Ground.phase }, { on := 13, ground := Ground.phase }, { on := 14, ground := Ground.phase }, { on := 15, ground := Ground.phase }, { on := 16, ground := Ground.phase }], guard := none }) (v := ?_) rfl (by kernel_rfl) (by kernel_rfl) (by kernel_rfl) (fun _ _ _ h => h) (Or.inl ⟨by rfl, ?_⟩) (by assumption) ?_
      rotate_left
      · intro w hSw; (try dsimp only at hSw); go_simp <;> with_reducible rfl
      try simp only [Act.put, List.setIfInBounds_toArray, List.set_cons_zero, List.set_cons_succ]
      refine wpAnyH_done (by kernel_rfl) ?_ _
      go_wp2
      go_ret
      exact ⟨rfl, HeldC.modOf (by assumption)⟩
    · have h2 := hP.out h0 rfl
      subst h2
      have h3 : ((st : Int) != 0) = true := by simp; omega
      clear h0
      go_enter Try.func4, Try.ntmps4
      go_wp2_with fail
      refine (awake_calls _).mono ?_
      rintro d w1 ⟨rfl, hm1⟩
      have HH := Lib.hid (HHB.out.mod hm1)
      clear hm1 HHB
      generalize w.heap.size = B at HH
      have HA := HS1.out B
      have HB := HS2.out B
      have HO := Lib.hid (HOM.out B)
      have HA := Lib.hid HA
      have HB := Lib.hid HB
      clear HS1 HS2 HOM
      have hHx := HH.out.2
      go_wp2_with fail
      refine (HA.out _ HH.out).mono ?_
      rintro d w2 ⟨rfl, hh2⟩
      clear hHx HH
      have HH := Lib.hid hh2
      clear hh2
      have hHx := HH.out.2
      go_wp2_with fail
      refine (HB.out _ HH.out).mono ?_
      rintro d w3 ⟨rfl, hh3⟩
      clear hHx HH
      have HH := Lib.hid hh3
      clear hh3
      have hHx := HH.out.2
      go_wp2
      clear hHx
      unfold HeldC at HH HO
      have hH := HH.out
      refine wp_region_held_drew (S := fun w' => Held w B ⟨n, l, wi, q, f, m, b, en⟩ (.slice A l.length cp) w' ∧ w'.cell? ⟨B, 0, none⟩ = some (.int .i64 n) ∧ w'.cell? ⟨B, 1, none⟩ = some (.slice A l.length cp) ∧ w'.cell? ⟨B, 2, none⟩ = some (.int .i64 wi) ∧ w'.cell? ⟨B, 3, none⟩ = some (.int .i64 q) ∧ w'.cell? ⟨B, 4, none⟩ = some (.int .i64 f) ∧ w'.cell? ⟨B, 5, none⟩ = some (.int .i64 m) ∧ w'.cell? ⟨B, 6, none⟩ = some (.int .i64 b) ∧ w'.cell? ⟨B, 7, none⟩ = some (.int .i64 en)) (by kernel_rfl) ?_ (fun hHeld => ?_)
      · exact HeldC.drew hH
      refine wpAnyH_take (i := 0) (oi := { dst := some 36, op := Op.load 25 (Operand.tmp 4), type := 25, pos := "more.go:40", after := #[], guard := none }) (v := ?_) rfl (by kernel_rfl) (by kernel_rfl) (by kernel_rfl) (fun _ _ _ h => h) (Or.inl ⟨by rfl, ?_⟩) (by assumption) ?_
      rotate_left
      · intro w hSw; (try dsimp only at hSw); go_simp <;> with_reducible rfl
      try simp only [Act.put, List.setIfInBounds_toArray, List.set_cons_zero, List.set_cons_succ]
      refine wpAnyH_take (i := 1) (oi := { dst := some 37, op := Op.move (Operand.tmp 1), type := 3, pos := "more.go:40", after := #[], guard := none }) (v := ?_) rfl (by kernel_rfl) (by kernel_rfl) (by kernel_rfl) (fun _ _ _ h => h) (Or.inl ⟨by rfl, ?_⟩) (by assumption) ?_
      rotate_left
      · intro w hSw; (try dsimp only at hSw); go_simp <;> with_reducible rfl
      try simp only [Act.put, List.setIfInBounds_toArray, List.set_cons_zero, List.set_cons_succ]
      refine wpAnyH_take (i := 2) (oi := { dst := some 38, op := Op.move (Operand.tmp 9), type := 31, pos := "more.go:40", after := #[], guard := none }) (v := ?_) rfl (by kernel_rfl) (by kernel_rfl) (by kernel_rfl) (fun _ _ _ h => h) (Or.inl ⟨by rfl, ?_⟩) (by assumption) ?_
      rotate_left
      · intro w hSw; (try dsimp only at hSw); go_simp <;> with_reducible rfl
      try simp only [Act.put, List.setIfInBounds_toArray, List.set_cons_zero, List.set_cons_succ]
      refine wpAnyH_take (i := 3) (oi := { dst := some 39, op := Op.move (Operand.tmp 1), type := 3, pos := "more.go:40", after := #[], guard := none }) (v := ?_) rfl (by kernel_rfl) (by kernel_rfl) (by kernel_rfl) (fun _ _ _ h => h) (Or.inl ⟨by rfl, ?_⟩) (by assumption) ?_
      rotate_left
      · intro w hSw; (try dsimp only at hSw); go_simp <;> with_reducible rfl
      try simp only [Act.put, List.setIfInBounds_toArray, List.set_cons_zero, List.set_cons_succ]
      refine wpAnyH_ready (rs := [4]) (by kernel_rfl) (by simp) ?_
      refine AllReadyH.cons (o := { dst := some 40, op := Op.buildSlice 39 1 #[(0, Operand.tmp 39)], type := 39, pos := "more.go:40", after := #[{ on := 3, ground := Ground.data }], guard := none }) rfl (fun K hK => ?_) AllReadyH.nil
      go_simp
      refine hK.out _ _ ?_ (fun hHeld => ?_)
      · (first | assumption | exact (HeldC.alloc (by assumption) _) | exact (HeldC.drew (by assumption)))
      clear hK K
      try simp only [Act.put, List.setIfInBounds_toArray, List.set_cons_zero, List.set_cons_succ]
      refine wpAnyH_ready (rs := [5]) (by kernel_rfl) (by simp) ?_
      refine AllReadyH.cons (o := { dst := some 41, op := Op.call { callee := Callee.value (Operand.func 11), args := #[Operand.tmp 40], argTypes := #[39] }, type := 31, pos := "more.go:40", after := #[{ on := 4, ground := Ground.data }], guard := none }) rfl (fun K hK => ?_) AllReadyH.nil
      go_simp
      (first | (go_at_call 9; refine (HO.out _ (by assumption)).mono ?_; rintro d w' ⟨rfl, hS⟩) | (go_at_call 11; refine (HOfD.out _).mono ?_; rintro d w' ⟨rfl, rfl⟩))
      refine hK.out _ _ ?_ (fun hHeld => ?_)
      · (first | assumption | exact (HeldC.alloc (by assumption) _) | exact (HeldC.drew (by assumption)))
      clear hK K
      try simp only [Act.put, List.setIfInBounds_toArray, List.set_cons_zero, List.set_cons_succ]
      refine wpAnyH_take (i := 6) (oi := { dst := some 42, op := Op.binOp BinOp.or 31 (Operand.tmp 38) (Operand.tmp 41) 31, type := 31, pos := "more.go:40", after := #[{ on := 2, ground := Ground.data }, { on := 5, ground := Ground.data }], guard := none }) (v := ?_) rfl (by kernel_rfl) (by kernel_rfl) (by kernel_rfl) (fun _ _ _ h => h) (Or.inl ⟨by rfl, ?_⟩) (by assumption) ?_
      rotate_left
      · intro w hSw; (try dsimp only at hSw); go_simp <;> with_reducible rfl
      try simp only [Act.put, List.setIfInBounds_toArray, List.set_cons_zero, List.set_cons_succ]
      refine wpAnyH_ready (rs := [7]) (by kernel_rfl) (by simp) ?_
      refine AllReadyH.cons (o := { dst := some 43, op := Op.call { callee := Callee.value (Operand.func 9), args := #[Operand.tmp 36, Operand.tmp 37, Operand.tmp 42], argTypes := #[25, 3, 31] }, type := 4, pos := "more.go:40", after := #[{ on := 0, ground := Ground.data }, { on := 1, ground := Ground.data }, { on := 6, ground := Ground.data }, { on := 5, ground := Ground.chain }], guard := none }) rfl (fun K hK => ?_) AllReadyH.nil
      go_simp
      (first | (go_at_call 9; refine (HO.out _ (by assumption)).mono ?_; rintro d w' ⟨rfl, hS⟩) | (go_at_call 11; refine (HOfD.out _).mono ?_; rintro d w' ⟨rfl, rfl⟩))
      refine hK.out _ _ ?_ (fun hHeld => ?_)
      · (first | assumption | exact (HeldC.alloc (by assumption) _) | exact (HeldC.drew (by assumption)))
      clear hK K
      try simp only [Act.put, List.setIfInBounds_toArray, List.set_cons_zero, List.set_cons_succ]
      refine wpAnyH_take (i := 8) (oi := { dst := some 44, op := Op.unOp UnOp.not 4 (Operand.tmp 43), type := 4, pos := "more.go:40", after := #[{ on := 7, ground := Ground.data }], guard := none }) (v := ?_) rfl (by kernel_rfl) (by kernel_rfl) (by kernel_rfl) (fun _ _ _ h => h) (Or.inl ⟨by rfl, ?_⟩) (by assumption) ?_
      rotate_left
      · intro w hSw; (try dsimp only at hSw); go_simp <;> with_reducible rfl
      try simp only [Act.put, List.setIfInBounds_toArray, List.set_cons_zero, List.set_cons_succ]
      refine wpAnyH_take (i := 9) (oi := { dst := some 45, op := Op.move (Operand.tmp 44), type := 4, pos := "more.go:40", after := #[{ on := 8, ground := Ground.data }, { on := 7, ground := Ground.chain }], guard := none }) (v := ?_) rfl (by kernel_rfl) (by kernel_rfl) (by kernel_rfl) (fun _ _ _ h => h) (Or.inl ⟨by rfl, ?_⟩) (by assumption) ?_
      rotate_left
      · intro w hSw; (try dsimp only at hSw); go_simp <;> with_reducible rfl
      try simp only [Act.put, List.setIfInBounds_toArray, List.set_cons_zero, List.set_cons_succ]
      refine wpAnyH_take (i := 10) (oi := { dst := some 46, op := Op.move (Operand.tmp 1), type := 3, pos := "more.go:40", after := #[{ on := 9, ground := Ground.guard }], guard := some (9, false) }) (v := undef) rfl (by kernel_rfl) (by kernel_rfl) (by kernel_rfl) (fun _ _ _ h => h) (Or.inr ⟨by rfl, rfl⟩) (by assumption) ?_
      try simp only [Act.put, List.setIfInBounds_toArray, List.set_cons_zero, List.set_cons_succ]
      refine wpAnyH_take (i := 11) (oi := { dst := some 47, op := Op.binOp BinOp.lss 3 (Operand.tmp 46) (Operand.const (Value.int IntKind.i64 0)) 3, type := 4, pos := "more.go:40", after := #[{ on := 10, ground := Ground.data }, { on := 9, ground := Ground.guard }], guard := some (9, false) }) (v := undef) rfl (by kernel_rfl) (by kernel_rfl) (by kernel_rfl) (fun _ _ _ h => h) (Or.inr ⟨by rfl, rfl⟩) (by assumption) ?_
      try simp only [Act.put, List.setIfInBounds_toArray, List.set_cons_zero, List.set_cons_succ]
      refine wpAnyH_take (i := 12) (oi := { dst := some 48, op := Op.pick (Operand.tmp 45) (Operand.const (Value.bool true)) (Operand.tmp 47), type := 4, pos := "more.go:40", after := #[{ on := 9, ground := Ground.data }, { on := 11, ground := Ground.data }], guard := none }) (v := ?_) rfl (by kernel_rfl) (by kernel_rfl) (by kernel_rfl) (fun _ _ _ h => h) (Or.inl ⟨by rfl, ?_⟩) (by assumption) ?_
      rotate_left
      · intro w hSw; (try dsimp only at hSw); go_simp <;> with_reducible rfl
      try simp only [Act.put, List.setIfInBounds_toArray, List.set_cons_zero, List.set_cons_succ]
      refine wpAnyH_take (i := 13) (oi := { dst := some 49, op := Op.move (Operand.tmp 48), type := 4, pos := "more.go:40", after := #[{ on := 12, ground := Ground.data }, { on := 9, ground := Ground.chain }], guard := none }) (v := ?_) rfl (by kernel_rfl) (by kernel_rfl) (by kernel_rfl) (fun _ _ _ h => h) (Or.inl ⟨by rfl, ?_⟩) (by assumption) ?_
      rotate_left
      · intro w hSw; (try dsimp only at hSw); go_simp <;> with_reducible rfl
      try simp only [Act.put, List.setIfInBounds_toArray, List.set_cons_zero, List.set_cons_succ]
      refine wpAnyH_take (i := 14) (oi := { dst := some 50, op := Op.move (Operand.tmp 1), type := 3, pos := "more.go:40", after := #[{ on := 13, ground := Ground.guard }], guard := some (13, false) }) (v := undef) rfl (by kernel_rfl) (by kernel_rfl) (by kernel_rfl) (fun _ _ _ h => h) (Or.inr ⟨by rfl, rfl⟩) (by assumption) ?_
      try simp only [Act.put, List.setIfInBounds_toArray, List.set_cons_zero, List.set_cons_succ]
      refine wpAnyH_take (i := 15) (oi := { dst := some 51, op := Op.binOp BinOp.gtr 3 (Operand.tmp 50) (Operand.const (Value.int IntKind.i64 63)) 3, type := 4, pos := "more.go:40", after := #[{ on := 14, ground := Ground.data }, { on := 13, ground := Ground.guard }], guard := some (13, false) }) (v := undef) rfl (by kernel_rfl) (by kernel_rfl) (by kernel_rfl) (fun _ _ _ h => h) (Or.inr ⟨by rfl, rfl⟩) (by assumption) ?_
      try simp only [Act.put, List.setIfInBounds_toArray, List.set_cons_zero, List.set_cons_succ]
      refine wpAnyH_take (i := 16) (oi := { dst := some 52, op := Op.pick (Operand.tmp 49) (Operand.const (Value.bool true)) (Operand.tmp 51), type := 4, pos := "more.go:40", after := #[{ on := 13, ground := Ground.data }, { on := 15, ground := Ground.data }], guard := none }) (v := ?_) rfl (by kernel_rfl) (by kernel_rfl) (by kernel_rfl) (fun _ _ _ h => h) (Or.inl ⟨by rfl, ?_⟩) (by assumption) ?_
      rotate_left
      · intro w hSw; (try dsimp only at hSw); go_simp <;> with_reducible rfl
      try simp only [Act.put, List.setIfInBounds_toArray, List.set_cons_zero, List.set_cons_succ]
      refine wpAnyH_take (i := 17) (oi := { dst := some 8, op := Op.assign (Operand.tmp 52), type := 4, pos := "more.go:40", after := #[{ on := 16, ground := Ground.data }, { on := 13, ground := Ground.chain }, { on := 0, ground := Ground.phase }, { on := 1, ground := Ground.phase }, { on := 2, ground := Ground.phase }, { on := 3, ground := Ground.phase }, { on := 4, ground := Ground.phase }, { on := 5, ground := Ground.phase }, { on := 6, ground := Ground.phase }, { on := 7, ground := Ground.phase }, { on := 8, ground := Ground.phase }, { on := 9, ground := Ground.phase }, { on := 10, ground := Ground.phase }, { on := 11, ground := Ground.phase }, { on := 12, ground := Ground.phase }, { on := 13, ground := Ground.phase }, { on := 14, ground := Ground.phase }, { on := 15, ground := Ground.phase }, { on := 16, ground := Ground.phase }], guard := none }) (v := ?_) rfl (by kernel_rfl) (by kernel_rfl) (by kernel_rfl) (fun _ _ _ h => h) (Or.inl ⟨by rfl, ?_⟩) (by assumption) ?_
      rotate_left
      · intro w hSw; (try dsimp only at hSw); go_simp <;> with_reducible rfl
      try simp only [Act.put, List.setIfInBounds_toArray, List.set_cons_zero, List.set_cons_succ]
      refine wpAnyH_done (by kernel_rfl) ?_ _
      go_wp2
      go_ret
      exact ⟨rfl, HeldC.modOf (by assumption)⟩

theorem pm_any (c : Cf) (v : Value) (p : Int) (s t : Int) (w : World) (h : SetsIn w v c.vars) (hs : (Lit.int .u64 s).wf = true) (ht : (Lit.int .u64 t).wf = true) :
    Calls Try.prog 4 #[c.val v, .int .i64 p, .int .u64 s, .int .u64 t] w fun d w' => d = .returned (.bool true) ∧ Below w.heap.size w w' := by
  have hs' := wf_u64 hs
  have ht' := wf_u64 ht
  obtain ⟨s, rfl⟩ := Int.eq_ofNat_of_zero_le hs'.1
  obtain ⟨t, rfl⟩ := Int.eq_ofNat_of_zero_le ht'.1
  by_cases hl : 30 < c.vars.length
  · exact (pm_long c v p s t w h hl).mono fun _ _ ⟨x, y⟩ => ⟨x, y.none_below⟩
  · exact (pm_short c v p s t w h (by omega) (by omega) (by omega)).mono fun _ _ ⟨x, y⟩ => ⟨x, y.none_below⟩
end Go.Proofs.Ytcnjllkmliphkaa

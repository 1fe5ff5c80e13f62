/-
  PastKnown.
-/
import Derived.Test.YteicceikaecfcaaPastM
namespace Go.Proofs.Yteicceikaecfcaa
open Go.RowKit Go.Shoal Go.Maps

/-- The Past, and three names that the law keeps. -/
structure KSt (w : World) (B : Nat) (s : Pa) (R S T : Nat) (W : World) : Prop where
  hl : Lives w B s W
  hr : Held R (.cells #[.int .i64 0, .int .u64 1] 34 (0, 0)) B s W
  hs : Held S (.cells #[.int .i64 0, .int .u64 2] 34 (0, 0)) B s W
  ht : Held T (.cells #[.int .i64 0, .int .u64 9] 34 (0, 0)) B s W
theorem KSt.quiet {w W W' : World} {B R S T : Nat} {s : Pa} (h : KSt w B s R S T W) (hm : Mod (fun _ => False) W W') : KSt w B s R S T W' := ⟨h.hl.quiet hm, h.hr.quiet hm, h.hs.quiet hm, h.ht.quiet hm⟩
theorem KSt.cells {w W : World} {B R S T : Nat} {s : Pa} (h : KSt w B s R S T W) : W.cell? ⟨R, 0, Option.none⟩ = some (.int .i64 0) ∧ W.cell? ⟨R, 1, Option.none⟩ = some (.int .u64 1) ∧ W.cell? ⟨S, 0, Option.none⟩ = some (.int .i64 0) ∧ W.cell? ⟨S, 1, Option.none⟩ = some (.int .u64 2) ∧ W.cell? ⟨T, 0, Option.none⟩ = some (.int .i64 0) ∧ W.cell? ⟨T, 1, Option.none⟩ = some (.int .u64 9) := by
  obtain ⟨a, b⟩ := two_cells h.hr.here
  obtain ⟨c, d⟩ := two_cells h.hs.here
  obtain ⟨e, f⟩ := two_cells h.ht.here
  exact ⟨a, b, c, d, e, f⟩
/-- A slice of so many names. -/
def GaveN (w : World) (n : Nat) (e : Ending) (w' : World) : Prop := (∃ A c, e = .returned (.slice A n c)) ∧ Mod (fun _ => False) w w'
theorem Gave.num {w : World} {l : List (Nat × Nat)} {n : Nat} (hn : l.length = n) {e : Ending} {w' : World} (h : Gave w l e w') : GaveN w n e w' := by
  obtain ⟨v, he, hr, hm, _⟩ := h
  obtain ⟨A, c, rfl⟩ := RowOf.form hr
  rw [hn] at he
  exact ⟨⟨A, c, he⟩, hm⟩
set_option maxRecDepth 100000 in
set_option maxHeartbeats 8000000 in
theorem pknown_any (w : World) : Calls Try.prog 6 #[] w fun e w' => e = .returned (.bool true) ∧ Below w.heap.size w w' := by
  have HA := Lib.hid (awake_any w)
  have HNo : Hid (∀ w, Calls Try.prog 9 #[.int .i64 17] w fun e w' => e = .returned (.tuple #[.pointer none, .int .i64 1]) ∧ w = w') := fun w => new_past_no 17 w (by decide)
  have HNew := Lib.hid (fun w => lives_new 3 w (by decide) (by decide))
  go_enter Try.func6, Try.ntmps6
  go_wp2_with fail
  refine HA.out.mono ?_
  rintro e w1 ⟨rfl, hb⟩
  have HB1 := Lib.hid hb
  clear hb HA
  go_wp2_with fail
  refine (HNo.out _).mono ?_
  rintro e u ⟨rfl, rfl⟩
  go_wp2_with fail
  refine (HNew.out _).mono ?_
  rintro e w2 ⟨B, kB, cB, tB, hB, kb, rfl, hL⟩
  have HL0 := Lib.hid (hL.base HB1.out)
  clear hL HNew HB1 HNo
  have HC : Hid (Calls Try.prog 11 #[.pointer (some ⟨B, 0, none⟩), .int .i64 3, .int .u64 1] (w2) (Told (w2) (.tuple #[.agg #[.int .i64 0, .int .u64 0], .int .i64 1]))) := send_arg B (Pa.born 3 kB cB tB hB kb) 3 1 _ HL0.out.at' (by rfl)
  go_wp2_with fail
  refine HC.out.mono ?_
  rintro e b0 ⟨rfl, hm⟩
  have HL1 := Lib.hid ((HL0.out.quiet hm).alloc (.cells #[.int .i64 0, .int .u64 0] 34))
  clear hm HC HL0
  have HC : Hid (Calls Try.prog 11 #[.pointer (some ⟨B, 0, none⟩), .int .i64 0, .int .u64 1] (b0.alloc (.cells #[.int .i64 0, .int .u64 0] 34)) (Told (b0.alloc (.cells #[.int .i64 0, .int .u64 0] 34)) (.tuple #[.agg #[.int .i64 0, .int .u64 0], .int .i64 4]))) := send_bad B (Pa.born 3 kB cB tB hB kb) 0 1 _ HL1.out.at' (by show 0 < 3; decide) (by decide) (by kernel_rfl)
  go_wp2_with fail
  refine HC.out.mono ?_
  rintro e b1 ⟨rfl, hm⟩
  have HL2 := Lib.hid ((HL1.out.quiet hm).alloc (.cells #[.int .i64 0, .int .u64 0] 34))
  clear hm HC HL1
  have HC : Hid (Calls Try.prog 11 #[.pointer (some ⟨B, 0, none⟩), .int .i64 0, .int .u64 0] (b1.alloc (.cells #[.int .i64 0, .int .u64 0] 34)) (Told (b1.alloc (.cells #[.int .i64 0, .int .u64 0] 34)) (.tuple #[.agg #[.int .i64 0, .int .u64 0], .int .i64 4]))) := send_bad B (Pa.born 3 kB cB tB hB kb) 0 0 _ HL2.out.at' (by show 0 < 3; decide) (by decide) (by kernel_rfl)
  go_wp2_with fail
  refine HC.out.mono ?_
  rintro e b2 ⟨rfl, hm⟩
  have HL3 := Lib.hid ((HL2.out.quiet hm).alloc (.cells #[.int .i64 0, .int .u64 0] 34))
  clear hm HC HL2
  have HC : Hid (Calls Try.prog 11 #[.pointer (some ⟨B, 0, none⟩), .int .i64 0, .int .u64 8] (b2.alloc (.cells #[.int .i64 0, .int .u64 0] 34)) (Told (b2.alloc (.cells #[.int .i64 0, .int .u64 0] 34)) (.tuple #[.agg #[.int .i64 0, .int .u64 0], .int .i64 4]))) := send_bad B (Pa.born 3 kB cB tB hB kb) 0 8 _ HL3.out.at' (by show 0 < 3; decide) (by decide) (by kernel_rfl)
  go_wp2_with fail
  refine HC.out.mono ?_
  rintro e b3 ⟨rfl, hm⟩
  have HL4 := Lib.hid ((HL3.out.quiet hm).alloc (.cells #[.int .i64 0, .int .u64 0] 34))
  clear hm HC HL3
  have HC : Hid (Calls Try.prog 11 #[.pointer (some ⟨B, 0, none⟩), .int .i64 0, .int .u64 2] (b3.alloc (.cells #[.int .i64 0, .int .u64 0] 34)) fun e w' => ∃ M av, e = .returned (.tuple #[.agg #[.int .i64 0, .int .u64 1], .int .i64 0]) ∧ Lives w B ((Pa.born 3 kB cB tB hB kb).sent 0 2 M av) w' ∧ _ ∧ _) := lives_send HL4.out 0 2 (by show 0 < 3; decide) (by decide) (by kernel_rfl) (by show 0 < 1000; decide)
  go_wp2_with fail
  refine HC.out.mono ?_
  rintro e w3 ⟨M1, av1, rfl, hL, _, _⟩
  have HR3 := Lib.hid (Held.new hL (.cells #[.int .i64 0, .int .u64 1] 34))
  have HL5 := Lib.hid (hL.alloc (.cells #[.int .i64 0, .int .u64 1] 34))
  clear hL HC HL4
  have HC : Hid (Calls Try.prog 11 #[.pointer (some ⟨B, 0, none⟩), .int .i64 0, .int .u64 4] (w3.alloc (.cells #[.int .i64 0, .int .u64 1] 34)) fun e w' => ∃ M av, e = .returned (.tuple #[.agg #[.int .i64 0, .int .u64 2], .int .i64 0]) ∧ Lives w B (((Pa.born 3 kB cB tB hB kb).sent 0 2 M1 av1).sent 0 4 M av) w' ∧ (∀ q o, Held q o B ((Pa.born 3 kB cB tB hB kb).sent 0 2 M1 av1) (w3.alloc (.cells #[.int .i64 0, .int .u64 1] 34)) → Held q o B (((Pa.born 3 kB cB tB hB kb).sent 0 2 M1 av1).sent 0 4 M av) w') ∧ _) := lives_send HL5.out 0 4 (by show 0 < 3; decide) (by decide) (by kernel_rfl) (by show 1 < 1000; decide)
  go_wp2_with fail
  refine HC.out.mono ?_
  rintro e w4 ⟨M2, av2, rfl, hL, hh, _⟩
  have HR4 := Lib.hid ((hh _ _ HR3.out).alloc (.cells #[.int .i64 0, .int .u64 2] 34))
  have HS4 := Lib.hid (Held.new hL (.cells #[.int .i64 0, .int .u64 2] 34))
  have HL6 := Lib.hid (hL.alloc (.cells #[.int .i64 0, .int .u64 2] 34))
  clear hL hh HC HL5 HR3
  have HT2 := Lib.hid (HR4.out.drew)
  have HC1 : Hid (Calls Try.prog 12 #[.pointer (some ⟨B, 0, none⟩), .int .i64 2, .agg #[.int .i64 0, .int .u64 1]] (w4.alloc (.cells #[.int .i64 0, .int .u64 2] 34)).drew (Told (w4.alloc (.cells #[.int .i64 0, .int .u64 2] 34)).drew (.bool false))) := take_not B (((Pa.born 3 kB cB tB hB kb).sent 0 2 M1 av1).sent 0 4 M2 av2) 2 0 (⟨0, 1, 2, fun _ => false, M1⟩ : Ms) _ HL6.out.drew.at' (by show 2 < 3; decide) (by rfl) (by kernel_rfl)
  have HC2 : Hid (∀ W, Lives w B (((Pa.born 3 kB cB tB hB kb).sent 0 2 M1 av1).sent 0 4 M2 av2) W → Calls Try.prog 12 #[.pointer (some ⟨B, 0, none⟩), .int .i64 1, .agg #[.int .i64 0, .int .u64 1]] W fun e w' => ∃ v, e = .returned (.bool true) ∧ Lives w B ((((Pa.born 3 kB cB tB hB kb).sent 0 2 M1 av1).sent 0 4 M2 av2).took (⟨0, 1, 2, fun _ => false, M1⟩ : Ms) 0 1 v) w' ∧ (∀ q o, Held q o B (((Pa.born 3 kB cB tB hB kb).sent 0 2 M1 av1).sent 0 4 M2 av2) W → Held q o B ((((Pa.born 3 kB cB tB hB kb).sent 0 2 M1 av1).sent 0 4 M2 av2).took (⟨0, 1, 2, fun _ => false, M1⟩ : Ms) 0 1 v) w') ∧ _) := fun W hW => lives_take hW 1 0 (⟨0, 1, 2, fun _ => false, M1⟩ : Ms) (by show 1 < 3; decide) (by rfl) (by kernel_rfl)
  have HC3 : Hid (∀ v1 W, Lives w B ((((Pa.born 3 kB cB tB hB kb).sent 0 2 M1 av1).sent 0 4 M2 av2).took (⟨0, 1, 2, fun _ => false, M1⟩ : Ms) 0 1 v1) W → Calls Try.prog 12 #[.pointer (some ⟨B, 0, none⟩), .int .i64 1, .agg #[.int .i64 0, .int .u64 1]] W (Told W (.bool false))) := fun v1 W hW => take_not B ((((Pa.born 3 kB cB tB hB kb).sent 0 2 M1 av1).sent 0 4 M2 av2).took (⟨0, 1, 2, fun _ => false, M1⟩ : Ms) 0 1 v1) 1 0 (⟨0, 1, 2, fun _ => false, M1⟩ : Ms) _ hW.at' (by show 1 < 3; decide) (by rfl) (by kernel_rfl)
  go_wp2_with fail
  refine wp_region_part (S := fun w' => w'.cell? ⟨w3.heap.size, 0, none⟩ = some (.int .i64 0) ∧ w'.cell? ⟨w3.heap.size, 1, none⟩ = some (.int .u64 1)) [] (by kernel_rfl) ?_ (fun hHeld => ?_)
  · exact two_cells HT2.out.here
  refine wpPart_take (i := 0) (oi := { dst := some 61, op := Op.move (Operand.tmp 3), type := 24, pos := "law.go:37", after := #[], guard := none }) (v := ?_) rfl (by kernel_rfl) (by kernel_rfl) (by kernel_rfl) (by kernel_rfl) (by kernel_rfl) (fun _ _ _ h => h) (Or.inl ⟨by rfl, ?_⟩) (by assumption) ?_
  rotate_left
  · intro w hSw; (try dsimp only at hSw); go_simp <;> with_reducible rfl
  try simp only [Act.put, List.setIfInBounds_toArray, List.set_cons_zero, List.set_cons_succ]
  refine wpPart_take (i := 1) (oi := { dst := some 62, op := Op.load 34 (Operand.tmp 13), type := 34, pos := "law.go:37", after := #[], guard := none }) (v := ?_) rfl (by kernel_rfl) (by kernel_rfl) (by kernel_rfl) (by kernel_rfl) (by kernel_rfl) (fun _ _ _ h => h) (Or.inl ⟨by rfl, ?_⟩) (by assumption) ?_
  rotate_left
  · intro w hSw; (try dsimp only at hSw); go_simp <;> with_reducible rfl
  try simp only [Act.put, List.setIfInBounds_toArray, List.set_cons_zero, List.set_cons_succ]
  refine wpPart_take (i := 3) (oi := { dst := some 64, op := Op.move (Operand.tmp 3), type := 24, pos := "law.go:37", after := #[], guard := none }) (v := ?_) rfl (by kernel_rfl) (by kernel_rfl) (by kernel_rfl) (by kernel_rfl) (by kernel_rfl) (fun _ _ _ h => h) (Or.inl ⟨by rfl, ?_⟩) (by assumption) ?_
  rotate_left
  · intro w hSw; (try dsimp only at hSw); go_simp <;> with_reducible rfl
  try simp only [Act.put, List.setIfInBounds_toArray, List.set_cons_zero, List.set_cons_succ]
  refine wpPart_take (i := 4) (oi := { dst := some 65, op := Op.load 34 (Operand.tmp 13), type := 34, pos := "law.go:37", after := #[], guard := none }) (v := ?_) rfl (by kernel_rfl) (by kernel_rfl) (by kernel_rfl) (by kernel_rfl) (by kernel_rfl) (fun _ _ _ h => h) (Or.inl ⟨by rfl, ?_⟩) (by assumption) ?_
  rotate_left
  · intro w hSw; (try dsimp only at hSw); go_simp <;> with_reducible rfl
  try simp only [Act.put, List.setIfInBounds_toArray, List.set_cons_zero, List.set_cons_succ]
  refine wpPart_take (i := 6) (oi := { dst := some 67, op := Op.move (Operand.tmp 3), type := 24, pos := "law.go:37", after := #[], guard := none }) (v := ?_) rfl (by kernel_rfl) (by kernel_rfl) (by kernel_rfl) (by kernel_rfl) (by kernel_rfl) (fun _ _ _ h => h) (Or.inl ⟨by rfl, ?_⟩) (by assumption) ?_
  rotate_left
  · intro w hSw; (try dsimp only at hSw); go_simp <;> with_reducible rfl
  try simp only [Act.put, List.setIfInBounds_toArray, List.set_cons_zero, List.set_cons_succ]
  refine wpPart_take (i := 7) (oi := { dst := some 68, op := Op.load 34 (Operand.tmp 13), type := 34, pos := "law.go:37", after := #[], guard := none }) (v := ?_) rfl (by kernel_rfl) (by kernel_rfl) (by kernel_rfl) (by kernel_rfl) (by kernel_rfl) (fun _ _ _ h => h) (Or.inl ⟨by rfl, ?_⟩) (by assumption) ?_
  rotate_left
  · intro w hSw; (try dsimp only at hSw); go_simp <;> with_reducible rfl
  try simp only [Act.put, List.setIfInBounds_toArray, List.set_cons_zero, List.set_cons_succ]
  refine wpPart_ready (rs := [2]) (by kernel_rfl) (by simp) ?_
  refine AllPart.cons (o := { dst := some 63, op := Op.call { callee := Callee.value (Operand.func 12), args := #[Operand.tmp 61, Operand.const (Value.int IntKind.i64 2), Operand.tmp 62], argTypes := #[24, 3, 34] }, type := 4, pos := "law.go:37", after := #[{ on := 0, ground := Ground.data }, { on := 1, ground := Ground.data }], guard := none }) rfl (by kernel_rfl) (fun K hK => ?_) AllPart.nil
  go_simp
  go_at_call 12
  refine HC1.out.mono ?_
  rintro e u1 ⟨rfl, hm⟩
  have HLa := Lib.hid (HL6.out.drew.quiet hm)
  have HRa := Lib.hid (HR4.out.drew.quiet hm)
  have HSa := Lib.hid (HS4.out.drew.quiet hm)
  refine hK.out _ _ ?_ (fun hHeld => ?_)
  · exact two_cells HRa.out.here
  clear hK K
  try simp only [Act.put, List.setIfInBounds_toArray, List.set_cons_zero, List.set_cons_succ]
  clear hm
  refine wpPart_ready (rs := [5]) (by kernel_rfl) (by simp) ?_
  refine AllPart.cons (o := { dst := some 66, op := Op.call { callee := Callee.value (Operand.func 12), args := #[Operand.tmp 64, Operand.const (Value.int IntKind.i64 1), Operand.tmp 65], argTypes := #[24, 3, 34] }, type := 4, pos := "law.go:37", after := #[{ on := 3, ground := Ground.data }, { on := 4, ground := Ground.data }, { on := 2, ground := Ground.chain }], guard := none }) rfl (by kernel_rfl) (fun K hK => ?_) AllPart.nil
  go_simp
  go_at_call 12
  refine (HC2.out _ HLa.out).mono ?_
  rintro e u2 ⟨v1, rfl, hL, hh, _⟩
  have HLb := Lib.hid hL
  have HRb := Lib.hid (hh _ _ HRa.out)
  have HSb := Lib.hid (hh _ _ HSa.out)
  refine hK.out _ _ ?_ (fun hHeld => ?_)
  · exact two_cells HRb.out.here
  clear hK K
  try simp only [Act.put, List.setIfInBounds_toArray, List.set_cons_zero, List.set_cons_succ]
  clear hL hh
  refine wpPart_ready (rs := [8]) (by kernel_rfl) (by simp) ?_
  refine AllPart.cons (o := { dst := some 69, op := Op.call { callee := Callee.value (Operand.func 12), args := #[Operand.tmp 67, Operand.const (Value.int IntKind.i64 1), Operand.tmp 68], argTypes := #[24, 3, 34] }, type := 4, pos := "law.go:37", after := #[{ on := 6, ground := Ground.data }, { on := 7, ground := Ground.data }, { on := 5, ground := Ground.chain }], guard := none }) rfl (by kernel_rfl) (fun K hK => ?_) AllPart.nil
  go_simp
  go_at_call 12
  refine (HC3.out v1 _ HLb.out).mono ?_
  rintro e u3 ⟨rfl, hm⟩
  have HLc := Lib.hid (HLb.out.quiet hm)
  have HRc := Lib.hid (HRb.out.quiet hm)
  have HSc := Lib.hid (HSb.out.quiet hm)
  refine hK.out _ _ ?_ (fun hHeld => ?_)
  · exact two_cells HRc.out.here
  clear hK K
  try simp only [Act.put, List.setIfInBounds_toArray, List.set_cons_zero, List.set_cons_succ]
  clear hm
  refine wpPart_take (i := 9) (oi := { dst := some 17, op := Op.assign (Operand.tmp 63), type := 4, pos := "law.go:37", after := #[{ on := 2, ground := Ground.data }, { on := 8, ground := Ground.chain }, { on := 0, ground := Ground.phase }, { on := 1, ground := Ground.phase }, { on := 2, ground := Ground.phase }, { on := 3, ground := Ground.textOnly Departure.lateStores }, { on := 4, ground := Ground.textOnly Departure.lateStores }, { on := 5, ground := Ground.textOnly Departure.lateStoresUnsure }, { on := 6, ground := Ground.textOnly Departure.lateStores }, { on := 7, ground := Ground.textOnly Departure.lateStores }, { on := 8, ground := Ground.textOnly Departure.lateStoresUnsure }], guard := none }) (v := ?_) rfl (by kernel_rfl) (by kernel_rfl) (by kernel_rfl) (by kernel_rfl) (by kernel_rfl) (fun _ _ _ h => h) (Or.inl ⟨by rfl, ?_⟩) (by assumption) ?_
  rotate_left
  · intro w hSw; (try dsimp only at hSw); go_simp <;> with_reducible rfl
  try simp only [Act.put, List.setIfInBounds_toArray, List.set_cons_zero, List.set_cons_succ]
  refine wpPart_take (i := 10) (oi := { dst := some 18, op := Op.assign (Operand.tmp 66), type := 4, pos := "law.go:37", after := #[{ on := 5, ground := Ground.data }, { on := 9, ground := Ground.chain }, { on := 0, ground := Ground.phase }, { on := 1, ground := Ground.phase }, { on := 2, ground := Ground.phase }, { on := 3, ground := Ground.phase }, { on := 4, ground := Ground.phase }, { on := 5, ground := Ground.phase }, { on := 6, ground := Ground.textOnly Departure.lateStores }, { on := 7, ground := Ground.textOnly Departure.lateStores }, { on := 8, ground := Ground.textOnly Departure.lateStoresUnsure }, { on := 9, ground := Ground.phase }], guard := none }) (v := ?_) rfl (by kernel_rfl) (by kernel_rfl) (by kernel_rfl) (by kernel_rfl) (by kernel_rfl) (fun _ _ _ h => h) (Or.inl ⟨by rfl, ?_⟩) (by assumption) ?_
  rotate_left
  · intro w hSw; (try dsimp only at hSw); go_simp <;> with_reducible rfl
  try simp only [Act.put, List.setIfInBounds_toArray, List.set_cons_zero, List.set_cons_succ]
  refine wpPart_take (i := 11) (oi := { dst := some 19, op := Op.assign (Operand.tmp 69), type := 4, pos := "law.go:37", after := #[{ on := 8, ground := Ground.data }, { on := 10, ground := Ground.chain }, { on := 0, ground := Ground.phase }, { on := 1, ground := Ground.phase }, { on := 2, ground := Ground.phase }, { on := 3, ground := Ground.phase }, { on := 4, ground := Ground.phase }, { on := 5, ground := Ground.phase }, { on := 6, ground := Ground.phase }, { on := 7, ground := Ground.phase }, { on := 8, ground := Ground.phase }, { on := 9, ground := Ground.phase }, { on := 10, ground := Ground.phase }], guard := none }) (v := ?_) rfl (by kernel_rfl) (by kernel_rfl) (by kernel_rfl) (by kernel_rfl) (by kernel_rfl) (fun _ _ _ h => h) (Or.inl ⟨by rfl, ?_⟩) (by assumption) ?_
  rotate_left
  · intro w hSw; (try dsimp only at hSw); go_simp <;> with_reducible rfl
  try simp only [Act.put, List.setIfInBounds_toArray, List.set_cons_zero, List.set_cons_succ]
  refine wpPart_done (by kernel_rfl) ?_ _
  have HT := Lib.hid (Held.new HLc.out (.cells #[.int .i64 0, .int .u64 9] 34))
  have HK0 : Hid (KSt w B ((((Pa.born 3 kB cB tB hB kb).sent 0 2 M1 av1).sent 0 4 M2 av2).took (⟨0, 1, 2, fun _ => false, M1⟩ : Ms) 0 1 v1) w3.heap.size w4.heap.size u3.heap.size (u3.alloc (.cells #[.int .i64 0, .int .u64 9] 34))) := ⟨HLc.out.alloc _, HRc.out.alloc _, HSc.out.alloc _, HT.out⟩
  clear HLa HRa HSa HLb HRb HSb HLc HRc HSc HT HC1 HC2 HC3 HT2 HL6 HR4 HS4
  obtain ⟨x0, x1, x2, x3, x4, x5⟩ := HK0.out.cells
  have heq := eql_id 0 2 0 2
  have hgd := guard_id
  have HFind : Hid (findI ((((Pa.born 3 kB cB tB hB kb).sent 0 2 M1 av1).sent 0 4 M2 av2).took (⟨0, 1, 2, fun _ => false, M1⟩ : Ms) 0 1 v1).all 0 9 < 0) := by show _ < _; rw [show findI ((((Pa.born 3 kB cB tB hB kb).sent 0 2 M1 av1).sent 0 4 M2 av2).took (⟨0, 1, 2, fun _ => false, M1⟩ : Ms) 0 1 v1).all 0 9 = -1 by kernel_rfl]; decide
  have HD0 : Hid (∀ W, KSt w B ((((Pa.born 3 kB cB tB hB kb).sent 0 2 M1 av1).sent 0 4 M2 av2).took (⟨0, 1, 2, fun _ => false, M1⟩ : Ms) 0 1 v1) w3.heap.size w4.heap.size u3.heap.size W → Calls Try.prog 13 #[.pointer (some ⟨B, 0, none⟩), .agg #[.int .i64 0, .int .u64 1], .agg #[.int .i64 0, .int .u64 2]] W (Told W (.bool true))) := fun W hW => by
    have h := ahead_at B ((((Pa.born 3 kB cB tB hB kb).sent 0 2 M1 av1).sent 0 4 M2 av2).took (⟨0, 1, 2, fun _ => false, M1⟩ : Ms) 0 1 v1) 0 1 (⟨0, 1, 2, fun _ => false, M1⟩ : Ms) (⟨0, 2, 4, ((Pa.born 3 kB cB tB hB kb).sent 0 2 M1 av1).knows 0, M2⟩ : Ms) W hW.hl.at' (by rfl) (by rfl)
    rw [show (⟨0, 2, 4, ((Pa.born 3 kB cB tB hB kb).sent 0 2 M1 av1).knows 0, M2⟩ : Ms).ahead 0 = true by kernel_rfl] at h
    exact h
  have HD1 : Hid (∀ W, KSt w B ((((Pa.born 3 kB cB tB hB kb).sent 0 2 M1 av1).sent 0 4 M2 av2).took (⟨0, 1, 2, fun _ => false, M1⟩ : Ms) 0 1 v1) w3.heap.size w4.heap.size u3.heap.size W → Calls Try.prog 13 #[.pointer (some ⟨B, 0, none⟩), .agg #[.int .i64 0, .int .u64 2], .agg #[.int .i64 0, .int .u64 1]] W (Told W (.bool false))) := fun W hW => by
    have h := ahead_at B ((((Pa.born 3 kB cB tB hB kb).sent 0 2 M1 av1).sent 0 4 M2 av2).took (⟨0, 1, 2, fun _ => false, M1⟩ : Ms) 0 1 v1) 1 0 (⟨0, 2, 4, ((Pa.born 3 kB cB tB hB kb).sent 0 2 M1 av1).knows 0, M2⟩ : Ms) (⟨0, 1, 2, fun _ => false, M1⟩ : Ms) W hW.hl.at' (by rfl) (by rfl)
    rw [show (⟨0, 1, 2, fun _ => false, M1⟩ : Ms).ahead 1 = false by kernel_rfl] at h
    exact h
  have HD2 : Hid (∀ W, KSt w B ((((Pa.born 3 kB cB tB hB kb).sent 0 2 M1 av1).sent 0 4 M2 av2).took (⟨0, 1, 2, fun _ => false, M1⟩ : Ms) 0 1 v1) w3.heap.size w4.heap.size u3.heap.size W → Calls Try.prog 13 #[.pointer (some ⟨B, 0, none⟩), .agg #[.int .i64 0, .int .u64 1], .agg #[.int .i64 0, .int .u64 1]] W (Told W (.bool false))) := fun W hW => by
    have h := ahead_at B ((((Pa.born 3 kB cB tB hB kb).sent 0 2 M1 av1).sent 0 4 M2 av2).took (⟨0, 1, 2, fun _ => false, M1⟩ : Ms) 0 1 v1) 0 0 (⟨0, 1, 2, fun _ => false, M1⟩ : Ms) (⟨0, 1, 2, fun _ => false, M1⟩ : Ms) W hW.hl.at' (by rfl) (by rfl)
    rw [show (⟨0, 1, 2, fun _ => false, M1⟩ : Ms).ahead 0 = false by kernel_rfl] at h
    exact h
  have HD3 : Hid (∀ W, KSt w B ((((Pa.born 3 kB cB tB hB kb).sent 0 2 M1 av1).sent 0 4 M2 av2).took (⟨0, 1, 2, fun _ => false, M1⟩ : Ms) 0 1 v1) w3.heap.size w4.heap.size u3.heap.size W → Calls Try.prog 13 #[.pointer (some ⟨B, 0, none⟩), .agg #[.int .i64 0, .int .u64 9], .agg #[.int .i64 0, .int .u64 1]] W (Told W (.bool false))) := fun W hW => ahead_no B ((((Pa.born 3 kB cB tB hB kb).sent 0 2 M1 av1).sent 0 4 M2 av2).took (⟨0, 1, 2, fun _ => false, M1⟩ : Ms) 0 1 v1) 0 9 0 1 W hW.hl.at' HFind.out
  have HD4 : Hid (∀ W, KSt w B ((((Pa.born 3 kB cB tB hB kb).sent 0 2 M1 av1).sent 0 4 M2 av2).took (⟨0, 1, 2, fun _ => false, M1⟩ : Ms) 0 1 v1) w3.heap.size w4.heap.size u3.heap.size W → Calls Try.prog 15 #[.pointer (some ⟨B, 0, none⟩), .int .i64 1, .agg #[.int .i64 0, .int .u64 9]] W (Told W (.bool false))) := fun W hW => can_no B ((((Pa.born 3 kB cB tB hB kb).sent 0 2 M1 av1).sent 0 4 M2 av2).took (⟨0, 1, 2, fun _ => false, M1⟩ : Ms) 0 1 v1) 1 0 9 W hW.hl.at' (.inr HFind.out)
  have HD5 : Hid (∀ W, KSt w B ((((Pa.born 3 kB cB tB hB kb).sent 0 2 M1 av1).sent 0 4 M2 av2).took (⟨0, 1, 2, fun _ => false, M1⟩ : Ms) 0 1 v1) w3.heap.size w4.heap.size u3.heap.size W → Calls Try.prog 12 #[.pointer (some ⟨B, 0, none⟩), .int .i64 1, .agg #[.int .i64 0, .int .u64 9]] W (Told W (.bool false))) := fun W hW => take_no B ((((Pa.born 3 kB cB tB hB kb).sent 0 2 M1 av1).sent 0 4 M2 av2).took (⟨0, 1, 2, fun _ => false, M1⟩ : Ms) 0 1 v1) 1 0 9 W hW.hl.at' (.inr HFind.out)
  have HD6 : Hid (∀ W, KSt w B ((((Pa.born 3 kB cB tB hB kb).sent 0 2 M1 av1).sent 0 4 M2 av2).took (⟨0, 1, 2, fun _ => false, M1⟩ : Ms) 0 1 v1) w3.heap.size w4.heap.size u3.heap.size W → Calls Try.prog 15 #[.pointer (some ⟨B, 0, none⟩), .int .i64 2, .agg #[.int .i64 0, .int .u64 2]] W (Told W (.bool true))) := fun W hW => by
    have h := can_any B ((((Pa.born 3 kB cB tB hB kb).sent 0 2 M1 av1).sent 0 4 M2 av2).took (⟨0, 1, 2, fun _ => false, M1⟩ : Ms) 0 1 v1) 2 1 (⟨0, 2, 4, ((Pa.born 3 kB cB tB hB kb).sent 0 2 M1 av1).knows 0, M2⟩ : Ms) W hW.hl.at' (by show 2 < 3; decide) (by rfl)
    rw [show Pa.can ((((Pa.born 3 kB cB tB hB kb).sent 0 2 M1 av1).sent 0 4 M2 av2).took (⟨0, 1, 2, fun _ => false, M1⟩ : Ms) 0 1 v1) (⟨0, 2, 4, ((Pa.born 3 kB cB tB hB kb).sent 0 2 M1 av1).knows 0, M2⟩ : Ms) 1 2 = true by kernel_rfl] at h
    exact h
  have HD7 : Hid (∀ W, KSt w B ((((Pa.born 3 kB cB tB hB kb).sent 0 2 M1 av1).sent 0 4 M2 av2).took (⟨0, 1, 2, fun _ => false, M1⟩ : Ms) 0 1 v1) w3.heap.size w4.heap.size u3.heap.size W → Calls Try.prog 16 #[.pointer (some ⟨B, 0, none⟩), .int .i64 1] W (GaveN W 1)) := fun W hW => (taken_at B ((((Pa.born 3 kB cB tB hB kb).sent 0 2 M1 av1).sent 0 4 M2 av2).took (⟨0, 1, 2, fun _ => false, M1⟩ : Ms) 0 1 v1) 1 W hW.hl.at' (by show 1 < 3; decide)).mono fun _ _ h => h.num (by kernel_rfl)
  have HD8 : Hid (∀ W, KSt w B ((((Pa.born 3 kB cB tB hB kb).sent 0 2 M1 av1).sent 0 4 M2 av2).took (⟨0, 1, 2, fun _ => false, M1⟩ : Ms) 0 1 v1) w3.heap.size w4.heap.size u3.heap.size W → Calls Try.prog 16 #[.pointer (some ⟨B, 0, none⟩), .int .i64 9] W (GaveN W 0)) := fun W hW => (taken_no B ((((Pa.born 3 kB cB tB hB kb).sent 0 2 M1 av1).sent 0 4 M2 av2).took (⟨0, 1, 2, fun _ => false, M1⟩ : Ms) 0 1 v1) 9 W hW.hl.at' (by rfl)).mono fun _ _ h => h.num (by kernel_rfl)
  have HD9 : Hid (∀ W, KSt w B ((((Pa.born 3 kB cB tB hB kb).sent 0 2 M1 av1).sent 0 4 M2 av2).took (⟨0, 1, 2, fun _ => false, M1⟩ : Ms) 0 1 v1) w3.heap.size w4.heap.size u3.heap.size W → Calls Try.prog 10 #[.pointer (some ⟨B, 0, none⟩)] W (GaveN W 2)) := fun W hW => (all_past B ((((Pa.born 3 kB cB tB hB kb).sent 0 2 M1 av1).sent 0 4 M2 av2).took (⟨0, 1, 2, fun _ => false, M1⟩ : Ms) 0 1 v1) W hW.hl.at').mono fun _ _ h => h.num (by kernel_rfl)
  have HD10 : Hid (∀ W, KSt w B ((((Pa.born 3 kB cB tB hB kb).sent 0 2 M1 av1).sent 0 4 M2 av2).took (⟨0, 1, 2, fun _ => false, M1⟩ : Ms) 0 1 v1) w3.heap.size w4.heap.size u3.heap.size W → Calls Try.prog 18 #[.pointer (some ⟨B, 0, none⟩), .agg #[.int .i64 0, .int .u64 2]] W (Told W (.int .u64 4))) := fun W hW => to_at B ((((Pa.born 3 kB cB tB hB kb).sent 0 2 M1 av1).sent 0 4 M2 av2).took (⟨0, 1, 2, fun _ => false, M1⟩ : Ms) 0 1 v1) 1 (⟨0, 2, 4, ((Pa.born 3 kB cB tB hB kb).sent 0 2 M1 av1).knows 0, M2⟩ : Ms) W hW.hl.at' (by rfl)
  have HD11 : Hid (∀ W, KSt w B ((((Pa.born 3 kB cB tB hB kb).sent 0 2 M1 av1).sent 0 4 M2 av2).took (⟨0, 1, 2, fun _ => false, M1⟩ : Ms) 0 1 v1) w3.heap.size w4.heap.size u3.heap.size W → Calls Try.prog 18 #[.pointer (some ⟨B, 0, none⟩), .agg #[.int .i64 0, .int .u64 9]] W (Told W (.int .u64 0))) := fun W hW => to_no B ((((Pa.born 3 kB cB tB hB kb).sent 0 2 M1 av1).sent 0 4 M2 av2).took (⟨0, 1, 2, fun _ => false, M1⟩ : Ms) 0 1 v1) 0 9 W hW.hl.at' HFind.out
  go_wp2_with fail
  refine (HD0.out _ HK0.out).mono ?_
  rintro e W1 ⟨rfl, hm⟩
  have HK1 := Lib.hid (HK0.out.quiet hm)
  clear hm HK0 HD0 x0 x1 x2 x3 x4 x5
  obtain ⟨x0, x1, x2, x3, x4, x5⟩ := HK1.out.cells
  go_wp2_with fail
  refine (HD1.out _ HK1.out).mono ?_
  rintro e W2 ⟨rfl, hm⟩
  have HK2 := Lib.hid (HK1.out.quiet hm)
  clear hm HK1 HD1 x0 x1 x2 x3 x4 x5
  obtain ⟨x0, x1, x2, x3, x4, x5⟩ := HK2.out.cells
  go_wp2_with fail
  refine (HD2.out _ HK2.out).mono ?_
  rintro e W3 ⟨rfl, hm⟩
  have HK3 := Lib.hid (HK2.out.quiet hm)
  clear hm HK2 HD2 x0 x1 x2 x3 x4 x5
  obtain ⟨x0, x1, x2, x3, x4, x5⟩ := HK3.out.cells
  go_wp2_with fail
  refine (HD3.out _ HK3.out).mono ?_
  rintro e W4 ⟨rfl, hm⟩
  have HK4 := Lib.hid (HK3.out.quiet hm)
  clear hm HK3 HD3 x0 x1 x2 x3 x4 x5
  obtain ⟨x0, x1, x2, x3, x4, x5⟩ := HK4.out.cells
  go_wp2_with fail
  refine (HD4.out _ HK4.out).mono ?_
  rintro e W5 ⟨rfl, hm⟩
  have HK5 := Lib.hid (HK4.out.quiet hm)
  clear hm HK4 HD4 x0 x1 x2 x3 x4 x5
  obtain ⟨x0, x1, x2, x3, x4, x5⟩ := HK5.out.cells
  go_wp2_with fail
  refine (HD5.out _ HK5.out).mono ?_
  rintro e W6 ⟨rfl, hm⟩
  have HK6 := Lib.hid (HK5.out.quiet hm)
  clear hm HK5 HD5 x0 x1 x2 x3 x4 x5
  obtain ⟨x0, x1, x2, x3, x4, x5⟩ := HK6.out.cells
  go_wp2_with fail
  refine (HD6.out _ HK6.out).mono ?_
  rintro e W7 ⟨rfl, hm⟩
  have HK7 := Lib.hid (HK6.out.quiet hm)
  clear hm HK6 HD6 x0 x1 x2 x3 x4 x5
  obtain ⟨x0, x1, x2, x3, x4, x5⟩ := HK7.out.cells
  go_wp2_with fail
  refine (HD7.out _ HK7.out).mono ?_
  rintro e W8 ⟨⟨A7, c7, rfl⟩, hm⟩
  have HK8 := Lib.hid (HK7.out.quiet hm)
  clear hm HK7 HD7 x0 x1 x2 x3 x4 x5
  obtain ⟨x0, x1, x2, x3, x4, x5⟩ := HK8.out.cells
  go_wp2_with fail
  refine (HD8.out _ HK8.out).mono ?_
  rintro e W9 ⟨⟨A8, c8, rfl⟩, hm⟩
  have HK9 := Lib.hid (HK8.out.quiet hm)
  clear hm HK8 HD8 x0 x1 x2 x3 x4 x5
  obtain ⟨x0, x1, x2, x3, x4, x5⟩ := HK9.out.cells
  go_wp2_with fail
  refine (HD9.out _ HK9.out).mono ?_
  rintro e W10 ⟨⟨A9, c9, rfl⟩, hm⟩
  have HK10 := Lib.hid (HK9.out.quiet hm)
  clear hm HK9 HD9 x0 x1 x2 x3 x4 x5
  obtain ⟨x0, x1, x2, x3, x4, x5⟩ := HK10.out.cells
  go_wp2_with fail
  refine (HD10.out _ HK10.out).mono ?_
  rintro e W11 ⟨rfl, hm⟩
  have HK11 := Lib.hid (HK10.out.quiet hm)
  clear hm HK10 HD10 x0 x1 x2 x3 x4 x5
  obtain ⟨x0, x1, x2, x3, x4, x5⟩ := HK11.out.cells
  go_wp2_with fail
  refine (HD11.out _ HK11.out).mono ?_
  rintro e W12 ⟨rfl, hm⟩
  have HK12 := Lib.hid (HK11.out.quiet hm)
  clear hm HK11 HD11 x0 x1 x2 x3 x4 x5
  obtain ⟨x0, x1, x2, x3, x4, x5⟩ := HK12.out.cells
  have HE := Lib.hid HK12.out.hl.low
  go_wp2
  go_ret
  exact ⟨rfl, HE.out⟩
theorem pknown_walk (W : World) : Calls Try.prog 6 #[] W fun e w' => e = .returned (.bool true) ∧ Below W.heap.size W w' := pknown_any W
end Go.Proofs.Yteicceikaecfcaa

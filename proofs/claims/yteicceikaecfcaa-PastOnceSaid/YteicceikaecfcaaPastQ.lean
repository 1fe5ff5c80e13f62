/-
  PastOnce.
-/
import Derived.Test.YteicceikaecfcaaPastP
namespace Go.Proofs.Yteicceikaecfcaa
open Go.RowKit Go.Shoal Go.Maps

theorem tk_no {w wr : World} {B n S M qT R : Nat} {tk : Nat → Bool} {x : Int} (hr : thereB tk S n x = false) (h : OnceSt w B n S M qT R (tkUp tk S n x) tk wr) : OnceSt w B n S M qT R tk tk wr := by
  have e : tkUp tk S n x = tk := by
    funext q
    unfold tkUp
    rw [hr]; simp
  rw [e] at h
  exact h
theorem tk_hit {S n q : Nat} {tk : Nat → Bool} (hr : thereB tk S n (q : Int) = true) : tkUp tk S n (q : Int) q = true := by
  unfold tkUp
  rw [hr]; simp
theorem tk_same {S n q : Nat} {tk : Nat → Bool} (hr : thereB tk S n (q : Int) = true) : (fun r => if r = q then true else tk r) = tkUp tk S n (q : Int) := by
  funext r
  unfold tkUp
  rw [hr]
  by_cases h : r = q
  · subst h; simp
  · simp [h]
theorem tk_yes {w wr : World} {B n S M qT R : Nat} {row tk' : Nat → Bool} (e : row = tk') (h : OnceSt w B n S M qT R tk' row wr) : OnceSt w B n S M qT R tk' tk' wr := by
  subst e
  exact h
set_option maxRecDepth 100000 in
set_option maxHeartbeats 8000000 in
theorem once_in (n : Nat) (t : Nat) (v : Value) (zs : List Int) (w : World) (hz : NumsIn .i64 w v zs) (ht : t < 18446744073709551616) (h1 : 2 ≤ n) (h2 : n ≤ 10) (hl : zs.length ≤ 30) :
    Calls Try.prog 5 #[.int .i64 n, .int .u64 t, v] w fun e w' => e = .returned (.bool true) ∧ Below w.heap.size w w' := by
  have HZ := Lib.hid hz
  obtain ⟨A, c, rfl, _, _, _⟩ := hz
  have HA := Lib.hid (awake_any w)
  have HAll := Lib.hid (fun w => all_any (n : Int) w)
  have HOf : Hid (∀ w : World, Calls Try.prog 14 #[.slice (some ⟨w.heap.size, 0, none⟩) 1 1] (w.alloc (.cells #[.int .i64 0] 3)) fun e w' => e = .returned (.int .u64 ((oneOf 0 : Nat) : Int)) ∧ (w.alloc (.cells #[.int .i64 0] 3)) = w') := fun w => of_lone 0 w
  obtain ⟨hb1, hb2⟩ := onceSet_bits t (n : Int) ht
  have HS0 := Lib.hid (onceSet_zero t (n : Int) ht)
  have HSW := Lib.hid (onceSet_within t (n : Int) ht)
  have HSL := Lib.hid (onceSet_lt t (n : Int) ht)
  obtain ⟨S, hS⟩ : ∃ S, S = onceSet t (n : Int) := ⟨_, rfl⟩
  rw [← hS] at hb2 HS0 HSW HSL
  have HSN := Lib.hid (fun x w => has_any S x w HSL.out)
  have tl : decide (30 < (zs.length : Int)) = false := decide_eq_false (by omega)
  clear hS
  go_enter Try.func5, Try.ntmps5
  go_wp2_with fail
  refine HA.out.mono ?_
  rintro e w1 ⟨rfl, hb⟩
  have HB1 := Lib.hid hb
  have HN := Lib.hid (lives_new n w1 (by omega) (by omega))
  clear hb HA
  go_wp2_with fail
  refine HN.out.mono ?_
  rintro e w2 ⟨B, kB, cB, tB, hB, kb, rfl, hL⟩
  have HL2 := Lib.hid (hL.base HB1.out)
  clear hL HN HB1
  go_wp2_with fail
  refine (HAll.out _).mono ?_
  rintro e u ⟨rfl, rfl⟩
  go_wp2_with fail
  refine (HOf.out _).mono ?_
  rintro e u ⟨rfl, rfl⟩
  have HL3 := Lib.hid (HL2.out.alloc (.cells #[.int .i64 0] 3))
  clear HL2 HAll HOf
  cases hS0 : ((S : Int) == 0)
  · have hg : (Pa.born n kB cB tB hB kb).goodTo 0 S = true := by
      show (!(S == 0) && !inSet S ((0 : Nat) : Int) && decide (lessOf S (allOf (n : Int)) = 0)) = true
      have : (S == 0) = false := by rw [beq_eq_false_iff_ne] at hS0 ⊢; omega
      rw [this, HS0.out, HSW.out]; rfl
    have HC : Hid (Calls Try.prog 11 #[.pointer (some ⟨B, 0, none⟩), .int .i64 0, .int .u64 S] (w2.alloc (.cells #[.int .i64 0] 3)) fun e w' => ∃ M av, e = .returned (.tuple #[.agg #[.int .i64 0, .int .u64 1], .int .i64 0]) ∧ Lives w B ((Pa.born n kB cB tB hB kb).sent 0 S M av) w' ∧ _ ∧ _) :=
      lives_send HL3.out 0 S (by show 0 < n; omega) HSL.out hg (by show 0 < 1000; decide)
    clear hg HL3
    go_wp2_with fail
    refine HC.out.mono ?_
    rintro e w3 ⟨M, av, rfl, hL, _, _⟩
    have HL4 := Lib.hid (hL.alloc (.cells #[.int .i64 0, .int .u64 1] 34))
    have HH4 := Lib.hid (Held.new hL (.cells #[.int .i64 0, .int .u64 1] 34))
    have HTo : Hid (Calls Try.prog 18 #[.pointer (some ⟨B, 0, none⟩), .agg #[.int .i64 0, .int .u64 1]] (w3.alloc (.cells #[.int .i64 0, .int .u64 1] 34)) (Told (w3.alloc (.cells #[.int .i64 0, .int .u64 1] 34)) (.int .u64 (S : Int)))) :=
      to_at B ((Pa.born n kB cB tB hB kb).sent 0 S M av) 0 (onceMs S M) _ HL4.out.at' (by rfl)
    obtain ⟨x0, x1⟩ := two_cells HH4.out.here
    have hs1 : ((S : Int) != (S : Int)) = false := by simp
    clear hL HC
    go_wp2_with fail
    refine HTo.out.mono ?_
    rintro e w4 ⟨rfl, hm⟩
    have H0 : Hid (OnceSt w B n S M w4.heap.size w3.heap.size (fun _ => false) (fun _ => false) (w4.alloc (.cells #[.bool false, .bool false, .bool false, .bool false, .bool false, .bool false, .bool false, .bool false, .bool false, .bool false] 47))) :=
      ⟨_, (HL4.out.quiet hm).alloc _, rfl, rfl, fun q _ => rfl, Held.new (HL4.out.quiet hm) _, (HH4.out.quiet hm).alloc _, by have h1 := hm.size; simp at h1; omega, (HL4.out.quiet hm).low.size⟩
    have HR : Hid (w3.heap.size < w4.heap.size) := by have h1 := hm.size; simp at h1; show _ < _; omega
    clear hm HTo HL4 HH4 x0 x1
    go_wp2
    generalize w3.heap.size = R at *
    generalize w4.heap.size = qT at *
    go_loopw [13] (fun i wr => ∃ i' : Nat, i' ≤ zs.length ∧ i = .int .i64 i' ∧ ∃ tk, Hid (OnceSt w B n S M qT R tk tk wr)) (fun i _ => zs.length - (intOf i).toNat)
    case atStart => exact ⟨0, Nat.zero_le _, rfl, _, H0⟩
    case round =>
      obtain ⟨i, hi, rfl, tk, HR2⟩ := hrel
      by_cases hlt : i < zs.length
      · obtain ⟨b, o, rfl, hbz, hcx⟩ := ints_cell HZ.out hlt
        have HX := Lib.hid hcx
        have hxc := hcx _ HR2.out.low
        have hi0 : (0 : Int) ≤ (i : Int) := by omega
        have hi1 : (i : Int) < (zs.length : Int) := by omega
        clear hcx
        generalize zs.getD i 0 = x at *
        by_cases hx0 : 0 ≤ x
        · have t1 : decide (0 ≤ x) = true := decide_eq_true hx0
          by_cases hxn : x < (n : Int)
          · have t2 : decide (x < (n : Int)) = true := decide_eq_true hxn
            obtain ⟨q, hq⟩ : ∃ q : Nat, x = q := ⟨x.toNat, by omega⟩
            have HQ := Lib.hid hq
            have hqn : q < n := by omega
            have HH := Lib.hid (HSN.out x)
            cases hs : inSet S x
            · have hr : thereB tk S n x = false := by unfold thereB; rw [hs]; simp
              rw [hs] at HH
              clear hq
              go_wp2_with fail
              refine (HH.out _).mono ?_
              rintro e u ⟨rfl, rfl⟩
              have HRd := Lib.hid (HR2.out.quiet (Mod.refl _ _).drew)
              have HC := Lib.hid (once_can HRd.out (x))
              rw [hr] at HC
              go_wp2_with fail
              refine wp_region_part (S := fun w' => w'.cell? ⟨b, o + i, none⟩ = some (.int .i64 x) ∧ w'.cell? ⟨R, 0, none⟩ = some (.int .i64 0) ∧ w'.cell? ⟨R, 1, none⟩ = some (.int .u64 1)) [] (by kernel_rfl) ?_ (fun hHeld => ?_)
              · exact ⟨HX.out _ HRd.out.low, HRd.out.box⟩
              refine wpPart_take (i := 0) (oi := { dst := some 99, op := Op.move (Operand.tmp 7), type := 24, pos := "more.go:66", after := #[], guard := none }) (v := ?_) rfl (by kernel_rfl) (by kernel_rfl) (by kernel_rfl) (by kernel_rfl) (by kernel_rfl) (fun _ _ _ h => h) (Or.inl ⟨by rfl, ?_⟩) (by assumption) ?_
              rotate_left
              · intro w hSw; (try dsimp only at hSw); go_simp <;> with_reducible rfl
              try simp only [Act.put, List.setIfInBounds_toArray, List.set_cons_zero, List.set_cons_succ]
              refine wpPart_take (i := 1) (oi := { dst := some 100, op := Op.move (Operand.tmp 2), type := 44, pos := "more.go:66", after := #[], guard := none }) (v := ?_) rfl (by kernel_rfl) (by kernel_rfl) (by kernel_rfl) (by kernel_rfl) (by kernel_rfl) (fun _ _ _ h => h) (Or.inl ⟨by rfl, ?_⟩) (by assumption) ?_
              rotate_left
              · intro w hSw; (try dsimp only at hSw); go_simp <;> with_reducible rfl
              try simp only [Act.put, List.setIfInBounds_toArray, List.set_cons_zero, List.set_cons_succ]
              refine wpPart_take (i := 2) (oi := { dst := some 101, op := Op.move (Operand.tmp 13), type := 3, pos := "more.go:66", after := #[], guard := none }) (v := ?_) rfl (by kernel_rfl) (by kernel_rfl) (by kernel_rfl) (by kernel_rfl) (by kernel_rfl) (fun _ _ _ h => h) (Or.inl ⟨by rfl, ?_⟩) (by assumption) ?_
              rotate_left
              · intro w hSw; (try dsimp only at hSw); go_simp <;> with_reducible rfl
              try simp only [Act.put, List.setIfInBounds_toArray, List.set_cons_zero, List.set_cons_succ]
              refine wpPart_take (i := 3) (oi := { dst := some 102, op := Op.indexAddr 44 (Operand.tmp 100) (Operand.tmp 101), type := 0, pos := "more.go:66", after := #[{ on := 1, ground := Ground.data }, { on := 2, ground := Ground.data }], guard := none }) (v := ?_) rfl (by kernel_rfl) (by kernel_rfl) (by kernel_rfl) (by kernel_rfl) (by kernel_rfl) (fun _ _ _ h => h) (Or.inl ⟨by rfl, ?_⟩) (by assumption) ?_
              rotate_left
              · intro w hSw; (try dsimp only at hSw); go_simp <;> with_reducible rfl
              try simp only [Act.put, List.setIfInBounds_toArray, List.set_cons_zero, List.set_cons_succ]
              refine wpPart_take (i := 4) (oi := { dst := some 103, op := Op.load 3 (Operand.tmp 102), type := 3, pos := "more.go:66", after := #[{ on := 3, ground := Ground.data }], guard := none }) (v := ?_) rfl (by kernel_rfl) (by kernel_rfl) (by kernel_rfl) (by kernel_rfl) (by kernel_rfl) (fun _ _ _ h => h) (Or.inl ⟨by rfl, ?_⟩) (by assumption) ?_
              rotate_left
              · intro w hSw; (try dsimp only at hSw); go_simp <;> with_reducible rfl
              try simp only [Act.put, List.setIfInBounds_toArray, List.set_cons_zero, List.set_cons_succ]
              refine wpPart_take (i := 5) (oi := { dst := some 104, op := Op.load 34 (Operand.tmp 10), type := 34, pos := "more.go:66", after := #[], guard := none }) (v := ?_) rfl (by kernel_rfl) (by kernel_rfl) (by kernel_rfl) (by kernel_rfl) (by kernel_rfl) (fun _ _ _ h => h) (Or.inl ⟨by rfl, ?_⟩) (by assumption) ?_
              rotate_left
              · intro w hSw; (try dsimp only at hSw); go_simp <;> with_reducible rfl
              try simp only [Act.put, List.setIfInBounds_toArray, List.set_cons_zero, List.set_cons_succ]
              refine wpPart_take (i := 7) (oi := { dst := some 106, op := Op.move (Operand.tmp 14), type := 4, pos := "more.go:66", after := #[], guard := none }) (v := ?_) rfl (by kernel_rfl) (by kernel_rfl) (by kernel_rfl) (by kernel_rfl) (by kernel_rfl) (fun _ _ _ h => h) (Or.inl ⟨by rfl, ?_⟩) (by assumption) ?_
              rotate_left
              · intro w hSw; (try dsimp only at hSw); go_simp <;> with_reducible rfl
              try simp only [Act.put, List.setIfInBounds_toArray, List.set_cons_zero, List.set_cons_succ]
              refine wpPart_ready (rs := [6]) (by kernel_rfl) (by simp) ?_
              refine AllPart.cons (o := { dst := some 105, op := Op.call { callee := Callee.value (Operand.func 15), args := #[Operand.tmp 99, Operand.tmp 103, Operand.tmp 104], argTypes := #[24, 3, 34] }, type := 4, pos := "more.go:66", after := #[{ on := 0, ground := Ground.data }, { on := 4, ground := Ground.data }, { on := 5, ground := Ground.data }], guard := none }) rfl (by kernel_rfl) (fun K hK => ?_) AllPart.nil
              go_simp
              go_at_call 15
              refine HC.out.mono ?_
              rintro e u5 ⟨rfl, hst⟩
              have HS5 := Lib.hid hst
              have HT := Lib.hid (once_take hst (x))
              rw [hr] at HT
              refine hK.out _ _ ?_ (fun hHeld => ?_)
              · exact ⟨HX.out _ HS5.out.low, HS5.out.box⟩
              clear hK K
              try simp only [Act.put, List.setIfInBounds_toArray, List.set_cons_zero, List.set_cons_succ]
              clear hst HC
              refine wpPart_take (i := 8) (oi := { dst := some 107, op := Op.binOp BinOp.neq 4 (Operand.tmp 105) (Operand.tmp 106) 4, type := 4, pos := "more.go:66", after := #[{ on := 6, ground := Ground.data }, { on := 7, ground := Ground.data }], guard := none }) (v := ?_) rfl (by kernel_rfl) (by kernel_rfl) (by kernel_rfl) (by kernel_rfl) (by kernel_rfl) (fun _ _ _ h => h) (Or.inl ⟨by rfl, ?_⟩) (by assumption) ?_
              rotate_left
              · intro w hSw; (try dsimp only at hSw); go_simp <;> with_reducible rfl
              try simp only [Act.put, List.setIfInBounds_toArray, List.set_cons_zero, List.set_cons_succ]
              refine wpPart_take (i := 9) (oi := { dst := some 108, op := Op.move (Operand.tmp 107), type := 4, pos := "more.go:66", after := #[{ on := 8, ground := Ground.data }, { on := 6, ground := Ground.chain }], guard := none }) (v := ?_) rfl (by kernel_rfl) (by kernel_rfl) (by kernel_rfl) (by kernel_rfl) (by kernel_rfl) (fun _ _ _ h => h) (Or.inl ⟨by rfl, ?_⟩) (by assumption) ?_
              rotate_left
              · intro w hSw; (try dsimp only at hSw); go_simp <;> with_reducible rfl
              try simp only [Act.put, List.setIfInBounds_toArray, List.set_cons_zero, List.set_cons_succ]
              refine wpPart_take (i := 10) (oi := { dst := some 109, op := Op.move (Operand.tmp 7), type := 24, pos := "more.go:66", after := #[{ on := 9, ground := Ground.guard }], guard := some (9, false) }) (v := ?_) rfl (by kernel_rfl) (by kernel_rfl) (by kernel_rfl) (by kernel_rfl) (by kernel_rfl) (fun _ _ _ h => h) (Or.inl ⟨by rfl, ?_⟩) (by assumption) ?_
              rotate_left
              · intro w hSw; (try dsimp only at hSw); go_simp <;> with_reducible rfl
              try simp only [Act.put, List.setIfInBounds_toArray, List.set_cons_zero, List.set_cons_succ]
              refine wpPart_take (i := 11) (oi := { dst := some 110, op := Op.move (Operand.tmp 2), type := 44, pos := "more.go:66", after := #[{ on := 9, ground := Ground.guard }], guard := some (9, false) }) (v := ?_) rfl (by kernel_rfl) (by kernel_rfl) (by kernel_rfl) (by kernel_rfl) (by kernel_rfl) (fun _ _ _ h => h) (Or.inl ⟨by rfl, ?_⟩) (by assumption) ?_
              rotate_left
              · intro w hSw; (try dsimp only at hSw); go_simp <;> with_reducible rfl
              try simp only [Act.put, List.setIfInBounds_toArray, List.set_cons_zero, List.set_cons_succ]
              refine wpPart_take (i := 12) (oi := { dst := some 111, op := Op.move (Operand.tmp 13), type := 3, pos := "more.go:66", after := #[{ on := 9, ground := Ground.guard }], guard := some (9, false) }) (v := ?_) rfl (by kernel_rfl) (by kernel_rfl) (by kernel_rfl) (by kernel_rfl) (by kernel_rfl) (fun _ _ _ h => h) (Or.inl ⟨by rfl, ?_⟩) (by assumption) ?_
              rotate_left
              · intro w hSw; (try dsimp only at hSw); go_simp <;> with_reducible rfl
              try simp only [Act.put, List.setIfInBounds_toArray, List.set_cons_zero, List.set_cons_succ]
              refine wpPart_take (i := 13) (oi := { dst := some 112, op := Op.indexAddr 44 (Operand.tmp 110) (Operand.tmp 111), type := 0, pos := "more.go:66", after := #[{ on := 11, ground := Ground.data }, { on := 12, ground := Ground.data }, { on := 9, ground := Ground.guard }], guard := some (9, false) }) (v := ?_) rfl (by kernel_rfl) (by kernel_rfl) (by kernel_rfl) (by kernel_rfl) (by kernel_rfl) (fun _ _ _ h => h) (Or.inl ⟨by rfl, ?_⟩) (by assumption) ?_
              rotate_left
              · intro w hSw; (try dsimp only at hSw); go_simp <;> with_reducible rfl
              try simp only [Act.put, List.setIfInBounds_toArray, List.set_cons_zero, List.set_cons_succ]
              refine wpPart_take (i := 14) (oi := { dst := some 113, op := Op.load 3 (Operand.tmp 112), type := 3, pos := "more.go:66", after := #[{ on := 13, ground := Ground.data }, { on := 9, ground := Ground.guard }], guard := some (9, false) }) (v := ?_) rfl (by kernel_rfl) (by kernel_rfl) (by kernel_rfl) (by kernel_rfl) (by kernel_rfl) (fun _ _ _ h => h) (Or.inl ⟨by rfl, ?_⟩) (by assumption) ?_
              rotate_left
              · intro w hSw; (try dsimp only at hSw); go_simp <;> with_reducible rfl
              try simp only [Act.put, List.setIfInBounds_toArray, List.set_cons_zero, List.set_cons_succ]
              refine wpPart_take (i := 15) (oi := { dst := some 114, op := Op.load 34 (Operand.tmp 10), type := 34, pos := "more.go:66", after := #[{ on := 9, ground := Ground.guard }], guard := some (9, false) }) (v := ?_) rfl (by kernel_rfl) (by kernel_rfl) (by kernel_rfl) (by kernel_rfl) (by kernel_rfl) (fun _ _ _ h => h) (Or.inl ⟨by rfl, ?_⟩) (by assumption) ?_
              rotate_left
              · intro w hSw; (try dsimp only at hSw); go_simp <;> with_reducible rfl
              try simp only [Act.put, List.setIfInBounds_toArray, List.set_cons_zero, List.set_cons_succ]
              refine wpPart_take (i := 17) (oi := { dst := some 116, op := Op.move (Operand.tmp 14), type := 4, pos := "more.go:66", after := #[{ on := 9, ground := Ground.guard }], guard := some (9, false) }) (v := ?_) rfl (by kernel_rfl) (by kernel_rfl) (by kernel_rfl) (by kernel_rfl) (by kernel_rfl) (fun _ _ _ h => h) (Or.inl ⟨by rfl, ?_⟩) (by assumption) ?_
              rotate_left
              · intro w hSw; (try dsimp only at hSw); go_simp <;> with_reducible rfl
              try simp only [Act.put, List.setIfInBounds_toArray, List.set_cons_zero, List.set_cons_succ]
              refine wpPart_ready (rs := [16]) (by kernel_rfl) (by simp) ?_
              refine AllPart.cons (o := { dst := some 115, op := Op.call { callee := Callee.value (Operand.func 12), args := #[Operand.tmp 109, Operand.tmp 113, Operand.tmp 114], argTypes := #[24, 3, 34] }, type := 4, pos := "more.go:66", after := #[{ on := 10, ground := Ground.data }, { on := 14, ground := Ground.data }, { on := 15, ground := Ground.data }, { on := 9, ground := Ground.chain }, { on := 9, ground := Ground.guard }], guard := some (9, false) }) rfl (by kernel_rfl) (fun K hK => ?_) AllPart.nil
              go_simp
              go_at_call 12
              refine HT.out.mono ?_
              rintro e u6 ⟨rfl, hst⟩
              have HS6 := Lib.hid hst
              refine hK.out _ _ ?_ (fun hHeld => ?_)
              · exact ⟨HX.out _ HS6.out.low, HS6.out.box⟩
              clear hK K
              try simp only [Act.put, List.setIfInBounds_toArray, List.set_cons_zero, List.set_cons_succ]
              clear hst HT
              refine wpPart_take (i := 18) (oi := { dst := some 117, op := Op.binOp BinOp.neq 4 (Operand.tmp 115) (Operand.tmp 116) 4, type := 4, pos := "more.go:66", after := #[{ on := 16, ground := Ground.data }, { on := 17, ground := Ground.data }, { on := 9, ground := Ground.guard }], guard := some (9, false) }) (v := ?_) rfl (by kernel_rfl) (by kernel_rfl) (by kernel_rfl) (by kernel_rfl) (by kernel_rfl) (fun _ _ _ h => h) (Or.inl ⟨by rfl, ?_⟩) (by assumption) ?_
              rotate_left
              · intro w hSw; (try dsimp only at hSw); go_simp <;> with_reducible rfl
              try simp only [Act.put, List.setIfInBounds_toArray, List.set_cons_zero, List.set_cons_succ]
              refine wpPart_take (i := 19) (oi := { dst := some 118, op := Op.pick (Operand.tmp 108) (Operand.const (Value.bool true)) (Operand.tmp 117), type := 4, pos := "more.go:66", after := #[{ on := 9, ground := Ground.data }, { on := 18, ground := Ground.data }], guard := none }) (v := ?_) rfl (by kernel_rfl) (by kernel_rfl) (by kernel_rfl) (by kernel_rfl) (by kernel_rfl) (fun _ _ _ h => h) (Or.inl ⟨by rfl, ?_⟩) (by assumption) ?_
              rotate_left
              · intro w hSw; (try dsimp only at hSw); go_simp <;> with_reducible rfl
              try simp only [Act.put, List.setIfInBounds_toArray, List.set_cons_zero, List.set_cons_succ]
              refine wpPart_done (by kernel_rfl) ?_ _
              have HN := Lib.hid (tk_no hr HS6.out)
              clear hHeld
              go_wp2
              go_roundw
              case rel => exact ⟨i + 1, by omega, by go_num, _, HN⟩
              case measure => simp [intOf]; omega
            · rw [hs] at HH
              obtain ⟨hnt, hnf⟩ := HR2.out.note q (by omega)
              cases htk : tk q
              · have hr : thereB tk S n x = true := by rw [hq, once_there q hqn, ← hq, hs, htk]; rfl
                rw [htk] at hnt
                subst hq
                clear t1 t2 hs
                have hq0 : (0 : Int) ≤ (q : Int) := by omega
                have hq9 : (q : Int) < 10 := by omega
                have tq : decide (q < n) = true := decide_eq_true hqn
                go_wp2_with fail
                refine (HH.out _).mono ?_
                rintro e u ⟨rfl, rfl⟩
                have HRd := Lib.hid (HR2.out.quiet (Mod.refl _ _).drew)
                have HC := Lib.hid (once_can HRd.out (q : Int))
                rw [hr] at HC
                go_wp2_with fail
                refine wp_region_part (S := fun w' => w'.cell? ⟨b, o + i, none⟩ = some (.int .i64 (q : Int)) ∧ w'.cell? ⟨R, 0, none⟩ = some (.int .i64 0) ∧ w'.cell? ⟨R, 1, none⟩ = some (.int .u64 1)) [] (by kernel_rfl) ?_ (fun hHeld => ?_)
                · exact ⟨HX.out _ HRd.out.low, HRd.out.box⟩
                refine wpPart_take (i := 0) (oi := { dst := some 99, op := Op.move (Operand.tmp 7), type := 24, pos := "more.go:66", after := #[], guard := none }) (v := ?_) rfl (by kernel_rfl) (by kernel_rfl) (by kernel_rfl) (by kernel_rfl) (by kernel_rfl) (fun _ _ _ h => h) (Or.inl ⟨by rfl, ?_⟩) (by assumption) ?_
                rotate_left
                · intro w hSw; (try dsimp only at hSw); go_simp <;> with_reducible rfl
                try simp only [Act.put, List.setIfInBounds_toArray, List.set_cons_zero, List.set_cons_succ]
                refine wpPart_take (i := 1) (oi := { dst := some 100, op := Op.move (Operand.tmp 2), type := 44, pos := "more.go:66", after := #[], guard := none }) (v := ?_) rfl (by kernel_rfl) (by kernel_rfl) (by kernel_rfl) (by kernel_rfl) (by kernel_rfl) (fun _ _ _ h => h) (Or.inl ⟨by rfl, ?_⟩) (by assumption) ?_
                rotate_left
                · intro w hSw; (try dsimp only at hSw); go_simp <;> with_reducible rfl
                try simp only [Act.put, List.setIfInBounds_toArray, List.set_cons_zero, List.set_cons_succ]
                refine wpPart_take (i := 2) (oi := { dst := some 101, op := Op.move (Operand.tmp 13), type := 3, pos := "more.go:66", after := #[], guard := none }) (v := ?_) rfl (by kernel_rfl) (by kernel_rfl) (by kernel_rfl) (by kernel_rfl) (by kernel_rfl) (fun _ _ _ h => h) (Or.inl ⟨by rfl, ?_⟩) (by assumption) ?_
                rotate_left
                · intro w hSw; (try dsimp only at hSw); go_simp <;> with_reducible rfl
                try simp only [Act.put, List.setIfInBounds_toArray, List.set_cons_zero, List.set_cons_succ]
                refine wpPart_take (i := 3) (oi := { dst := some 102, op := Op.indexAddr 44 (Operand.tmp 100) (Operand.tmp 101), type := 0, pos := "more.go:66", after := #[{ on := 1, ground := Ground.data }, { on := 2, ground := Ground.data }], guard := none }) (v := ?_) rfl (by kernel_rfl) (by kernel_rfl) (by kernel_rfl) (by kernel_rfl) (by kernel_rfl) (fun _ _ _ h => h) (Or.inl ⟨by rfl, ?_⟩) (by assumption) ?_
                rotate_left
                · intro w hSw; (try dsimp only at hSw); go_simp <;> with_reducible rfl
                try simp only [Act.put, List.setIfInBounds_toArray, List.set_cons_zero, List.set_cons_succ]
                refine wpPart_take (i := 4) (oi := { dst := some 103, op := Op.load 3 (Operand.tmp 102), type := 3, pos := "more.go:66", after := #[{ on := 3, ground := Ground.data }], guard := none }) (v := ?_) rfl (by kernel_rfl) (by kernel_rfl) (by kernel_rfl) (by kernel_rfl) (by kernel_rfl) (fun _ _ _ h => h) (Or.inl ⟨by rfl, ?_⟩) (by assumption) ?_
                rotate_left
                · intro w hSw; (try dsimp only at hSw); go_simp <;> with_reducible rfl
                try simp only [Act.put, List.setIfInBounds_toArray, List.set_cons_zero, List.set_cons_succ]
                refine wpPart_take (i := 5) (oi := { dst := some 104, op := Op.load 34 (Operand.tmp 10), type := 34, pos := "more.go:66", after := #[], guard := none }) (v := ?_) rfl (by kernel_rfl) (by kernel_rfl) (by kernel_rfl) (by kernel_rfl) (by kernel_rfl) (fun _ _ _ h => h) (Or.inl ⟨by rfl, ?_⟩) (by assumption) ?_
                rotate_left
                · intro w hSw; (try dsimp only at hSw); go_simp <;> with_reducible rfl
                try simp only [Act.put, List.setIfInBounds_toArray, List.set_cons_zero, List.set_cons_succ]
                refine wpPart_take (i := 7) (oi := { dst := some 106, op := Op.move (Operand.tmp 14), type := 4, pos := "more.go:66", after := #[], guard := none }) (v := ?_) rfl (by kernel_rfl) (by kernel_rfl) (by kernel_rfl) (by kernel_rfl) (by kernel_rfl) (fun _ _ _ h => h) (Or.inl ⟨by rfl, ?_⟩) (by assumption) ?_
                rotate_left
                · intro w hSw; (try dsimp only at hSw); go_simp <;> with_reducible rfl
                try simp only [Act.put, List.setIfInBounds_toArray, List.set_cons_zero, List.set_cons_succ]
                refine wpPart_ready (rs := [6]) (by kernel_rfl) (by simp) ?_
                refine AllPart.cons (o := { dst := some 105, op := Op.call { callee := Callee.value (Operand.func 15), args := #[Operand.tmp 99, Operand.tmp 103, Operand.tmp 104], argTypes := #[24, 3, 34] }, type := 4, pos := "more.go:66", after := #[{ on := 0, ground := Ground.data }, { on := 4, ground := Ground.data }, { on := 5, ground := Ground.data }], guard := none }) rfl (by kernel_rfl) (fun K hK => ?_) AllPart.nil
                go_simp
                go_at_call 15
                refine HC.out.mono ?_
                rintro e u5 ⟨rfl, hst⟩
                have HS5 := Lib.hid hst
                have HT := Lib.hid (once_take hst ((q : Int)))
                rw [hr] at HT
                refine hK.out _ _ ?_ (fun hHeld => ?_)
                · exact ⟨HX.out _ HS5.out.low, HS5.out.box⟩
                clear hK K
                try simp only [Act.put, List.setIfInBounds_toArray, List.set_cons_zero, List.set_cons_succ]
                clear hst HC
                refine wpPart_take (i := 8) (oi := { dst := some 107, op := Op.binOp BinOp.neq 4 (Operand.tmp 105) (Operand.tmp 106) 4, type := 4, pos := "more.go:66", after := #[{ on := 6, ground := Ground.data }, { on := 7, ground := Ground.data }], guard := none }) (v := ?_) rfl (by kernel_rfl) (by kernel_rfl) (by kernel_rfl) (by kernel_rfl) (by kernel_rfl) (fun _ _ _ h => h) (Or.inl ⟨by rfl, ?_⟩) (by assumption) ?_
                rotate_left
                · intro w hSw; (try dsimp only at hSw); go_simp <;> with_reducible rfl
                try simp only [Act.put, List.setIfInBounds_toArray, List.set_cons_zero, List.set_cons_succ]
                refine wpPart_take (i := 9) (oi := { dst := some 108, op := Op.move (Operand.tmp 107), type := 4, pos := "more.go:66", after := #[{ on := 8, ground := Ground.data }, { on := 6, ground := Ground.chain }], guard := none }) (v := ?_) rfl (by kernel_rfl) (by kernel_rfl) (by kernel_rfl) (by kernel_rfl) (by kernel_rfl) (fun _ _ _ h => h) (Or.inl ⟨by rfl, ?_⟩) (by assumption) ?_
                rotate_left
                · intro w hSw; (try dsimp only at hSw); go_simp <;> with_reducible rfl
                try simp only [Act.put, List.setIfInBounds_toArray, List.set_cons_zero, List.set_cons_succ]
                refine wpPart_take (i := 10) (oi := { dst := some 109, op := Op.move (Operand.tmp 7), type := 24, pos := "more.go:66", after := #[{ on := 9, ground := Ground.guard }], guard := some (9, false) }) (v := ?_) rfl (by kernel_rfl) (by kernel_rfl) (by kernel_rfl) (by kernel_rfl) (by kernel_rfl) (fun _ _ _ h => h) (Or.inl ⟨by rfl, ?_⟩) (by assumption) ?_
                rotate_left
                · intro w hSw; (try dsimp only at hSw); go_simp <;> with_reducible rfl
                try simp only [Act.put, List.setIfInBounds_toArray, List.set_cons_zero, List.set_cons_succ]
                refine wpPart_take (i := 11) (oi := { dst := some 110, op := Op.move (Operand.tmp 2), type := 44, pos := "more.go:66", after := #[{ on := 9, ground := Ground.guard }], guard := some (9, false) }) (v := ?_) rfl (by kernel_rfl) (by kernel_rfl) (by kernel_rfl) (by kernel_rfl) (by kernel_rfl) (fun _ _ _ h => h) (Or.inl ⟨by rfl, ?_⟩) (by assumption) ?_
                rotate_left
                · intro w hSw; (try dsimp only at hSw); go_simp <;> with_reducible rfl
                try simp only [Act.put, List.setIfInBounds_toArray, List.set_cons_zero, List.set_cons_succ]
                refine wpPart_take (i := 12) (oi := { dst := some 111, op := Op.move (Operand.tmp 13), type := 3, pos := "more.go:66", after := #[{ on := 9, ground := Ground.guard }], guard := some (9, false) }) (v := ?_) rfl (by kernel_rfl) (by kernel_rfl) (by kernel_rfl) (by kernel_rfl) (by kernel_rfl) (fun _ _ _ h => h) (Or.inl ⟨by rfl, ?_⟩) (by assumption) ?_
                rotate_left
                · intro w hSw; (try dsimp only at hSw); go_simp <;> with_reducible rfl
                try simp only [Act.put, List.setIfInBounds_toArray, List.set_cons_zero, List.set_cons_succ]
                refine wpPart_take (i := 13) (oi := { dst := some 112, op := Op.indexAddr 44 (Operand.tmp 110) (Operand.tmp 111), type := 0, pos := "more.go:66", after := #[{ on := 11, ground := Ground.data }, { on := 12, ground := Ground.data }, { on := 9, ground := Ground.guard }], guard := some (9, false) }) (v := ?_) rfl (by kernel_rfl) (by kernel_rfl) (by kernel_rfl) (by kernel_rfl) (by kernel_rfl) (fun _ _ _ h => h) (Or.inl ⟨by rfl, ?_⟩) (by assumption) ?_
                rotate_left
                · intro w hSw; (try dsimp only at hSw); go_simp <;> with_reducible rfl
                try simp only [Act.put, List.setIfInBounds_toArray, List.set_cons_zero, List.set_cons_succ]
                refine wpPart_take (i := 14) (oi := { dst := some 113, op := Op.load 3 (Operand.tmp 112), type := 3, pos := "more.go:66", after := #[{ on := 13, ground := Ground.data }, { on := 9, ground := Ground.guard }], guard := some (9, false) }) (v := ?_) rfl (by kernel_rfl) (by kernel_rfl) (by kernel_rfl) (by kernel_rfl) (by kernel_rfl) (fun _ _ _ h => h) (Or.inl ⟨by rfl, ?_⟩) (by assumption) ?_
                rotate_left
                · intro w hSw; (try dsimp only at hSw); go_simp <;> with_reducible rfl
                try simp only [Act.put, List.setIfInBounds_toArray, List.set_cons_zero, List.set_cons_succ]
                refine wpPart_take (i := 15) (oi := { dst := some 114, op := Op.load 34 (Operand.tmp 10), type := 34, pos := "more.go:66", after := #[{ on := 9, ground := Ground.guard }], guard := some (9, false) }) (v := ?_) rfl (by kernel_rfl) (by kernel_rfl) (by kernel_rfl) (by kernel_rfl) (by kernel_rfl) (fun _ _ _ h => h) (Or.inl ⟨by rfl, ?_⟩) (by assumption) ?_
                rotate_left
                · intro w hSw; (try dsimp only at hSw); go_simp <;> with_reducible rfl
                try simp only [Act.put, List.setIfInBounds_toArray, List.set_cons_zero, List.set_cons_succ]
                refine wpPart_take (i := 17) (oi := { dst := some 116, op := Op.move (Operand.tmp 14), type := 4, pos := "more.go:66", after := #[{ on := 9, ground := Ground.guard }], guard := some (9, false) }) (v := ?_) rfl (by kernel_rfl) (by kernel_rfl) (by kernel_rfl) (by kernel_rfl) (by kernel_rfl) (fun _ _ _ h => h) (Or.inl ⟨by rfl, ?_⟩) (by assumption) ?_
                rotate_left
                · intro w hSw; (try dsimp only at hSw); go_simp <;> with_reducible rfl
                try simp only [Act.put, List.setIfInBounds_toArray, List.set_cons_zero, List.set_cons_succ]
                refine wpPart_ready (rs := [16]) (by kernel_rfl) (by simp) ?_
                refine AllPart.cons (o := { dst := some 115, op := Op.call { callee := Callee.value (Operand.func 12), args := #[Operand.tmp 109, Operand.tmp 113, Operand.tmp 114], argTypes := #[24, 3, 34] }, type := 4, pos := "more.go:66", after := #[{ on := 10, ground := Ground.data }, { on := 14, ground := Ground.data }, { on := 15, ground := Ground.data }, { on := 9, ground := Ground.chain }, { on := 9, ground := Ground.guard }], guard := some (9, false) }) rfl (by kernel_rfl) (fun K hK => ?_) AllPart.nil
                go_simp
                go_at_call 12
                refine HT.out.mono ?_
                rintro e u6 ⟨rfl, hst⟩
                have HS6 := Lib.hid hst
                refine hK.out _ _ ?_ (fun hHeld => ?_)
                · exact ⟨HX.out _ HS6.out.low, HS6.out.box⟩
                clear hK K
                try simp only [Act.put, List.setIfInBounds_toArray, List.set_cons_zero, List.set_cons_succ]
                clear hst HT
                refine wpPart_take (i := 18) (oi := { dst := some 117, op := Op.binOp BinOp.neq 4 (Operand.tmp 115) (Operand.tmp 116) 4, type := 4, pos := "more.go:66", after := #[{ on := 16, ground := Ground.data }, { on := 17, ground := Ground.data }, { on := 9, ground := Ground.guard }], guard := some (9, false) }) (v := ?_) rfl (by kernel_rfl) (by kernel_rfl) (by kernel_rfl) (by kernel_rfl) (by kernel_rfl) (fun _ _ _ h => h) (Or.inl ⟨by rfl, ?_⟩) (by assumption) ?_
                rotate_left
                · intro w hSw; (try dsimp only at hSw); go_simp <;> with_reducible rfl
                try simp only [Act.put, List.setIfInBounds_toArray, List.set_cons_zero, List.set_cons_succ]
                refine wpPart_take (i := 19) (oi := { dst := some 118, op := Op.pick (Operand.tmp 108) (Operand.const (Value.bool true)) (Operand.tmp 117), type := 4, pos := "more.go:66", after := #[{ on := 9, ground := Ground.data }, { on := 18, ground := Ground.data }], guard := none }) (v := ?_) rfl (by kernel_rfl) (by kernel_rfl) (by kernel_rfl) (by kernel_rfl) (by kernel_rfl) (fun _ _ _ h => h) (Or.inl ⟨by rfl, ?_⟩) (by assumption) ?_
                rotate_left
                · intro w hSw; (try dsimp only at hSw); go_simp <;> with_reducible rfl
                try simp only [Act.put, List.setIfInBounds_toArray, List.set_cons_zero, List.set_cons_succ]
                refine wpPart_done (by kernel_rfl) ?_ _
                have HN0 := Lib.hid (once_note HS6.out q (by omega))
                have hqx := HX.out _ HS6.out.low
                obtain ⟨hnt, hnf⟩ := HS6.out.note q (by omega)
                have HXN := Lib.hid (HX.out _ HN0.out.low)
                have HTk := Lib.hid (once_taken HN0.out q hqn (tk_hit hr))
                have HU := Lib.hid (tk_same hr (tk := tk))
                have hbq : b ≠ qT := by have := HS6.out.far; omega
                clear hHeld
                go_wp2_with fail
                have hqx2 := HXN.out
                go_wp2_with fail
                refine HTk.out.mono ?_
                rintro e u7 ⟨⟨A7, c7, rfl⟩, hst⟩
                have HN := Lib.hid (tk_yes HU.out hst)
                clear hst HTk
                go_wp2
                go_roundw
                case rel => exact ⟨i + 1, by omega, by go_num, _, HN⟩
                case measure => simp [intOf]; omega
              · have hr : thereB tk S n x = false := by rw [hq, once_there q hqn, ← hq, hs, htk]; rfl
                rw [htk] at hnt
                subst hq
                clear t1 t2 hs
                have hq0 : (0 : Int) ≤ (q : Int) := by omega
                have hq9 : (q : Int) < 10 := by omega
                have tq : decide (q < n) = true := decide_eq_true hqn
                go_wp2_with fail
                refine (HH.out _).mono ?_
                rintro e u ⟨rfl, rfl⟩
                have HRd := Lib.hid (HR2.out.quiet (Mod.refl _ _).drew)
                have HC := Lib.hid (once_can HRd.out ((q : Int)))
                rw [hr] at HC
                go_wp2_with fail
                refine wp_region_part (S := fun w' => w'.cell? ⟨b, o + i, none⟩ = some (.int .i64 (q : Int)) ∧ w'.cell? ⟨R, 0, none⟩ = some (.int .i64 0) ∧ w'.cell? ⟨R, 1, none⟩ = some (.int .u64 1)) [] (by kernel_rfl) ?_ (fun hHeld => ?_)
                · exact ⟨HX.out _ HRd.out.low, HRd.out.box⟩
                refine wpPart_take (i := 0) (oi := { dst := some 99, op := Op.move (Operand.tmp 7), type := 24, pos := "more.go:66", after := #[], guard := none }) (v := ?_) rfl (by kernel_rfl) (by kernel_rfl) (by kernel_rfl) (by kernel_rfl) (by kernel_rfl) (fun _ _ _ h => h) (Or.inl ⟨by rfl, ?_⟩) (by assumption) ?_
                rotate_left
                · intro w hSw; (try dsimp only at hSw); go_simp <;> with_reducible rfl
                try simp only [Act.put, List.setIfInBounds_toArray, List.set_cons_zero, List.set_cons_succ]
                refine wpPart_take (i := 1) (oi := { dst := some 100, op := Op.move (Operand.tmp 2), type := 44, pos := "more.go:66", after := #[], guard := none }) (v := ?_) rfl (by kernel_rfl) (by kernel_rfl) (by kernel_rfl) (by kernel_rfl) (by kernel_rfl) (fun _ _ _ h => h) (Or.inl ⟨by rfl, ?_⟩) (by assumption) ?_
                rotate_left
                · intro w hSw; (try dsimp only at hSw); go_simp <;> with_reducible rfl
                try simp only [Act.put, List.setIfInBounds_toArray, List.set_cons_zero, List.set_cons_succ]
                refine wpPart_take (i := 2) (oi := { dst := some 101, op := Op.move (Operand.tmp 13), type := 3, pos := "more.go:66", after := #[], guard := none }) (v := ?_) rfl (by kernel_rfl) (by kernel_rfl) (by kernel_rfl) (by kernel_rfl) (by kernel_rfl) (fun _ _ _ h => h) (Or.inl ⟨by rfl, ?_⟩) (by assumption) ?_
                rotate_left
                · intro w hSw; (try dsimp only at hSw); go_simp <;> with_reducible rfl
                try simp only [Act.put, List.setIfInBounds_toArray, List.set_cons_zero, List.set_cons_succ]
                refine wpPart_take (i := 3) (oi := { dst := some 102, op := Op.indexAddr 44 (Operand.tmp 100) (Operand.tmp 101), type := 0, pos := "more.go:66", after := #[{ on := 1, ground := Ground.data }, { on := 2, ground := Ground.data }], guard := none }) (v := ?_) rfl (by kernel_rfl) (by kernel_rfl) (by kernel_rfl) (by kernel_rfl) (by kernel_rfl) (fun _ _ _ h => h) (Or.inl ⟨by rfl, ?_⟩) (by assumption) ?_
                rotate_left
                · intro w hSw; (try dsimp only at hSw); go_simp <;> with_reducible rfl
                try simp only [Act.put, List.setIfInBounds_toArray, List.set_cons_zero, List.set_cons_succ]
                refine wpPart_take (i := 4) (oi := { dst := some 103, op := Op.load 3 (Operand.tmp 102), type := 3, pos := "more.go:66", after := #[{ on := 3, ground := Ground.data }], guard := none }) (v := ?_) rfl (by kernel_rfl) (by kernel_rfl) (by kernel_rfl) (by kernel_rfl) (by kernel_rfl) (fun _ _ _ h => h) (Or.inl ⟨by rfl, ?_⟩) (by assumption) ?_
                rotate_left
                · intro w hSw; (try dsimp only at hSw); go_simp <;> with_reducible rfl
                try simp only [Act.put, List.setIfInBounds_toArray, List.set_cons_zero, List.set_cons_succ]
                refine wpPart_take (i := 5) (oi := { dst := some 104, op := Op.load 34 (Operand.tmp 10), type := 34, pos := "more.go:66", after := #[], guard := none }) (v := ?_) rfl (by kernel_rfl) (by kernel_rfl) (by kernel_rfl) (by kernel_rfl) (by kernel_rfl) (fun _ _ _ h => h) (Or.inl ⟨by rfl, ?_⟩) (by assumption) ?_
                rotate_left
                · intro w hSw; (try dsimp only at hSw); go_simp <;> with_reducible rfl
                try simp only [Act.put, List.setIfInBounds_toArray, List.set_cons_zero, List.set_cons_succ]
                refine wpPart_take (i := 7) (oi := { dst := some 106, op := Op.move (Operand.tmp 14), type := 4, pos := "more.go:66", after := #[], guard := none }) (v := ?_) rfl (by kernel_rfl) (by kernel_rfl) (by kernel_rfl) (by kernel_rfl) (by kernel_rfl) (fun _ _ _ h => h) (Or.inl ⟨by rfl, ?_⟩) (by assumption) ?_
                rotate_left
                · intro w hSw; (try dsimp only at hSw); go_simp <;> with_reducible rfl
                try simp only [Act.put, List.setIfInBounds_toArray, List.set_cons_zero, List.set_cons_succ]
                refine wpPart_ready (rs := [6]) (by kernel_rfl) (by simp) ?_
                refine AllPart.cons (o := { dst := some 105, op := Op.call { callee := Callee.value (Operand.func 15), args := #[Operand.tmp 99, Operand.tmp 103, Operand.tmp 104], argTypes := #[24, 3, 34] }, type := 4, pos := "more.go:66", after := #[{ on := 0, ground := Ground.data }, { on := 4, ground := Ground.data }, { on := 5, ground := Ground.data }], guard := none }) rfl (by kernel_rfl) (fun K hK => ?_) AllPart.nil
                go_simp
                go_at_call 15
                refine HC.out.mono ?_
                rintro e u5 ⟨rfl, hst⟩
                have HS5 := Lib.hid hst
                have HT := Lib.hid (once_take hst ((q : Int)))
                rw [hr] at HT
                refine hK.out _ _ ?_ (fun hHeld => ?_)
                · exact ⟨HX.out _ HS5.out.low, HS5.out.box⟩
                clear hK K
                try simp only [Act.put, List.setIfInBounds_toArray, List.set_cons_zero, List.set_cons_succ]
                clear hst HC
                refine wpPart_take (i := 8) (oi := { dst := some 107, op := Op.binOp BinOp.neq 4 (Operand.tmp 105) (Operand.tmp 106) 4, type := 4, pos := "more.go:66", after := #[{ on := 6, ground := Ground.data }, { on := 7, ground := Ground.data }], guard := none }) (v := ?_) rfl (by kernel_rfl) (by kernel_rfl) (by kernel_rfl) (by kernel_rfl) (by kernel_rfl) (fun _ _ _ h => h) (Or.inl ⟨by rfl, ?_⟩) (by assumption) ?_
                rotate_left
                · intro w hSw; (try dsimp only at hSw); go_simp <;> with_reducible rfl
                try simp only [Act.put, List.setIfInBounds_toArray, List.set_cons_zero, List.set_cons_succ]
                refine wpPart_take (i := 9) (oi := { dst := some 108, op := Op.move (Operand.tmp 107), type := 4, pos := "more.go:66", after := #[{ on := 8, ground := Ground.data }, { on := 6, ground := Ground.chain }], guard := none }) (v := ?_) rfl (by kernel_rfl) (by kernel_rfl) (by kernel_rfl) (by kernel_rfl) (by kernel_rfl) (fun _ _ _ h => h) (Or.inl ⟨by rfl, ?_⟩) (by assumption) ?_
                rotate_left
                · intro w hSw; (try dsimp only at hSw); go_simp <;> with_reducible rfl
                try simp only [Act.put, List.setIfInBounds_toArray, List.set_cons_zero, List.set_cons_succ]
                refine wpPart_take (i := 10) (oi := { dst := some 109, op := Op.move (Operand.tmp 7), type := 24, pos := "more.go:66", after := #[{ on := 9, ground := Ground.guard }], guard := some (9, false) }) (v := ?_) rfl (by kernel_rfl) (by kernel_rfl) (by kernel_rfl) (by kernel_rfl) (by kernel_rfl) (fun _ _ _ h => h) (Or.inl ⟨by rfl, ?_⟩) (by assumption) ?_
                rotate_left
                · intro w hSw; (try dsimp only at hSw); go_simp <;> with_reducible rfl
                try simp only [Act.put, List.setIfInBounds_toArray, List.set_cons_zero, List.set_cons_succ]
                refine wpPart_take (i := 11) (oi := { dst := some 110, op := Op.move (Operand.tmp 2), type := 44, pos := "more.go:66", after := #[{ on := 9, ground := Ground.guard }], guard := some (9, false) }) (v := ?_) rfl (by kernel_rfl) (by kernel_rfl) (by kernel_rfl) (by kernel_rfl) (by kernel_rfl) (fun _ _ _ h => h) (Or.inl ⟨by rfl, ?_⟩) (by assumption) ?_
                rotate_left
                · intro w hSw; (try dsimp only at hSw); go_simp <;> with_reducible rfl
                try simp only [Act.put, List.setIfInBounds_toArray, List.set_cons_zero, List.set_cons_succ]
                refine wpPart_take (i := 12) (oi := { dst := some 111, op := Op.move (Operand.tmp 13), type := 3, pos := "more.go:66", after := #[{ on := 9, ground := Ground.guard }], guard := some (9, false) }) (v := ?_) rfl (by kernel_rfl) (by kernel_rfl) (by kernel_rfl) (by kernel_rfl) (by kernel_rfl) (fun _ _ _ h => h) (Or.inl ⟨by rfl, ?_⟩) (by assumption) ?_
                rotate_left
                · intro w hSw; (try dsimp only at hSw); go_simp <;> with_reducible rfl
                try simp only [Act.put, List.setIfInBounds_toArray, List.set_cons_zero, List.set_cons_succ]
                refine wpPart_take (i := 13) (oi := { dst := some 112, op := Op.indexAddr 44 (Operand.tmp 110) (Operand.tmp 111), type := 0, pos := "more.go:66", after := #[{ on := 11, ground := Ground.data }, { on := 12, ground := Ground.data }, { on := 9, ground := Ground.guard }], guard := some (9, false) }) (v := ?_) rfl (by kernel_rfl) (by kernel_rfl) (by kernel_rfl) (by kernel_rfl) (by kernel_rfl) (fun _ _ _ h => h) (Or.inl ⟨by rfl, ?_⟩) (by assumption) ?_
                rotate_left
                · intro w hSw; (try dsimp only at hSw); go_simp <;> with_reducible rfl
                try simp only [Act.put, List.setIfInBounds_toArray, List.set_cons_zero, List.set_cons_succ]
                refine wpPart_take (i := 14) (oi := { dst := some 113, op := Op.load 3 (Operand.tmp 112), type := 3, pos := "more.go:66", after := #[{ on := 13, ground := Ground.data }, { on := 9, ground := Ground.guard }], guard := some (9, false) }) (v := ?_) rfl (by kernel_rfl) (by kernel_rfl) (by kernel_rfl) (by kernel_rfl) (by kernel_rfl) (fun _ _ _ h => h) (Or.inl ⟨by rfl, ?_⟩) (by assumption) ?_
                rotate_left
                · intro w hSw; (try dsimp only at hSw); go_simp <;> with_reducible rfl
                try simp only [Act.put, List.setIfInBounds_toArray, List.set_cons_zero, List.set_cons_succ]
                refine wpPart_take (i := 15) (oi := { dst := some 114, op := Op.load 34 (Operand.tmp 10), type := 34, pos := "more.go:66", after := #[{ on := 9, ground := Ground.guard }], guard := some (9, false) }) (v := ?_) rfl (by kernel_rfl) (by kernel_rfl) (by kernel_rfl) (by kernel_rfl) (by kernel_rfl) (fun _ _ _ h => h) (Or.inl ⟨by rfl, ?_⟩) (by assumption) ?_
                rotate_left
                · intro w hSw; (try dsimp only at hSw); go_simp <;> with_reducible rfl
                try simp only [Act.put, List.setIfInBounds_toArray, List.set_cons_zero, List.set_cons_succ]
                refine wpPart_take (i := 17) (oi := { dst := some 116, op := Op.move (Operand.tmp 14), type := 4, pos := "more.go:66", after := #[{ on := 9, ground := Ground.guard }], guard := some (9, false) }) (v := ?_) rfl (by kernel_rfl) (by kernel_rfl) (by kernel_rfl) (by kernel_rfl) (by kernel_rfl) (fun _ _ _ h => h) (Or.inl ⟨by rfl, ?_⟩) (by assumption) ?_
                rotate_left
                · intro w hSw; (try dsimp only at hSw); go_simp <;> with_reducible rfl
                try simp only [Act.put, List.setIfInBounds_toArray, List.set_cons_zero, List.set_cons_succ]
                refine wpPart_ready (rs := [16]) (by kernel_rfl) (by simp) ?_
                refine AllPart.cons (o := { dst := some 115, op := Op.call { callee := Callee.value (Operand.func 12), args := #[Operand.tmp 109, Operand.tmp 113, Operand.tmp 114], argTypes := #[24, 3, 34] }, type := 4, pos := "more.go:66", after := #[{ on := 10, ground := Ground.data }, { on := 14, ground := Ground.data }, { on := 15, ground := Ground.data }, { on := 9, ground := Ground.chain }, { on := 9, ground := Ground.guard }], guard := some (9, false) }) rfl (by kernel_rfl) (fun K hK => ?_) AllPart.nil
                go_simp
                go_at_call 12
                refine HT.out.mono ?_
                rintro e u6 ⟨rfl, hst⟩
                have HS6 := Lib.hid hst
                refine hK.out _ _ ?_ (fun hHeld => ?_)
                · exact ⟨HX.out _ HS6.out.low, HS6.out.box⟩
                clear hK K
                try simp only [Act.put, List.setIfInBounds_toArray, List.set_cons_zero, List.set_cons_succ]
                clear hst HT
                refine wpPart_take (i := 18) (oi := { dst := some 117, op := Op.binOp BinOp.neq 4 (Operand.tmp 115) (Operand.tmp 116) 4, type := 4, pos := "more.go:66", after := #[{ on := 16, ground := Ground.data }, { on := 17, ground := Ground.data }, { on := 9, ground := Ground.guard }], guard := some (9, false) }) (v := ?_) rfl (by kernel_rfl) (by kernel_rfl) (by kernel_rfl) (by kernel_rfl) (by kernel_rfl) (fun _ _ _ h => h) (Or.inl ⟨by rfl, ?_⟩) (by assumption) ?_
                rotate_left
                · intro w hSw; (try dsimp only at hSw); go_simp <;> with_reducible rfl
                try simp only [Act.put, List.setIfInBounds_toArray, List.set_cons_zero, List.set_cons_succ]
                refine wpPart_take (i := 19) (oi := { dst := some 118, op := Op.pick (Operand.tmp 108) (Operand.const (Value.bool true)) (Operand.tmp 117), type := 4, pos := "more.go:66", after := #[{ on := 9, ground := Ground.data }, { on := 18, ground := Ground.data }], guard := none }) (v := ?_) rfl (by kernel_rfl) (by kernel_rfl) (by kernel_rfl) (by kernel_rfl) (by kernel_rfl) (fun _ _ _ h => h) (Or.inl ⟨by rfl, ?_⟩) (by assumption) ?_
                rotate_left
                · intro w hSw; (try dsimp only at hSw); go_simp <;> with_reducible rfl
                try simp only [Act.put, List.setIfInBounds_toArray, List.set_cons_zero, List.set_cons_succ]
                refine wpPart_done (by kernel_rfl) ?_ _
                have HN := Lib.hid (tk_no hr HS6.out)
                clear hHeld
                go_wp2
                go_roundw
                case rel => exact ⟨i + 1, by omega, by go_num, _, HN⟩
                case measure => simp [intOf]; omega
          · have t2 : decide (x < (n : Int)) = false := decide_eq_false hxn
            have hr : thereB tk S n x = false := by unfold thereB; rw [t2]; simp
            have HRd := Lib.hid (HR2.out.quiet (Mod.refl _ _).drew)
            have HC := Lib.hid (once_can HRd.out (x))
            rw [hr] at HC
            go_wp2_with fail
            refine wp_region_part (S := fun w' => w'.cell? ⟨b, o + i, none⟩ = some (.int .i64 x) ∧ w'.cell? ⟨R, 0, none⟩ = some (.int .i64 0) ∧ w'.cell? ⟨R, 1, none⟩ = some (.int .u64 1)) [] (by kernel_rfl) ?_ (fun hHeld => ?_)
            · exact ⟨HX.out _ HRd.out.low, HRd.out.box⟩
            refine wpPart_take (i := 0) (oi := { dst := some 99, op := Op.move (Operand.tmp 7), type := 24, pos := "more.go:66", after := #[], guard := none }) (v := ?_) rfl (by kernel_rfl) (by kernel_rfl) (by kernel_rfl) (by kernel_rfl) (by kernel_rfl) (fun _ _ _ h => h) (Or.inl ⟨by rfl, ?_⟩) (by assumption) ?_
            rotate_left
            · intro w hSw; (try dsimp only at hSw); go_simp <;> with_reducible rfl
            try simp only [Act.put, List.setIfInBounds_toArray, List.set_cons_zero, List.set_cons_succ]
            refine wpPart_take (i := 1) (oi := { dst := some 100, op := Op.move (Operand.tmp 2), type := 44, pos := "more.go:66", after := #[], guard := none }) (v := ?_) rfl (by kernel_rfl) (by kernel_rfl) (by kernel_rfl) (by kernel_rfl) (by kernel_rfl) (fun _ _ _ h => h) (Or.inl ⟨by rfl, ?_⟩) (by assumption) ?_
            rotate_left
            · intro w hSw; (try dsimp only at hSw); go_simp <;> with_reducible rfl
            try simp only [Act.put, List.setIfInBounds_toArray, List.set_cons_zero, List.set_cons_succ]
            refine wpPart_take (i := 2) (oi := { dst := some 101, op := Op.move (Operand.tmp 13), type := 3, pos := "more.go:66", after := #[], guard := none }) (v := ?_) rfl (by kernel_rfl) (by kernel_rfl) (by kernel_rfl) (by kernel_rfl) (by kernel_rfl) (fun _ _ _ h => h) (Or.inl ⟨by rfl, ?_⟩) (by assumption) ?_
            rotate_left
            · intro w hSw; (try dsimp only at hSw); go_simp <;> with_reducible rfl
            try simp only [Act.put, List.setIfInBounds_toArray, List.set_cons_zero, List.set_cons_succ]
            refine wpPart_take (i := 3) (oi := { dst := some 102, op := Op.indexAddr 44 (Operand.tmp 100) (Operand.tmp 101), type := 0, pos := "more.go:66", after := #[{ on := 1, ground := Ground.data }, { on := 2, ground := Ground.data }], guard := none }) (v := ?_) rfl (by kernel_rfl) (by kernel_rfl) (by kernel_rfl) (by kernel_rfl) (by kernel_rfl) (fun _ _ _ h => h) (Or.inl ⟨by rfl, ?_⟩) (by assumption) ?_
            rotate_left
            · intro w hSw; (try dsimp only at hSw); go_simp <;> with_reducible rfl
            try simp only [Act.put, List.setIfInBounds_toArray, List.set_cons_zero, List.set_cons_succ]
            refine wpPart_take (i := 4) (oi := { dst := some 103, op := Op.load 3 (Operand.tmp 102), type := 3, pos := "more.go:66", after := #[{ on := 3, ground := Ground.data }], guard := none }) (v := ?_) rfl (by kernel_rfl) (by kernel_rfl) (by kernel_rfl) (by kernel_rfl) (by kernel_rfl) (fun _ _ _ h => h) (Or.inl ⟨by rfl, ?_⟩) (by assumption) ?_
            rotate_left
            · intro w hSw; (try dsimp only at hSw); go_simp <;> with_reducible rfl
            try simp only [Act.put, List.setIfInBounds_toArray, List.set_cons_zero, List.set_cons_succ]
            refine wpPart_take (i := 5) (oi := { dst := some 104, op := Op.load 34 (Operand.tmp 10), type := 34, pos := "more.go:66", after := #[], guard := none }) (v := ?_) rfl (by kernel_rfl) (by kernel_rfl) (by kernel_rfl) (by kernel_rfl) (by kernel_rfl) (fun _ _ _ h => h) (Or.inl ⟨by rfl, ?_⟩) (by assumption) ?_
            rotate_left
            · intro w hSw; (try dsimp only at hSw); go_simp <;> with_reducible rfl
            try simp only [Act.put, List.setIfInBounds_toArray, List.set_cons_zero, List.set_cons_succ]
            refine wpPart_take (i := 7) (oi := { dst := some 106, op := Op.move (Operand.tmp 14), type := 4, pos := "more.go:66", after := #[], guard := none }) (v := ?_) rfl (by kernel_rfl) (by kernel_rfl) (by kernel_rfl) (by kernel_rfl) (by kernel_rfl) (fun _ _ _ h => h) (Or.inl ⟨by rfl, ?_⟩) (by assumption) ?_
            rotate_left
            · intro w hSw; (try dsimp only at hSw); go_simp <;> with_reducible rfl
            try simp only [Act.put, List.setIfInBounds_toArray, List.set_cons_zero, List.set_cons_succ]
            refine wpPart_ready (rs := [6]) (by kernel_rfl) (by simp) ?_
            refine AllPart.cons (o := { dst := some 105, op := Op.call { callee := Callee.value (Operand.func 15), args := #[Operand.tmp 99, Operand.tmp 103, Operand.tmp 104], argTypes := #[24, 3, 34] }, type := 4, pos := "more.go:66", after := #[{ on := 0, ground := Ground.data }, { on := 4, ground := Ground.data }, { on := 5, ground := Ground.data }], guard := none }) rfl (by kernel_rfl) (fun K hK => ?_) AllPart.nil
            go_simp
            go_at_call 15
            refine HC.out.mono ?_
            rintro e u5 ⟨rfl, hst⟩
            have HS5 := Lib.hid hst
            have HT := Lib.hid (once_take hst (x))
            rw [hr] at HT
            refine hK.out _ _ ?_ (fun hHeld => ?_)
            · exact ⟨HX.out _ HS5.out.low, HS5.out.box⟩
            clear hK K
            try simp only [Act.put, List.setIfInBounds_toArray, List.set_cons_zero, List.set_cons_succ]
            clear hst HC
            refine wpPart_take (i := 8) (oi := { dst := some 107, op := Op.binOp BinOp.neq 4 (Operand.tmp 105) (Operand.tmp 106) 4, type := 4, pos := "more.go:66", after := #[{ on := 6, ground := Ground.data }, { on := 7, ground := Ground.data }], guard := none }) (v := ?_) rfl (by kernel_rfl) (by kernel_rfl) (by kernel_rfl) (by kernel_rfl) (by kernel_rfl) (fun _ _ _ h => h) (Or.inl ⟨by rfl, ?_⟩) (by assumption) ?_
            rotate_left
            · intro w hSw; (try dsimp only at hSw); go_simp <;> with_reducible rfl
            try simp only [Act.put, List.setIfInBounds_toArray, List.set_cons_zero, List.set_cons_succ]
            refine wpPart_take (i := 9) (oi := { dst := some 108, op := Op.move (Operand.tmp 107), type := 4, pos := "more.go:66", after := #[{ on := 8, ground := Ground.data }, { on := 6, ground := Ground.chain }], guard := none }) (v := ?_) rfl (by kernel_rfl) (by kernel_rfl) (by kernel_rfl) (by kernel_rfl) (by kernel_rfl) (fun _ _ _ h => h) (Or.inl ⟨by rfl, ?_⟩) (by assumption) ?_
            rotate_left
            · intro w hSw; (try dsimp only at hSw); go_simp <;> with_reducible rfl
            try simp only [Act.put, List.setIfInBounds_toArray, List.set_cons_zero, List.set_cons_succ]
            refine wpPart_take (i := 10) (oi := { dst := some 109, op := Op.move (Operand.tmp 7), type := 24, pos := "more.go:66", after := #[{ on := 9, ground := Ground.guard }], guard := some (9, false) }) (v := ?_) rfl (by kernel_rfl) (by kernel_rfl) (by kernel_rfl) (by kernel_rfl) (by kernel_rfl) (fun _ _ _ h => h) (Or.inl ⟨by rfl, ?_⟩) (by assumption) ?_
            rotate_left
            · intro w hSw; (try dsimp only at hSw); go_simp <;> with_reducible rfl
            try simp only [Act.put, List.setIfInBounds_toArray, List.set_cons_zero, List.set_cons_succ]
            refine wpPart_take (i := 11) (oi := { dst := some 110, op := Op.move (Operand.tmp 2), type := 44, pos := "more.go:66", after := #[{ on := 9, ground := Ground.guard }], guard := some (9, false) }) (v := ?_) rfl (by kernel_rfl) (by kernel_rfl) (by kernel_rfl) (by kernel_rfl) (by kernel_rfl) (fun _ _ _ h => h) (Or.inl ⟨by rfl, ?_⟩) (by assumption) ?_
            rotate_left
            · intro w hSw; (try dsimp only at hSw); go_simp <;> with_reducible rfl
            try simp only [Act.put, List.setIfInBounds_toArray, List.set_cons_zero, List.set_cons_succ]
            refine wpPart_take (i := 12) (oi := { dst := some 111, op := Op.move (Operand.tmp 13), type := 3, pos := "more.go:66", after := #[{ on := 9, ground := Ground.guard }], guard := some (9, false) }) (v := ?_) rfl (by kernel_rfl) (by kernel_rfl) (by kernel_rfl) (by kernel_rfl) (by kernel_rfl) (fun _ _ _ h => h) (Or.inl ⟨by rfl, ?_⟩) (by assumption) ?_
            rotate_left
            · intro w hSw; (try dsimp only at hSw); go_simp <;> with_reducible rfl
            try simp only [Act.put, List.setIfInBounds_toArray, List.set_cons_zero, List.set_cons_succ]
            refine wpPart_take (i := 13) (oi := { dst := some 112, op := Op.indexAddr 44 (Operand.tmp 110) (Operand.tmp 111), type := 0, pos := "more.go:66", after := #[{ on := 11, ground := Ground.data }, { on := 12, ground := Ground.data }, { on := 9, ground := Ground.guard }], guard := some (9, false) }) (v := ?_) rfl (by kernel_rfl) (by kernel_rfl) (by kernel_rfl) (by kernel_rfl) (by kernel_rfl) (fun _ _ _ h => h) (Or.inl ⟨by rfl, ?_⟩) (by assumption) ?_
            rotate_left
            · intro w hSw; (try dsimp only at hSw); go_simp <;> with_reducible rfl
            try simp only [Act.put, List.setIfInBounds_toArray, List.set_cons_zero, List.set_cons_succ]
            refine wpPart_take (i := 14) (oi := { dst := some 113, op := Op.load 3 (Operand.tmp 112), type := 3, pos := "more.go:66", after := #[{ on := 13, ground := Ground.data }, { on := 9, ground := Ground.guard }], guard := some (9, false) }) (v := ?_) rfl (by kernel_rfl) (by kernel_rfl) (by kernel_rfl) (by kernel_rfl) (by kernel_rfl) (fun _ _ _ h => h) (Or.inl ⟨by rfl, ?_⟩) (by assumption) ?_
            rotate_left
            · intro w hSw; (try dsimp only at hSw); go_simp <;> with_reducible rfl
            try simp only [Act.put, List.setIfInBounds_toArray, List.set_cons_zero, List.set_cons_succ]
            refine wpPart_take (i := 15) (oi := { dst := some 114, op := Op.load 34 (Operand.tmp 10), type := 34, pos := "more.go:66", after := #[{ on := 9, ground := Ground.guard }], guard := some (9, false) }) (v := ?_) rfl (by kernel_rfl) (by kernel_rfl) (by kernel_rfl) (by kernel_rfl) (by kernel_rfl) (fun _ _ _ h => h) (Or.inl ⟨by rfl, ?_⟩) (by assumption) ?_
            rotate_left
            · intro w hSw; (try dsimp only at hSw); go_simp <;> with_reducible rfl
            try simp only [Act.put, List.setIfInBounds_toArray, List.set_cons_zero, List.set_cons_succ]
            refine wpPart_take (i := 17) (oi := { dst := some 116, op := Op.move (Operand.tmp 14), type := 4, pos := "more.go:66", after := #[{ on := 9, ground := Ground.guard }], guard := some (9, false) }) (v := ?_) rfl (by kernel_rfl) (by kernel_rfl) (by kernel_rfl) (by kernel_rfl) (by kernel_rfl) (fun _ _ _ h => h) (Or.inl ⟨by rfl, ?_⟩) (by assumption) ?_
            rotate_left
            · intro w hSw; (try dsimp only at hSw); go_simp <;> with_reducible rfl
            try simp only [Act.put, List.setIfInBounds_toArray, List.set_cons_zero, List.set_cons_succ]
            refine wpPart_ready (rs := [16]) (by kernel_rfl) (by simp) ?_
            refine AllPart.cons (o := { dst := some 115, op := Op.call { callee := Callee.value (Operand.func 12), args := #[Operand.tmp 109, Operand.tmp 113, Operand.tmp 114], argTypes := #[24, 3, 34] }, type := 4, pos := "more.go:66", after := #[{ on := 10, ground := Ground.data }, { on := 14, ground := Ground.data }, { on := 15, ground := Ground.data }, { on := 9, ground := Ground.chain }, { on := 9, ground := Ground.guard }], guard := some (9, false) }) rfl (by kernel_rfl) (fun K hK => ?_) AllPart.nil
            go_simp
            go_at_call 12
            refine HT.out.mono ?_
            rintro e u6 ⟨rfl, hst⟩
            have HS6 := Lib.hid hst
            refine hK.out _ _ ?_ (fun hHeld => ?_)
            · exact ⟨HX.out _ HS6.out.low, HS6.out.box⟩
            clear hK K
            try simp only [Act.put, List.setIfInBounds_toArray, List.set_cons_zero, List.set_cons_succ]
            clear hst HT
            refine wpPart_take (i := 18) (oi := { dst := some 117, op := Op.binOp BinOp.neq 4 (Operand.tmp 115) (Operand.tmp 116) 4, type := 4, pos := "more.go:66", after := #[{ on := 16, ground := Ground.data }, { on := 17, ground := Ground.data }, { on := 9, ground := Ground.guard }], guard := some (9, false) }) (v := ?_) rfl (by kernel_rfl) (by kernel_rfl) (by kernel_rfl) (by kernel_rfl) (by kernel_rfl) (fun _ _ _ h => h) (Or.inl ⟨by rfl, ?_⟩) (by assumption) ?_
            rotate_left
            · intro w hSw; (try dsimp only at hSw); go_simp <;> with_reducible rfl
            try simp only [Act.put, List.setIfInBounds_toArray, List.set_cons_zero, List.set_cons_succ]
            refine wpPart_take (i := 19) (oi := { dst := some 118, op := Op.pick (Operand.tmp 108) (Operand.const (Value.bool true)) (Operand.tmp 117), type := 4, pos := "more.go:66", after := #[{ on := 9, ground := Ground.data }, { on := 18, ground := Ground.data }], guard := none }) (v := ?_) rfl (by kernel_rfl) (by kernel_rfl) (by kernel_rfl) (by kernel_rfl) (by kernel_rfl) (fun _ _ _ h => h) (Or.inl ⟨by rfl, ?_⟩) (by assumption) ?_
            rotate_left
            · intro w hSw; (try dsimp only at hSw); go_simp <;> with_reducible rfl
            try simp only [Act.put, List.setIfInBounds_toArray, List.set_cons_zero, List.set_cons_succ]
            refine wpPart_done (by kernel_rfl) ?_ _
            have HN := Lib.hid (tk_no hr HS6.out)
            clear hHeld
            go_wp2
            go_roundw
            case rel => exact ⟨i + 1, by omega, by go_num, _, HN⟩
            case measure => simp [intOf]; omega
        · have t1 : decide (0 ≤ x) = false := decide_eq_false hx0
          have hr : thereB tk S n x = false := by unfold thereB; rw [t1]; simp
          have HRd := Lib.hid (HR2.out.quiet (Mod.refl _ _).drew)
          have HC := Lib.hid (once_can HRd.out (x))
          rw [hr] at HC
          go_wp2_with fail
          refine wp_region_part (S := fun w' => w'.cell? ⟨b, o + i, none⟩ = some (.int .i64 x) ∧ w'.cell? ⟨R, 0, none⟩ = some (.int .i64 0) ∧ w'.cell? ⟨R, 1, none⟩ = some (.int .u64 1)) [] (by kernel_rfl) ?_ (fun hHeld => ?_)
          · exact ⟨HX.out _ HRd.out.low, HRd.out.box⟩
          refine wpPart_take (i := 0) (oi := { dst := some 99, op := Op.move (Operand.tmp 7), type := 24, pos := "more.go:66", after := #[], guard := none }) (v := ?_) rfl (by kernel_rfl) (by kernel_rfl) (by kernel_rfl) (by kernel_rfl) (by kernel_rfl) (fun _ _ _ h => h) (Or.inl ⟨by rfl, ?_⟩) (by assumption) ?_
          rotate_left
          · intro w hSw; (try dsimp only at hSw); go_simp <;> with_reducible rfl
          try simp only [Act.put, List.setIfInBounds_toArray, List.set_cons_zero, List.set_cons_succ]
          refine wpPart_take (i := 1) (oi := { dst := some 100, op := Op.move (Operand.tmp 2), type := 44, pos := "more.go:66", after := #[], guard := none }) (v := ?_) rfl (by kernel_rfl) (by kernel_rfl) (by kernel_rfl) (by kernel_rfl) (by kernel_rfl) (fun _ _ _ h => h) (Or.inl ⟨by rfl, ?_⟩) (by assumption) ?_
          rotate_left
          · intro w hSw; (try dsimp only at hSw); go_simp <;> with_reducible rfl
          try simp only [Act.put, List.setIfInBounds_toArray, List.set_cons_zero, List.set_cons_succ]
          refine wpPart_take (i := 2) (oi := { dst := some 101, op := Op.move (Operand.tmp 13), type := 3, pos := "more.go:66", after := #[], guard := none }) (v := ?_) rfl (by kernel_rfl) (by kernel_rfl) (by kernel_rfl) (by kernel_rfl) (by kernel_rfl) (fun _ _ _ h => h) (Or.inl ⟨by rfl, ?_⟩) (by assumption) ?_
          rotate_left
          · intro w hSw; (try dsimp only at hSw); go_simp <;> with_reducible rfl
          try simp only [Act.put, List.setIfInBounds_toArray, List.set_cons_zero, List.set_cons_succ]
          refine wpPart_take (i := 3) (oi := { dst := some 102, op := Op.indexAddr 44 (Operand.tmp 100) (Operand.tmp 101), type := 0, pos := "more.go:66", after := #[{ on := 1, ground := Ground.data }, { on := 2, ground := Ground.data }], guard := none }) (v := ?_) rfl (by kernel_rfl) (by kernel_rfl) (by kernel_rfl) (by kernel_rfl) (by kernel_rfl) (fun _ _ _ h => h) (Or.inl ⟨by rfl, ?_⟩) (by assumption) ?_
          rotate_left
          · intro w hSw; (try dsimp only at hSw); go_simp <;> with_reducible rfl
          try simp only [Act.put, List.setIfInBounds_toArray, List.set_cons_zero, List.set_cons_succ]
          refine wpPart_take (i := 4) (oi := { dst := some 103, op := Op.load 3 (Operand.tmp 102), type := 3, pos := "more.go:66", after := #[{ on := 3, ground := Ground.data }], guard := none }) (v := ?_) rfl (by kernel_rfl) (by kernel_rfl) (by kernel_rfl) (by kernel_rfl) (by kernel_rfl) (fun _ _ _ h => h) (Or.inl ⟨by rfl, ?_⟩) (by assumption) ?_
          rotate_left
          · intro w hSw; (try dsimp only at hSw); go_simp <;> with_reducible rfl
          try simp only [Act.put, List.setIfInBounds_toArray, List.set_cons_zero, List.set_cons_succ]
          refine wpPart_take (i := 5) (oi := { dst := some 104, op := Op.load 34 (Operand.tmp 10), type := 34, pos := "more.go:66", after := #[], guard := none }) (v := ?_) rfl (by kernel_rfl) (by kernel_rfl) (by kernel_rfl) (by kernel_rfl) (by kernel_rfl) (fun _ _ _ h => h) (Or.inl ⟨by rfl, ?_⟩) (by assumption) ?_
          rotate_left
          · intro w hSw; (try dsimp only at hSw); go_simp <;> with_reducible rfl
          try simp only [Act.put, List.setIfInBounds_toArray, List.set_cons_zero, List.set_cons_succ]
          refine wpPart_take (i := 7) (oi := { dst := some 106, op := Op.move (Operand.tmp 14), type := 4, pos := "more.go:66", after := #[], guard := none }) (v := ?_) rfl (by kernel_rfl) (by kernel_rfl) (by kernel_rfl) (by kernel_rfl) (by kernel_rfl) (fun _ _ _ h => h) (Or.inl ⟨by rfl, ?_⟩) (by assumption) ?_
          rotate_left
          · intro w hSw; (try dsimp only at hSw); go_simp <;> with_reducible rfl
          try simp only [Act.put, List.setIfInBounds_toArray, List.set_cons_zero, List.set_cons_succ]
          refine wpPart_ready (rs := [6]) (by kernel_rfl) (by simp) ?_
          refine AllPart.cons (o := { dst := some 105, op := Op.call { callee := Callee.value (Operand.func 15), args := #[Operand.tmp 99, Operand.tmp 103, Operand.tmp 104], argTypes := #[24, 3, 34] }, type := 4, pos := "more.go:66", after := #[{ on := 0, ground := Ground.data }, { on := 4, ground := Ground.data }, { on := 5, ground := Ground.data }], guard := none }) rfl (by kernel_rfl) (fun K hK => ?_) AllPart.nil
          go_simp
          go_at_call 15
          refine HC.out.mono ?_
          rintro e u5 ⟨rfl, hst⟩
          have HS5 := Lib.hid hst
          have HT := Lib.hid (once_take hst (x))
          rw [hr] at HT
          refine hK.out _ _ ?_ (fun hHeld => ?_)
          · exact ⟨HX.out _ HS5.out.low, HS5.out.box⟩
          clear hK K
          try simp only [Act.put, List.setIfInBounds_toArray, List.set_cons_zero, List.set_cons_succ]
          clear hst HC
          refine wpPart_take (i := 8) (oi := { dst := some 107, op := Op.binOp BinOp.neq 4 (Operand.tmp 105) (Operand.tmp 106) 4, type := 4, pos := "more.go:66", after := #[{ on := 6, ground := Ground.data }, { on := 7, ground := Ground.data }], guard := none }) (v := ?_) rfl (by kernel_rfl) (by kernel_rfl) (by kernel_rfl) (by kernel_rfl) (by kernel_rfl) (fun _ _ _ h => h) (Or.inl ⟨by rfl, ?_⟩) (by assumption) ?_
          rotate_left
          · intro w hSw; (try dsimp only at hSw); go_simp <;> with_reducible rfl
          try simp only [Act.put, List.setIfInBounds_toArray, List.set_cons_zero, List.set_cons_succ]
          refine wpPart_take (i := 9) (oi := { dst := some 108, op := Op.move (Operand.tmp 107), type := 4, pos := "more.go:66", after := #[{ on := 8, ground := Ground.data }, { on := 6, ground := Ground.chain }], guard := none }) (v := ?_) rfl (by kernel_rfl) (by kernel_rfl) (by kernel_rfl) (by kernel_rfl) (by kernel_rfl) (fun _ _ _ h => h) (Or.inl ⟨by rfl, ?_⟩) (by assumption) ?_
          rotate_left
          · intro w hSw; (try dsimp only at hSw); go_simp <;> with_reducible rfl
          try simp only [Act.put, List.setIfInBounds_toArray, List.set_cons_zero, List.set_cons_succ]
          refine wpPart_take (i := 10) (oi := { dst := some 109, op := Op.move (Operand.tmp 7), type := 24, pos := "more.go:66", after := #[{ on := 9, ground := Ground.guard }], guard := some (9, false) }) (v := ?_) rfl (by kernel_rfl) (by kernel_rfl) (by kernel_rfl) (by kernel_rfl) (by kernel_rfl) (fun _ _ _ h => h) (Or.inl ⟨by rfl, ?_⟩) (by assumption) ?_
          rotate_left
          · intro w hSw; (try dsimp only at hSw); go_simp <;> with_reducible rfl
          try simp only [Act.put, List.setIfInBounds_toArray, List.set_cons_zero, List.set_cons_succ]
          refine wpPart_take (i := 11) (oi := { dst := some 110, op := Op.move (Operand.tmp 2), type := 44, pos := "more.go:66", after := #[{ on := 9, ground := Ground.guard }], guard := some (9, false) }) (v := ?_) rfl (by kernel_rfl) (by kernel_rfl) (by kernel_rfl) (by kernel_rfl) (by kernel_rfl) (fun _ _ _ h => h) (Or.inl ⟨by rfl, ?_⟩) (by assumption) ?_
          rotate_left
          · intro w hSw; (try dsimp only at hSw); go_simp <;> with_reducible rfl
          try simp only [Act.put, List.setIfInBounds_toArray, List.set_cons_zero, List.set_cons_succ]
          refine wpPart_take (i := 12) (oi := { dst := some 111, op := Op.move (Operand.tmp 13), type := 3, pos := "more.go:66", after := #[{ on := 9, ground := Ground.guard }], guard := some (9, false) }) (v := ?_) rfl (by kernel_rfl) (by kernel_rfl) (by kernel_rfl) (by kernel_rfl) (by kernel_rfl) (fun _ _ _ h => h) (Or.inl ⟨by rfl, ?_⟩) (by assumption) ?_
          rotate_left
          · intro w hSw; (try dsimp only at hSw); go_simp <;> with_reducible rfl
          try simp only [Act.put, List.setIfInBounds_toArray, List.set_cons_zero, List.set_cons_succ]
          refine wpPart_take (i := 13) (oi := { dst := some 112, op := Op.indexAddr 44 (Operand.tmp 110) (Operand.tmp 111), type := 0, pos := "more.go:66", after := #[{ on := 11, ground := Ground.data }, { on := 12, ground := Ground.data }, { on := 9, ground := Ground.guard }], guard := some (9, false) }) (v := ?_) rfl (by kernel_rfl) (by kernel_rfl) (by kernel_rfl) (by kernel_rfl) (by kernel_rfl) (fun _ _ _ h => h) (Or.inl ⟨by rfl, ?_⟩) (by assumption) ?_
          rotate_left
          · intro w hSw; (try dsimp only at hSw); go_simp <;> with_reducible rfl
          try simp only [Act.put, List.setIfInBounds_toArray, List.set_cons_zero, List.set_cons_succ]
          refine wpPart_take (i := 14) (oi := { dst := some 113, op := Op.load 3 (Operand.tmp 112), type := 3, pos := "more.go:66", after := #[{ on := 13, ground := Ground.data }, { on := 9, ground := Ground.guard }], guard := some (9, false) }) (v := ?_) rfl (by kernel_rfl) (by kernel_rfl) (by kernel_rfl) (by kernel_rfl) (by kernel_rfl) (fun _ _ _ h => h) (Or.inl ⟨by rfl, ?_⟩) (by assumption) ?_
          rotate_left
          · intro w hSw; (try dsimp only at hSw); go_simp <;> with_reducible rfl
          try simp only [Act.put, List.setIfInBounds_toArray, List.set_cons_zero, List.set_cons_succ]
          refine wpPart_take (i := 15) (oi := { dst := some 114, op := Op.load 34 (Operand.tmp 10), type := 34, pos := "more.go:66", after := #[{ on := 9, ground := Ground.guard }], guard := some (9, false) }) (v := ?_) rfl (by kernel_rfl) (by kernel_rfl) (by kernel_rfl) (by kernel_rfl) (by kernel_rfl) (fun _ _ _ h => h) (Or.inl ⟨by rfl, ?_⟩) (by assumption) ?_
          rotate_left
          · intro w hSw; (try dsimp only at hSw); go_simp <;> with_reducible rfl
          try simp only [Act.put, List.setIfInBounds_toArray, List.set_cons_zero, List.set_cons_succ]
          refine wpPart_take (i := 17) (oi := { dst := some 116, op := Op.move (Operand.tmp 14), type := 4, pos := "more.go:66", after := #[{ on := 9, ground := Ground.guard }], guard := some (9, false) }) (v := ?_) rfl (by kernel_rfl) (by kernel_rfl) (by kernel_rfl) (by kernel_rfl) (by kernel_rfl) (fun _ _ _ h => h) (Or.inl ⟨by rfl, ?_⟩) (by assumption) ?_
          rotate_left
          · intro w hSw; (try dsimp only at hSw); go_simp <;> with_reducible rfl
          try simp only [Act.put, List.setIfInBounds_toArray, List.set_cons_zero, List.set_cons_succ]
          refine wpPart_ready (rs := [16]) (by kernel_rfl) (by simp) ?_
          refine AllPart.cons (o := { dst := some 115, op := Op.call { callee := Callee.value (Operand.func 12), args := #[Operand.tmp 109, Operand.tmp 113, Operand.tmp 114], argTypes := #[24, 3, 34] }, type := 4, pos := "more.go:66", after := #[{ on := 10, ground := Ground.data }, { on := 14, ground := Ground.data }, { on := 15, ground := Ground.data }, { on := 9, ground := Ground.chain }, { on := 9, ground := Ground.guard }], guard := some (9, false) }) rfl (by kernel_rfl) (fun K hK => ?_) AllPart.nil
          go_simp
          go_at_call 12
          refine HT.out.mono ?_
          rintro e u6 ⟨rfl, hst⟩
          have HS6 := Lib.hid hst
          refine hK.out _ _ ?_ (fun hHeld => ?_)
          · exact ⟨HX.out _ HS6.out.low, HS6.out.box⟩
          clear hK K
          try simp only [Act.put, List.setIfInBounds_toArray, List.set_cons_zero, List.set_cons_succ]
          clear hst HT
          refine wpPart_take (i := 18) (oi := { dst := some 117, op := Op.binOp BinOp.neq 4 (Operand.tmp 115) (Operand.tmp 116) 4, type := 4, pos := "more.go:66", after := #[{ on := 16, ground := Ground.data }, { on := 17, ground := Ground.data }, { on := 9, ground := Ground.guard }], guard := some (9, false) }) (v := ?_) rfl (by kernel_rfl) (by kernel_rfl) (by kernel_rfl) (by kernel_rfl) (by kernel_rfl) (fun _ _ _ h => h) (Or.inl ⟨by rfl, ?_⟩) (by assumption) ?_
          rotate_left
          · intro w hSw; (try dsimp only at hSw); go_simp <;> with_reducible rfl
          try simp only [Act.put, List.setIfInBounds_toArray, List.set_cons_zero, List.set_cons_succ]
          refine wpPart_take (i := 19) (oi := { dst := some 118, op := Op.pick (Operand.tmp 108) (Operand.const (Value.bool true)) (Operand.tmp 117), type := 4, pos := "more.go:66", after := #[{ on := 9, ground := Ground.data }, { on := 18, ground := Ground.data }], guard := none }) (v := ?_) rfl (by kernel_rfl) (by kernel_rfl) (by kernel_rfl) (by kernel_rfl) (by kernel_rfl) (fun _ _ _ h => h) (Or.inl ⟨by rfl, ?_⟩) (by assumption) ?_
          rotate_left
          · intro w hSw; (try dsimp only at hSw); go_simp <;> with_reducible rfl
          try simp only [Act.put, List.setIfInBounds_toArray, List.set_cons_zero, List.set_cons_succ]
          refine wpPart_done (by kernel_rfl) ?_ _
          have HN := Lib.hid (tk_no hr HS6.out)
          clear hHeld
          go_wp2
          go_roundw
          case rel => exact ⟨i + 1, by omega, by go_num, _, HN⟩
          case measure => simp [intOf]; omega
      · have HE := Lib.hid HR2.out.low
        have hge : ¬ (i : Int) < (zs.length : Int) := by omega
        go_wp2
        go_ret
        exact ⟨rfl, HE.out⟩
  · have HE := Lib.hid HL3.out.low
    go_wp2
    go_ret
    exact ⟨rfl, HE.out⟩
end Go.Proofs.Yteicceikaecfcaa

/-
  PastOrder.
-/
import Derived.Test.YteicceikaecfcaaPastM
namespace Go.Proofs.Yteicceikaecfcaa
open Go.RowKit Go.Shoal Go.Maps

/-- While the acts run. -/
def OrdRel (w : World) (B : Nat) (n k : Nat) (wr : World) : Prop := ∃ s : Pa, Lives w B s wr ∧ s.n = n ∧ s.all.length ≤ k
/-- While the law looks. -/
def LookRel (w : World) (B : Nat) (s : Pa) (v : Value) (wr : World) : Prop := Lives w B s wr ∧ Names wr v s.allNames
theorem LookRel.quiet {w wr w' : World} {B : Nat} {s : Pa} {v : Value} (h : LookRel w B s v wr) (hm : Mod (fun _ => False) wr w') : LookRel w B s v w' := ⟨h.1.quiet hm, h.2.quiet hm⟩
/-- What stands in a world that only grew. -/
theorem look_cells {w wr : World} {B : Nat} {s : Pa} {A : Option Addr} {N c : Nat} (h : LookRel w B s (.slice A N c) wr) {i : Nat} {m : Ms} (hi : s.all[i]? = some m) :
    ∃ b o, A = some ⟨b, o, none⟩ ∧ ∀ W, Mod (fun _ => False) wr W → W.cell? ⟨b, o + i * 2, none⟩ = some (.int .i64 (m.frm : Int)) ∧ W.cell? ⟨b, o + i * 2 + 1, none⟩ = some (.int .u64 (m.num : Int)) := by
  have hn : s.allNames[i]? = some (m.frm, m.num) := by unfold Pa.allNames; rw [List.getElem?_map, hi]; rfl
  obtain ⟨b, o, cap, he, hb, c0, c1⟩ := h.2.elem hn
  cases he
  refine ⟨b, o, rfl, fun W hm => ?_⟩
  obtain ⟨b', o', cap', he, hb', c0', c1'⟩ := (h.2.quiet hm).elem hn
  cases he
  exact ⟨c0', c1'⟩
theorem look_ahead {w wr : World} {B : Nat} {s : Pa} {v : Value} (h : LookRel w B s v wr) (i k : Nat) (m m' : Ms) (hi : s.all[i]? = some m) (hk : s.all[k]? = some m') (x : Bool) (hx : m'.ahead i = x) :
    ∀ W, Mod (fun _ => False) wr W → Calls Try.prog 13 #[.pointer (some ⟨B, 0, none⟩), .agg #[.int .i64 (m.frm : Int), .int .u64 (m.num : Int)], .agg #[.int .i64 (m'.frm : Int), .int .u64 (m'.num : Int)]] W fun e w' => e = .returned (.bool x) ∧ Mod (fun _ => False) wr w' := fun W hm => by
  subst hx
  exact (ahead_at B s i k m m' W (h.1.quiet hm).at' hi hk).mono fun _ _ ⟨h1, h2⟩ => ⟨h1, hm.trans h2⟩
set_option maxRecDepth 100000 in
set_option maxHeartbeats 8000000 in
theorem order_in (n : Nat) (v : Value) (l : List ActP) (w : World) (hz : ActsP w v l) (h1 : 1 ≤ n) (h2 : n ≤ 16) (hl : l.length ≤ 25) :
    Calls Try.prog 3 #[.int .i64 n, v] w fun e w' => e = .returned (.bool true) ∧ Below w.heap.size w w' := by
  obtain ⟨A, c, rfl, hlm, hfit, hcs⟩ := hz
  have HA := Lib.hid (awake_any w)
  have HF := Lib.hid hfit
  have HCS := Lib.hid hcs
  have tl : decide (25 < (l.length : Int)) = false := decide_eq_false (by omega)
  clear hfit hcs hlm
  go_enter Try.func3, Try.ntmps3
  go_wp2_with fail
  refine HA.out.mono ?_
  rintro e w1 ⟨rfl, hb⟩
  have HB1 := Lib.hid hb
  have HN := Lib.hid (lives_new n w1 h1 h2)
  clear hb HA
  go_wp2_with fail
  refine HN.out.mono ?_
  rintro e w2 ⟨B, kB, cB, tB, hB, kb, rfl, hL⟩
  have H0 : Hid (OrdRel w B n 0 w2) := ⟨_, hL.base HB1.out, rfl, Nat.le_refl _⟩
  clear hL HN HB1
  go_wp2
  go_loopw [7] (fun i wr => ∃ k : Nat, k ≤ l.length ∧ i = .int .i64 k ∧ Hid (OrdRel w B n k wr)) (fun i _ => l.length - (intOf i).toNat)
  case atStart => exact ⟨0, Nat.zero_le _, rfl, H0⟩
  case round =>
    obtain ⟨k, hk, rfl, hR⟩ := hrel
    obtain ⟨s, hs⟩ := hR.out
    have HL := Lib.hid hs.1
    have HSN := Lib.hid hs.2.1
    have hsl := hs.2.2
    clear hR hs
    by_cases hlt : k < l.length
    · have HAll := Lib.hid (all_past B s wr HL.out.at')
      have hi0 : (0 : Int) ≤ (k : Int) := by omega
      have hi1 : (k : Int) < (l.length : Int) := by omega
      have hft := HF.out k hlt
      obtain ⟨x, hx⟩ : ∃ x, x = l.getD k default := ⟨_, rfl⟩
      have HX := Lib.hid hx
      rw [← hx] at hft
      have HFT := Lib.hid hft
      clear hx hft
      go_wp2_with fail
      refine HAll.out.mono ?_
      rintro e u ⟨v8, rfl, hn, hm, _⟩
      have HL2 := Lib.hid (HL.out.quiet hm)
      have HNm := Lib.hid hn
      obtain ⟨A8, c8, rfl⟩ := RowOf.form hn
      have hnl : s.allNames.length = s.all.length := List.length_map ..
      obtain ⟨b, o, rfl, hbz, hcell⟩ := ElemsIn.cell HCS.out HL2.out.low k hlt
      rw [← HX.out] at hcell
      have k0 := hcell 0 _ rfl
      have k1 := hcell 1 _ rfl
      have k2 := hcell 2 _ rfl
      have k3 := hcell 3 _ rfl
      rw [Nat.add_zero] at k0
      clear hn hm hcell HAll HL
      cases hop : (x.op == 0)
      · by_cases hK : 0 ≤ x.k ∧ x.k < (s.allNames.length : Int)
        · obtain ⟨j, hj⟩ : ∃ j : Nat, x.k = j := ⟨x.k.toNat, by omega⟩
          have hjl : j < s.all.length := by omega
          obtain ⟨m, hm, hmn⟩ := get_name hjl
          obtain ⟨b9, o9, cap9, he, hb9, n0, n1⟩ := HNm.out.elem hmn
          cases he
          have HT := Lib.hid (take_some HL2.out.drew x.p j m hm)
          rw [hj] at k2
          have hj0 : (0 : Int) ≤ (j : Int) := by omega
          have hj1 : (j : Int) < (s.allNames.length : Int) := by omega
          have hj2 : j < s.allNames.length := by omega
          have tj : decide (j < s.allNames.length) = true := decide_eq_true hj2
          clear hK hj hm hmn hnl
          go_wp2_with fail
          go_still_tail 14, (by kernel_rfl)
          change wpList _ _ _ _ _ u.drew
          go_wp2_with fail
          refine HT.out.mono ?_
          rintro e u2 ⟨v9, s', rfl, hL', hn', ha', _⟩
          have HR : Hid (OrdRel w B n (k + 1) u2) := ⟨s', hL', hn'.trans HSN.out, by rw [ha']; omega⟩
          clear hL' hn' ha' HT k0 k1 k2 k3
          go_wp2
          go_roundw
          case rel => exact ⟨k + 1, by omega, by go_num, HR⟩
          case measure => simp [intOf]; omega
        · have HR : Hid (OrdRel w B n (k + 1) u) := ⟨s, HL2.out, HSN.out, by omega⟩
          by_cases hK0 : 0 ≤ x.k
          · have tk0 : decide (0 ≤ x.k) = true := decide_eq_true hK0
            have tk1 : decide (x.k < (s.allNames.length : Int)) = false := decide_eq_false (by omega)
            clear hK hnl
            go_wp2
            go_roundw
            case rel => exact ⟨k + 1, by omega, by go_num, HR⟩
            case measure => simp [intOf]; omega
          · have tk0 : decide (0 ≤ x.k) = false := decide_eq_false hK0
            clear hK hnl
            go_wp2
            go_roundw
            case rel => exact ⟨k + 1, by omega, by go_num, HR⟩
            case measure => simp [intOf]; omega
      · have HT := Lib.hid (send_some HL2.out.drew x.p x.t HFT.out (by omega))
        clear hnl
        go_wp2_with fail
        go_still_tail 11, (by kernel_rfl)
        change wpList _ _ _ _ _ u.drew
        go_wp2_with fail
        refine HT.out.mono ?_
        rintro e u2 ⟨v9, s', rfl, hL', hn', ha', _⟩
        have HR : Hid (OrdRel w B n (k + 1) u2) := ⟨s', hL', hn'.trans HSN.out, by omega⟩
        clear hL' hn' ha' HT k0 k1 k2 k3
        go_wp2
        go_roundw
        case rel => exact ⟨k + 1, by omega, by go_num, HR⟩
        case measure => simp [intOf]; omega
    · have HAll := Lib.hid (all_past B s wr HL.out.at')
      have hge : ¬ (k : Int) < (l.length : Int) := by omega
      go_wp2_with fail
      refine HAll.out.mono ?_
      rintro e u ⟨v9, rfl, hn, hm, _⟩
      have HLook : Hid (LookRel w B s v9 u) := ⟨HL.out.quiet hm, hn⟩
      obtain ⟨A9, c9, rfl⟩ := RowOf.form hn
      have hnl : s.allNames.length = s.all.length := List.length_map ..
      have HNL := Lib.hid hnl
      have hN25 : s.allNames.length ≤ 25 := by omega
      clear hn hm HAll HL hnl HSN
      go_wp2
      go_loopw [10] (fun i wr => ∃ a : Nat, a ≤ s.allNames.length ∧ i = .int .i64 a ∧ Hid (LookRel w B s (.slice A9 s.allNames.length c9) wr)) (fun i _ => s.allNames.length - (intOf i).toNat)
      case atStart => exact ⟨0, Nat.zero_le _, rfl, HLook⟩
      case round =>
        obtain ⟨a, ha, rfl, hRa⟩ := hrel
        by_cases hla : a < s.allNames.length
        · obtain ⟨ma, hma⟩ : ∃ m, s.all[a]? = some m := ⟨_, List.getElem?_eq_getElem (by rw [← HNL.out]; exact hla)⟩
          have HMA := Lib.hid hma
          have ha0 : (0 : Int) ≤ (a : Int) := by omega
          have ha1 : (a : Int) < (s.allNames.length : Int) := by omega
          obtain ⟨b9, o9, rfl, _⟩ := look_cells hRa.out hma
          have HOk := Lib.hid hRa.out.1.at'.ok
          clear hma
          obtain ⟨wo, rfl⟩ : ∃ wo : World, wo = wr := ⟨_, rfl⟩
          go_wp2
          go_loopw [11] (fun i wr => ∃ b : Nat, b ≤ s.allNames.length ∧ i = .int .i64 b ∧ Hid (LookRel w B s (.slice (some ⟨b9, o9, none⟩) s.allNames.length c9) wr)) (fun i _ => s.allNames.length - (intOf i).toNat)
          case atStart => exact ⟨0, Nat.zero_le _, rfl, hRa⟩
          case round =>
            obtain ⟨b, hb, rfl, HRb⟩ := hrel
            obtain ⟨wb, rfl⟩ : ∃ wb : World, wb = wr := ⟨_, rfl⟩
            by_cases hlb : b < s.allNames.length
            · obtain ⟨mb, hmb⟩ : ∃ m, s.all[b]? = some m := ⟨_, List.getElem?_eq_getElem (by rw [← HNL.out]; exact hlb)⟩
              obtain ⟨_, _, heb, hcb⟩ := look_cells HRb.out hmb
              cases heb
              obtain ⟨_, _, hea, hca⟩ := look_cells HRb.out HMA.out
              cases hea
              have hb0 : (0 : Int) ≤ (b : Int) := by omega
              have hb1 : (b : Int) < (s.allNames.length : Int) := by omega
              have HK : Hid (∀ W, Mod (fun _ => False) wb W → W.cell? ⟨b9, o9 + a * 2, none⟩ = some (.int .i64 (ma.frm : Int)) ∧ W.cell? ⟨b9, o9 + a * 2 + 1, none⟩ = some (.int .u64 (ma.num : Int)) ∧ W.cell? ⟨b9, o9 + b * 2, none⟩ = some (.int .i64 (mb.frm : Int)) ∧ W.cell? ⟨b9, o9 + b * 2 + 1, none⟩ = some (.int .u64 (mb.num : Int)) ∧ Mod (fun _ => False) wb W) := fun W hm => ⟨(hca W hm).1, (hca W hm).2, (hcb W hm).1, (hcb W hm).2, hm⟩
              have HMB := Lib.hid hmb
              clear hca hcb hmb
              cases hx : mb.ahead a
              · have HC1 := Lib.hid (look_ahead HRb.out a b ma mb HMA.out HMB.out false hx)
                go_wp2_with fail
                refine wp_region_part (S := fun w' => w'.cell? ⟨b9, o9 + a * 2, none⟩ = some (.int .i64 (ma.frm : Int)) ∧ w'.cell? ⟨b9, o9 + a * 2 + 1, none⟩ = some (.int .u64 (ma.num : Int)) ∧ w'.cell? ⟨b9, o9 + b * 2, none⟩ = some (.int .i64 (mb.frm : Int)) ∧ w'.cell? ⟨b9, o9 + b * 2 + 1, none⟩ = some (.int .u64 (mb.num : Int)) ∧ Mod (fun _ => False) wb w') [] (by kernel_rfl) ?_ (fun hHeld => ?_)
                · exact HK.out _ (Mod.refl _ _).drew
                refine wpPart_take (i := 0) (oi := { dst := some 111, op := Op.move (Operand.tmp 5), type := 24, pos := "law.go:137", after := #[], guard := none }) (v := ?_) rfl (by kernel_rfl) (by kernel_rfl) (by kernel_rfl) (by kernel_rfl) (by kernel_rfl) (fun _ _ _ h => h) (Or.inl ⟨by rfl, ?_⟩) (by assumption) ?_
                rotate_left
                · intro w hSw; (try dsimp only at hSw); go_simp <;> with_reducible rfl
                try simp only [Act.put, List.setIfInBounds_toArray, List.set_cons_zero, List.set_cons_succ]
                refine wpPart_take (i := 1) (oi := { dst := some 112, op := Op.move (Operand.tmp 9), type := 28, pos := "law.go:137", after := #[], guard := none }) (v := ?_) rfl (by kernel_rfl) (by kernel_rfl) (by kernel_rfl) (by kernel_rfl) (by kernel_rfl) (fun _ _ _ h => h) (Or.inl ⟨by rfl, ?_⟩) (by assumption) ?_
                rotate_left
                · intro w hSw; (try dsimp only at hSw); go_simp <;> with_reducible rfl
                try simp only [Act.put, List.setIfInBounds_toArray, List.set_cons_zero, List.set_cons_succ]
                refine wpPart_take (i := 2) (oi := { dst := some 113, op := Op.move (Operand.tmp 10), type := 3, pos := "law.go:137", after := #[], guard := none }) (v := ?_) rfl (by kernel_rfl) (by kernel_rfl) (by kernel_rfl) (by kernel_rfl) (by kernel_rfl) (fun _ _ _ h => h) (Or.inl ⟨by rfl, ?_⟩) (by assumption) ?_
                rotate_left
                · intro w hSw; (try dsimp only at hSw); go_simp <;> with_reducible rfl
                try simp only [Act.put, List.setIfInBounds_toArray, List.set_cons_zero, List.set_cons_succ]
                refine wpPart_take (i := 3) (oi := { dst := some 114, op := Op.indexAddr 28 (Operand.tmp 112) (Operand.tmp 113), type := 0, pos := "law.go:137", after := #[{ on := 1, ground := Ground.data }, { on := 2, ground := Ground.data }], guard := none }) (v := ?_) rfl (by kernel_rfl) (by kernel_rfl) (by kernel_rfl) (by kernel_rfl) (by kernel_rfl) (fun _ _ _ h => h) (Or.inl ⟨by rfl, ?_⟩) (by assumption) ?_
                rotate_left
                · intro w hSw; (try dsimp only at hSw); go_simp <;> with_reducible rfl
                try simp only [Act.put, List.setIfInBounds_toArray, List.set_cons_zero, List.set_cons_succ]
                refine wpPart_take (i := 4) (oi := { dst := some 115, op := Op.load 34 (Operand.tmp 114), type := 34, pos := "law.go:137", after := #[{ on := 3, ground := Ground.data }], guard := none }) (v := ?_) rfl (by kernel_rfl) (by kernel_rfl) (by kernel_rfl) (by kernel_rfl) (by kernel_rfl) (fun _ _ _ h => h) (Or.inl ⟨by rfl, ?_⟩) (by assumption) ?_
                rotate_left
                · intro w hSw; (try dsimp only at hSw); go_simp <;> with_reducible rfl
                try simp only [Act.put, List.setIfInBounds_toArray, List.set_cons_zero, List.set_cons_succ]
                refine wpPart_take (i := 5) (oi := { dst := some 116, op := Op.move (Operand.tmp 9), type := 28, pos := "law.go:137", after := #[], guard := none }) (v := ?_) rfl (by kernel_rfl) (by kernel_rfl) (by kernel_rfl) (by kernel_rfl) (by kernel_rfl) (fun _ _ _ h => h) (Or.inl ⟨by rfl, ?_⟩) (by assumption) ?_
                rotate_left
                · intro w hSw; (try dsimp only at hSw); go_simp <;> with_reducible rfl
                try simp only [Act.put, List.setIfInBounds_toArray, List.set_cons_zero, List.set_cons_succ]
                refine wpPart_take (i := 6) (oi := { dst := some 117, op := Op.move (Operand.tmp 11), type := 3, pos := "law.go:137", after := #[], guard := none }) (v := ?_) rfl (by kernel_rfl) (by kernel_rfl) (by kernel_rfl) (by kernel_rfl) (by kernel_rfl) (fun _ _ _ h => h) (Or.inl ⟨by rfl, ?_⟩) (by assumption) ?_
                rotate_left
                · intro w hSw; (try dsimp only at hSw); go_simp <;> with_reducible rfl
                try simp only [Act.put, List.setIfInBounds_toArray, List.set_cons_zero, List.set_cons_succ]
                refine wpPart_take (i := 7) (oi := { dst := some 118, op := Op.indexAddr 28 (Operand.tmp 116) (Operand.tmp 117), type := 0, pos := "law.go:137", after := #[{ on := 5, ground := Ground.data }, { on := 6, ground := Ground.data }], guard := none }) (v := ?_) rfl (by kernel_rfl) (by kernel_rfl) (by kernel_rfl) (by kernel_rfl) (by kernel_rfl) (fun _ _ _ h => h) (Or.inl ⟨by rfl, ?_⟩) (by assumption) ?_
                rotate_left
                · intro w hSw; (try dsimp only at hSw); go_simp <;> with_reducible rfl
                try simp only [Act.put, List.setIfInBounds_toArray, List.set_cons_zero, List.set_cons_succ]
                refine wpPart_take (i := 8) (oi := { dst := some 119, op := Op.load 34 (Operand.tmp 118), type := 34, pos := "law.go:137", after := #[{ on := 7, ground := Ground.data }], guard := none }) (v := ?_) rfl (by kernel_rfl) (by kernel_rfl) (by kernel_rfl) (by kernel_rfl) (by kernel_rfl) (fun _ _ _ h => h) (Or.inl ⟨by rfl, ?_⟩) (by assumption) ?_
                rotate_left
                · intro w hSw; (try dsimp only at hSw); go_simp <;> with_reducible rfl
                try simp only [Act.put, List.setIfInBounds_toArray, List.set_cons_zero, List.set_cons_succ]
                refine wpPart_ready (rs := [9]) (by kernel_rfl) (by simp) ?_
                refine AllPart.cons (o := { dst := some 120, op := Op.call { callee := Callee.value (Operand.func 13), args := #[Operand.tmp 111, Operand.tmp 115, Operand.tmp 119], argTypes := #[24, 34, 34] }, type := 4, pos := "law.go:137", after := #[{ on := 0, ground := Ground.data }, { on := 4, ground := Ground.data }, { on := 8, ground := Ground.data }], guard := none }) rfl (by kernel_rfl) (fun K hK => ?_) AllPart.nil
                have hmz := hHeld.2.2.2.2
                go_simp
                go_at_call 13
                refine (HC1.out _ hmz).mono ?_
                rintro e w5 ⟨rfl, hm5⟩
                refine hK.out _ _ ?_ (fun hHeld => ?_)
                · exact HK.out _ hm5
                clear hK K
                try simp only [Act.put, List.setIfInBounds_toArray, List.set_cons_zero, List.set_cons_succ]
                clear hmz hm5
                refine wpPart_take (i := 10) (oi := { dst := some 121, op := Op.move (Operand.tmp 120), type := 4, pos := "law.go:137", after := #[{ on := 9, ground := Ground.data }, { on := 9, ground := Ground.chain }], guard := none }) (v := ?_) rfl (by kernel_rfl) (by kernel_rfl) (by kernel_rfl) (by kernel_rfl) (by kernel_rfl) (fun _ _ _ h => h) (Or.inl ⟨by rfl, ?_⟩) (by assumption) ?_
                rotate_left
                · intro w hSw; (try dsimp only at hSw); go_simp <;> with_reducible rfl
                try simp only [Act.put, List.setIfInBounds_toArray, List.set_cons_zero, List.set_cons_succ]
                refine wpPart_take (i := 11) (oi := { dst := some 122, op := Op.move (Operand.tmp 10), type := 3, pos := "law.go:137", after := #[{ on := 10, ground := Ground.guard }], guard := some (10, true) }) (v := undef) rfl (by kernel_rfl) (by kernel_rfl) (by kernel_rfl) (by kernel_rfl) (by kernel_rfl) (fun _ _ _ h => h) (Or.inr ⟨by rfl, rfl⟩) (by assumption) ?_
                try simp only [Act.put, List.setIfInBounds_toArray, List.set_cons_zero, List.set_cons_succ]
                refine wpPart_take (i := 12) (oi := { dst := some 123, op := Op.move (Operand.tmp 11), type := 3, pos := "law.go:137", after := #[{ on := 10, ground := Ground.guard }], guard := some (10, true) }) (v := undef) rfl (by kernel_rfl) (by kernel_rfl) (by kernel_rfl) (by kernel_rfl) (by kernel_rfl) (fun _ _ _ h => h) (Or.inr ⟨by rfl, rfl⟩) (by assumption) ?_
                try simp only [Act.put, List.setIfInBounds_toArray, List.set_cons_zero, List.set_cons_succ]
                refine wpPart_take (i := 13) (oi := { dst := some 124, op := Op.binOp BinOp.eql 3 (Operand.tmp 122) (Operand.tmp 123) 3, type := 4, pos := "law.go:137", after := #[{ on := 11, ground := Ground.data }, { on := 12, ground := Ground.data }, { on := 10, ground := Ground.guard }], guard := some (10, true) }) (v := undef) rfl (by kernel_rfl) (by kernel_rfl) (by kernel_rfl) (by kernel_rfl) (by kernel_rfl) (fun _ _ _ h => h) (Or.inr ⟨by rfl, rfl⟩) (by assumption) ?_
                try simp only [Act.put, List.setIfInBounds_toArray, List.set_cons_zero, List.set_cons_succ]
                refine wpPart_take (i := 14) (oi := { dst := some 125, op := Op.move (Operand.tmp 124), type := 4, pos := "law.go:137", after := #[{ on := 13, ground := Ground.data }, { on := 10, ground := Ground.chain }, { on := 10, ground := Ground.guard }], guard := some (10, true) }) (v := undef) rfl (by kernel_rfl) (by kernel_rfl) (by kernel_rfl) (by kernel_rfl) (by kernel_rfl) (fun _ _ _ h => h) (Or.inr ⟨by rfl, rfl⟩) (by assumption) ?_
                try simp only [Act.put, List.setIfInBounds_toArray, List.set_cons_zero, List.set_cons_succ]
                refine wpPart_take (i := 15) (oi := { dst := some 126, op := Op.move (Operand.tmp 5), type := 24, pos := "law.go:137", after := #[{ on := 14, ground := Ground.guard }], guard := some (14, false) }) (v := undef) rfl (by kernel_rfl) (by kernel_rfl) (by kernel_rfl) (by kernel_rfl) (by kernel_rfl) (fun _ _ _ h => h) (Or.inr ⟨by rfl, rfl⟩) (by assumption) ?_
                try simp only [Act.put, List.setIfInBounds_toArray, List.set_cons_zero, List.set_cons_succ]
                refine wpPart_take (i := 16) (oi := { dst := some 127, op := Op.move (Operand.tmp 9), type := 28, pos := "law.go:137", after := #[{ on := 14, ground := Ground.guard }], guard := some (14, false) }) (v := undef) rfl (by kernel_rfl) (by kernel_rfl) (by kernel_rfl) (by kernel_rfl) (by kernel_rfl) (fun _ _ _ h => h) (Or.inr ⟨by rfl, rfl⟩) (by assumption) ?_
                try simp only [Act.put, List.setIfInBounds_toArray, List.set_cons_zero, List.set_cons_succ]
                refine wpPart_take (i := 17) (oi := { dst := some 128, op := Op.move (Operand.tmp 11), type := 3, pos := "law.go:137", after := #[{ on := 14, ground := Ground.guard }], guard := some (14, false) }) (v := undef) rfl (by kernel_rfl) (by kernel_rfl) (by kernel_rfl) (by kernel_rfl) (by kernel_rfl) (fun _ _ _ h => h) (Or.inr ⟨by rfl, rfl⟩) (by assumption) ?_
                try simp only [Act.put, List.setIfInBounds_toArray, List.set_cons_zero, List.set_cons_succ]
                refine wpPart_take (i := 18) (oi := { dst := some 129, op := Op.indexAddr 28 (Operand.tmp 127) (Operand.tmp 128), type := 0, pos := "law.go:137", after := #[{ on := 16, ground := Ground.data }, { on := 17, ground := Ground.data }, { on := 14, ground := Ground.guard }], guard := some (14, false) }) (v := undef) rfl (by kernel_rfl) (by kernel_rfl) (by kernel_rfl) (by kernel_rfl) (by kernel_rfl) (fun _ _ _ h => h) (Or.inr ⟨by rfl, rfl⟩) (by assumption) ?_
                try simp only [Act.put, List.setIfInBounds_toArray, List.set_cons_zero, List.set_cons_succ]
                refine wpPart_take (i := 19) (oi := { dst := some 130, op := Op.load 34 (Operand.tmp 129), type := 34, pos := "law.go:137", after := #[{ on := 18, ground := Ground.data }, { on := 14, ground := Ground.guard }], guard := some (14, false) }) (v := undef) rfl (by kernel_rfl) (by kernel_rfl) (by kernel_rfl) (by kernel_rfl) (by kernel_rfl) (fun _ _ _ h => h) (Or.inr ⟨by rfl, rfl⟩) (by assumption) ?_
                try simp only [Act.put, List.setIfInBounds_toArray, List.set_cons_zero, List.set_cons_succ]
                refine wpPart_take (i := 20) (oi := { dst := some 131, op := Op.move (Operand.tmp 9), type := 28, pos := "law.go:137", after := #[{ on := 14, ground := Ground.guard }], guard := some (14, false) }) (v := undef) rfl (by kernel_rfl) (by kernel_rfl) (by kernel_rfl) (by kernel_rfl) (by kernel_rfl) (fun _ _ _ h => h) (Or.inr ⟨by rfl, rfl⟩) (by assumption) ?_
                try simp only [Act.put, List.setIfInBounds_toArray, List.set_cons_zero, List.set_cons_succ]
                refine wpPart_take (i := 21) (oi := { dst := some 132, op := Op.move (Operand.tmp 10), type := 3, pos := "law.go:137", after := #[{ on := 14, ground := Ground.guard }], guard := some (14, false) }) (v := undef) rfl (by kernel_rfl) (by kernel_rfl) (by kernel_rfl) (by kernel_rfl) (by kernel_rfl) (fun _ _ _ h => h) (Or.inr ⟨by rfl, rfl⟩) (by assumption) ?_
                try simp only [Act.put, List.setIfInBounds_toArray, List.set_cons_zero, List.set_cons_succ]
                refine wpPart_take (i := 22) (oi := { dst := some 133, op := Op.indexAddr 28 (Operand.tmp 131) (Operand.tmp 132), type := 0, pos := "law.go:137", after := #[{ on := 20, ground := Ground.data }, { on := 21, ground := Ground.data }, { on := 14, ground := Ground.guard }], guard := some (14, false) }) (v := undef) rfl (by kernel_rfl) (by kernel_rfl) (by kernel_rfl) (by kernel_rfl) (by kernel_rfl) (fun _ _ _ h => h) (Or.inr ⟨by rfl, rfl⟩) (by assumption) ?_
                try simp only [Act.put, List.setIfInBounds_toArray, List.set_cons_zero, List.set_cons_succ]
                refine wpPart_take (i := 23) (oi := { dst := some 134, op := Op.load 34 (Operand.tmp 133), type := 34, pos := "law.go:137", after := #[{ on := 22, ground := Ground.data }, { on := 14, ground := Ground.guard }], guard := some (14, false) }) (v := undef) rfl (by kernel_rfl) (by kernel_rfl) (by kernel_rfl) (by kernel_rfl) (by kernel_rfl) (fun _ _ _ h => h) (Or.inr ⟨by rfl, rfl⟩) (by assumption) ?_
                try simp only [Act.put, List.setIfInBounds_toArray, List.set_cons_zero, List.set_cons_succ]
                refine wpPart_take (i := 24) (oi := { dst := some 135, op := Op.call { callee := Callee.value (Operand.func 13), args := #[Operand.tmp 126, Operand.tmp 130, Operand.tmp 134], argTypes := #[24, 34, 34] }, type := 4, pos := "law.go:137", after := #[{ on := 15, ground := Ground.data }, { on := 19, ground := Ground.data }, { on := 23, ground := Ground.data }, { on := 14, ground := Ground.chain }, { on := 14, ground := Ground.guard }], guard := some (14, false) }) (v := undef) rfl (by kernel_rfl) (by kernel_rfl) (by kernel_rfl) (by kernel_rfl) (by kernel_rfl) (fun _ _ _ h => h) (Or.inr ⟨by rfl, rfl⟩) (by assumption) ?_
                try simp only [Act.put, List.setIfInBounds_toArray, List.set_cons_zero, List.set_cons_succ]
                refine wpPart_take (i := 25) (oi := { dst := some 136, op := Op.pick (Operand.tmp 125) (Operand.const (Value.bool true)) (Operand.tmp 135), type := 4, pos := "law.go:137", after := #[{ on := 14, ground := Ground.data }, { on := 24, ground := Ground.data }, { on := 10, ground := Ground.guard }], guard := some (10, true) }) (v := undef) rfl (by kernel_rfl) (by kernel_rfl) (by kernel_rfl) (by kernel_rfl) (by kernel_rfl) (fun _ _ _ h => h) (Or.inr ⟨by rfl, rfl⟩) (by assumption) ?_
                try simp only [Act.put, List.setIfInBounds_toArray, List.set_cons_zero, List.set_cons_succ]
                refine wpPart_take (i := 26) (oi := { dst := some 137, op := Op.move (Operand.tmp 136), type := 4, pos := "law.go:137", after := #[{ on := 25, ground := Ground.data }, { on := 24, ground := Ground.chain }, { on := 10, ground := Ground.guard }], guard := some (10, true) }) (v := undef) rfl (by kernel_rfl) (by kernel_rfl) (by kernel_rfl) (by kernel_rfl) (by kernel_rfl) (fun _ _ _ h => h) (Or.inr ⟨by rfl, rfl⟩) (by assumption) ?_
                try simp only [Act.put, List.setIfInBounds_toArray, List.set_cons_zero, List.set_cons_succ]
                refine wpPart_take (i := 27) (oi := { dst := some 138, op := Op.move (Operand.tmp 10), type := 3, pos := "law.go:137", after := #[{ on := 26, ground := Ground.guard }], guard := some (26, false) }) (v := undef) rfl (by kernel_rfl) (by kernel_rfl) (by kernel_rfl) (by kernel_rfl) (by kernel_rfl) (fun _ _ _ h => h) (Or.inr ⟨by rfl, rfl⟩) (by assumption) ?_
                try simp only [Act.put, List.setIfInBounds_toArray, List.set_cons_zero, List.set_cons_succ]
                refine wpPart_take (i := 28) (oi := { dst := some 139, op := Op.move (Operand.tmp 11), type := 3, pos := "law.go:137", after := #[{ on := 26, ground := Ground.guard }], guard := some (26, false) }) (v := undef) rfl (by kernel_rfl) (by kernel_rfl) (by kernel_rfl) (by kernel_rfl) (by kernel_rfl) (fun _ _ _ h => h) (Or.inr ⟨by rfl, rfl⟩) (by assumption) ?_
                try simp only [Act.put, List.setIfInBounds_toArray, List.set_cons_zero, List.set_cons_succ]
                refine wpPart_take (i := 29) (oi := { dst := some 140, op := Op.binOp BinOp.gtr 3 (Operand.tmp 138) (Operand.tmp 139) 3, type := 4, pos := "law.go:137", after := #[{ on := 27, ground := Ground.data }, { on := 28, ground := Ground.data }, { on := 26, ground := Ground.guard }], guard := some (26, false) }) (v := undef) rfl (by kernel_rfl) (by kernel_rfl) (by kernel_rfl) (by kernel_rfl) (by kernel_rfl) (fun _ _ _ h => h) (Or.inr ⟨by rfl, rfl⟩) (by assumption) ?_
                try simp only [Act.put, List.setIfInBounds_toArray, List.set_cons_zero, List.set_cons_succ]
                refine wpPart_take (i := 30) (oi := { dst := some 141, op := Op.pick (Operand.tmp 137) (Operand.const (Value.bool true)) (Operand.tmp 140), type := 4, pos := "law.go:137", after := #[{ on := 26, ground := Ground.data }, { on := 29, ground := Ground.data }, { on := 10, ground := Ground.guard }], guard := some (10, true) }) (v := undef) rfl (by kernel_rfl) (by kernel_rfl) (by kernel_rfl) (by kernel_rfl) (by kernel_rfl) (fun _ _ _ h => h) (Or.inr ⟨by rfl, rfl⟩) (by assumption) ?_
                try simp only [Act.put, List.setIfInBounds_toArray, List.set_cons_zero, List.set_cons_succ]
                refine wpPart_take (i := 31) (oi := { dst := some 142, op := Op.pick (Operand.tmp 121) (Operand.tmp 141) (Operand.const (Value.bool false)), type := 4, pos := "law.go:137", after := #[{ on := 10, ground := Ground.data }, { on := 30, ground := Ground.data }], guard := none }) (v := ?_) rfl (by kernel_rfl) (by kernel_rfl) (by kernel_rfl) (by kernel_rfl) (by kernel_rfl) (fun _ _ _ h => h) (Or.inl ⟨by rfl, ?_⟩) (by assumption) ?_
                rotate_left
                · intro w hSw; (try dsimp only at hSw); go_simp <;> with_reducible rfl
                try simp only [Act.put, List.setIfInBounds_toArray, List.set_cons_zero, List.set_cons_succ]
                refine wpPart_done (by kernel_rfl) ?_ _
                have HRc0 := Lib.hid (HRb.out.quiet hHeld.2.2.2.2)
                clear hHeld HK HC1
                go_wp2
                go_loopw [12] (fun i wr => ∃ c : Nat, c ≤ s.allNames.length ∧ i = .int .i64 c ∧ Hid (LookRel w B s (.slice (some ⟨b9, o9, none⟩) s.allNames.length c9) wr)) (fun i _ => s.allNames.length - (intOf i).toNat)
                case atStart => exact ⟨0, Nat.zero_le _, rfl, HRc0⟩
                case round =>
                  obtain ⟨c, hc, rfl, hRc⟩ := hrel
                  by_cases hlc : c < s.allNames.length
                  · obtain ⟨mc, hmc⟩ : ∃ m, s.all[c]? = some m := ⟨_, List.getElem?_eq_getElem (by rw [← HNL.out]; exact hlc)⟩
                    obtain ⟨_, _, hec, hcc⟩ := look_cells hRc.out hmc
                    cases hec
                    obtain ⟨_, _, hea, hca⟩ := look_cells hRc.out HMA.out
                    cases hea
                    obtain ⟨_, _, heb, hcb⟩ := look_cells hRc.out HMB.out
                    cases heb
                    have hc0 : (0 : Int) ≤ (c : Int) := by omega
                    have hc1 : (c : Int) < (s.allNames.length : Int) := by omega
                    have HK : Hid (∀ W, Mod (fun _ => False) wr W → W.cell? ⟨b9, o9 + a * 2, none⟩ = some (.int .i64 (ma.frm : Int)) ∧ W.cell? ⟨b9, o9 + a * 2 + 1, none⟩ = some (.int .u64 (ma.num : Int)) ∧ W.cell? ⟨b9, o9 + b * 2, none⟩ = some (.int .i64 (mb.frm : Int)) ∧ W.cell? ⟨b9, o9 + b * 2 + 1, none⟩ = some (.int .u64 (mb.num : Int)) ∧ W.cell? ⟨b9, o9 + c * 2, none⟩ = some (.int .i64 (mc.frm : Int)) ∧ W.cell? ⟨b9, o9 + c * 2 + 1, none⟩ = some (.int .u64 (mc.num : Int)) ∧ Mod (fun _ => False) wr W) := fun W hm => ⟨(hca W hm).1, (hca W hm).2, (hcb W hm).1, (hcb W hm).2, (hcc W hm).1, (hcc W hm).2, hm⟩
                    have HC1 := Lib.hid (look_ahead hRc.out a b ma mb HMA.out HMB.out false hx)
                    have HMC := Lib.hid hmc
                    clear hcc hca hcb hmc
                    clear hx
                    go_wp2_with fail
                    refine wp_region_part (S := fun w' => w'.cell? ⟨b9, o9 + a * 2, none⟩ = some (.int .i64 (ma.frm : Int)) ∧ w'.cell? ⟨b9, o9 + a * 2 + 1, none⟩ = some (.int .u64 (ma.num : Int)) ∧ w'.cell? ⟨b9, o9 + b * 2, none⟩ = some (.int .i64 (mb.frm : Int)) ∧ w'.cell? ⟨b9, o9 + b * 2 + 1, none⟩ = some (.int .u64 (mb.num : Int)) ∧ w'.cell? ⟨b9, o9 + c * 2, none⟩ = some (.int .i64 (mc.frm : Int)) ∧ w'.cell? ⟨b9, o9 + c * 2 + 1, none⟩ = some (.int .u64 (mc.num : Int)) ∧ Mod (fun _ => False) wr w') [] (by kernel_rfl) ?_ (fun hHeld => ?_)
                    · exact HK.out _ (Mod.refl _ _).drew
                    refine wpPart_take (i := 0) (oi := { dst := some 149, op := Op.move (Operand.tmp 5), type := 24, pos := "law.go:141", after := #[], guard := none }) (v := ?_) rfl (by kernel_rfl) (by kernel_rfl) (by kernel_rfl) (by kernel_rfl) (by kernel_rfl) (fun _ _ _ h => h) (Or.inl ⟨by rfl, ?_⟩) (by assumption) ?_
                    rotate_left
                    · intro w hSw; (try dsimp only at hSw); go_simp <;> with_reducible rfl
                    try simp only [Act.put, List.setIfInBounds_toArray, List.set_cons_zero, List.set_cons_succ]
                    refine wpPart_take (i := 1) (oi := { dst := some 150, op := Op.move (Operand.tmp 9), type := 28, pos := "law.go:141", after := #[], guard := none }) (v := ?_) rfl (by kernel_rfl) (by kernel_rfl) (by kernel_rfl) (by kernel_rfl) (by kernel_rfl) (fun _ _ _ h => h) (Or.inl ⟨by rfl, ?_⟩) (by assumption) ?_
                    rotate_left
                    · intro w hSw; (try dsimp only at hSw); go_simp <;> with_reducible rfl
                    try simp only [Act.put, List.setIfInBounds_toArray, List.set_cons_zero, List.set_cons_succ]
                    refine wpPart_take (i := 2) (oi := { dst := some 151, op := Op.move (Operand.tmp 10), type := 3, pos := "law.go:141", after := #[], guard := none }) (v := ?_) rfl (by kernel_rfl) (by kernel_rfl) (by kernel_rfl) (by kernel_rfl) (by kernel_rfl) (fun _ _ _ h => h) (Or.inl ⟨by rfl, ?_⟩) (by assumption) ?_
                    rotate_left
                    · intro w hSw; (try dsimp only at hSw); go_simp <;> with_reducible rfl
                    try simp only [Act.put, List.setIfInBounds_toArray, List.set_cons_zero, List.set_cons_succ]
                    refine wpPart_take (i := 3) (oi := { dst := some 152, op := Op.indexAddr 28 (Operand.tmp 150) (Operand.tmp 151), type := 0, pos := "law.go:141", after := #[{ on := 1, ground := Ground.data }, { on := 2, ground := Ground.data }], guard := none }) (v := ?_) rfl (by kernel_rfl) (by kernel_rfl) (by kernel_rfl) (by kernel_rfl) (by kernel_rfl) (fun _ _ _ h => h) (Or.inl ⟨by rfl, ?_⟩) (by assumption) ?_
                    rotate_left
                    · intro w hSw; (try dsimp only at hSw); go_simp <;> with_reducible rfl
                    try simp only [Act.put, List.setIfInBounds_toArray, List.set_cons_zero, List.set_cons_succ]
                    refine wpPart_take (i := 4) (oi := { dst := some 153, op := Op.load 34 (Operand.tmp 152), type := 34, pos := "law.go:141", after := #[{ on := 3, ground := Ground.data }], guard := none }) (v := ?_) rfl (by kernel_rfl) (by kernel_rfl) (by kernel_rfl) (by kernel_rfl) (by kernel_rfl) (fun _ _ _ h => h) (Or.inl ⟨by rfl, ?_⟩) (by assumption) ?_
                    rotate_left
                    · intro w hSw; (try dsimp only at hSw); go_simp <;> with_reducible rfl
                    try simp only [Act.put, List.setIfInBounds_toArray, List.set_cons_zero, List.set_cons_succ]
                    refine wpPart_take (i := 5) (oi := { dst := some 154, op := Op.move (Operand.tmp 9), type := 28, pos := "law.go:141", after := #[], guard := none }) (v := ?_) rfl (by kernel_rfl) (by kernel_rfl) (by kernel_rfl) (by kernel_rfl) (by kernel_rfl) (fun _ _ _ h => h) (Or.inl ⟨by rfl, ?_⟩) (by assumption) ?_
                    rotate_left
                    · intro w hSw; (try dsimp only at hSw); go_simp <;> with_reducible rfl
                    try simp only [Act.put, List.setIfInBounds_toArray, List.set_cons_zero, List.set_cons_succ]
                    refine wpPart_take (i := 6) (oi := { dst := some 155, op := Op.move (Operand.tmp 11), type := 3, pos := "law.go:141", after := #[], guard := none }) (v := ?_) rfl (by kernel_rfl) (by kernel_rfl) (by kernel_rfl) (by kernel_rfl) (by kernel_rfl) (fun _ _ _ h => h) (Or.inl ⟨by rfl, ?_⟩) (by assumption) ?_
                    rotate_left
                    · intro w hSw; (try dsimp only at hSw); go_simp <;> with_reducible rfl
                    try simp only [Act.put, List.setIfInBounds_toArray, List.set_cons_zero, List.set_cons_succ]
                    refine wpPart_take (i := 7) (oi := { dst := some 156, op := Op.indexAddr 28 (Operand.tmp 154) (Operand.tmp 155), type := 0, pos := "law.go:141", after := #[{ on := 5, ground := Ground.data }, { on := 6, ground := Ground.data }], guard := none }) (v := ?_) rfl (by kernel_rfl) (by kernel_rfl) (by kernel_rfl) (by kernel_rfl) (by kernel_rfl) (fun _ _ _ h => h) (Or.inl ⟨by rfl, ?_⟩) (by assumption) ?_
                    rotate_left
                    · intro w hSw; (try dsimp only at hSw); go_simp <;> with_reducible rfl
                    try simp only [Act.put, List.setIfInBounds_toArray, List.set_cons_zero, List.set_cons_succ]
                    refine wpPart_take (i := 8) (oi := { dst := some 157, op := Op.load 34 (Operand.tmp 156), type := 34, pos := "law.go:141", after := #[{ on := 7, ground := Ground.data }], guard := none }) (v := ?_) rfl (by kernel_rfl) (by kernel_rfl) (by kernel_rfl) (by kernel_rfl) (by kernel_rfl) (fun _ _ _ h => h) (Or.inl ⟨by rfl, ?_⟩) (by assumption) ?_
                    rotate_left
                    · intro w hSw; (try dsimp only at hSw); go_simp <;> with_reducible rfl
                    try simp only [Act.put, List.setIfInBounds_toArray, List.set_cons_zero, List.set_cons_succ]
                    refine wpPart_ready (rs := [9]) (by kernel_rfl) (by simp) ?_
                    refine AllPart.cons (o := { dst := some 158, op := Op.call { callee := Callee.value (Operand.func 13), args := #[Operand.tmp 149, Operand.tmp 153, Operand.tmp 157], argTypes := #[24, 34, 34] }, type := 4, pos := "law.go:141", after := #[{ on := 0, ground := Ground.data }, { on := 4, ground := Ground.data }, { on := 8, ground := Ground.data }], guard := none }) rfl (by kernel_rfl) (fun K hK => ?_) AllPart.nil
                    have hmz := hHeld.2.2.2.2.2.2
                    go_simp
                    go_at_call 13
                    refine (HC1.out _ hmz).mono ?_
                    rintro e w5 ⟨rfl, hm5⟩
                    refine hK.out _ _ ?_ (fun hHeld => ?_)
                    · exact HK.out _ hm5
                    clear hK K
                    try simp only [Act.put, List.setIfInBounds_toArray, List.set_cons_zero, List.set_cons_succ]
                    clear hmz hm5
                    refine wpPart_take (i := 10) (oi := { dst := some 159, op := Op.move (Operand.tmp 158), type := 4, pos := "law.go:141", after := #[{ on := 9, ground := Ground.data }, { on := 9, ground := Ground.chain }], guard := none }) (v := ?_) rfl (by kernel_rfl) (by kernel_rfl) (by kernel_rfl) (by kernel_rfl) (by kernel_rfl) (fun _ _ _ h => h) (Or.inl ⟨by rfl, ?_⟩) (by assumption) ?_
                    rotate_left
                    · intro w hSw; (try dsimp only at hSw); go_simp <;> with_reducible rfl
                    try simp only [Act.put, List.setIfInBounds_toArray, List.set_cons_zero, List.set_cons_succ]
                    refine wpPart_take (i := 11) (oi := { dst := some 160, op := Op.move (Operand.tmp 5), type := 24, pos := "law.go:141", after := #[{ on := 10, ground := Ground.guard }], guard := some (10, true) }) (v := undef) rfl (by kernel_rfl) (by kernel_rfl) (by kernel_rfl) (by kernel_rfl) (by kernel_rfl) (fun _ _ _ h => h) (Or.inr ⟨by rfl, rfl⟩) (by assumption) ?_
                    try simp only [Act.put, List.setIfInBounds_toArray, List.set_cons_zero, List.set_cons_succ]
                    refine wpPart_take (i := 12) (oi := { dst := some 161, op := Op.move (Operand.tmp 9), type := 28, pos := "law.go:141", after := #[{ on := 10, ground := Ground.guard }], guard := some (10, true) }) (v := undef) rfl (by kernel_rfl) (by kernel_rfl) (by kernel_rfl) (by kernel_rfl) (by kernel_rfl) (fun _ _ _ h => h) (Or.inr ⟨by rfl, rfl⟩) (by assumption) ?_
                    try simp only [Act.put, List.setIfInBounds_toArray, List.set_cons_zero, List.set_cons_succ]
                    refine wpPart_take (i := 13) (oi := { dst := some 162, op := Op.move (Operand.tmp 11), type := 3, pos := "law.go:141", after := #[{ on := 10, ground := Ground.guard }], guard := some (10, true) }) (v := undef) rfl (by kernel_rfl) (by kernel_rfl) (by kernel_rfl) (by kernel_rfl) (by kernel_rfl) (fun _ _ _ h => h) (Or.inr ⟨by rfl, rfl⟩) (by assumption) ?_
                    try simp only [Act.put, List.setIfInBounds_toArray, List.set_cons_zero, List.set_cons_succ]
                    refine wpPart_take (i := 14) (oi := { dst := some 163, op := Op.indexAddr 28 (Operand.tmp 161) (Operand.tmp 162), type := 0, pos := "law.go:141", after := #[{ on := 12, ground := Ground.data }, { on := 13, ground := Ground.data }, { on := 10, ground := Ground.guard }], guard := some (10, true) }) (v := undef) rfl (by kernel_rfl) (by kernel_rfl) (by kernel_rfl) (by kernel_rfl) (by kernel_rfl) (fun _ _ _ h => h) (Or.inr ⟨by rfl, rfl⟩) (by assumption) ?_
                    try simp only [Act.put, List.setIfInBounds_toArray, List.set_cons_zero, List.set_cons_succ]
                    refine wpPart_take (i := 15) (oi := { dst := some 164, op := Op.load 34 (Operand.tmp 163), type := 34, pos := "law.go:141", after := #[{ on := 14, ground := Ground.data }, { on := 10, ground := Ground.guard }], guard := some (10, true) }) (v := undef) rfl (by kernel_rfl) (by kernel_rfl) (by kernel_rfl) (by kernel_rfl) (by kernel_rfl) (fun _ _ _ h => h) (Or.inr ⟨by rfl, rfl⟩) (by assumption) ?_
                    try simp only [Act.put, List.setIfInBounds_toArray, List.set_cons_zero, List.set_cons_succ]
                    refine wpPart_take (i := 16) (oi := { dst := some 165, op := Op.move (Operand.tmp 9), type := 28, pos := "law.go:141", after := #[{ on := 10, ground := Ground.guard }], guard := some (10, true) }) (v := undef) rfl (by kernel_rfl) (by kernel_rfl) (by kernel_rfl) (by kernel_rfl) (by kernel_rfl) (fun _ _ _ h => h) (Or.inr ⟨by rfl, rfl⟩) (by assumption) ?_
                    try simp only [Act.put, List.setIfInBounds_toArray, List.set_cons_zero, List.set_cons_succ]
                    refine wpPart_take (i := 17) (oi := { dst := some 166, op := Op.move (Operand.tmp 12), type := 3, pos := "law.go:141", after := #[{ on := 10, ground := Ground.guard }], guard := some (10, true) }) (v := undef) rfl (by kernel_rfl) (by kernel_rfl) (by kernel_rfl) (by kernel_rfl) (by kernel_rfl) (fun _ _ _ h => h) (Or.inr ⟨by rfl, rfl⟩) (by assumption) ?_
                    try simp only [Act.put, List.setIfInBounds_toArray, List.set_cons_zero, List.set_cons_succ]
                    refine wpPart_take (i := 18) (oi := { dst := some 167, op := Op.indexAddr 28 (Operand.tmp 165) (Operand.tmp 166), type := 0, pos := "law.go:141", after := #[{ on := 16, ground := Ground.data }, { on := 17, ground := Ground.data }, { on := 10, ground := Ground.guard }], guard := some (10, true) }) (v := undef) rfl (by kernel_rfl) (by kernel_rfl) (by kernel_rfl) (by kernel_rfl) (by kernel_rfl) (fun _ _ _ h => h) (Or.inr ⟨by rfl, rfl⟩) (by assumption) ?_
                    try simp only [Act.put, List.setIfInBounds_toArray, List.set_cons_zero, List.set_cons_succ]
                    refine wpPart_take (i := 19) (oi := { dst := some 168, op := Op.load 34 (Operand.tmp 167), type := 34, pos := "law.go:141", after := #[{ on := 18, ground := Ground.data }, { on := 10, ground := Ground.guard }], guard := some (10, true) }) (v := undef) rfl (by kernel_rfl) (by kernel_rfl) (by kernel_rfl) (by kernel_rfl) (by kernel_rfl) (fun _ _ _ h => h) (Or.inr ⟨by rfl, rfl⟩) (by assumption) ?_
                    try simp only [Act.put, List.setIfInBounds_toArray, List.set_cons_zero, List.set_cons_succ]
                    refine wpPart_take (i := 20) (oi := { dst := some 169, op := Op.call { callee := Callee.value (Operand.func 13), args := #[Operand.tmp 160, Operand.tmp 164, Operand.tmp 168], argTypes := #[24, 34, 34] }, type := 4, pos := "law.go:141", after := #[{ on := 11, ground := Ground.data }, { on := 15, ground := Ground.data }, { on := 19, ground := Ground.data }, { on := 10, ground := Ground.chain }, { on := 10, ground := Ground.guard }], guard := some (10, true) }) (v := undef) rfl (by kernel_rfl) (by kernel_rfl) (by kernel_rfl) (by kernel_rfl) (by kernel_rfl) (fun _ _ _ h => h) (Or.inr ⟨by rfl, rfl⟩) (by assumption) ?_
                    try simp only [Act.put, List.setIfInBounds_toArray, List.set_cons_zero, List.set_cons_succ]
                    refine wpPart_take (i := 21) (oi := { dst := some 170, op := Op.pick (Operand.tmp 159) (Operand.tmp 169) (Operand.const (Value.bool false)), type := 4, pos := "law.go:141", after := #[{ on := 10, ground := Ground.data }, { on := 20, ground := Ground.data }], guard := none }) (v := ?_) rfl (by kernel_rfl) (by kernel_rfl) (by kernel_rfl) (by kernel_rfl) (by kernel_rfl) (fun _ _ _ h => h) (Or.inl ⟨by rfl, ?_⟩) (by assumption) ?_
                    rotate_left
                    · intro w hSw; (try dsimp only at hSw); go_simp <;> with_reducible rfl
                    try simp only [Act.put, List.setIfInBounds_toArray, List.set_cons_zero, List.set_cons_succ]
                    refine wpPart_take (i := 22) (oi := { dst := some 171, op := Op.move (Operand.tmp 170), type := 4, pos := "law.go:141", after := #[{ on := 21, ground := Ground.data }, { on := 20, ground := Ground.chain }], guard := none }) (v := ?_) rfl (by kernel_rfl) (by kernel_rfl) (by kernel_rfl) (by kernel_rfl) (by kernel_rfl) (fun _ _ _ h => h) (Or.inl ⟨by rfl, ?_⟩) (by assumption) ?_
                    rotate_left
                    · intro w hSw; (try dsimp only at hSw); go_simp <;> with_reducible rfl
                    try simp only [Act.put, List.setIfInBounds_toArray, List.set_cons_zero, List.set_cons_succ]
                    refine wpPart_take (i := 23) (oi := { dst := some 172, op := Op.move (Operand.tmp 5), type := 24, pos := "law.go:141", after := #[{ on := 22, ground := Ground.guard }], guard := some (22, true) }) (v := undef) rfl (by kernel_rfl) (by kernel_rfl) (by kernel_rfl) (by kernel_rfl) (by kernel_rfl) (fun _ _ _ h => h) (Or.inr ⟨by rfl, rfl⟩) (by assumption) ?_
                    try simp only [Act.put, List.setIfInBounds_toArray, List.set_cons_zero, List.set_cons_succ]
                    refine wpPart_take (i := 24) (oi := { dst := some 173, op := Op.move (Operand.tmp 9), type := 28, pos := "law.go:141", after := #[{ on := 22, ground := Ground.guard }], guard := some (22, true) }) (v := undef) rfl (by kernel_rfl) (by kernel_rfl) (by kernel_rfl) (by kernel_rfl) (by kernel_rfl) (fun _ _ _ h => h) (Or.inr ⟨by rfl, rfl⟩) (by assumption) ?_
                    try simp only [Act.put, List.setIfInBounds_toArray, List.set_cons_zero, List.set_cons_succ]
                    refine wpPart_take (i := 25) (oi := { dst := some 174, op := Op.move (Operand.tmp 10), type := 3, pos := "law.go:141", after := #[{ on := 22, ground := Ground.guard }], guard := some (22, true) }) (v := undef) rfl (by kernel_rfl) (by kernel_rfl) (by kernel_rfl) (by kernel_rfl) (by kernel_rfl) (fun _ _ _ h => h) (Or.inr ⟨by rfl, rfl⟩) (by assumption) ?_
                    try simp only [Act.put, List.setIfInBounds_toArray, List.set_cons_zero, List.set_cons_succ]
                    refine wpPart_take (i := 26) (oi := { dst := some 175, op := Op.indexAddr 28 (Operand.tmp 173) (Operand.tmp 174), type := 0, pos := "law.go:141", after := #[{ on := 24, ground := Ground.data }, { on := 25, ground := Ground.data }, { on := 22, ground := Ground.guard }], guard := some (22, true) }) (v := undef) rfl (by kernel_rfl) (by kernel_rfl) (by kernel_rfl) (by kernel_rfl) (by kernel_rfl) (fun _ _ _ h => h) (Or.inr ⟨by rfl, rfl⟩) (by assumption) ?_
                    try simp only [Act.put, List.setIfInBounds_toArray, List.set_cons_zero, List.set_cons_succ]
                    refine wpPart_take (i := 27) (oi := { dst := some 176, op := Op.load 34 (Operand.tmp 175), type := 34, pos := "law.go:141", after := #[{ on := 26, ground := Ground.data }, { on := 22, ground := Ground.guard }], guard := some (22, true) }) (v := undef) rfl (by kernel_rfl) (by kernel_rfl) (by kernel_rfl) (by kernel_rfl) (by kernel_rfl) (fun _ _ _ h => h) (Or.inr ⟨by rfl, rfl⟩) (by assumption) ?_
                    try simp only [Act.put, List.setIfInBounds_toArray, List.set_cons_zero, List.set_cons_succ]
                    refine wpPart_take (i := 28) (oi := { dst := some 177, op := Op.move (Operand.tmp 9), type := 28, pos := "law.go:141", after := #[{ on := 22, ground := Ground.guard }], guard := some (22, true) }) (v := undef) rfl (by kernel_rfl) (by kernel_rfl) (by kernel_rfl) (by kernel_rfl) (by kernel_rfl) (fun _ _ _ h => h) (Or.inr ⟨by rfl, rfl⟩) (by assumption) ?_
                    try simp only [Act.put, List.setIfInBounds_toArray, List.set_cons_zero, List.set_cons_succ]
                    refine wpPart_take (i := 29) (oi := { dst := some 178, op := Op.move (Operand.tmp 12), type := 3, pos := "law.go:141", after := #[{ on := 22, ground := Ground.guard }], guard := some (22, true) }) (v := undef) rfl (by kernel_rfl) (by kernel_rfl) (by kernel_rfl) (by kernel_rfl) (by kernel_rfl) (fun _ _ _ h => h) (Or.inr ⟨by rfl, rfl⟩) (by assumption) ?_
                    try simp only [Act.put, List.setIfInBounds_toArray, List.set_cons_zero, List.set_cons_succ]
                    refine wpPart_take (i := 30) (oi := { dst := some 179, op := Op.indexAddr 28 (Operand.tmp 177) (Operand.tmp 178), type := 0, pos := "law.go:141", after := #[{ on := 28, ground := Ground.data }, { on := 29, ground := Ground.data }, { on := 22, ground := Ground.guard }], guard := some (22, true) }) (v := undef) rfl (by kernel_rfl) (by kernel_rfl) (by kernel_rfl) (by kernel_rfl) (by kernel_rfl) (fun _ _ _ h => h) (Or.inr ⟨by rfl, rfl⟩) (by assumption) ?_
                    try simp only [Act.put, List.setIfInBounds_toArray, List.set_cons_zero, List.set_cons_succ]
                    refine wpPart_take (i := 31) (oi := { dst := some 180, op := Op.load 34 (Operand.tmp 179), type := 34, pos := "law.go:141", after := #[{ on := 30, ground := Ground.data }, { on := 22, ground := Ground.guard }], guard := some (22, true) }) (v := undef) rfl (by kernel_rfl) (by kernel_rfl) (by kernel_rfl) (by kernel_rfl) (by kernel_rfl) (fun _ _ _ h => h) (Or.inr ⟨by rfl, rfl⟩) (by assumption) ?_
                    try simp only [Act.put, List.setIfInBounds_toArray, List.set_cons_zero, List.set_cons_succ]
                    refine wpPart_take (i := 32) (oi := { dst := some 181, op := Op.call { callee := Callee.value (Operand.func 13), args := #[Operand.tmp 172, Operand.tmp 176, Operand.tmp 180], argTypes := #[24, 34, 34] }, type := 4, pos := "law.go:141", after := #[{ on := 23, ground := Ground.data }, { on := 27, ground := Ground.data }, { on := 31, ground := Ground.data }, { on := 22, ground := Ground.chain }, { on := 22, ground := Ground.guard }], guard := some (22, true) }) (v := undef) rfl (by kernel_rfl) (by kernel_rfl) (by kernel_rfl) (by kernel_rfl) (by kernel_rfl) (fun _ _ _ h => h) (Or.inr ⟨by rfl, rfl⟩) (by assumption) ?_
                    try simp only [Act.put, List.setIfInBounds_toArray, List.set_cons_zero, List.set_cons_succ]
                    refine wpPart_take (i := 33) (oi := { dst := some 182, op := Op.unOp UnOp.not 4 (Operand.tmp 181), type := 4, pos := "law.go:141", after := #[{ on := 32, ground := Ground.data }, { on := 22, ground := Ground.guard }], guard := some (22, true) }) (v := undef) rfl (by kernel_rfl) (by kernel_rfl) (by kernel_rfl) (by kernel_rfl) (by kernel_rfl) (fun _ _ _ h => h) (Or.inr ⟨by rfl, rfl⟩) (by assumption) ?_
                    try simp only [Act.put, List.setIfInBounds_toArray, List.set_cons_zero, List.set_cons_succ]
                    refine wpPart_take (i := 34) (oi := { dst := some 183, op := Op.pick (Operand.tmp 171) (Operand.tmp 182) (Operand.const (Value.bool false)), type := 4, pos := "law.go:141", after := #[{ on := 22, ground := Ground.data }, { on := 33, ground := Ground.data }], guard := none }) (v := ?_) rfl (by kernel_rfl) (by kernel_rfl) (by kernel_rfl) (by kernel_rfl) (by kernel_rfl) (fun _ _ _ h => h) (Or.inl ⟨by rfl, ?_⟩) (by assumption) ?_
                    rotate_left
                    · intro w hSw; (try dsimp only at hSw); go_simp <;> with_reducible rfl
                    try simp only [Act.put, List.setIfInBounds_toArray, List.set_cons_zero, List.set_cons_succ]
                    refine wpPart_done (by kernel_rfl) ?_ _
                    have HRd := Lib.hid (hRc.out.quiet hHeld.2.2.2.2.2.2)
                    clear hHeld HK HC1
                    go_wp2
                    go_roundw
                    case rel => exact ⟨c + 1, by omega, by go_num, HRd⟩
                    case measure => simp [intOf]; omega
                  · have hgc : ¬ (c : Int) < (s.allNames.length : Int) := by omega
                    go_wp2
                    go_roundw
                    case rel => exact ⟨b + 1, by omega, by go_num, hRc⟩
                    case measure => simp [intOf]; omega
              · have HC1 := Lib.hid (look_ahead HRb.out a b ma mb HMA.out HMB.out true hx)
                have hab : a < b := HOk.out.alt b mb a HMB.out hx
                have hba : ma.ahead b = false := by
                  cases hq : ma.ahead b
                  · rfl
                  · have := HOk.out.alt a ma b HMA.out hq
                    omega
                have HC2 := Lib.hid (look_ahead HRb.out b a mb ma HMB.out HMA.out false hba)
                have t1 : ((a : Int) == (b : Int)) = false := by rw [beq_eq_false_iff_ne]; omega
                have t2 : (a == b) = false := by rw [beq_eq_false_iff_ne]; omega
                have t3 : decide (b < a) = false := decide_eq_false (by omega)
                have t4 : decide ((b : Int) < (a : Int)) = false := decide_eq_false (by omega)
                clear hba
                go_wp2_with fail
                refine wp_region_part (S := fun w' => w'.cell? ⟨b9, o9 + a * 2, none⟩ = some (.int .i64 (ma.frm : Int)) ∧ w'.cell? ⟨b9, o9 + a * 2 + 1, none⟩ = some (.int .u64 (ma.num : Int)) ∧ w'.cell? ⟨b9, o9 + b * 2, none⟩ = some (.int .i64 (mb.frm : Int)) ∧ w'.cell? ⟨b9, o9 + b * 2 + 1, none⟩ = some (.int .u64 (mb.num : Int)) ∧ Mod (fun _ => False) wb w') [] (by kernel_rfl) ?_ (fun hHeld => ?_)
                · exact HK.out _ (Mod.refl _ _).drew
                refine wpPart_take (i := 0) (oi := { dst := some 111, op := Op.move (Operand.tmp 5), type := 24, pos := "law.go:137", after := #[], guard := none }) (v := ?_) rfl (by kernel_rfl) (by kernel_rfl) (by kernel_rfl) (by kernel_rfl) (by kernel_rfl) (fun _ _ _ h => h) (Or.inl ⟨by rfl, ?_⟩) (by assumption) ?_
                rotate_left
                · intro w hSw; (try dsimp only at hSw); go_simp <;> with_reducible rfl
                try simp only [Act.put, List.setIfInBounds_toArray, List.set_cons_zero, List.set_cons_succ]
                refine wpPart_take (i := 1) (oi := { dst := some 112, op := Op.move (Operand.tmp 9), type := 28, pos := "law.go:137", after := #[], guard := none }) (v := ?_) rfl (by kernel_rfl) (by kernel_rfl) (by kernel_rfl) (by kernel_rfl) (by kernel_rfl) (fun _ _ _ h => h) (Or.inl ⟨by rfl, ?_⟩) (by assumption) ?_
                rotate_left
                · intro w hSw; (try dsimp only at hSw); go_simp <;> with_reducible rfl
                try simp only [Act.put, List.setIfInBounds_toArray, List.set_cons_zero, List.set_cons_succ]
                refine wpPart_take (i := 2) (oi := { dst := some 113, op := Op.move (Operand.tmp 10), type := 3, pos := "law.go:137", after := #[], guard := none }) (v := ?_) rfl (by kernel_rfl) (by kernel_rfl) (by kernel_rfl) (by kernel_rfl) (by kernel_rfl) (fun _ _ _ h => h) (Or.inl ⟨by rfl, ?_⟩) (by assumption) ?_
                rotate_left
                · intro w hSw; (try dsimp only at hSw); go_simp <;> with_reducible rfl
                try simp only [Act.put, List.setIfInBounds_toArray, List.set_cons_zero, List.set_cons_succ]
                refine wpPart_take (i := 3) (oi := { dst := some 114, op := Op.indexAddr 28 (Operand.tmp 112) (Operand.tmp 113), type := 0, pos := "law.go:137", after := #[{ on := 1, ground := Ground.data }, { on := 2, ground := Ground.data }], guard := none }) (v := ?_) rfl (by kernel_rfl) (by kernel_rfl) (by kernel_rfl) (by kernel_rfl) (by kernel_rfl) (fun _ _ _ h => h) (Or.inl ⟨by rfl, ?_⟩) (by assumption) ?_
                rotate_left
                · intro w hSw; (try dsimp only at hSw); go_simp <;> with_reducible rfl
                try simp only [Act.put, List.setIfInBounds_toArray, List.set_cons_zero, List.set_cons_succ]
                refine wpPart_take (i := 4) (oi := { dst := some 115, op := Op.load 34 (Operand.tmp 114), type := 34, pos := "law.go:137", after := #[{ on := 3, ground := Ground.data }], guard := none }) (v := ?_) rfl (by kernel_rfl) (by kernel_rfl) (by kernel_rfl) (by kernel_rfl) (by kernel_rfl) (fun _ _ _ h => h) (Or.inl ⟨by rfl, ?_⟩) (by assumption) ?_
                rotate_left
                · intro w hSw; (try dsimp only at hSw); go_simp <;> with_reducible rfl
                try simp only [Act.put, List.setIfInBounds_toArray, List.set_cons_zero, List.set_cons_succ]
                refine wpPart_take (i := 5) (oi := { dst := some 116, op := Op.move (Operand.tmp 9), type := 28, pos := "law.go:137", after := #[], guard := none }) (v := ?_) rfl (by kernel_rfl) (by kernel_rfl) (by kernel_rfl) (by kernel_rfl) (by kernel_rfl) (fun _ _ _ h => h) (Or.inl ⟨by rfl, ?_⟩) (by assumption) ?_
                rotate_left
                · intro w hSw; (try dsimp only at hSw); go_simp <;> with_reducible rfl
                try simp only [Act.put, List.setIfInBounds_toArray, List.set_cons_zero, List.set_cons_succ]
                refine wpPart_take (i := 6) (oi := { dst := some 117, op := Op.move (Operand.tmp 11), type := 3, pos := "law.go:137", after := #[], guard := none }) (v := ?_) rfl (by kernel_rfl) (by kernel_rfl) (by kernel_rfl) (by kernel_rfl) (by kernel_rfl) (fun _ _ _ h => h) (Or.inl ⟨by rfl, ?_⟩) (by assumption) ?_
                rotate_left
                · intro w hSw; (try dsimp only at hSw); go_simp <;> with_reducible rfl
                try simp only [Act.put, List.setIfInBounds_toArray, List.set_cons_zero, List.set_cons_succ]
                refine wpPart_take (i := 7) (oi := { dst := some 118, op := Op.indexAddr 28 (Operand.tmp 116) (Operand.tmp 117), type := 0, pos := "law.go:137", after := #[{ on := 5, ground := Ground.data }, { on := 6, ground := Ground.data }], guard := none }) (v := ?_) rfl (by kernel_rfl) (by kernel_rfl) (by kernel_rfl) (by kernel_rfl) (by kernel_rfl) (fun _ _ _ h => h) (Or.inl ⟨by rfl, ?_⟩) (by assumption) ?_
                rotate_left
                · intro w hSw; (try dsimp only at hSw); go_simp <;> with_reducible rfl
                try simp only [Act.put, List.setIfInBounds_toArray, List.set_cons_zero, List.set_cons_succ]
                refine wpPart_take (i := 8) (oi := { dst := some 119, op := Op.load 34 (Operand.tmp 118), type := 34, pos := "law.go:137", after := #[{ on := 7, ground := Ground.data }], guard := none }) (v := ?_) rfl (by kernel_rfl) (by kernel_rfl) (by kernel_rfl) (by kernel_rfl) (by kernel_rfl) (fun _ _ _ h => h) (Or.inl ⟨by rfl, ?_⟩) (by assumption) ?_
                rotate_left
                · intro w hSw; (try dsimp only at hSw); go_simp <;> with_reducible rfl
                try simp only [Act.put, List.setIfInBounds_toArray, List.set_cons_zero, List.set_cons_succ]
                refine wpPart_ready (rs := [9]) (by kernel_rfl) (by simp) ?_
                refine AllPart.cons (o := { dst := some 120, op := Op.call { callee := Callee.value (Operand.func 13), args := #[Operand.tmp 111, Operand.tmp 115, Operand.tmp 119], argTypes := #[24, 34, 34] }, type := 4, pos := "law.go:137", after := #[{ on := 0, ground := Ground.data }, { on := 4, ground := Ground.data }, { on := 8, ground := Ground.data }], guard := none }) rfl (by kernel_rfl) (fun K hK => ?_) AllPart.nil
                have hmz := hHeld.2.2.2.2
                go_simp
                go_at_call 13
                refine (HC1.out _ hmz).mono ?_
                rintro e w5 ⟨rfl, hm5⟩
                refine hK.out _ _ ?_ (fun hHeld => ?_)
                · exact HK.out _ hm5
                clear hK K
                try simp only [Act.put, List.setIfInBounds_toArray, List.set_cons_zero, List.set_cons_succ]
                clear hmz hm5
                refine wpPart_take (i := 10) (oi := { dst := some 121, op := Op.move (Operand.tmp 120), type := 4, pos := "law.go:137", after := #[{ on := 9, ground := Ground.data }, { on := 9, ground := Ground.chain }], guard := none }) (v := ?_) rfl (by kernel_rfl) (by kernel_rfl) (by kernel_rfl) (by kernel_rfl) (by kernel_rfl) (fun _ _ _ h => h) (Or.inl ⟨by rfl, ?_⟩) (by assumption) ?_
                rotate_left
                · intro w hSw; (try dsimp only at hSw); go_simp <;> with_reducible rfl
                try simp only [Act.put, List.setIfInBounds_toArray, List.set_cons_zero, List.set_cons_succ]
                refine wpPart_take (i := 11) (oi := { dst := some 122, op := Op.move (Operand.tmp 10), type := 3, pos := "law.go:137", after := #[{ on := 10, ground := Ground.guard }], guard := some (10, true) }) (v := ?_) rfl (by kernel_rfl) (by kernel_rfl) (by kernel_rfl) (by kernel_rfl) (by kernel_rfl) (fun _ _ _ h => h) (Or.inl ⟨by rfl, ?_⟩) (by assumption) ?_
                rotate_left
                · intro w hSw; (try dsimp only at hSw); go_simp <;> with_reducible rfl
                try simp only [Act.put, List.setIfInBounds_toArray, List.set_cons_zero, List.set_cons_succ]
                refine wpPart_take (i := 12) (oi := { dst := some 123, op := Op.move (Operand.tmp 11), type := 3, pos := "law.go:137", after := #[{ on := 10, ground := Ground.guard }], guard := some (10, true) }) (v := ?_) rfl (by kernel_rfl) (by kernel_rfl) (by kernel_rfl) (by kernel_rfl) (by kernel_rfl) (fun _ _ _ h => h) (Or.inl ⟨by rfl, ?_⟩) (by assumption) ?_
                rotate_left
                · intro w hSw; (try dsimp only at hSw); go_simp <;> with_reducible rfl
                try simp only [Act.put, List.setIfInBounds_toArray, List.set_cons_zero, List.set_cons_succ]
                refine wpPart_take (i := 13) (oi := { dst := some 124, op := Op.binOp BinOp.eql 3 (Operand.tmp 122) (Operand.tmp 123) 3, type := 4, pos := "law.go:137", after := #[{ on := 11, ground := Ground.data }, { on := 12, ground := Ground.data }, { on := 10, ground := Ground.guard }], guard := some (10, true) }) (v := ?_) rfl (by kernel_rfl) (by kernel_rfl) (by kernel_rfl) (by kernel_rfl) (by kernel_rfl) (fun _ _ _ h => h) (Or.inl ⟨by rfl, ?_⟩) (by assumption) ?_
                rotate_left
                · intro w hSw; (try dsimp only at hSw); go_simp <;> with_reducible rfl
                try simp only [Act.put, List.setIfInBounds_toArray, List.set_cons_zero, List.set_cons_succ]
                refine wpPart_take (i := 14) (oi := { dst := some 125, op := Op.move (Operand.tmp 124), type := 4, pos := "law.go:137", after := #[{ on := 13, ground := Ground.data }, { on := 10, ground := Ground.chain }, { on := 10, ground := Ground.guard }], guard := some (10, true) }) (v := ?_) rfl (by kernel_rfl) (by kernel_rfl) (by kernel_rfl) (by kernel_rfl) (by kernel_rfl) (fun _ _ _ h => h) (Or.inl ⟨by rfl, ?_⟩) (by assumption) ?_
                rotate_left
                · intro w hSw; (try dsimp only at hSw); go_simp <;> with_reducible rfl
                try simp only [Act.put, List.setIfInBounds_toArray, List.set_cons_zero, List.set_cons_succ]
                refine wpPart_take (i := 15) (oi := { dst := some 126, op := Op.move (Operand.tmp 5), type := 24, pos := "law.go:137", after := #[{ on := 14, ground := Ground.guard }], guard := some (14, false) }) (v := ?_) rfl (by kernel_rfl) (by kernel_rfl) (by kernel_rfl) (by kernel_rfl) (by kernel_rfl) (fun _ _ _ h => h) (Or.inl ⟨by rfl, ?_⟩) (by assumption) ?_
                rotate_left
                · intro w hSw; (try dsimp only at hSw); go_simp <;> with_reducible rfl
                try simp only [Act.put, List.setIfInBounds_toArray, List.set_cons_zero, List.set_cons_succ]
                refine wpPart_take (i := 16) (oi := { dst := some 127, op := Op.move (Operand.tmp 9), type := 28, pos := "law.go:137", after := #[{ on := 14, ground := Ground.guard }], guard := some (14, false) }) (v := ?_) rfl (by kernel_rfl) (by kernel_rfl) (by kernel_rfl) (by kernel_rfl) (by kernel_rfl) (fun _ _ _ h => h) (Or.inl ⟨by rfl, ?_⟩) (by assumption) ?_
                rotate_left
                · intro w hSw; (try dsimp only at hSw); go_simp <;> with_reducible rfl
                try simp only [Act.put, List.setIfInBounds_toArray, List.set_cons_zero, List.set_cons_succ]
                refine wpPart_take (i := 17) (oi := { dst := some 128, op := Op.move (Operand.tmp 11), type := 3, pos := "law.go:137", after := #[{ on := 14, ground := Ground.guard }], guard := some (14, false) }) (v := ?_) rfl (by kernel_rfl) (by kernel_rfl) (by kernel_rfl) (by kernel_rfl) (by kernel_rfl) (fun _ _ _ h => h) (Or.inl ⟨by rfl, ?_⟩) (by assumption) ?_
                rotate_left
                · intro w hSw; (try dsimp only at hSw); go_simp <;> with_reducible rfl
                try simp only [Act.put, List.setIfInBounds_toArray, List.set_cons_zero, List.set_cons_succ]
                refine wpPart_take (i := 18) (oi := { dst := some 129, op := Op.indexAddr 28 (Operand.tmp 127) (Operand.tmp 128), type := 0, pos := "law.go:137", after := #[{ on := 16, ground := Ground.data }, { on := 17, ground := Ground.data }, { on := 14, ground := Ground.guard }], guard := some (14, false) }) (v := ?_) rfl (by kernel_rfl) (by kernel_rfl) (by kernel_rfl) (by kernel_rfl) (by kernel_rfl) (fun _ _ _ h => h) (Or.inl ⟨by rfl, ?_⟩) (by assumption) ?_
                rotate_left
                · intro w hSw; (try dsimp only at hSw); go_simp <;> with_reducible rfl
                try simp only [Act.put, List.setIfInBounds_toArray, List.set_cons_zero, List.set_cons_succ]
                refine wpPart_take (i := 19) (oi := { dst := some 130, op := Op.load 34 (Operand.tmp 129), type := 34, pos := "law.go:137", after := #[{ on := 18, ground := Ground.data }, { on := 14, ground := Ground.guard }], guard := some (14, false) }) (v := ?_) rfl (by kernel_rfl) (by kernel_rfl) (by kernel_rfl) (by kernel_rfl) (by kernel_rfl) (fun _ _ _ h => h) (Or.inl ⟨by rfl, ?_⟩) (by assumption) ?_
                rotate_left
                · intro w hSw; (try dsimp only at hSw); go_simp <;> with_reducible rfl
                try simp only [Act.put, List.setIfInBounds_toArray, List.set_cons_zero, List.set_cons_succ]
                refine wpPart_take (i := 20) (oi := { dst := some 131, op := Op.move (Operand.tmp 9), type := 28, pos := "law.go:137", after := #[{ on := 14, ground := Ground.guard }], guard := some (14, false) }) (v := ?_) rfl (by kernel_rfl) (by kernel_rfl) (by kernel_rfl) (by kernel_rfl) (by kernel_rfl) (fun _ _ _ h => h) (Or.inl ⟨by rfl, ?_⟩) (by assumption) ?_
                rotate_left
                · intro w hSw; (try dsimp only at hSw); go_simp <;> with_reducible rfl
                try simp only [Act.put, List.setIfInBounds_toArray, List.set_cons_zero, List.set_cons_succ]
                refine wpPart_take (i := 21) (oi := { dst := some 132, op := Op.move (Operand.tmp 10), type := 3, pos := "law.go:137", after := #[{ on := 14, ground := Ground.guard }], guard := some (14, false) }) (v := ?_) rfl (by kernel_rfl) (by kernel_rfl) (by kernel_rfl) (by kernel_rfl) (by kernel_rfl) (fun _ _ _ h => h) (Or.inl ⟨by rfl, ?_⟩) (by assumption) ?_
                rotate_left
                · intro w hSw; (try dsimp only at hSw); go_simp <;> with_reducible rfl
                try simp only [Act.put, List.setIfInBounds_toArray, List.set_cons_zero, List.set_cons_succ]
                refine wpPart_take (i := 22) (oi := { dst := some 133, op := Op.indexAddr 28 (Operand.tmp 131) (Operand.tmp 132), type := 0, pos := "law.go:137", after := #[{ on := 20, ground := Ground.data }, { on := 21, ground := Ground.data }, { on := 14, ground := Ground.guard }], guard := some (14, false) }) (v := ?_) rfl (by kernel_rfl) (by kernel_rfl) (by kernel_rfl) (by kernel_rfl) (by kernel_rfl) (fun _ _ _ h => h) (Or.inl ⟨by rfl, ?_⟩) (by assumption) ?_
                rotate_left
                · intro w hSw; (try dsimp only at hSw); go_simp <;> with_reducible rfl
                try simp only [Act.put, List.setIfInBounds_toArray, List.set_cons_zero, List.set_cons_succ]
                refine wpPart_take (i := 23) (oi := { dst := some 134, op := Op.load 34 (Operand.tmp 133), type := 34, pos := "law.go:137", after := #[{ on := 22, ground := Ground.data }, { on := 14, ground := Ground.guard }], guard := some (14, false) }) (v := ?_) rfl (by kernel_rfl) (by kernel_rfl) (by kernel_rfl) (by kernel_rfl) (by kernel_rfl) (fun _ _ _ h => h) (Or.inl ⟨by rfl, ?_⟩) (by assumption) ?_
                rotate_left
                · intro w hSw; (try dsimp only at hSw); go_simp <;> with_reducible rfl
                try simp only [Act.put, List.setIfInBounds_toArray, List.set_cons_zero, List.set_cons_succ]
                refine wpPart_ready (rs := [24]) (by kernel_rfl) (by simp) ?_
                refine AllPart.cons (o := { dst := some 135, op := Op.call { callee := Callee.value (Operand.func 13), args := #[Operand.tmp 126, Operand.tmp 130, Operand.tmp 134], argTypes := #[24, 34, 34] }, type := 4, pos := "law.go:137", after := #[{ on := 15, ground := Ground.data }, { on := 19, ground := Ground.data }, { on := 23, ground := Ground.data }, { on := 14, ground := Ground.chain }, { on := 14, ground := Ground.guard }], guard := some (14, false) }) rfl (by kernel_rfl) (fun K hK => ?_) AllPart.nil
                have hmz := hHeld.2.2.2.2
                go_simp
                go_at_call 13
                refine (HC2.out _ hmz).mono ?_
                rintro e w5 ⟨rfl, hm5⟩
                refine hK.out _ _ ?_ (fun hHeld => ?_)
                · exact HK.out _ hm5
                clear hK K
                try simp only [Act.put, List.setIfInBounds_toArray, List.set_cons_zero, List.set_cons_succ]
                clear hmz hm5
                refine wpPart_take (i := 25) (oi := { dst := some 136, op := Op.pick (Operand.tmp 125) (Operand.const (Value.bool true)) (Operand.tmp 135), type := 4, pos := "law.go:137", after := #[{ on := 14, ground := Ground.data }, { on := 24, ground := Ground.data }, { on := 10, ground := Ground.guard }], guard := some (10, true) }) (v := ?_) rfl (by kernel_rfl) (by kernel_rfl) (by kernel_rfl) (by kernel_rfl) (by kernel_rfl) (fun _ _ _ h => h) (Or.inl ⟨by rfl, ?_⟩) (by assumption) ?_
                rotate_left
                · intro w hSw; (try dsimp only at hSw); go_simp <;> with_reducible rfl
                try simp only [Act.put, List.setIfInBounds_toArray, List.set_cons_zero, List.set_cons_succ]
                refine wpPart_take (i := 26) (oi := { dst := some 137, op := Op.move (Operand.tmp 136), type := 4, pos := "law.go:137", after := #[{ on := 25, ground := Ground.data }, { on := 24, ground := Ground.chain }, { on := 10, ground := Ground.guard }], guard := some (10, true) }) (v := ?_) rfl (by kernel_rfl) (by kernel_rfl) (by kernel_rfl) (by kernel_rfl) (by kernel_rfl) (fun _ _ _ h => h) (Or.inl ⟨by rfl, ?_⟩) (by assumption) ?_
                rotate_left
                · intro w hSw; (try dsimp only at hSw); go_simp <;> with_reducible rfl
                try simp only [Act.put, List.setIfInBounds_toArray, List.set_cons_zero, List.set_cons_succ]
                refine wpPart_take (i := 27) (oi := { dst := some 138, op := Op.move (Operand.tmp 10), type := 3, pos := "law.go:137", after := #[{ on := 26, ground := Ground.guard }], guard := some (26, false) }) (v := ?_) rfl (by kernel_rfl) (by kernel_rfl) (by kernel_rfl) (by kernel_rfl) (by kernel_rfl) (fun _ _ _ h => h) (Or.inl ⟨by rfl, ?_⟩) (by assumption) ?_
                rotate_left
                · intro w hSw; (try dsimp only at hSw); go_simp <;> with_reducible rfl
                try simp only [Act.put, List.setIfInBounds_toArray, List.set_cons_zero, List.set_cons_succ]
                refine wpPart_take (i := 28) (oi := { dst := some 139, op := Op.move (Operand.tmp 11), type := 3, pos := "law.go:137", after := #[{ on := 26, ground := Ground.guard }], guard := some (26, false) }) (v := ?_) rfl (by kernel_rfl) (by kernel_rfl) (by kernel_rfl) (by kernel_rfl) (by kernel_rfl) (fun _ _ _ h => h) (Or.inl ⟨by rfl, ?_⟩) (by assumption) ?_
                rotate_left
                · intro w hSw; (try dsimp only at hSw); go_simp <;> with_reducible rfl
                try simp only [Act.put, List.setIfInBounds_toArray, List.set_cons_zero, List.set_cons_succ]
                refine wpPart_take (i := 29) (oi := { dst := some 140, op := Op.binOp BinOp.gtr 3 (Operand.tmp 138) (Operand.tmp 139) 3, type := 4, pos := "law.go:137", after := #[{ on := 27, ground := Ground.data }, { on := 28, ground := Ground.data }, { on := 26, ground := Ground.guard }], guard := some (26, false) }) (v := ?_) rfl (by kernel_rfl) (by kernel_rfl) (by kernel_rfl) (by kernel_rfl) (by kernel_rfl) (fun _ _ _ h => h) (Or.inl ⟨by rfl, ?_⟩) (by assumption) ?_
                rotate_left
                · intro w hSw; (try dsimp only at hSw); go_simp <;> with_reducible rfl
                try simp only [Act.put, List.setIfInBounds_toArray, List.set_cons_zero, List.set_cons_succ]
                refine wpPart_take (i := 30) (oi := { dst := some 141, op := Op.pick (Operand.tmp 137) (Operand.const (Value.bool true)) (Operand.tmp 140), type := 4, pos := "law.go:137", after := #[{ on := 26, ground := Ground.data }, { on := 29, ground := Ground.data }, { on := 10, ground := Ground.guard }], guard := some (10, true) }) (v := ?_) rfl (by kernel_rfl) (by kernel_rfl) (by kernel_rfl) (by kernel_rfl) (by kernel_rfl) (fun _ _ _ h => h) (Or.inl ⟨by rfl, ?_⟩) (by assumption) ?_
                rotate_left
                · intro w hSw; (try dsimp only at hSw); go_simp <;> with_reducible rfl
                try simp only [Act.put, List.setIfInBounds_toArray, List.set_cons_zero, List.set_cons_succ]
                refine wpPart_take (i := 31) (oi := { dst := some 142, op := Op.pick (Operand.tmp 121) (Operand.tmp 141) (Operand.const (Value.bool false)), type := 4, pos := "law.go:137", after := #[{ on := 10, ground := Ground.data }, { on := 30, ground := Ground.data }], guard := none }) (v := ?_) rfl (by kernel_rfl) (by kernel_rfl) (by kernel_rfl) (by kernel_rfl) (by kernel_rfl) (fun _ _ _ h => h) (Or.inl ⟨by rfl, ?_⟩) (by assumption) ?_
                rotate_left
                · intro w hSw; (try dsimp only at hSw); go_simp <;> with_reducible rfl
                try simp only [Act.put, List.setIfInBounds_toArray, List.set_cons_zero, List.set_cons_succ]
                refine wpPart_done (by kernel_rfl) ?_ _
                have HRc0 := Lib.hid (HRb.out.quiet hHeld.2.2.2.2)
                clear hHeld HK HC1 HC2
                go_wp2
                go_loopw [12] (fun i wr => ∃ c : Nat, c ≤ s.allNames.length ∧ i = .int .i64 c ∧ Hid (LookRel w B s (.slice (some ⟨b9, o9, none⟩) s.allNames.length c9) wr)) (fun i _ => s.allNames.length - (intOf i).toNat)
                case atStart => exact ⟨0, Nat.zero_le _, rfl, HRc0⟩
                case round =>
                  obtain ⟨c, hc, rfl, hRc⟩ := hrel
                  by_cases hlc : c < s.allNames.length
                  · obtain ⟨mc, hmc⟩ : ∃ m, s.all[c]? = some m := ⟨_, List.getElem?_eq_getElem (by rw [← HNL.out]; exact hlc)⟩
                    obtain ⟨_, _, hec, hcc⟩ := look_cells hRc.out hmc
                    cases hec
                    obtain ⟨_, _, hea, hca⟩ := look_cells hRc.out HMA.out
                    cases hea
                    obtain ⟨_, _, heb, hcb⟩ := look_cells hRc.out HMB.out
                    cases heb
                    have hc0 : (0 : Int) ≤ (c : Int) := by omega
                    have hc1 : (c : Int) < (s.allNames.length : Int) := by omega
                    have HK : Hid (∀ W, Mod (fun _ => False) wr W → W.cell? ⟨b9, o9 + a * 2, none⟩ = some (.int .i64 (ma.frm : Int)) ∧ W.cell? ⟨b9, o9 + a * 2 + 1, none⟩ = some (.int .u64 (ma.num : Int)) ∧ W.cell? ⟨b9, o9 + b * 2, none⟩ = some (.int .i64 (mb.frm : Int)) ∧ W.cell? ⟨b9, o9 + b * 2 + 1, none⟩ = some (.int .u64 (mb.num : Int)) ∧ W.cell? ⟨b9, o9 + c * 2, none⟩ = some (.int .i64 (mc.frm : Int)) ∧ W.cell? ⟨b9, o9 + c * 2 + 1, none⟩ = some (.int .u64 (mc.num : Int)) ∧ Mod (fun _ => False) wr W) := fun W hm => ⟨(hca W hm).1, (hca W hm).2, (hcb W hm).1, (hcb W hm).2, (hcc W hm).1, (hcc W hm).2, hm⟩
                    have HC1 := Lib.hid (look_ahead hRc.out a b ma mb HMA.out HMB.out true hx)
                    have HMC := Lib.hid hmc
                    clear hcc hca hcb hmc
                    cases hy : mc.ahead b
                    · have HC2 := Lib.hid (look_ahead hRc.out b c mb mc HMB.out HMC.out false hy)
                      clear hy
                      go_wp2_with fail
                      refine wp_region_part (S := fun w' => w'.cell? ⟨b9, o9 + a * 2, none⟩ = some (.int .i64 (ma.frm : Int)) ∧ w'.cell? ⟨b9, o9 + a * 2 + 1, none⟩ = some (.int .u64 (ma.num : Int)) ∧ w'.cell? ⟨b9, o9 + b * 2, none⟩ = some (.int .i64 (mb.frm : Int)) ∧ w'.cell? ⟨b9, o9 + b * 2 + 1, none⟩ = some (.int .u64 (mb.num : Int)) ∧ w'.cell? ⟨b9, o9 + c * 2, none⟩ = some (.int .i64 (mc.frm : Int)) ∧ w'.cell? ⟨b9, o9 + c * 2 + 1, none⟩ = some (.int .u64 (mc.num : Int)) ∧ Mod (fun _ => False) wr w') [] (by kernel_rfl) ?_ (fun hHeld => ?_)
                      · exact HK.out _ (Mod.refl _ _).drew
                      refine wpPart_take (i := 0) (oi := { dst := some 149, op := Op.move (Operand.tmp 5), type := 24, pos := "law.go:141", after := #[], guard := none }) (v := ?_) rfl (by kernel_rfl) (by kernel_rfl) (by kernel_rfl) (by kernel_rfl) (by kernel_rfl) (fun _ _ _ h => h) (Or.inl ⟨by rfl, ?_⟩) (by assumption) ?_
                      rotate_left
                      · intro w hSw; (try dsimp only at hSw); go_simp <;> with_reducible rfl
                      try simp only [Act.put, List.setIfInBounds_toArray, List.set_cons_zero, List.set_cons_succ]
                      refine wpPart_take (i := 1) (oi := { dst := some 150, op := Op.move (Operand.tmp 9), type := 28, pos := "law.go:141", after := #[], guard := none }) (v := ?_) rfl (by kernel_rfl) (by kernel_rfl) (by kernel_rfl) (by kernel_rfl) (by kernel_rfl) (fun _ _ _ h => h) (Or.inl ⟨by rfl, ?_⟩) (by assumption) ?_
                      rotate_left
                      · intro w hSw; (try dsimp only at hSw); go_simp <;> with_reducible rfl
                      try simp only [Act.put, List.setIfInBounds_toArray, List.set_cons_zero, List.set_cons_succ]
                      refine wpPart_take (i := 2) (oi := { dst := some 151, op := Op.move (Operand.tmp 10), type := 3, pos := "law.go:141", after := #[], guard := none }) (v := ?_) rfl (by kernel_rfl) (by kernel_rfl) (by kernel_rfl) (by kernel_rfl) (by kernel_rfl) (fun _ _ _ h => h) (Or.inl ⟨by rfl, ?_⟩) (by assumption) ?_
                      rotate_left
                      · intro w hSw; (try dsimp only at hSw); go_simp <;> with_reducible rfl
                      try simp only [Act.put, List.setIfInBounds_toArray, List.set_cons_zero, List.set_cons_succ]
                      refine wpPart_take (i := 3) (oi := { dst := some 152, op := Op.indexAddr 28 (Operand.tmp 150) (Operand.tmp 151), type := 0, pos := "law.go:141", after := #[{ on := 1, ground := Ground.data }, { on := 2, ground := Ground.data }], guard := none }) (v := ?_) rfl (by kernel_rfl) (by kernel_rfl) (by kernel_rfl) (by kernel_rfl) (by kernel_rfl) (fun _ _ _ h => h) (Or.inl ⟨by rfl, ?_⟩) (by assumption) ?_
                      rotate_left
                      · intro w hSw; (try dsimp only at hSw); go_simp <;> with_reducible rfl
                      try simp only [Act.put, List.setIfInBounds_toArray, List.set_cons_zero, List.set_cons_succ]
                      refine wpPart_take (i := 4) (oi := { dst := some 153, op := Op.load 34 (Operand.tmp 152), type := 34, pos := "law.go:141", after := #[{ on := 3, ground := Ground.data }], guard := none }) (v := ?_) rfl (by kernel_rfl) (by kernel_rfl) (by kernel_rfl) (by kernel_rfl) (by kernel_rfl) (fun _ _ _ h => h) (Or.inl ⟨by rfl, ?_⟩) (by assumption) ?_
                      rotate_left
                      · intro w hSw; (try dsimp only at hSw); go_simp <;> with_reducible rfl
                      try simp only [Act.put, List.setIfInBounds_toArray, List.set_cons_zero, List.set_cons_succ]
                      refine wpPart_take (i := 5) (oi := { dst := some 154, op := Op.move (Operand.tmp 9), type := 28, pos := "law.go:141", after := #[], guard := none }) (v := ?_) rfl (by kernel_rfl) (by kernel_rfl) (by kernel_rfl) (by kernel_rfl) (by kernel_rfl) (fun _ _ _ h => h) (Or.inl ⟨by rfl, ?_⟩) (by assumption) ?_
                      rotate_left
                      · intro w hSw; (try dsimp only at hSw); go_simp <;> with_reducible rfl
                      try simp only [Act.put, List.setIfInBounds_toArray, List.set_cons_zero, List.set_cons_succ]
                      refine wpPart_take (i := 6) (oi := { dst := some 155, op := Op.move (Operand.tmp 11), type := 3, pos := "law.go:141", after := #[], guard := none }) (v := ?_) rfl (by kernel_rfl) (by kernel_rfl) (by kernel_rfl) (by kernel_rfl) (by kernel_rfl) (fun _ _ _ h => h) (Or.inl ⟨by rfl, ?_⟩) (by assumption) ?_
                      rotate_left
                      · intro w hSw; (try dsimp only at hSw); go_simp <;> with_reducible rfl
                      try simp only [Act.put, List.setIfInBounds_toArray, List.set_cons_zero, List.set_cons_succ]
                      refine wpPart_take (i := 7) (oi := { dst := some 156, op := Op.indexAddr 28 (Operand.tmp 154) (Operand.tmp 155), type := 0, pos := "law.go:141", after := #[{ on := 5, ground := Ground.data }, { on := 6, ground := Ground.data }], guard := none }) (v := ?_) rfl (by kernel_rfl) (by kernel_rfl) (by kernel_rfl) (by kernel_rfl) (by kernel_rfl) (fun _ _ _ h => h) (Or.inl ⟨by rfl, ?_⟩) (by assumption) ?_
                      rotate_left
                      · intro w hSw; (try dsimp only at hSw); go_simp <;> with_reducible rfl
                      try simp only [Act.put, List.setIfInBounds_toArray, List.set_cons_zero, List.set_cons_succ]
                      refine wpPart_take (i := 8) (oi := { dst := some 157, op := Op.load 34 (Operand.tmp 156), type := 34, pos := "law.go:141", after := #[{ on := 7, ground := Ground.data }], guard := none }) (v := ?_) rfl (by kernel_rfl) (by kernel_rfl) (by kernel_rfl) (by kernel_rfl) (by kernel_rfl) (fun _ _ _ h => h) (Or.inl ⟨by rfl, ?_⟩) (by assumption) ?_
                      rotate_left
                      · intro w hSw; (try dsimp only at hSw); go_simp <;> with_reducible rfl
                      try simp only [Act.put, List.setIfInBounds_toArray, List.set_cons_zero, List.set_cons_succ]
                      refine wpPart_ready (rs := [9]) (by kernel_rfl) (by simp) ?_
                      refine AllPart.cons (o := { dst := some 158, op := Op.call { callee := Callee.value (Operand.func 13), args := #[Operand.tmp 149, Operand.tmp 153, Operand.tmp 157], argTypes := #[24, 34, 34] }, type := 4, pos := "law.go:141", after := #[{ on := 0, ground := Ground.data }, { on := 4, ground := Ground.data }, { on := 8, ground := Ground.data }], guard := none }) rfl (by kernel_rfl) (fun K hK => ?_) AllPart.nil
                      have hmz := hHeld.2.2.2.2.2.2
                      go_simp
                      go_at_call 13
                      refine (HC1.out _ hmz).mono ?_
                      rintro e w5 ⟨rfl, hm5⟩
                      refine hK.out _ _ ?_ (fun hHeld => ?_)
                      · exact HK.out _ hm5
                      clear hK K
                      try simp only [Act.put, List.setIfInBounds_toArray, List.set_cons_zero, List.set_cons_succ]
                      clear hmz hm5
                      refine wpPart_take (i := 10) (oi := { dst := some 159, op := Op.move (Operand.tmp 158), type := 4, pos := "law.go:141", after := #[{ on := 9, ground := Ground.data }, { on := 9, ground := Ground.chain }], guard := none }) (v := ?_) rfl (by kernel_rfl) (by kernel_rfl) (by kernel_rfl) (by kernel_rfl) (by kernel_rfl) (fun _ _ _ h => h) (Or.inl ⟨by rfl, ?_⟩) (by assumption) ?_
                      rotate_left
                      · intro w hSw; (try dsimp only at hSw); go_simp <;> with_reducible rfl
                      try simp only [Act.put, List.setIfInBounds_toArray, List.set_cons_zero, List.set_cons_succ]
                      refine wpPart_take (i := 11) (oi := { dst := some 160, op := Op.move (Operand.tmp 5), type := 24, pos := "law.go:141", after := #[{ on := 10, ground := Ground.guard }], guard := some (10, true) }) (v := ?_) rfl (by kernel_rfl) (by kernel_rfl) (by kernel_rfl) (by kernel_rfl) (by kernel_rfl) (fun _ _ _ h => h) (Or.inl ⟨by rfl, ?_⟩) (by assumption) ?_
                      rotate_left
                      · intro w hSw; (try dsimp only at hSw); go_simp <;> with_reducible rfl
                      try simp only [Act.put, List.setIfInBounds_toArray, List.set_cons_zero, List.set_cons_succ]
                      refine wpPart_take (i := 12) (oi := { dst := some 161, op := Op.move (Operand.tmp 9), type := 28, pos := "law.go:141", after := #[{ on := 10, ground := Ground.guard }], guard := some (10, true) }) (v := ?_) rfl (by kernel_rfl) (by kernel_rfl) (by kernel_rfl) (by kernel_rfl) (by kernel_rfl) (fun _ _ _ h => h) (Or.inl ⟨by rfl, ?_⟩) (by assumption) ?_
                      rotate_left
                      · intro w hSw; (try dsimp only at hSw); go_simp <;> with_reducible rfl
                      try simp only [Act.put, List.setIfInBounds_toArray, List.set_cons_zero, List.set_cons_succ]
                      refine wpPart_take (i := 13) (oi := { dst := some 162, op := Op.move (Operand.tmp 11), type := 3, pos := "law.go:141", after := #[{ on := 10, ground := Ground.guard }], guard := some (10, true) }) (v := ?_) rfl (by kernel_rfl) (by kernel_rfl) (by kernel_rfl) (by kernel_rfl) (by kernel_rfl) (fun _ _ _ h => h) (Or.inl ⟨by rfl, ?_⟩) (by assumption) ?_
                      rotate_left
                      · intro w hSw; (try dsimp only at hSw); go_simp <;> with_reducible rfl
                      try simp only [Act.put, List.setIfInBounds_toArray, List.set_cons_zero, List.set_cons_succ]
                      refine wpPart_take (i := 14) (oi := { dst := some 163, op := Op.indexAddr 28 (Operand.tmp 161) (Operand.tmp 162), type := 0, pos := "law.go:141", after := #[{ on := 12, ground := Ground.data }, { on := 13, ground := Ground.data }, { on := 10, ground := Ground.guard }], guard := some (10, true) }) (v := ?_) rfl (by kernel_rfl) (by kernel_rfl) (by kernel_rfl) (by kernel_rfl) (by kernel_rfl) (fun _ _ _ h => h) (Or.inl ⟨by rfl, ?_⟩) (by assumption) ?_
                      rotate_left
                      · intro w hSw; (try dsimp only at hSw); go_simp <;> with_reducible rfl
                      try simp only [Act.put, List.setIfInBounds_toArray, List.set_cons_zero, List.set_cons_succ]
                      refine wpPart_take (i := 15) (oi := { dst := some 164, op := Op.load 34 (Operand.tmp 163), type := 34, pos := "law.go:141", after := #[{ on := 14, ground := Ground.data }, { on := 10, ground := Ground.guard }], guard := some (10, true) }) (v := ?_) rfl (by kernel_rfl) (by kernel_rfl) (by kernel_rfl) (by kernel_rfl) (by kernel_rfl) (fun _ _ _ h => h) (Or.inl ⟨by rfl, ?_⟩) (by assumption) ?_
                      rotate_left
                      · intro w hSw; (try dsimp only at hSw); go_simp <;> with_reducible rfl
                      try simp only [Act.put, List.setIfInBounds_toArray, List.set_cons_zero, List.set_cons_succ]
                      refine wpPart_take (i := 16) (oi := { dst := some 165, op := Op.move (Operand.tmp 9), type := 28, pos := "law.go:141", after := #[{ on := 10, ground := Ground.guard }], guard := some (10, true) }) (v := ?_) rfl (by kernel_rfl) (by kernel_rfl) (by kernel_rfl) (by kernel_rfl) (by kernel_rfl) (fun _ _ _ h => h) (Or.inl ⟨by rfl, ?_⟩) (by assumption) ?_
                      rotate_left
                      · intro w hSw; (try dsimp only at hSw); go_simp <;> with_reducible rfl
                      try simp only [Act.put, List.setIfInBounds_toArray, List.set_cons_zero, List.set_cons_succ]
                      refine wpPart_take (i := 17) (oi := { dst := some 166, op := Op.move (Operand.tmp 12), type := 3, pos := "law.go:141", after := #[{ on := 10, ground := Ground.guard }], guard := some (10, true) }) (v := ?_) rfl (by kernel_rfl) (by kernel_rfl) (by kernel_rfl) (by kernel_rfl) (by kernel_rfl) (fun _ _ _ h => h) (Or.inl ⟨by rfl, ?_⟩) (by assumption) ?_
                      rotate_left
                      · intro w hSw; (try dsimp only at hSw); go_simp <;> with_reducible rfl
                      try simp only [Act.put, List.setIfInBounds_toArray, List.set_cons_zero, List.set_cons_succ]
                      refine wpPart_take (i := 18) (oi := { dst := some 167, op := Op.indexAddr 28 (Operand.tmp 165) (Operand.tmp 166), type := 0, pos := "law.go:141", after := #[{ on := 16, ground := Ground.data }, { on := 17, ground := Ground.data }, { on := 10, ground := Ground.guard }], guard := some (10, true) }) (v := ?_) rfl (by kernel_rfl) (by kernel_rfl) (by kernel_rfl) (by kernel_rfl) (by kernel_rfl) (fun _ _ _ h => h) (Or.inl ⟨by rfl, ?_⟩) (by assumption) ?_
                      rotate_left
                      · intro w hSw; (try dsimp only at hSw); go_simp <;> with_reducible rfl
                      try simp only [Act.put, List.setIfInBounds_toArray, List.set_cons_zero, List.set_cons_succ]
                      refine wpPart_take (i := 19) (oi := { dst := some 168, op := Op.load 34 (Operand.tmp 167), type := 34, pos := "law.go:141", after := #[{ on := 18, ground := Ground.data }, { on := 10, ground := Ground.guard }], guard := some (10, true) }) (v := ?_) rfl (by kernel_rfl) (by kernel_rfl) (by kernel_rfl) (by kernel_rfl) (by kernel_rfl) (fun _ _ _ h => h) (Or.inl ⟨by rfl, ?_⟩) (by assumption) ?_
                      rotate_left
                      · intro w hSw; (try dsimp only at hSw); go_simp <;> with_reducible rfl
                      try simp only [Act.put, List.setIfInBounds_toArray, List.set_cons_zero, List.set_cons_succ]
                      refine wpPart_ready (rs := [20]) (by kernel_rfl) (by simp) ?_
                      refine AllPart.cons (o := { dst := some 169, op := Op.call { callee := Callee.value (Operand.func 13), args := #[Operand.tmp 160, Operand.tmp 164, Operand.tmp 168], argTypes := #[24, 34, 34] }, type := 4, pos := "law.go:141", after := #[{ on := 11, ground := Ground.data }, { on := 15, ground := Ground.data }, { on := 19, ground := Ground.data }, { on := 10, ground := Ground.chain }, { on := 10, ground := Ground.guard }], guard := some (10, true) }) rfl (by kernel_rfl) (fun K hK => ?_) AllPart.nil
                      have hmz := hHeld.2.2.2.2.2.2
                      go_simp
                      go_at_call 13
                      refine (HC2.out _ hmz).mono ?_
                      rintro e w5 ⟨rfl, hm5⟩
                      refine hK.out _ _ ?_ (fun hHeld => ?_)
                      · exact HK.out _ hm5
                      clear hK K
                      try simp only [Act.put, List.setIfInBounds_toArray, List.set_cons_zero, List.set_cons_succ]
                      clear hmz hm5
                      refine wpPart_take (i := 21) (oi := { dst := some 170, op := Op.pick (Operand.tmp 159) (Operand.tmp 169) (Operand.const (Value.bool false)), type := 4, pos := "law.go:141", after := #[{ on := 10, ground := Ground.data }, { on := 20, ground := Ground.data }], guard := none }) (v := ?_) rfl (by kernel_rfl) (by kernel_rfl) (by kernel_rfl) (by kernel_rfl) (by kernel_rfl) (fun _ _ _ h => h) (Or.inl ⟨by rfl, ?_⟩) (by assumption) ?_
                      rotate_left
                      · intro w hSw; (try dsimp only at hSw); go_simp <;> with_reducible rfl
                      try simp only [Act.put, List.setIfInBounds_toArray, List.set_cons_zero, List.set_cons_succ]
                      refine wpPart_take (i := 22) (oi := { dst := some 171, op := Op.move (Operand.tmp 170), type := 4, pos := "law.go:141", after := #[{ on := 21, ground := Ground.data }, { on := 20, ground := Ground.chain }], guard := none }) (v := ?_) rfl (by kernel_rfl) (by kernel_rfl) (by kernel_rfl) (by kernel_rfl) (by kernel_rfl) (fun _ _ _ h => h) (Or.inl ⟨by rfl, ?_⟩) (by assumption) ?_
                      rotate_left
                      · intro w hSw; (try dsimp only at hSw); go_simp <;> with_reducible rfl
                      try simp only [Act.put, List.setIfInBounds_toArray, List.set_cons_zero, List.set_cons_succ]
                      refine wpPart_take (i := 23) (oi := { dst := some 172, op := Op.move (Operand.tmp 5), type := 24, pos := "law.go:141", after := #[{ on := 22, ground := Ground.guard }], guard := some (22, true) }) (v := undef) rfl (by kernel_rfl) (by kernel_rfl) (by kernel_rfl) (by kernel_rfl) (by kernel_rfl) (fun _ _ _ h => h) (Or.inr ⟨by rfl, rfl⟩) (by assumption) ?_
                      try simp only [Act.put, List.setIfInBounds_toArray, List.set_cons_zero, List.set_cons_succ]
                      refine wpPart_take (i := 24) (oi := { dst := some 173, op := Op.move (Operand.tmp 9), type := 28, pos := "law.go:141", after := #[{ on := 22, ground := Ground.guard }], guard := some (22, true) }) (v := undef) rfl (by kernel_rfl) (by kernel_rfl) (by kernel_rfl) (by kernel_rfl) (by kernel_rfl) (fun _ _ _ h => h) (Or.inr ⟨by rfl, rfl⟩) (by assumption) ?_
                      try simp only [Act.put, List.setIfInBounds_toArray, List.set_cons_zero, List.set_cons_succ]
                      refine wpPart_take (i := 25) (oi := { dst := some 174, op := Op.move (Operand.tmp 10), type := 3, pos := "law.go:141", after := #[{ on := 22, ground := Ground.guard }], guard := some (22, true) }) (v := undef) rfl (by kernel_rfl) (by kernel_rfl) (by kernel_rfl) (by kernel_rfl) (by kernel_rfl) (fun _ _ _ h => h) (Or.inr ⟨by rfl, rfl⟩) (by assumption) ?_
                      try simp only [Act.put, List.setIfInBounds_toArray, List.set_cons_zero, List.set_cons_succ]
                      refine wpPart_take (i := 26) (oi := { dst := some 175, op := Op.indexAddr 28 (Operand.tmp 173) (Operand.tmp 174), type := 0, pos := "law.go:141", after := #[{ on := 24, ground := Ground.data }, { on := 25, ground := Ground.data }, { on := 22, ground := Ground.guard }], guard := some (22, true) }) (v := undef) rfl (by kernel_rfl) (by kernel_rfl) (by kernel_rfl) (by kernel_rfl) (by kernel_rfl) (fun _ _ _ h => h) (Or.inr ⟨by rfl, rfl⟩) (by assumption) ?_
                      try simp only [Act.put, List.setIfInBounds_toArray, List.set_cons_zero, List.set_cons_succ]
                      refine wpPart_take (i := 27) (oi := { dst := some 176, op := Op.load 34 (Operand.tmp 175), type := 34, pos := "law.go:141", after := #[{ on := 26, ground := Ground.data }, { on := 22, ground := Ground.guard }], guard := some (22, true) }) (v := undef) rfl (by kernel_rfl) (by kernel_rfl) (by kernel_rfl) (by kernel_rfl) (by kernel_rfl) (fun _ _ _ h => h) (Or.inr ⟨by rfl, rfl⟩) (by assumption) ?_
                      try simp only [Act.put, List.setIfInBounds_toArray, List.set_cons_zero, List.set_cons_succ]
                      refine wpPart_take (i := 28) (oi := { dst := some 177, op := Op.move (Operand.tmp 9), type := 28, pos := "law.go:141", after := #[{ on := 22, ground := Ground.guard }], guard := some (22, true) }) (v := undef) rfl (by kernel_rfl) (by kernel_rfl) (by kernel_rfl) (by kernel_rfl) (by kernel_rfl) (fun _ _ _ h => h) (Or.inr ⟨by rfl, rfl⟩) (by assumption) ?_
                      try simp only [Act.put, List.setIfInBounds_toArray, List.set_cons_zero, List.set_cons_succ]
                      refine wpPart_take (i := 29) (oi := { dst := some 178, op := Op.move (Operand.tmp 12), type := 3, pos := "law.go:141", after := #[{ on := 22, ground := Ground.guard }], guard := some (22, true) }) (v := undef) rfl (by kernel_rfl) (by kernel_rfl) (by kernel_rfl) (by kernel_rfl) (by kernel_rfl) (fun _ _ _ h => h) (Or.inr ⟨by rfl, rfl⟩) (by assumption) ?_
                      try simp only [Act.put, List.setIfInBounds_toArray, List.set_cons_zero, List.set_cons_succ]
                      refine wpPart_take (i := 30) (oi := { dst := some 179, op := Op.indexAddr 28 (Operand.tmp 177) (Operand.tmp 178), type := 0, pos := "law.go:141", after := #[{ on := 28, ground := Ground.data }, { on := 29, ground := Ground.data }, { on := 22, ground := Ground.guard }], guard := some (22, true) }) (v := undef) rfl (by kernel_rfl) (by kernel_rfl) (by kernel_rfl) (by kernel_rfl) (by kernel_rfl) (fun _ _ _ h => h) (Or.inr ⟨by rfl, rfl⟩) (by assumption) ?_
                      try simp only [Act.put, List.setIfInBounds_toArray, List.set_cons_zero, List.set_cons_succ]
                      refine wpPart_take (i := 31) (oi := { dst := some 180, op := Op.load 34 (Operand.tmp 179), type := 34, pos := "law.go:141", after := #[{ on := 30, ground := Ground.data }, { on := 22, ground := Ground.guard }], guard := some (22, true) }) (v := undef) rfl (by kernel_rfl) (by kernel_rfl) (by kernel_rfl) (by kernel_rfl) (by kernel_rfl) (fun _ _ _ h => h) (Or.inr ⟨by rfl, rfl⟩) (by assumption) ?_
                      try simp only [Act.put, List.setIfInBounds_toArray, List.set_cons_zero, List.set_cons_succ]
                      refine wpPart_take (i := 32) (oi := { dst := some 181, op := Op.call { callee := Callee.value (Operand.func 13), args := #[Operand.tmp 172, Operand.tmp 176, Operand.tmp 180], argTypes := #[24, 34, 34] }, type := 4, pos := "law.go:141", after := #[{ on := 23, ground := Ground.data }, { on := 27, ground := Ground.data }, { on := 31, ground := Ground.data }, { on := 22, ground := Ground.chain }, { on := 22, ground := Ground.guard }], guard := some (22, true) }) (v := undef) rfl (by kernel_rfl) (by kernel_rfl) (by kernel_rfl) (by kernel_rfl) (by kernel_rfl) (fun _ _ _ h => h) (Or.inr ⟨by rfl, rfl⟩) (by assumption) ?_
                      try simp only [Act.put, List.setIfInBounds_toArray, List.set_cons_zero, List.set_cons_succ]
                      refine wpPart_take (i := 33) (oi := { dst := some 182, op := Op.unOp UnOp.not 4 (Operand.tmp 181), type := 4, pos := "law.go:141", after := #[{ on := 32, ground := Ground.data }, { on := 22, ground := Ground.guard }], guard := some (22, true) }) (v := undef) rfl (by kernel_rfl) (by kernel_rfl) (by kernel_rfl) (by kernel_rfl) (by kernel_rfl) (fun _ _ _ h => h) (Or.inr ⟨by rfl, rfl⟩) (by assumption) ?_
                      try simp only [Act.put, List.setIfInBounds_toArray, List.set_cons_zero, List.set_cons_succ]
                      refine wpPart_take (i := 34) (oi := { dst := some 183, op := Op.pick (Operand.tmp 171) (Operand.tmp 182) (Operand.const (Value.bool false)), type := 4, pos := "law.go:141", after := #[{ on := 22, ground := Ground.data }, { on := 33, ground := Ground.data }], guard := none }) (v := ?_) rfl (by kernel_rfl) (by kernel_rfl) (by kernel_rfl) (by kernel_rfl) (by kernel_rfl) (fun _ _ _ h => h) (Or.inl ⟨by rfl, ?_⟩) (by assumption) ?_
                      rotate_left
                      · intro w hSw; (try dsimp only at hSw); go_simp <;> with_reducible rfl
                      try simp only [Act.put, List.setIfInBounds_toArray, List.set_cons_zero, List.set_cons_succ]
                      refine wpPart_done (by kernel_rfl) ?_ _
                      have HRd := Lib.hid (hRc.out.quiet hHeld.2.2.2.2.2.2)
                      clear hHeld HK HC1 HC2
                      go_wp2
                      go_roundw
                      case rel => exact ⟨c + 1, by omega, by go_num, HRd⟩
                      case measure => simp [intOf]; omega
                    · have HC2 := Lib.hid (look_ahead hRc.out b c mb mc HMB.out HMC.out true hy)
                      have HC3 := Lib.hid (look_ahead hRc.out a c ma mc HMA.out HMC.out true (HOk.out.acl c b mc mb a HMC.out hy HMB.out hx))
                      clear hy
                      go_wp2_with fail
                      refine wp_region_part (S := fun w' => w'.cell? ⟨b9, o9 + a * 2, none⟩ = some (.int .i64 (ma.frm : Int)) ∧ w'.cell? ⟨b9, o9 + a * 2 + 1, none⟩ = some (.int .u64 (ma.num : Int)) ∧ w'.cell? ⟨b9, o9 + b * 2, none⟩ = some (.int .i64 (mb.frm : Int)) ∧ w'.cell? ⟨b9, o9 + b * 2 + 1, none⟩ = some (.int .u64 (mb.num : Int)) ∧ w'.cell? ⟨b9, o9 + c * 2, none⟩ = some (.int .i64 (mc.frm : Int)) ∧ w'.cell? ⟨b9, o9 + c * 2 + 1, none⟩ = some (.int .u64 (mc.num : Int)) ∧ Mod (fun _ => False) wr w') [] (by kernel_rfl) ?_ (fun hHeld => ?_)
                      · exact HK.out _ (Mod.refl _ _).drew
                      refine wpPart_take (i := 0) (oi := { dst := some 149, op := Op.move (Operand.tmp 5), type := 24, pos := "law.go:141", after := #[], guard := none }) (v := ?_) rfl (by kernel_rfl) (by kernel_rfl) (by kernel_rfl) (by kernel_rfl) (by kernel_rfl) (fun _ _ _ h => h) (Or.inl ⟨by rfl, ?_⟩) (by assumption) ?_
                      rotate_left
                      · intro w hSw; (try dsimp only at hSw); go_simp <;> with_reducible rfl
                      try simp only [Act.put, List.setIfInBounds_toArray, List.set_cons_zero, List.set_cons_succ]
                      refine wpPart_take (i := 1) (oi := { dst := some 150, op := Op.move (Operand.tmp 9), type := 28, pos := "law.go:141", after := #[], guard := none }) (v := ?_) rfl (by kernel_rfl) (by kernel_rfl) (by kernel_rfl) (by kernel_rfl) (by kernel_rfl) (fun _ _ _ h => h) (Or.inl ⟨by rfl, ?_⟩) (by assumption) ?_
                      rotate_left
                      · intro w hSw; (try dsimp only at hSw); go_simp <;> with_reducible rfl
                      try simp only [Act.put, List.setIfInBounds_toArray, List.set_cons_zero, List.set_cons_succ]
                      refine wpPart_take (i := 2) (oi := { dst := some 151, op := Op.move (Operand.tmp 10), type := 3, pos := "law.go:141", after := #[], guard := none }) (v := ?_) rfl (by kernel_rfl) (by kernel_rfl) (by kernel_rfl) (by kernel_rfl) (by kernel_rfl) (fun _ _ _ h => h) (Or.inl ⟨by rfl, ?_⟩) (by assumption) ?_
                      rotate_left
                      · intro w hSw; (try dsimp only at hSw); go_simp <;> with_reducible rfl
                      try simp only [Act.put, List.setIfInBounds_toArray, List.set_cons_zero, List.set_cons_succ]
                      refine wpPart_take (i := 3) (oi := { dst := some 152, op := Op.indexAddr 28 (Operand.tmp 150) (Operand.tmp 151), type := 0, pos := "law.go:141", after := #[{ on := 1, ground := Ground.data }, { on := 2, ground := Ground.data }], guard := none }) (v := ?_) rfl (by kernel_rfl) (by kernel_rfl) (by kernel_rfl) (by kernel_rfl) (by kernel_rfl) (fun _ _ _ h => h) (Or.inl ⟨by rfl, ?_⟩) (by assumption) ?_
                      rotate_left
                      · intro w hSw; (try dsimp only at hSw); go_simp <;> with_reducible rfl
                      try simp only [Act.put, List.setIfInBounds_toArray, List.set_cons_zero, List.set_cons_succ]
                      refine wpPart_take (i := 4) (oi := { dst := some 153, op := Op.load 34 (Operand.tmp 152), type := 34, pos := "law.go:141", after := #[{ on := 3, ground := Ground.data }], guard := none }) (v := ?_) rfl (by kernel_rfl) (by kernel_rfl) (by kernel_rfl) (by kernel_rfl) (by kernel_rfl) (fun _ _ _ h => h) (Or.inl ⟨by rfl, ?_⟩) (by assumption) ?_
                      rotate_left
                      · intro w hSw; (try dsimp only at hSw); go_simp <;> with_reducible rfl
                      try simp only [Act.put, List.setIfInBounds_toArray, List.set_cons_zero, List.set_cons_succ]
                      refine wpPart_take (i := 5) (oi := { dst := some 154, op := Op.move (Operand.tmp 9), type := 28, pos := "law.go:141", after := #[], guard := none }) (v := ?_) rfl (by kernel_rfl) (by kernel_rfl) (by kernel_rfl) (by kernel_rfl) (by kernel_rfl) (fun _ _ _ h => h) (Or.inl ⟨by rfl, ?_⟩) (by assumption) ?_
                      rotate_left
                      · intro w hSw; (try dsimp only at hSw); go_simp <;> with_reducible rfl
                      try simp only [Act.put, List.setIfInBounds_toArray, List.set_cons_zero, List.set_cons_succ]
                      refine wpPart_take (i := 6) (oi := { dst := some 155, op := Op.move (Operand.tmp 11), type := 3, pos := "law.go:141", after := #[], guard := none }) (v := ?_) rfl (by kernel_rfl) (by kernel_rfl) (by kernel_rfl) (by kernel_rfl) (by kernel_rfl) (fun _ _ _ h => h) (Or.inl ⟨by rfl, ?_⟩) (by assumption) ?_
                      rotate_left
                      · intro w hSw; (try dsimp only at hSw); go_simp <;> with_reducible rfl
                      try simp only [Act.put, List.setIfInBounds_toArray, List.set_cons_zero, List.set_cons_succ]
                      refine wpPart_take (i := 7) (oi := { dst := some 156, op := Op.indexAddr 28 (Operand.tmp 154) (Operand.tmp 155), type := 0, pos := "law.go:141", after := #[{ on := 5, ground := Ground.data }, { on := 6, ground := Ground.data }], guard := none }) (v := ?_) rfl (by kernel_rfl) (by kernel_rfl) (by kernel_rfl) (by kernel_rfl) (by kernel_rfl) (fun _ _ _ h => h) (Or.inl ⟨by rfl, ?_⟩) (by assumption) ?_
                      rotate_left
                      · intro w hSw; (try dsimp only at hSw); go_simp <;> with_reducible rfl
                      try simp only [Act.put, List.setIfInBounds_toArray, List.set_cons_zero, List.set_cons_succ]
                      refine wpPart_take (i := 8) (oi := { dst := some 157, op := Op.load 34 (Operand.tmp 156), type := 34, pos := "law.go:141", after := #[{ on := 7, ground := Ground.data }], guard := none }) (v := ?_) rfl (by kernel_rfl) (by kernel_rfl) (by kernel_rfl) (by kernel_rfl) (by kernel_rfl) (fun _ _ _ h => h) (Or.inl ⟨by rfl, ?_⟩) (by assumption) ?_
                      rotate_left
                      · intro w hSw; (try dsimp only at hSw); go_simp <;> with_reducible rfl
                      try simp only [Act.put, List.setIfInBounds_toArray, List.set_cons_zero, List.set_cons_succ]
                      refine wpPart_ready (rs := [9]) (by kernel_rfl) (by simp) ?_
                      refine AllPart.cons (o := { dst := some 158, op := Op.call { callee := Callee.value (Operand.func 13), args := #[Operand.tmp 149, Operand.tmp 153, Operand.tmp 157], argTypes := #[24, 34, 34] }, type := 4, pos := "law.go:141", after := #[{ on := 0, ground := Ground.data }, { on := 4, ground := Ground.data }, { on := 8, ground := Ground.data }], guard := none }) rfl (by kernel_rfl) (fun K hK => ?_) AllPart.nil
                      have hmz := hHeld.2.2.2.2.2.2
                      go_simp
                      go_at_call 13
                      refine (HC1.out _ hmz).mono ?_
                      rintro e w5 ⟨rfl, hm5⟩
                      refine hK.out _ _ ?_ (fun hHeld => ?_)
                      · exact HK.out _ hm5
                      clear hK K
                      try simp only [Act.put, List.setIfInBounds_toArray, List.set_cons_zero, List.set_cons_succ]
                      clear hmz hm5
                      refine wpPart_take (i := 10) (oi := { dst := some 159, op := Op.move (Operand.tmp 158), type := 4, pos := "law.go:141", after := #[{ on := 9, ground := Ground.data }, { on := 9, ground := Ground.chain }], guard := none }) (v := ?_) rfl (by kernel_rfl) (by kernel_rfl) (by kernel_rfl) (by kernel_rfl) (by kernel_rfl) (fun _ _ _ h => h) (Or.inl ⟨by rfl, ?_⟩) (by assumption) ?_
                      rotate_left
                      · intro w hSw; (try dsimp only at hSw); go_simp <;> with_reducible rfl
                      try simp only [Act.put, List.setIfInBounds_toArray, List.set_cons_zero, List.set_cons_succ]
                      refine wpPart_take (i := 11) (oi := { dst := some 160, op := Op.move (Operand.tmp 5), type := 24, pos := "law.go:141", after := #[{ on := 10, ground := Ground.guard }], guard := some (10, true) }) (v := ?_) rfl (by kernel_rfl) (by kernel_rfl) (by kernel_rfl) (by kernel_rfl) (by kernel_rfl) (fun _ _ _ h => h) (Or.inl ⟨by rfl, ?_⟩) (by assumption) ?_
                      rotate_left
                      · intro w hSw; (try dsimp only at hSw); go_simp <;> with_reducible rfl
                      try simp only [Act.put, List.setIfInBounds_toArray, List.set_cons_zero, List.set_cons_succ]
                      refine wpPart_take (i := 12) (oi := { dst := some 161, op := Op.move (Operand.tmp 9), type := 28, pos := "law.go:141", after := #[{ on := 10, ground := Ground.guard }], guard := some (10, true) }) (v := ?_) rfl (by kernel_rfl) (by kernel_rfl) (by kernel_rfl) (by kernel_rfl) (by kernel_rfl) (fun _ _ _ h => h) (Or.inl ⟨by rfl, ?_⟩) (by assumption) ?_
                      rotate_left
                      · intro w hSw; (try dsimp only at hSw); go_simp <;> with_reducible rfl
                      try simp only [Act.put, List.setIfInBounds_toArray, List.set_cons_zero, List.set_cons_succ]
                      refine wpPart_take (i := 13) (oi := { dst := some 162, op := Op.move (Operand.tmp 11), type := 3, pos := "law.go:141", after := #[{ on := 10, ground := Ground.guard }], guard := some (10, true) }) (v := ?_) rfl (by kernel_rfl) (by kernel_rfl) (by kernel_rfl) (by kernel_rfl) (by kernel_rfl) (fun _ _ _ h => h) (Or.inl ⟨by rfl, ?_⟩) (by assumption) ?_
                      rotate_left
                      · intro w hSw; (try dsimp only at hSw); go_simp <;> with_reducible rfl
                      try simp only [Act.put, List.setIfInBounds_toArray, List.set_cons_zero, List.set_cons_succ]
                      refine wpPart_take (i := 14) (oi := { dst := some 163, op := Op.indexAddr 28 (Operand.tmp 161) (Operand.tmp 162), type := 0, pos := "law.go:141", after := #[{ on := 12, ground := Ground.data }, { on := 13, ground := Ground.data }, { on := 10, ground := Ground.guard }], guard := some (10, true) }) (v := ?_) rfl (by kernel_rfl) (by kernel_rfl) (by kernel_rfl) (by kernel_rfl) (by kernel_rfl) (fun _ _ _ h => h) (Or.inl ⟨by rfl, ?_⟩) (by assumption) ?_
                      rotate_left
                      · intro w hSw; (try dsimp only at hSw); go_simp <;> with_reducible rfl
                      try simp only [Act.put, List.setIfInBounds_toArray, List.set_cons_zero, List.set_cons_succ]
                      refine wpPart_take (i := 15) (oi := { dst := some 164, op := Op.load 34 (Operand.tmp 163), type := 34, pos := "law.go:141", after := #[{ on := 14, ground := Ground.data }, { on := 10, ground := Ground.guard }], guard := some (10, true) }) (v := ?_) rfl (by kernel_rfl) (by kernel_rfl) (by kernel_rfl) (by kernel_rfl) (by kernel_rfl) (fun _ _ _ h => h) (Or.inl ⟨by rfl, ?_⟩) (by assumption) ?_
                      rotate_left
                      · intro w hSw; (try dsimp only at hSw); go_simp <;> with_reducible rfl
                      try simp only [Act.put, List.setIfInBounds_toArray, List.set_cons_zero, List.set_cons_succ]
                      refine wpPart_take (i := 16) (oi := { dst := some 165, op := Op.move (Operand.tmp 9), type := 28, pos := "law.go:141", after := #[{ on := 10, ground := Ground.guard }], guard := some (10, true) }) (v := ?_) rfl (by kernel_rfl) (by kernel_rfl) (by kernel_rfl) (by kernel_rfl) (by kernel_rfl) (fun _ _ _ h => h) (Or.inl ⟨by rfl, ?_⟩) (by assumption) ?_
                      rotate_left
                      · intro w hSw; (try dsimp only at hSw); go_simp <;> with_reducible rfl
                      try simp only [Act.put, List.setIfInBounds_toArray, List.set_cons_zero, List.set_cons_succ]
                      refine wpPart_take (i := 17) (oi := { dst := some 166, op := Op.move (Operand.tmp 12), type := 3, pos := "law.go:141", after := #[{ on := 10, ground := Ground.guard }], guard := some (10, true) }) (v := ?_) rfl (by kernel_rfl) (by kernel_rfl) (by kernel_rfl) (by kernel_rfl) (by kernel_rfl) (fun _ _ _ h => h) (Or.inl ⟨by rfl, ?_⟩) (by assumption) ?_
                      rotate_left
                      · intro w hSw; (try dsimp only at hSw); go_simp <;> with_reducible rfl
                      try simp only [Act.put, List.setIfInBounds_toArray, List.set_cons_zero, List.set_cons_succ]
                      refine wpPart_take (i := 18) (oi := { dst := some 167, op := Op.indexAddr 28 (Operand.tmp 165) (Operand.tmp 166), type := 0, pos := "law.go:141", after := #[{ on := 16, ground := Ground.data }, { on := 17, ground := Ground.data }, { on := 10, ground := Ground.guard }], guard := some (10, true) }) (v := ?_) rfl (by kernel_rfl) (by kernel_rfl) (by kernel_rfl) (by kernel_rfl) (by kernel_rfl) (fun _ _ _ h => h) (Or.inl ⟨by rfl, ?_⟩) (by assumption) ?_
                      rotate_left
                      · intro w hSw; (try dsimp only at hSw); go_simp <;> with_reducible rfl
                      try simp only [Act.put, List.setIfInBounds_toArray, List.set_cons_zero, List.set_cons_succ]
                      refine wpPart_take (i := 19) (oi := { dst := some 168, op := Op.load 34 (Operand.tmp 167), type := 34, pos := "law.go:141", after := #[{ on := 18, ground := Ground.data }, { on := 10, ground := Ground.guard }], guard := some (10, true) }) (v := ?_) rfl (by kernel_rfl) (by kernel_rfl) (by kernel_rfl) (by kernel_rfl) (by kernel_rfl) (fun _ _ _ h => h) (Or.inl ⟨by rfl, ?_⟩) (by assumption) ?_
                      rotate_left
                      · intro w hSw; (try dsimp only at hSw); go_simp <;> with_reducible rfl
                      try simp only [Act.put, List.setIfInBounds_toArray, List.set_cons_zero, List.set_cons_succ]
                      refine wpPart_ready (rs := [20]) (by kernel_rfl) (by simp) ?_
                      refine AllPart.cons (o := { dst := some 169, op := Op.call { callee := Callee.value (Operand.func 13), args := #[Operand.tmp 160, Operand.tmp 164, Operand.tmp 168], argTypes := #[24, 34, 34] }, type := 4, pos := "law.go:141", after := #[{ on := 11, ground := Ground.data }, { on := 15, ground := Ground.data }, { on := 19, ground := Ground.data }, { on := 10, ground := Ground.chain }, { on := 10, ground := Ground.guard }], guard := some (10, true) }) rfl (by kernel_rfl) (fun K hK => ?_) AllPart.nil
                      have hmz := hHeld.2.2.2.2.2.2
                      go_simp
                      go_at_call 13
                      refine (HC2.out _ hmz).mono ?_
                      rintro e w5 ⟨rfl, hm5⟩
                      refine hK.out _ _ ?_ (fun hHeld => ?_)
                      · exact HK.out _ hm5
                      clear hK K
                      try simp only [Act.put, List.setIfInBounds_toArray, List.set_cons_zero, List.set_cons_succ]
                      clear hmz hm5
                      refine wpPart_take (i := 21) (oi := { dst := some 170, op := Op.pick (Operand.tmp 159) (Operand.tmp 169) (Operand.const (Value.bool false)), type := 4, pos := "law.go:141", after := #[{ on := 10, ground := Ground.data }, { on := 20, ground := Ground.data }], guard := none }) (v := ?_) rfl (by kernel_rfl) (by kernel_rfl) (by kernel_rfl) (by kernel_rfl) (by kernel_rfl) (fun _ _ _ h => h) (Or.inl ⟨by rfl, ?_⟩) (by assumption) ?_
                      rotate_left
                      · intro w hSw; (try dsimp only at hSw); go_simp <;> with_reducible rfl
                      try simp only [Act.put, List.setIfInBounds_toArray, List.set_cons_zero, List.set_cons_succ]
                      refine wpPart_take (i := 22) (oi := { dst := some 171, op := Op.move (Operand.tmp 170), type := 4, pos := "law.go:141", after := #[{ on := 21, ground := Ground.data }, { on := 20, ground := Ground.chain }], guard := none }) (v := ?_) rfl (by kernel_rfl) (by kernel_rfl) (by kernel_rfl) (by kernel_rfl) (by kernel_rfl) (fun _ _ _ h => h) (Or.inl ⟨by rfl, ?_⟩) (by assumption) ?_
                      rotate_left
                      · intro w hSw; (try dsimp only at hSw); go_simp <;> with_reducible rfl
                      try simp only [Act.put, List.setIfInBounds_toArray, List.set_cons_zero, List.set_cons_succ]
                      refine wpPart_take (i := 23) (oi := { dst := some 172, op := Op.move (Operand.tmp 5), type := 24, pos := "law.go:141", after := #[{ on := 22, ground := Ground.guard }], guard := some (22, true) }) (v := ?_) rfl (by kernel_rfl) (by kernel_rfl) (by kernel_rfl) (by kernel_rfl) (by kernel_rfl) (fun _ _ _ h => h) (Or.inl ⟨by rfl, ?_⟩) (by assumption) ?_
                      rotate_left
                      · intro w hSw; (try dsimp only at hSw); go_simp <;> with_reducible rfl
                      try simp only [Act.put, List.setIfInBounds_toArray, List.set_cons_zero, List.set_cons_succ]
                      refine wpPart_take (i := 24) (oi := { dst := some 173, op := Op.move (Operand.tmp 9), type := 28, pos := "law.go:141", after := #[{ on := 22, ground := Ground.guard }], guard := some (22, true) }) (v := ?_) rfl (by kernel_rfl) (by kernel_rfl) (by kernel_rfl) (by kernel_rfl) (by kernel_rfl) (fun _ _ _ h => h) (Or.inl ⟨by rfl, ?_⟩) (by assumption) ?_
                      rotate_left
                      · intro w hSw; (try dsimp only at hSw); go_simp <;> with_reducible rfl
                      try simp only [Act.put, List.setIfInBounds_toArray, List.set_cons_zero, List.set_cons_succ]
                      refine wpPart_take (i := 25) (oi := { dst := some 174, op := Op.move (Operand.tmp 10), type := 3, pos := "law.go:141", after := #[{ on := 22, ground := Ground.guard }], guard := some (22, true) }) (v := ?_) rfl (by kernel_rfl) (by kernel_rfl) (by kernel_rfl) (by kernel_rfl) (by kernel_rfl) (fun _ _ _ h => h) (Or.inl ⟨by rfl, ?_⟩) (by assumption) ?_
                      rotate_left
                      · intro w hSw; (try dsimp only at hSw); go_simp <;> with_reducible rfl
                      try simp only [Act.put, List.setIfInBounds_toArray, List.set_cons_zero, List.set_cons_succ]
                      refine wpPart_take (i := 26) (oi := { dst := some 175, op := Op.indexAddr 28 (Operand.tmp 173) (Operand.tmp 174), type := 0, pos := "law.go:141", after := #[{ on := 24, ground := Ground.data }, { on := 25, ground := Ground.data }, { on := 22, ground := Ground.guard }], guard := some (22, true) }) (v := ?_) rfl (by kernel_rfl) (by kernel_rfl) (by kernel_rfl) (by kernel_rfl) (by kernel_rfl) (fun _ _ _ h => h) (Or.inl ⟨by rfl, ?_⟩) (by assumption) ?_
                      rotate_left
                      · intro w hSw; (try dsimp only at hSw); go_simp <;> with_reducible rfl
                      try simp only [Act.put, List.setIfInBounds_toArray, List.set_cons_zero, List.set_cons_succ]
                      refine wpPart_take (i := 27) (oi := { dst := some 176, op := Op.load 34 (Operand.tmp 175), type := 34, pos := "law.go:141", after := #[{ on := 26, ground := Ground.data }, { on := 22, ground := Ground.guard }], guard := some (22, true) }) (v := ?_) rfl (by kernel_rfl) (by kernel_rfl) (by kernel_rfl) (by kernel_rfl) (by kernel_rfl) (fun _ _ _ h => h) (Or.inl ⟨by rfl, ?_⟩) (by assumption) ?_
                      rotate_left
                      · intro w hSw; (try dsimp only at hSw); go_simp <;> with_reducible rfl
                      try simp only [Act.put, List.setIfInBounds_toArray, List.set_cons_zero, List.set_cons_succ]
                      refine wpPart_take (i := 28) (oi := { dst := some 177, op := Op.move (Operand.tmp 9), type := 28, pos := "law.go:141", after := #[{ on := 22, ground := Ground.guard }], guard := some (22, true) }) (v := ?_) rfl (by kernel_rfl) (by kernel_rfl) (by kernel_rfl) (by kernel_rfl) (by kernel_rfl) (fun _ _ _ h => h) (Or.inl ⟨by rfl, ?_⟩) (by assumption) ?_
                      rotate_left
                      · intro w hSw; (try dsimp only at hSw); go_simp <;> with_reducible rfl
                      try simp only [Act.put, List.setIfInBounds_toArray, List.set_cons_zero, List.set_cons_succ]
                      refine wpPart_take (i := 29) (oi := { dst := some 178, op := Op.move (Operand.tmp 12), type := 3, pos := "law.go:141", after := #[{ on := 22, ground := Ground.guard }], guard := some (22, true) }) (v := ?_) rfl (by kernel_rfl) (by kernel_rfl) (by kernel_rfl) (by kernel_rfl) (by kernel_rfl) (fun _ _ _ h => h) (Or.inl ⟨by rfl, ?_⟩) (by assumption) ?_
                      rotate_left
                      · intro w hSw; (try dsimp only at hSw); go_simp <;> with_reducible rfl
                      try simp only [Act.put, List.setIfInBounds_toArray, List.set_cons_zero, List.set_cons_succ]
                      refine wpPart_take (i := 30) (oi := { dst := some 179, op := Op.indexAddr 28 (Operand.tmp 177) (Operand.tmp 178), type := 0, pos := "law.go:141", after := #[{ on := 28, ground := Ground.data }, { on := 29, ground := Ground.data }, { on := 22, ground := Ground.guard }], guard := some (22, true) }) (v := ?_) rfl (by kernel_rfl) (by kernel_rfl) (by kernel_rfl) (by kernel_rfl) (by kernel_rfl) (fun _ _ _ h => h) (Or.inl ⟨by rfl, ?_⟩) (by assumption) ?_
                      rotate_left
                      · intro w hSw; (try dsimp only at hSw); go_simp <;> with_reducible rfl
                      try simp only [Act.put, List.setIfInBounds_toArray, List.set_cons_zero, List.set_cons_succ]
                      refine wpPart_take (i := 31) (oi := { dst := some 180, op := Op.load 34 (Operand.tmp 179), type := 34, pos := "law.go:141", after := #[{ on := 30, ground := Ground.data }, { on := 22, ground := Ground.guard }], guard := some (22, true) }) (v := ?_) rfl (by kernel_rfl) (by kernel_rfl) (by kernel_rfl) (by kernel_rfl) (by kernel_rfl) (fun _ _ _ h => h) (Or.inl ⟨by rfl, ?_⟩) (by assumption) ?_
                      rotate_left
                      · intro w hSw; (try dsimp only at hSw); go_simp <;> with_reducible rfl
                      try simp only [Act.put, List.setIfInBounds_toArray, List.set_cons_zero, List.set_cons_succ]
                      refine wpPart_ready (rs := [32]) (by kernel_rfl) (by simp) ?_
                      refine AllPart.cons (o := { dst := some 181, op := Op.call { callee := Callee.value (Operand.func 13), args := #[Operand.tmp 172, Operand.tmp 176, Operand.tmp 180], argTypes := #[24, 34, 34] }, type := 4, pos := "law.go:141", after := #[{ on := 23, ground := Ground.data }, { on := 27, ground := Ground.data }, { on := 31, ground := Ground.data }, { on := 22, ground := Ground.chain }, { on := 22, ground := Ground.guard }], guard := some (22, true) }) rfl (by kernel_rfl) (fun K hK => ?_) AllPart.nil
                      have hmz := hHeld.2.2.2.2.2.2
                      go_simp
                      go_at_call 13
                      refine (HC3.out _ hmz).mono ?_
                      rintro e w5 ⟨rfl, hm5⟩
                      refine hK.out _ _ ?_ (fun hHeld => ?_)
                      · exact HK.out _ hm5
                      clear hK K
                      try simp only [Act.put, List.setIfInBounds_toArray, List.set_cons_zero, List.set_cons_succ]
                      clear hmz hm5
                      refine wpPart_take (i := 33) (oi := { dst := some 182, op := Op.unOp UnOp.not 4 (Operand.tmp 181), type := 4, pos := "law.go:141", after := #[{ on := 32, ground := Ground.data }, { on := 22, ground := Ground.guard }], guard := some (22, true) }) (v := ?_) rfl (by kernel_rfl) (by kernel_rfl) (by kernel_rfl) (by kernel_rfl) (by kernel_rfl) (fun _ _ _ h => h) (Or.inl ⟨by rfl, ?_⟩) (by assumption) ?_
                      rotate_left
                      · intro w hSw; (try dsimp only at hSw); go_simp <;> with_reducible rfl
                      try simp only [Act.put, List.setIfInBounds_toArray, List.set_cons_zero, List.set_cons_succ]
                      refine wpPart_take (i := 34) (oi := { dst := some 183, op := Op.pick (Operand.tmp 171) (Operand.tmp 182) (Operand.const (Value.bool false)), type := 4, pos := "law.go:141", after := #[{ on := 22, ground := Ground.data }, { on := 33, ground := Ground.data }], guard := none }) (v := ?_) rfl (by kernel_rfl) (by kernel_rfl) (by kernel_rfl) (by kernel_rfl) (by kernel_rfl) (fun _ _ _ h => h) (Or.inl ⟨by rfl, ?_⟩) (by assumption) ?_
                      rotate_left
                      · intro w hSw; (try dsimp only at hSw); go_simp <;> with_reducible rfl
                      try simp only [Act.put, List.setIfInBounds_toArray, List.set_cons_zero, List.set_cons_succ]
                      refine wpPart_done (by kernel_rfl) ?_ _
                      have HRd := Lib.hid (hRc.out.quiet hHeld.2.2.2.2.2.2)
                      clear hHeld HK HC1 HC2 HC3
                      go_wp2
                      go_roundw
                      case rel => exact ⟨c + 1, by omega, by go_num, HRd⟩
                      case measure => simp [intOf]; omega
                  · have hgc : ¬ (c : Int) < (s.allNames.length : Int) := by omega
                    go_wp2
                    go_roundw
                    case rel => exact ⟨b + 1, by omega, by go_num, hRc⟩
                    case measure => simp [intOf]; omega
            · have hgb : ¬ (b : Int) < (s.allNames.length : Int) := by omega
              go_wp2
              go_roundw
              case rel => exact ⟨a + 1, by omega, by go_num, HRb⟩
              case measure => simp [intOf]; omega
        · have HE : Hid (Below w.heap.size w _) := hRa.out.1.low
          have hga : ¬ (a : Int) < (s.allNames.length : Int) := by omega
          go_wp2
          go_ret
          exact ⟨rfl, HE.out⟩
end Go.Proofs.Yteicceikaecfcaa

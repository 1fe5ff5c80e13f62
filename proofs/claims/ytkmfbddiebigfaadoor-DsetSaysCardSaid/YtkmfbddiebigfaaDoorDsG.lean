/-
  Rows of numbers alike; the two that the document tells.
-/
import Derived.Test.YtkmfbddiebigfaaDoorDsF
import Derived.Deep.DeepCutAuto
namespace Go.Proofs.YtkmfbddiebigfaaDoor
open Go.RowKit Go.Shoal

theorem ints_cells {w : World} {v : Value} {l : List Int} (h : Ints w v l) : ∃ A c, v = .slice A l.length c ∧ ∀ k, k < l.length → ∃ b o, A = some ⟨b, o, none⟩ ∧ w.cell? ⟨b, o + k, none⟩ = some (.int .i64 (l.getD k 0)) := by
  obtain ⟨A, c, rfl, h⟩ := h
  refine ⟨A, c, rfl, fun k hk => ?_⟩
  rcases h with rfl | ⟨b, o, rfl, hc⟩
  · exact absurd hk (Nat.not_lt_zero _)
  · exact ⟨b, o, rfl, hc k hk⟩
theorem Nats.ints {w : World} {v : Value} {l : List Nat} (h : Nats w v l) : Ints w v (l.map fun k : Nat => (k : Int)) := by
  obtain ⟨A, c, rfl⟩ := RowOf.form h
  refine ⟨A, c, by rw [List.length_map], ?_⟩
  cases l with
  | nil => exact .inl rfl
  | cons x r =>
    obtain ⟨b, o, rfl, _, _⟩ := Nats.cell h (k := 0) (by simp)
    refine .inr ⟨b, o, rfl, fun i hi => ?_⟩
    rw [List.length_map] at hi
    obtain ⟨b', o', e, _, hc⟩ := Nats.cell h hi
    cases e
    rw [hc, List.getD_eq_getElem?_getD, List.getD_eq_getElem?_getD, List.getElem?_map, List.getElem?_eq_getElem hi]
    rfl
set_option maxHeartbeats 2000000 in
theorem ints_any (va vb : Value) (a b : List Int) (w : World) (h1 : Ints w va a) (h2 : Ints w vb b) (hl : a.length ≤ 1000000) :
    Calls Tryd.prog 21 #[va, vb] w fun e w' => e = .returned (.bool (decide (a = b))) ∧ ∃ n, w' = w.drewN n := by
  obtain ⟨A1, c1, rfl, hc1⟩ := ints_cells h1
  obtain ⟨A2, c2, rfl, hc2⟩ := ints_cells h2
  have H1 := Lib.hid hc1
  have H2 := Lib.hid hc2
  clear hc1 hc2 h1 h2
  generalize hR : decide (a = b) = R
  by_cases hle : a.length = b.length
  · have t0 : ((a.length : Int) != (b.length : Int)) = false := by rw [hle]; simp
    have HR := Lib.hid hR
    clear hR
    go_enter Tryd.func21, Tryd.ntmps21
    go_wp2
    go_loopw [5] (fun i wr => ∃ k : Nat, k ≤ a.length ∧ i = .int .i64 k ∧ Hid (∀ j, j < k → a.getD j 0 = b.getD j 0) ∧ Hid (∃ m, wr = w.drewN m)) (fun i _ => a.length - (intOf i).toNat)
    case atStart => exact ⟨0, Nat.zero_le _, rfl, fun j hj => absurd hj (Nat.not_lt_zero _), ⟨0, rfl⟩⟩
    case round =>
      obtain ⟨k, hk, rfl, hQ, hW⟩ := hrel
      by_cases hlt : k < a.length
      · obtain ⟨b1, o1, rfl, k0⟩ := H1.out k hlt
        obtain ⟨b2, o2, rfl, k1⟩ := H2.out k (by omega)
        obtain ⟨m, hm⟩ := hW.out
        have k0' : wr.cell? ⟨b1, o1 + k, none⟩ = some (.int .i64 (a.getD k 0)) := by rw [hm]; exact k0
        have k1' : wr.cell? ⟨b2, o2 + k, none⟩ = some (.int .i64 (b.getD k 0)) := by rw [hm]; exact k1
        have hi : (k : Int) < a.length := by omega
        have hi2 : (k : Int) < b.length := by omega
        have hi0 : (0 : Int) ≤ (k : Int) := by omega
        have tk : decide (k < a.length) = true := decide_eq_true hlt
        have HW : Hid (∀ q, ∃ m, wr.drewN q = w.drewN m) := fun q => ⟨m + q, by rw [hm, World.drewN_drewN]⟩
        have HN : Hid (∀ x y, a.getD k 0 = x → b.getD k 0 = y → x = y → ∀ j, j < k + 1 → a.getD j 0 = b.getD j 0) := by
          intro x y hx hy hxy j hj
          by_cases hjk : j < k
          · exact hQ.out j hjk
          · obtain rfl : j = k := by omega
            rw [hx, hy, hxy]
        have HF : Hid (∀ x y, a.getD k 0 = x → b.getD k 0 = y → x ≠ y → R = false) := by
          intro x y hx hy hxy
          rw [← HR.out]
          exact decide_eq_false fun e => hxy (by rw [← hx, ← hy, e])
        clear k0 k1 hm
        generalize hx : a.getD k 0 = x at *
        generalize hy : b.getD k 0 = y at *
        have HX := Lib.hid hx
        have HY := Lib.hid hy
        clear hx hy
        by_cases hxy : x = y
        · have HN' : Hid (∀ j, j < k + 1 → a.getD j 0 = b.getD j 0) := HN.out x y (by rfl) (by rfl) hxy
          have t1 : (x != y) = false := by rw [hxy]; simp
          clear hxy
          go_wp2_with fail
          go_quiet (fail)
          go_wp2
          go_roundw
          case rel => exact ⟨k + 1, by omega, by go_num, HN', HW.out _⟩
          case measure => simp [intOf]; omega
        · have hRf : Hid (R = false) := HF.out x y (by rfl) (by rfl) hxy
          have t1 : (x != y) = true := by simp [hxy]
          clear hxy
          go_wp2_with fail
          go_quiet (fail)
          go_wp2
          go_ret
          exact ⟨by rw [hRf.out]; rfl, HW.out _⟩
      · obtain rfl : k = a.length := by omega
        have ti : decide (a.length < a.length) = false := decide_eq_false (by omega)
        have hRt : Hid (R = true) := by
          show _ = _
          rw [← HR.out]
          refine decide_eq_true (List.ext_getElem hle fun i h1 h2 => ?_)
          have := hQ.out i h1
          rw [List.getD_eq_getElem?_getD, List.getD_eq_getElem?_getD, List.getElem?_eq_getElem h1, List.getElem?_eq_getElem h2] at this
          exact this
        go_wp2
        go_ret
        exact ⟨by rw [hRt.out]; rfl, hW.out⟩
  · have t0 : ((a.length : Int) != (b.length : Int)) = true := by rw [bne_iff_ne]; omega
    have hRf : R = false := by
      rw [← hR]
      exact decide_eq_false fun e => hle (by rw [e])
    subst hRf
    clear hR
    go_enter Tryd.func21, Tryd.ntmps21
    go_wp2
    go_ret
    exact ⟨rfl, 0, rfl⟩

theorem showL_dd (s : Nat) : showL s = 123 :: (Lib.join ((bitsOf s).map dd) [44] ++ [125]) := by
  unfold showL joinL
  rw [List.map_congr_left fun k hk => dd_is (bits_small s k hk)]
theorem show9 : showL 9 = [123, 48, 44, 51, 125] := (showL_dd 9).trans (by kernel_rfl)
theorem parse9 : parseX [123, 48, 44, 51, 125] = (9, true) := by rw [← show9]; exact parse_show 9 (by decide)
set_option maxHeartbeats 2000000 in
theorem awake_any (w : World) (hT : Tab w) (hE : Errs w) : Calls Tryd.prog 8 #[] w fun e w' => e = .returned (.bool true) ∧ Mod (fun _ => False) w w' := by
  have HP : Hid (Calls Tryd.prog 9 #[.string ⟨#[123, 48, 44, 51, 125]⟩] w fun e w' => e = .returned (.tuple #[.int .u64 9, .bool true]) ∧ Mod (fun _ => False) w w') := by
    have h := parse_any [123, 48, 44, 51, 125] (by decide) w hT hE
    rw [parse9] at h
    exact h
  have HS : Hid (∀ W, Tab W → Calls Tryd.prog 23 #[.int .u64 9] W fun e w' => e = .returned (.string ⟨#[123, 48, 44, 51, 125]⟩) ∧ Mod (fun _ => False) W w') := by
    intro W hW
    have h := show_any 9 W (by decide) hW
    unfold Shown showS at h
    rw [show9] at h
    exact h
  have HL : Hid (∀ W, Tab W → Calls Tryd.prog 22 #[.int .u64 9] W fun e w' => ∃ v, e = .returned v ∧ Ints w' v [0, 3] ∧ Mod (fun _ => False) W w') := fun W hW => (list_any 9 W (by decide) hW).mono fun e w' ⟨v, h1, h2, h3⟩ => ⟨v, h1, h2.ints, h3⟩
  have HH : Hid (∀ W, Calls Tryd.prog 13 #[.int .u64 9, .int .i64 3] W fun e w' => e = .returned (.bool true) ∧ W = w') := fun W => has_any 9 3 W (by decide)
  have HT := Lib.hid hT
  clear hT hE
  go_enter Tryd.func8, Tryd.ntmps8
  go_wp2_with fail
  refine HP.out.mono ?_
  rintro e w1 ⟨rfl, hm1⟩
  have HM1 : Hid (Mod (fun _ => False) w (w1.alloc (.cells #[.int .i64 3, .int .i64 0] 3))) := Mod.alloc hm1 _
  have HO : Hid (Calls Tryd.prog 11 #[.slice (some ⟨w1.heap.size, 0, none⟩) 2 2] (w1.alloc (.cells #[.int .i64 3, .int .i64 0] 3)) fun e w' => e = .returned (.int .u64 9) ∧ (w1.alloc (.cells #[.int .i64 3, .int .i64 0] 3)) = w') :=
    of_any _ [3, 0] _ ⟨_, _, rfl, .inr ⟨_, _, rfl, fun i hi => by
      have : i = 0 ∨ i = 1 := by have : i < 2 := hi; omega
      rcases this with rfl | rfl
      · rw [blk_cell (blk_new w1 _)]; rfl
      · rw [blk_cell (blk_new w1 _)]; rfl⟩⟩ (by decide)
  clear HP hm1
  go_wp2_with fail
  refine HO.out.mono ?_
  rintro e w2 ⟨rfl, rfl⟩
  have HS2 := Lib.hid (HS.out _ (HT.out.mod HM1.out (fun h => h)))
  clear HO HS
  generalize w1.alloc (.cells #[.int .i64 3, .int .i64 0] 3) = W1 at *
  go_wp2_with fail
  refine HS2.out.mono ?_
  rintro e w3 ⟨rfl, hm3⟩
  have HM3 : Hid (Mod (fun _ => False) w w3) := HM1.out.trans hm3
  clear hm3 HM1 HS2
  have HH3 := Lib.hid (HH.out w3)
  have HL3 := Lib.hid (HL.out w3 (HT.out.mod HM3.out (fun h => h)))
  go_wp2_with fail
  refine HH3.out.mono ?_
  rintro e w4 ⟨rfl, rfl⟩
  go_wp2_with fail
  refine HL3.out.mono ?_
  rintro e w5 ⟨v, rfl, hv, hm5⟩
  have HM5 : Hid (Mod (fun _ => False) w (w5.alloc (.cells #[.int .i64 0, .int .i64 3] 3))) := Mod.alloc (HM3.out.trans hm5) _
  have HI : Hid (Calls Tryd.prog 21 #[v, .slice (some ⟨w5.heap.size, 0, none⟩) 2 2] (w5.alloc (.cells #[.int .i64 0, .int .i64 3] 3)) fun e w' => e = .returned (.bool true) ∧ ∃ n, w' = (w5.alloc (.cells #[.int .i64 0, .int .i64 3] 3)).drewN n) :=
    ints_any v _ [0, 3] [0, 3] _ (by
      obtain ⟨A, c, e, h⟩ := hv
      refine ⟨A, c, e, h.imp id fun ⟨b, o, e1, h1⟩ => ⟨b, o, e1, fun i hi => ?_⟩⟩
      have := h1 i hi
      have hb : b < w5.heap.size := Classical.byContradiction fun hh => by
        unfold World.cell? at this
        rw [Array.getElem?_eq_none (show w5.heap.size ≤ b by omega)] at this
        cases this
      rw [World.cell?_of_block (((Mod.refl (fun _ => False) w5).alloc _).block b hb (fun h => h))]
      exact this) ⟨_, _, rfl, .inr ⟨_, _, rfl, fun i hi => by
      have : i = 0 ∨ i = 1 := by have : i < 2 := hi; omega
      rcases this with rfl | rfl
      · rw [blk_cell (blk_new w5 _)]; rfl
      · rw [blk_cell (blk_new w5 _)]; rfl⟩⟩ (by decide)
  clear hv hm5 HM3 HL3 HH3 HL HH
  go_wp2_with fail
  refine HI.out.mono ?_
  rintro e w6 ⟨rfl, n, rfl⟩
  have HM6 : Hid (Mod (fun _ => False) w ((w5.alloc (.cells #[.int .i64 0, .int .i64 3] 3)).drewN n)) := HM5.out.trans ((Mod.refl _ _).drewN n)
  clear HI
  go_wp2
  go_ret
  exact ⟨rfl, HM6.out⟩
end Go.Proofs.YtkmfbddiebigfaaDoor

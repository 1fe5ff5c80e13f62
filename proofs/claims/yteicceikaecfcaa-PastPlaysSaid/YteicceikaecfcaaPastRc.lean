/-
  Package past: the reference's Taken, Before, Can.
-/
import Derived.Test.YteicceikaecfcaaPastRb
namespace Go.Proofs.Yteicceikaecfcaa
open Go.RowKit Go.Shoal Go.Maps

set_option maxRecDepth 100000 in
set_option maxHeartbeats 8000000 in
theorem rtaken_any (R : Nat) (r : Re) (s : Pa) (p k : Nat) (w : World) (h : RAt w R r s) (hp : p < s.n) (hl : (s.got p).length ≤ 1000) (hn : s.n ≤ 16) :
    Calls Try.prog 34 #[.pointer (some ⟨R, 0, none⟩), .int .i64 p, .int .i64 k] w fun e w' => e = .returned (.bool (decide (k ∈ s.got p))) ∧ w = w' := by
  obtain ⟨-, -, -, c3⟩ := h.cells
  have g0 := h.gcell hp
  have hrow := h.gs p hp
  obtain ⟨A, c, hf⟩ := RowOf.form hrow
  rw [hf] at g0 hrow
  have HRW := Lib.hid hrow
  have hp0 : (0 : Int) ≤ (p : Int) := by omega
  have hp1 : (p : Int) < (s.n : Int) := by omega
  have hnb : (s.n : Int) ≤ 16 := by omega
  obtain ⟨ans, hans⟩ : ∃ x, x = decide (k ∈ s.got p) := ⟨_, rfl⟩
  rw [← hans]
  have HANS := Lib.hid hans
  have HL := Lib.hid hl
  clear h hrow hf hans hl hn
  generalize s.got p = G at *
  generalize s.n = n at *
  go_enter Try.func34, Try.ntmps34
  go_wp2
  go_loop [7] (fun i => ∃ j : Nat, j ≤ G.length ∧ i = .int .i64 j ∧ Hid (∀ q, q < j → G[q]? ≠ some k)) (fun i => G.length - (intOf i).toNat)
  case atStart => exact ⟨0, Nat.zero_le _, rfl, fun q hq => by omega⟩
  case round =>
    obtain ⟨j, hj, rfl, HJ⟩ := hrel
    by_cases hlt : j < G.length
    · obtain ⟨y, hy⟩ : ∃ y, G[j]? = some y := ⟨_, List.getElem?_eq_getElem hlt⟩
      have hrow := HRW.out
      obtain ⟨b, o, cap, cur, e, hb, _, hc⟩ := hrow.at (by omega)
      cases e
      have k0 : w.cell? ⟨b, o + j, none⟩ = some (.int .i64 (y : Int)) := by
        rw [RowOf.cell hrow j (by omega), List.getElem?_map, hy]
        rfl
      have hi0 : (0 : Int) ≤ (j : Int) := by omega
      have hi1 : (j : Int) < (G.length : Int) := by omega
      have tj : decide (j < G.length) = true := decide_eq_true hlt
      have hjb : (j : Int) < 1000 := by have := HL.out; omega
      by_cases hyk : y = k
      · have t1 : (y == k) = true := beq_iff_eq.2 hyk
        have t2 : ((y : Int) == (k : Int)) = true := beq_iff_eq.2 (by omega)
        have HE : Hid (ans = true) := by
          show _ = _
          rw [HANS.out]
          exact decide_eq_true (List.mem_of_getElem? (hyk ▸ hy))
        clear hrow hb hc hy hyk HJ
        go_wp2
        go_ret
        exact ⟨by rw [HE.out]; rfl, rfl⟩
      · have t1 : (y == k) = false := beq_eq_false_iff_ne.2 hyk
        have t2 : ((y : Int) == (k : Int)) = false := beq_eq_false_iff_ne.2 (by omega)
        have HN : Hid (∀ q, q < j + 1 → G[q]? ≠ some k) := fun q hq => by
          by_cases e : q = j
          · rw [e, hy]; intro h; exact hyk (Option.some.inj h)
          · exact HJ.out q (by omega)
        clear hrow hb hc hy hyk HJ
        go_wp2
        go_round
        case rel => exact ⟨j + 1, by omega, by go_num, HN⟩
        case measure => simp [intOf]; omega
    · obtain rfl : j = G.length := by omega
      have ti : decide (G.length < G.length) = false := decide_eq_false (by omega)
      have HE : Hid (ans = false) := by
        show _ = _
        rw [HANS.out]
        refine decide_eq_false (fun hm => ?_)
        obtain ⟨q, hq, e⟩ := List.getElem_of_mem hm
        exact HJ.out q hq (by rw [List.getElem?_eq_getElem hq, e])
      clear HJ hlt
      go_wp2
      go_ret
      exact ⟨by rw [HE.out]; rfl, rfl⟩
set_option maxHeartbeats 4000000 in
theorem rbefore_any (R : Nat) (r : Re) (s : Pa) (i k : Nat) (m : Ms) (w : World) (h : RAt w R r s) (hk : s.all[k]? = some m) (halt : m.ahead i = true → i < k) (hl : s.all.length ≤ 1000) :
    Calls Try.prog 26 #[.pointer (some ⟨R, 0, none⟩), .int .i64 i, .int .i64 k] w fun e w' => e = .returned (.bool (m.ahead i)) ∧ w = w' := by
  obtain ⟨-, c1, -, -⟩ := h.cells
  obtain ⟨b, o, cap, v, e, d0, d1, d2, d3, hb⟩ := h.elem hk
  rw [e] at c1
  have hlt := (List.getElem?_eq_some_iff.1 hk).1
  have hk0 : (0 : Int) ≤ (k : Int) := by omega
  have hk1 : (k : Int) < (s.all.length : Int) := by omega
  have hnb : (s.all.length : Int) ≤ 1000 := by omega
  have HH := Lib.hid (rhas_any v m.ahead i w hb)
  clear h hb e hk hlt
  generalize s.all.length = n at *
  by_cases hik : i = k
  · have hf : m.ahead i = false := by
      cases hx : m.ahead i with
      | false => rfl
      | true => have := halt hx; omega
    have t1 : ((i : Int) != (k : Int)) = false := by rw [hik]; simp
    have t2 : (i != k) = false := by rw [hik]; simp
    rw [hf]
    clear HH hf halt hik
    go_enter Try.func26, Try.ntmps26
    go_wp2
    go_ret
    exact ⟨rfl, rfl⟩
  · have t1 : ((i : Int) != (k : Int)) = true := by rw [bne_iff_ne]; omega
    have t2 : (i != k) = true := by rw [bne_iff_ne]; omega
    clear halt hik
    generalize m.ahead i = y at *
    go_enter Try.func26, Try.ntmps26
    go_wp2_with fail
    refine HH.out.mono ?_
    rintro e w1 ⟨rfl, rfl⟩
    go_wp2
    go_ret
    exact ⟨rfl, rfl⟩
/-- The reference's Can, walked over the messages. -/
def canB (s : Pa) (m : Ms) (p : Nat) (j : Nat) : Bool := m.ahead j && s.open (s.all.getD j default) j p
theorem can_shutB (s : Pa) (m : Ms) (k p : Nat) (ho : s.open m k p = false) : s.can m k p = false := by
  unfold Pa.can
  rw [ho, Bool.false_and]
theorem can_stop (s : Pa) (m : Ms) (k p j : Nat) (hj : j < s.all.length) (hb : canB s m p j = true) : s.can m k p = false := by
  unfold Pa.can
  rw [Bool.and_eq_false_iff]
  right
  rw [List.all_eq_false]
  exact ⟨j, List.mem_range.2 hj, by unfold canB at hb; rw [hb]; simp⟩
theorem can_end (s : Pa) (m : Ms) (k p : Nat) (ho : s.open m k p = true) (hb : ∀ j, j < s.all.length → canB s m p j = false) : s.can m k p = true := by
  unfold Pa.can
  rw [ho, Bool.true_and, List.all_eq_true]
  intro j hj
  have := hb j (List.mem_range.1 hj)
  unfold canB at this
  rw [this]; rfl
set_option maxRecDepth 100000 in
set_option maxHeartbeats 16000000 in
theorem rcan_any (R : Nat) (r : Re) (s : Pa) (p k : Nat) (m : Ms) (w : World) (h : RAt w R r s) (ok : s.Ok) (hp : p < s.n) (hk : s.all[k]? = some m) (hg : (s.got p).length ≤ 1000) :
    Calls Try.prog 24 #[.pointer (some ⟨R, 0, none⟩), .int .i64 p, .int .i64 k] w fun e w' => e = .returned (.bool (s.can m k p)) ∧ w = w' := by
  obtain ⟨-, c1, -, -⟩ := h.cells
  obtain ⟨b, o, cap, v, e, d0, d1, d2, d3, hb⟩ := h.elem hk
  rw [e] at c1
  have hlt := (List.getElem?_eq_some_iff.1 hk).1
  have hk0 : (0 : Int) ≤ (k : Int) := by omega
  have hk1 : (k : Int) < (s.all.length : Int) := by omega
  have hnb : (s.all.length : Int) ≤ 1000 := by have := ok.len; omega
  have hto := ok.to m (List.mem_of_getElem? hk)
  have HI := Lib.hid (rin_any m.to (p : Int) w hto)
  have HT : Hid (∀ j, Calls Try.prog 34 #[.pointer (some ⟨R, 0, none⟩), .int .i64 p, .int .i64 (j : Nat)] w fun e w' => e = .returned (.bool (inSet (s.had j) (p : Int))) ∧ w = w') := fun j => by
    rw [ok.hin j p hp]
    exact rtaken_any R r s p j w h hp hg ok.n16
  have HH : Hid (∀ j, Calls Try.prog 35 #[v, .int .i64 (j : Nat)] w fun e w' => e = .returned (.bool (m.ahead j)) ∧ w = w') := fun j => rhas_any v m.ahead j w hb
  have HO : Hid (s.open m k p = (inSet m.to (p : Int) && !inSet (s.had k) (p : Int))) := rfl
  have HE2 : Hid (∀ j, j < s.all.length → ∃ b' o' cap' v', Value.slice (some ⟨b, o, none⟩) s.all.length cap = .slice (some ⟨b', o', none⟩) s.all.length cap' ∧ w.cell? ⟨b', o' + j * 4 + 2, none⟩ = some (.int .u64 ((s.all.getD j default).to : Int)) ∧ v' = v') := fun j hj => by
    have hj' : s.all[j]? = some (s.all.getD j default) := by rw [List.getD_eq_getElem?_getD, List.getElem?_eq_getElem hj]; rfl
    obtain ⟨b', o', cap', v', e', _, _, q2, _, _⟩ := h.elem hj'
    exact ⟨b', o', cap', v', by rw [← e, e'], q2, rfl⟩
  have HI2 : Hid (∀ j, j < s.all.length → Calls Try.prog 22 #[.int .u64 ((s.all.getD j default).to : Nat), .int .i64 p] w fun e w' => e = .returned (.bool (inSet (s.all.getD j default).to (p : Int))) ∧ w = w') := fun j hj => by
    refine rin_any _ (p : Int) w (ok.to _ ?_)
    rw [List.getD_eq_getElem?_getD, List.getElem?_eq_getElem hj]
    exact List.getElem_mem hj
  have HB : Hid (∀ j, canB s m p j = (m.ahead j && (inSet (s.all.getD j default).to (p : Int) && !inSet (s.had j) (p : Int)))) := fun j => rfl
  obtain ⟨ans, hans⟩ : ∃ x, x = s.can m k p := ⟨_, rfl⟩
  rw [← hans]
  have HSH : Hid (s.open m k p = false → ans = false) := fun ho => by rw [hans]; exact can_shutB s m k p ho
  have HST : Hid (∀ j, j < s.all.length → canB s m p j = true → ans = false) := fun j hj hb => by rw [hans]; exact can_stop s m k p j hj hb
  have HEN : Hid (s.open m k p = true → (∀ j, j < s.all.length → canB s m p j = false) → ans = true) := fun ho hb => by rw [hans]; exact can_end s m k p ho hb
  have HTK := Lib.hid (HT.out k)
  clear h ok hb e hk hto hans hg
  generalize s.open m k p = op at *
  generalize inSet m.to (p : Int) = x1 at *
  generalize inSet (s.had k) (p : Int) = x2 at *
  go_enter Try.func24, Try.ntmps24
  go_wp2_with fail
  refine HI.out.mono ?_
  rintro e w1 ⟨rfl, rfl⟩
  clear HI
  cases x1 with
  | false =>
    have HE : Hid (ans = false) := HSH.out (by rw [HO.out]; rfl)
    clear HTK
    go_wp2
    go_ret
    exact ⟨by rw [HE.out]; rfl, rfl⟩
  | true =>
    go_wp2_with fail
    refine HTK.out.mono ?_
    rintro e w1 ⟨rfl, rfl⟩
    clear HTK
    cases x2 with
    | true =>
      have HE : Hid (ans = false) := HSH.out (by rw [HO.out]; rfl)
      go_wp2
      go_ret
      exact ⟨by rw [HE.out]; rfl, rfl⟩
    | false =>
      have HOP : Hid (op = true) := by show _ = _; rw [HO.out]; rfl
      clear HO
      go_wp2
      go_loop [7] (fun i => ∃ j : Nat, j ≤ s.all.length ∧ i = .int .i64 j ∧ Hid (∀ q, q < j → canB s m p q = false)) (fun i => s.all.length - (intOf i).toNat)
      case atStart => exact ⟨0, Nat.zero_le _, rfl, fun q hq => by omega⟩
      case round =>
        obtain ⟨j, hj, rfl, HJ⟩ := hrel
        by_cases hjl : j < s.all.length
        · obtain ⟨b', o', cap', v', e', q2, -⟩ := HE2.out j hjl
          cases e'
          have hi0 : (0 : Int) ≤ (j : Int) := by omega
          have hi1 : (j : Int) < (s.all.length : Int) := by omega
          have tj : decide (j < s.all.length) = true := decide_eq_true hjl
          have hjb : (j : Int) < 1000 := by omega
          have H1 := Lib.hid (HH.out j)
          have H2 := Lib.hid (HI2.out j hjl)
          have H3 := Lib.hid (HT.out j)
          have HBJ := Lib.hid (HB.out j)
          have HSJ := Lib.hid (HST.out j hjl)
          have HN : Hid (canB s m p j = false → ∀ q, q < j + 1 → canB s m p q = false) := fun hf q hq => by
            by_cases e : q = j
            · rw [e]; exact hf
            · exact HJ.out q (by omega)
          generalize (s.all.getD j default).to = tt at *
          generalize canB s m p j = cb at *
          generalize m.ahead j = y1 at *
          generalize inSet tt (p : Int) = y2 at *
          generalize inSet (s.had j) (p : Int) = y3 at *
          clear hjl HJ
          go_wp2_with fail
          refine H1.out.mono ?_
          rintro e w1 ⟨rfl, rfl⟩
          clear H1
          cases y1 with
          | false =>
            have HN2 := Lib.hid (HN.out (by rw [HBJ.out]; rfl))
            clear H2 H3 HN HBJ HSJ
            go_wp2
            go_round
            case rel => exact ⟨j + 1, by omega, by go_num, HN2⟩
            case measure => simp [intOf]; omega
          | true =>
            go_wp2_with fail
            refine H2.out.mono ?_
            rintro e w1 ⟨rfl, rfl⟩
            clear H2
            cases y2 with
            | false =>
              have HN2 := Lib.hid (HN.out (by rw [HBJ.out]; rfl))
              clear H3 HN HBJ HSJ
              go_wp2
              go_round
              case rel => exact ⟨j + 1, by omega, by go_num, HN2⟩
              case measure => simp [intOf]; omega
            | true =>
              go_wp2_with fail
              refine H3.out.mono ?_
              rintro e w1 ⟨rfl, rfl⟩
              clear H3
              cases y3 with
              | true =>
                have HN2 := Lib.hid (HN.out (by rw [HBJ.out]; rfl))
                clear HN HBJ HSJ
                go_wp2
                go_round
                case rel => exact ⟨j + 1, by omega, by go_num, HN2⟩
                case measure => simp [intOf]; omega
              | false =>
                have HE : Hid (ans = false) := HSJ.out (by rw [HBJ.out]; rfl)
                clear HN HBJ HSJ
                go_wp2
                go_ret
                exact ⟨by rw [HE.out]; rfl, rfl⟩
        · obtain rfl : j = s.all.length := by omega
          have ti : decide (s.all.length < s.all.length) = false := decide_eq_false (by omega)
          have HE : Hid (ans = true) := HEN.out HOP.out HJ.out
          clear HJ hjl
          go_wp2
          go_ret
          exact ⟨by rw [HE.out]; rfl, rfl⟩
end Go.Proofs.Yteicceikaecfcaa

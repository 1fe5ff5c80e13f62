/-
  The lists of the statements on package pace, and what all of them ask first.
-/
import Derived.Test.YtipnmepalmielaaPaceA
namespace Go.Proofs.Ytipnmepalmielaa
open Go.RowKit Go.Shoal

theorem Try.info3 : (Try.prog.info? 3).map (fun i => (i.zero, i.size, i.bytes)) = some (some (.int .i64 0), 1, 8) := by kernel_rfl

/-- When it rings within k Ticks, and what is then. -/
def ringsOf (p : Pc) : Nat → List Int × Pc
  | 0 => ([], p)
  | k + 1 => ((ringsOf p k).1 ++ (if (ringsOf p k).2.tick.2 then [((k : Int) + 1)] else []), (ringsOf p k).2.tick.1)
theorem ringsOf_ok {p : Pc} (h : p.Ok) (k : Nat) : (ringsOf p k).2.Ok := by
  induction k with
  | zero => exact h
  | succ k ih => exact Pc.tick_ok ih
theorem tick_rings {p : Pc} : p.rings ≤ p.tick.1.rings ∧ p.tick.1.rings ≤ p.rings + 1 := by
  unfold Pc.tick
  split
  · exact ⟨Int.le_refl _, by show p.rings ≤ p.rings + 1; omega⟩
  · split
    · exact ⟨Int.le_refl _, by show p.rings ≤ p.rings + 1; omega⟩
    · exact ⟨by show p.rings ≤ p.rings + 1; omega, Int.le_refl _⟩
theorem ringsOf_rings (p : Pc) (k : Nat) : p.rings ≤ (ringsOf p k).2.rings ∧ (ringsOf p k).2.rings ≤ p.rings + k ∧ (ringsOf p k).1.length ≤ k := by
  induction k with
  | zero => exact ⟨Int.le_refl _, by simp [ringsOf], by simp [ringsOf]⟩
  | succ k ih =>
    have h := @tick_rings (ringsOf p k).2
    refine ⟨by show p.rings ≤ (ringsOf p k).2.tick.1.rings; omega, by show (ringsOf p k).2.tick.1.rings ≤ _; omega, ?_⟩
    show ((ringsOf p k).1 ++ _).length ≤ _
    rw [List.length_append]
    split <;> simp <;> omega

/-- A row of the call's own numbers. -/
def Own (base : Nat) (w : World) (v : Value) (xs : List Int) : Prop := w.ownsRow base 3 1 v xs.length (xs.map (Value.int .i64))

/-- What the loop of 'rings' holds. -/
def RingRel (w : World) (b : Nat) (p : Pc) (k : Nat) (v : Value) (wr : World) : Prop := Own w.heap.size wr v (ringsOf p k).1 ∧ PaceAt wr b (ringsOf p k).2 ∧ Mod (· = b) w wr

set_option maxHeartbeats 1000000 in
theorem rings_calls (w : World) (b : Nat) (p : Pc) (n : Nat) (hn : n ≤ 1000) (hp : PaceAt w b p) (ok : p.Ok) (hr : 0 ≤ p.rings ∧ p.rings ≤ 100000) :
    Calls Try.prog 20 #[.pointer (some ⟨b, 0, none⟩), .int .i64 n] w fun e w' => ∃ v, e = .returned v ∧ RingRel w b p n v w' := by
  obtain ⟨i0, hi, hz0, hz1, hz2⟩ := info_parts Try.info3
  have hb := blk_lt hp
  have H0 : Hid (RingRel w b p 0 (.slice none 0 0) w) := ⟨World.ownsRow_nil _ _ _ _, hp, Mod.refl _ _⟩
  clear hp
  go_enter Try.func20, Try.ntmps20
  go_wp2
  go_loopw [5, 6] (fun v i wr => ∃ k : Nat, k ≤ n ∧ i = .int .i64 ((k : Int) + 1) ∧ Hid (RingRel w b p k v wr)) (fun _ i _ => n + 1 - (intOf i).toNat)
  case atStart => exact ⟨0, Nat.zero_le _, rfl, H0⟩
  case round =>
    obtain ⟨k, hk, rfl, HR⟩ := hrel
    by_cases hlt : k < n
    · obtain ⟨hown, hp, hm⟩ := HR.out
      have hrq := ringsOf_rings p k
      have T := tick_any wr b _ hp (ringsOf_ok ok k) ⟨by omega, by omega⟩
      have hlen : (ringsOf p k).1.length ≤ 1000 := by omega
      cases hq : (ringsOf p k).2.tick.2
      · have T1 : Calls Try.prog 11 #[.pointer (some ⟨b, 0, none⟩)] wr (Does wr b (ringsOf p (k + 1)).2 (.bool false)) := by
          unfold Ticks at T; rw [hq] at T; exact T
        have HT := Lib.hid T1
        have HL : Hid ((ringsOf p (k + 1)).1 = (ringsOf p k).1) := by show (ringsOf p k).1 ++ _ = _; rw [hq]; simp
        have HP := Lib.hid hm
        have HO := Lib.hid hown
        clear T T1 hq hrq hm hown hp HR
        go_wp2_with fail
        refine HT.out.mono ?_
        rintro e w1 ⟨rfl, hp1, hm1⟩
        have HP1 := Lib.hid hp1
        have HM1 := Lib.hid hm1
        clear hp1 hm1
        go_wp2
        go_roundw
        case rel => exact ⟨k + 1, by omega, by go_num, by unfold Own; rw [HL.out]; exact HM1.out.own HO.out (fun j hj e => by subst e; omega), HP1.out, HP.out.trans HM1.out⟩
        case measure => simp [intOf]; omega
      · have T1 : Calls Try.prog 11 #[.pointer (some ⟨b, 0, none⟩)] wr (Does wr b (ringsOf p (k + 1)).2 (.bool true)) := by
          unfold Ticks at T; rw [hq] at T; exact T
        have HT := Lib.hid T1
        have HL : Hid ((ringsOf p (k + 1)).1 = (ringsOf p k).1 ++ [(k : Int) + 1]) := by show (ringsOf p k).1 ++ _ = _; rw [hq]; simp
        have HP := Lib.hid hm
        have HO := Lib.hid hown
        have hs := hm.size
        clear T T1 hq hrq hm hown hp HR
        go_wp2_with fail
        refine HT.out.mono ?_
        rintro e w1 ⟨rfl, hp1, hm1⟩
        have HO1 := Lib.hid (hm1.own HO.out (fun j hj e => by subst e; omega))
        have hs1 := hm1.size
        have HP1 := Lib.hid hp1
        have HM1 := Lib.hid hm1
        clear hp1 hm1 HO
        go_wp2_with (at_builtin; refine wpList_append_own _ rfl _ _ 40 rfl w.heap.size 3 i0 (.int .i64 0) 1 8 Try.underlying40 hi hz0 hz1 hz2 rfl (by decide) _ _ _ rfl (HO1.out.alloc _) ⟨w1.heap.size, 0, none⟩ 1 1 [.int .i64 ((k : Int) + 1)] rfl rfl (cell_one_new _ _ _) (ints_oneCell .i64 [(k : Int) + 1]) (by unfold maxLen; omega) (by omega) (by simp; omega) ?_)
        intro v' w2 hown2 hg2 _
        have HO2 : Hid (Own w.heap.size w2 v' (ringsOf p (k + 1)).1) := by
          unfold Own; rw [HL.out, List.length_append, List.map_append]; exact hown2
        have HG2 := Lib.hid hg2
        clear hown2 hg2
        go_wp2
        go_roundw
        case rel => exact ⟨k + 1, by omega, by go_num, HO2.out, blk_grown (blk_alloc HP1.out _) HG2.out (fun j hj => by have := own_base HO1.out j hj; omega), (((HP.out.trans HM1.out).alloc _).grown HG2.out (own_base HO1.out))⟩
        case measure => simp [intOf]; omega
    · go_wp2
      go_ret
      exact ⟨_, rfl, by have : k = n := by omega
                        subst this; exact HR⟩


theorem take_next {xs ys : List Int} {k : Nat} (h : xs.take k = ys.take k) (h1 : k < xs.length) (h2 : k < ys.length) (h3 : xs.getD k 0 = ys.getD k 0) : xs.take (k + 1) = ys.take (k + 1) := by
  rw [List.take_succ_eq_append_getElem h1, List.take_succ_eq_append_getElem h2, h]
  simp only [List.getD_eq_getElem?_getD, List.getElem?_eq_getElem h1, List.getElem?_eq_getElem h2, Option.getD_some] at h3
  rw [h3]

set_option maxHeartbeats 1000000 in
/-- 'ints': two rows of numbers are alike. -/
theorem ints_calls (w : World) (v1 v2 : Value) (xs ys : List Int) (h1 : Ints w v1 xs) (h2 : Ints w v2 ys) (hx : xs.length ≤ 1000000) (hy : ys.length ≤ 1000000) :
    Calls Try.prog 19 #[v1, v2] w fun e w' => e = .returned (.bool (decide (xs = ys))) ∧ Mod (fun _ => False) w w' := by
  obtain ⟨A1, c1, rfl, h1⟩ := h1
  obtain ⟨A2, c2, rfl, h2⟩ := h2
  by_cases hl : xs.length = ys.length
  · by_cases hx0 : xs = []
    · have hy0 : ys = [] := List.eq_nil_of_length_eq_zero (by rw [← hl, hx0]; rfl)
      subst hx0
      subst hy0
      clear h1 h2 hl
      go_enter Try.func19, Try.ntmps19
      go_wp2
      refine wp_loop_rounds 1 ?_
      rw [rounds_succ]
      go_wp2
      go_ret
      exact ⟨rfl, Mod.refl _ _⟩
    · have hy0 : ys ≠ [] := fun e => hx0 (List.eq_nil_of_length_eq_zero (by rw [hl, e]; rfl))
      obtain ⟨b1, o1, rfl, hc1⟩ := h1.resolve_left hx0
      obtain ⟨b2, o2, rfl, hc2⟩ := h2.resolve_left hy0
      have hl1 : (((xs.length : Nat) : Int) != ys.length) = false := by simp [hl]
      have H1 := Lib.hid hc1
      have H2 := Lib.hid hc2
      have HL := Lib.hid hl
      clear h1 h2 hl hc1 hc2 hx0 hy0
      go_enter Try.func19, Try.ntmps19
      go_wp2
      go_loopw [5] (fun i wr => ∃ k n : Nat, k ≤ xs.length ∧ i = .int .i64 k ∧ Hid (xs.take k = ys.take k) ∧ wr = w.drewN n) (fun i _ => xs.length - (intOf i).toNat)
      case atStart => exact ⟨0, 0, Nat.zero_le _, rfl, by simp [Hid], rfl⟩
      case round =>
        obtain ⟨k, n, hk, rfl, hp, rfl⟩ := hrel
        by_cases hlt : k < xs.length
        · have e1 := H1.out k hlt
          have hlt2 : k < ys.length := by have := HL.out; omega
          have e2 := H2.out k hlt2
          have hi1 : (k : Int) < xs.length := by omega
          have hi2 : (k : Int) < ys.length := by omega
          generalize hgx : xs.getD k 0 = x at e1
          generalize hgy : ys.getD k 0 = y at e2
          have HX := Lib.hid hgx
          have HY := Lib.hid hgy
          clear hgx hgy
          by_cases he : x = y
          · have hd : (x != y) = false := by simp [he]
            have HE := Lib.hid he
            clear he
            go_wp2
            go_quiet (fail)
            go_wp2
            go_roundw
            case rel => exact ⟨k + 1, _, by omega, by go_num, take_next hp.out hlt hlt2 (by rw [HX.out, HY.out, HE.out]), rfl⟩
            case measure => simp [intOf]; omega
          · have hd : (x != y) = true := by simp [he]
            have hne : Hid (decide (xs = ys) = false) := decide_eq_false (fun e => he (by rw [← HX.out, ← HY.out, e]))
            clear he
            go_wp2
            go_quiet (fail)
            go_wp2
            go_ret
            exact ⟨by rw [hne.out]; rfl, ((Mod.refl _ _).drewN _).drewN _⟩
        · have hke : k = xs.length := by omega
          have he : Hid (decide (xs = ys) = true) := decide_eq_true (by
            have h := hp.out
            rw [hke, List.take_length, HL.out, List.take_length] at h
            exact h)
          clear hke
          go_wp2
          go_ret
          exact ⟨by rw [he.out]; rfl, (Mod.refl _ _).drewN _⟩
  · have hl1 : (((xs.length : Nat) : Int) != ys.length) = true := by simp; omega
    have he : Hid (decide (xs = ys) = false) := decide_eq_false (fun e => hl (by rw [e]))
    clear h1 h2 hl
    go_enter Try.func19, Try.ntmps19
    go_wp2
    go_ret
    exact ⟨by rw [he.out]; rfl, Mod.refl _ _⟩

/-- Five rings in a row of twelve Ticks. -/
theorem awake_list : ringsOf (Pc.start ⟨1, 4, 1, 0, 0⟩) 12 = ([1, 3, 7, 11], ⟨1, 4, 4, 3, 4⟩) := by kernel_rfl

set_option maxHeartbeats 1000000 in
theorem awake_calls (w : World) : Calls Try.prog 7 #[] w fun e w' => e = .returned (.bool true) ∧ Mod (fun _ => False) w w' := by
  go_enter Try.func7, Try.ntmps7
  go_wp2_with fail
  refine (new_ok 1 4 w (by omega) (by omega) (by omega)).mono ?_
  rintro e w1 ⟨rfl, hp1, hm1, hs1⟩
  have HM1 := Lib.hid hm1
  have HP1 := Lib.hid hp1
  have HS1 := Lib.hid hs1
  clear hm1 hp1 hs1
  go_wp2_with fail
  refine (start_any w1 _ _ HP1.out).mono ?_
  rintro e w2 ⟨rfl, hp2, hm2⟩
  have HP2 := Lib.hid hp2
  have HM2 := Lib.hid hm2
  clear hm2 hp2
  go_wp2_with fail
  refine (rings_calls w2 _ _ 12 (by omega) HP2.out (Pc.start_ok ⟨by decide, by decide, by decide, by decide, by decide, by decide⟩) (by decide)).mono ?_
  rintro e w3 ⟨v, rfl, hr3⟩
  obtain ⟨ho3, hp3, hm3⟩ := hr3
  rw [awake_list] at ho3 hp3
  have HP3 := Lib.hid hp3
  have HI3 := Lib.hid (Ints.of_own ho3)
  have HM3 := Lib.hid hm3
  clear ho3 hp3 hm3
  go_wp2_with fail
  refine (ints_calls _ _ _ [1, 3, 7, 11] [1, 3, 7, 11] (HI3.out.mod (S := fun _ => False) ((Mod.refl _ _).alloc _) (fun _ _ x => x)) (Ints.new w3 3 4 [1, 3, 7, 11]) (by decide) (by decide)).mono ?_
  rintro e w4 ⟨rfl, hm4⟩
  have HM4 := Lib.hid hm4
  clear hm4
  go_wp2_with fail
  have hp4 : PaceAt w4 w.heap.size ⟨1, 4, 4, 3, 4⟩ := HM4.out.blk (blk_alloc HP3.out _) (fun x => x)
  refine (rings_any w4 _ _ hp4).mono ?_
  rintro e w5 ⟨rfl, rfl⟩
  clear hp4
  go_wp2
  go_ret
  exact ⟨rfl, (((HM1.out.trans' HM2.out (fun i hi h => by omega)).trans' HM3.out (fun i hi h => by omega)).alloc _).trans HM4.out⟩
end Go.Proofs.Ytipnmepalmielaa

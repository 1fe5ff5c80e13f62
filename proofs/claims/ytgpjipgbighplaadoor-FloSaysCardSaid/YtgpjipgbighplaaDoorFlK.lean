/-
  flo.Min, flo.Max.
-/
import Derived.Test.YtgpjipgbighplaaDoorFlJ
import Derived.Test.YtgpjipgbighplaaDoorFloatIn
namespace Go.Proofs.YtgpjipgbighplaaDoor
open Go.RowKit Go.Shoal

theorem flts_below {w w' : World} {v : Value} {l : List Nat} (h : Flts w v l) (hb : Below w.heap.size w w') : Flts w' v l := by
  obtain ⟨A, c, rfl, hl, hfit, hz⟩ := h
  refine ⟨A, c, rfl, hl, hfit, ?_⟩
  rcases hz with rfl | ⟨b, o, rfl, h1, h2⟩
  · exact .inl rfl
  · exact .inr ⟨b, o, rfl, Nat.lt_of_lt_of_le h1 hb.size, fun i j u hi hu => (hb.cell (p := ⟨b, o + i * 1 + j, none⟩) h1).trans (h2 i j u hi hu)⟩
def pickF (way : Int) : Nat → List Nat → Nat
  | best, [] => best
  | best, x :: l => if isN x then nanW else if cmpW x best == way then pickF way x l else pickF way best l
theorem pickF_nil (way : Int) (b : Nat) : pickF way b [] = b := rfl
theorem pickF_nan (way : Int) (b x : Nat) (l : List Nat) (h : isN x = true) : pickF way b (x :: l) = nanW := by rw [pickF, if_pos h]
theorem pickF_yes (way : Int) (b x : Nat) (l : List Nat) (h : isN x = false) (h2 : (cmpW x b == way) = true) : pickF way b (x :: l) = pickF way x l := by rw [pickF, if_neg (by rw [h]; decide), if_pos h2]
theorem pickF_no (way : Int) (b x : Nat) (l : List Nat) (h : isN x = false) (h2 : (cmpW x b == way) = false) : pickF way b (x :: l) = pickF way b l := by rw [pickF, if_neg (by rw [h]; decide), if_neg (by rw [h2]; decide)]
theorem drop_cons (l : List Nat) (k : Nat) (h : k < l.length) : l.drop k = l.getD k 0 :: l.drop (k + 1) := by
  rw [List.drop_eq_getElem_cons h, List.getD_eq_getElem?_getD, List.getElem?_eq_getElem h]
  rfl
set_option maxHeartbeats 2000000 in
theorem pick_any (first : Nat) (hf : first < B64) (v : Value) (l : List Nat) (way : Int) (w : World) (hl : Flts w v l) : Calls Tryd.prog 38 #[.float .f64 first, v, .int .i64 way] w fun e w' => e = .returned (.float .f64 (pickF way first l)) ∧ w = w' := by
  obtain ⟨A, c, rfl, hm, hfit, hz⟩ := hl
  unfold maxLen at hm
  have HZ := Lib.hid hz
  have HF := Lib.hid hfit
  have HFI := Lib.hid hf
  clear hz hfit hf
  have HP0 : Hid (pickF way first l = pickF way first (l.drop 0)) := rfl
  go_enter Tryd.func38, Tryd.ntmps38
  go_wp2
  go_loop [7, 9, 13] (fun q _ i => ∃ (k b : Nat), k ≤ l.length ∧ b < B64 ∧ i = .int .i64 k ∧ q = .float .f64 b ∧ Hid (pickF way first l = pickF way b (l.drop k))) (fun _ _ i => l.length - (intOf i).toNat)
  case atStart => exact ⟨0, first, Nat.zero_le _, HFI.out, rfl, rfl, HP0⟩
  case round =>
    obtain ⟨k, b, hk, hb, rfl, rfl, hp⟩ := hrel
    by_cases hlt : k < l.length
    · obtain ⟨bb, o, rfl, _, hc⟩ := ElemsIn.cell HZ.out (Mod.refl (fun _ => False) w).none_below k hlt
      have hi : (k : Int) < l.length := by omega
      have hi0 : (0 : Int) ≤ (k : Int) := by omega
      have k0 := hc 0 (.float .f64 (l.getD k 0)) rfl
      rw [Nat.mul_one, Nat.add_zero] at k0
      have hx := HF.out k hlt
      have hx : l.getD k 0 < B64 := hx
      have hd := drop_cons l k hlt
      obtain ⟨x, hxe⟩ : ∃ x, x = l.getD k 0 := ⟨_, rfl⟩
      rw [← hxe] at k0 hx hd
      have H1 := Lib.hid (isnan_any x w)
      have H2 := Lib.hid (nan_any w)
      have H3 := Lib.hid (cmp_any x b w hx hb)
      have hp' := hp.out
      rw [hd] at hp'
      clear hc hd hxe
      cases hn : isN x
      · rw [hn] at H1
        cases hq : (cmpW x b == way)
        · have HP := Lib.hid (hp'.trans (pickF_no way b x _ hn hq))
          clear hp' hp hn
          generalize cmpW x b = q at *
          go_wp2_with fail
          refine H1.out.mono ?_
          rintro e w1 ⟨rfl, rfl⟩
          go_wp2_with fail
          refine H3.out.mono ?_
          rintro e w1 ⟨rfl, rfl⟩
          go_wp2
          go_round
          case rel => exact ⟨k + 1, b, by omega, hb, by go_num, rfl, HP⟩
          case measure => simp [intOf]; omega
        · have HP := Lib.hid (hp'.trans (pickF_yes way b x _ hn hq))
          clear hp' hp hn
          generalize cmpW x b = q at *
          go_wp2_with fail
          refine H1.out.mono ?_
          rintro e w1 ⟨rfl, rfl⟩
          go_wp2_with fail
          refine H3.out.mono ?_
          rintro e w1 ⟨rfl, rfl⟩
          go_wp2
          go_round
          case rel => exact ⟨k + 1, x, by omega, hx, by go_num, rfl, HP⟩
          case measure => simp [intOf]; omega
      · rw [hn] at H1
        have HP := Lib.hid (hp'.trans (pickF_nan way b x _ hn))
        clear hp' hp hn
        go_wp2_with fail
        refine H1.out.mono ?_
        rintro e w1 ⟨rfl, rfl⟩
        go_wp2_with fail
        refine H2.out.mono ?_
        rintro e w1 ⟨rfl, rfl⟩
        go_wp2
        go_ret
        exact ⟨by rw [HP.out]; rfl, rfl⟩
    · obtain rfl : k = l.length := by omega
      have HP : Hid (pickF way first l = b) := by
        have h := hp.out
        rw [List.drop_length] at h
        exact h
      have ti : decide (l.length < l.length) = false := decide_eq_false (by omega)
      clear hp
      go_wp2
      go_ret
      exact ⟨by rw [HP.out]; rfl, rfl⟩
def minF (l : List Nat) : Nat := pickF (-1) INF l
def maxF (l : List Nat) : Nat := pickF 1 (INF + B63) l
theorem min_any (v : Value) (l : List Nat) (w : World) (hl : Flts w v l) : Calls Tryd.prog 17 #[v] w fun e w' => e = .returned (.float .f64 (minF l)) ∧ w = w' := by
  have H1 := Lib.hid (inf_any w)
  have H2 := Lib.hid (pick_any INF (by decide) v l (-1) w hl)
  have HE : Hid (minF l = pickF (-1) INF l) := rfl
  clear hl
  generalize pickF (-1) INF l = r at *
  go_enter Tryd.func17, Tryd.ntmps17
  go_wp2_with fail
  refine H1.out.mono ?_
  rintro e w1 ⟨rfl, rfl⟩
  go_wp2_with fail
  refine H2.out.mono ?_
  rintro e w1 ⟨rfl, rfl⟩
  go_wp2
  go_ret
  exact ⟨by rw [HE.out]; rfl, rfl⟩
theorem max_any (v : Value) (l : List Nat) (w : World) (hl : Flts w v l) : Calls Tryd.prog 18 #[v] w fun e w' => e = .returned (.float .f64 (maxF l)) ∧ w = w' := by
  have H1 := Lib.hid (minf_any w)
  have H2 := Lib.hid (pick_any (INF + B63) (by decide) v l 1 w hl)
  have HE : Hid (maxF l = pickF 1 (INF + B63) l) := rfl
  clear hl
  generalize pickF 1 (INF + B63) l = r at *
  go_enter Tryd.func18, Tryd.ntmps18
  go_wp2_with fail
  refine H1.out.mono ?_
  rintro e w1 ⟨rfl, rfl⟩
  go_wp2_with fail
  refine H2.out.mono ?_
  rintro e w1 ⟨rfl, rfl⟩
  go_wp2
  go_ret
  exact ⟨by rw [HE.out]; rfl, rfl⟩
end Go.Proofs.YtgpjipgbighplaaDoor

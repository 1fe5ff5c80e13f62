/-
  The walk of PostFull.
-/
import Derived.Test.YtmpeijlfflfkbaaPostF
import Derived.Test.YtmpeijlfflfkbaaOpen
namespace Go.Proofs.Ytmpeijlfflfkbaa
open Go.RowKit Go.Shoal Go.Conc

/-- The boxes while PostFull puts. -/
def fullLs (zs : List Int) (room i : Nat) : Nat → List Value := fun b => if b = 1 then (zs.take (min i room)).map (Value.int .i64) else []
theorem fullLs_len (zs : List Int) (room i : Nat) (h : i ≤ zs.length) : (fullLs zs room i 1).length = min i room := by
  unfold fullLs
  rw [if_pos rfl, List.length_map, List.length_take]
  omega
theorem fullLs_step (zs : List Int) (room i : Nat) (h : i < room) (hl : i < zs.length) : setLs (fullLs zs room i) 1 (fullLs zs room i 1 ++ [.int .i64 (zs.getD i 0)]) = fullLs zs room (i + 1) := by
  funext b
  unfold setLs fullLs
  by_cases hb : b = 1
  · rw [if_pos hb, if_pos hb, if_pos rfl, Nat.min_eq_left (by omega), Nat.min_eq_left (by omega), List.take_succ_eq_append_getElem hl, List.map_append, List.getD_eq_getElem?_getD, List.getElem?_eq_getElem hl]
    rfl
  · rw [if_neg hb, if_neg hb, if_neg hb]
theorem fullLs_stay (zs : List Int) (room i : Nat) (h : room ≤ i) : fullLs zs room (i + 1) = fullLs zs room i := by
  funext b
  unfold fullLs
  rw [Nat.min_eq_right (by omega), Nat.min_eq_right (by omega)]
theorem fullLs_zero (zs : List Int) (room : Nat) : fullLs zs room 0 = fun _ => [] := by
  funext b
  unfold fullLs
  rw [Nat.min_eq_left (by omega)]
  split <;> rfl
/-- While PostFull puts. -/
def FullRel (w : World) (base p : Nat) (zs : List Int) (room i : Nat) (wr : World) : Prop := BoxesI base wr p 2 room (fullLs zs room i) ∧ Below w.heap.size w wr
theorem nums_cell {k : IntKind} {w wr : World} {A : Option Addr} {zs : List Int} (hz : zs = [] ∨ ∃ b o, A = some ⟨b, o, none⟩ ∧ b < w.heap.size ∧ ∀ i, i < zs.length → w.cell? ⟨b, o + i, none⟩ = some (.int k (zs.getD i 0)))
    (hB : Below w.heap.size w wr) (j : Nat) (hj : j < zs.length) : ∃ b o, A = some ⟨b, o, none⟩ ∧ wr.cell? ⟨b, o + j, none⟩ = some (.int k (zs.getD j 0)) := by
  rcases hz with rfl | ⟨b, o, rfl, hb, hc⟩
  · simp at hj
  · exact ⟨b, o, rfl, (hB.cell (p := ⟨b, o + j, none⟩) hb).trans (hc j hj)⟩

set_option maxHeartbeats 1000000 in
theorem full_out (room : Int) (v : Value) (zs : List Int) (w : World) (hz : NumsIn .i64 w v zs) (h : room < 1 ∨ (1 ≤ room ∧ 64 < room) ∨ (1 ≤ room ∧ room ≤ 64 ∧ 80 < zs.length)) :
    Calls Try.prog 4 #[.int .i64 room, v] w fun e w' => e = .returned (.bool true) ∧ Below w.heap.size w w' := by
  obtain ⟨A, c, rfl, hl, hz⟩ := hz
  unfold maxLen at hl
  clear hz
  have HA := Lib.hid (awake_any w)
  rcases h with h | ⟨h, h1⟩ | ⟨h, h1, h2⟩
  all_goals
    go_enter Try.func4, Try.ntmps4
    go_wp2_with fail
    refine HA.out.mono ?_
    rintro e w1 ⟨rfl, hm⟩
    have HM := Lib.hid hm
    clear hm
    go_wp2
    go_ret
    exact ⟨rfl, HM.out⟩

set_option maxHeartbeats 4000000 in
theorem full_in (room : Nat) (v : Value) (zs : List Int) (w : World) (hz : NumsIn .i64 w v zs) (h1 : 1 ≤ room) (h2 : room ≤ 64) (h3 : zs.length ≤ 80) :
    Calls Try.prog 4 #[.int .i64 room, v] w fun e w' => e = .returned (.bool true) ∧ Below w.heap.size w w' := by
  obtain ⟨A, c, rfl, hl, hz, hwf⟩ := hz
  have t1 : decide ((room : Int) < 1) = false := decide_eq_false (by omega)
  have t2 : decide (64 < (room : Int)) = false := decide_eq_false (by omega)
  have t3 : decide (80 < (zs.length : Int)) = false := decide_eq_false (by omega)
  have HZ := Lib.hid hz
  have HA := Lib.hid (awake_any w)
  clear hz hl hwf
  go_enter Try.func4, Try.ntmps4
  go_wp2_with fail
  refine HA.out.mono ?_
  rintro e w1 ⟨rfl, hm⟩
  have HM := Lib.hid hm
  have HN := Lib.hid (new_ok_I 2 room w1 (by omega) (by omega) h1 h2)
  clear hm
  go_wp2_with fail
  refine HN.out.mono ?_
  rintro e w2 ⟨rfl, hb, hw⟩
  have H0 : Hid (FullRel w w1.heap.size (w1.heap.size + 1) zs room 0 w2) := ⟨by rw [fullLs_zero]; exact hb, below_of HM.out hw⟩
  have HW : Hid (w.heap.size ≤ w1.heap.size) := HM.out.size
  generalize w1.heap.size + 1 = p at *
  generalize w1.heap.size = base at *
  clear hb hw
  go_wp2
  go_loopw [7] (fun i wr => ∃ j : Nat, j ≤ zs.length ∧ i = .int .i64 j ∧ Hid (FullRel w base p zs room j wr)) (fun i _ => zs.length - (intOf i).toNat)
  case atStart => exact ⟨0, Nat.zero_le _, rfl, H0⟩
  case round =>
    obtain ⟨j, hj, rfl, hR⟩ := hrel
    by_cases hlt : j < zs.length
    · obtain ⟨b, o, rfl, hc⟩ := nums_cell HZ.out hR.out.2 j hlt
      have hi : (j : Int) < zs.length := by omega
      have HS := Lib.hid (fullLs_step zs room j)
      have HT := Lib.hid (fullLs_stay zs room j)
      have HL := Lib.hid (fullLs_len zs room j hj)
      generalize zs.getD j 0 = x at hc HS
      by_cases hr : j < room
      · have td : decide ((j : Int) < (room : Int)) = true := decide_eq_true (by omega)
        have HC := Lib.hid (putt_I base p 2 room _ 1 (.int .i64 x) wr hR.out.1 (by omega) (by rw [HL.out]; omega))
        go_wp2_with fail
        refine HC.out.mono ?_
        rintro e w5 ⟨rfl, hb, hw⟩
        rw [HS.out hr hlt] at hb
        have HR : Hid (FullRel w base p zs room (j + 1) w5) := ⟨hb, hR.out.2.trans (hw.mono HW.out)⟩
        clear hb hw
        go_wp2
        go_roundw
        case rel => exact ⟨j + 1, by omega, by go_num, HR⟩
        case measure => simp [intOf]; omega
      · have td : decide ((j : Int) < (room : Int)) = false := decide_eq_false (by omega)
        have HC := Lib.hid (putf_I base p 2 room _ 1 (.int .i64 x) wr hR.out.1 (canPut_full (k := 1) (by rw [HL.out]; omega)))
        go_wp2_with fail
        refine HC.out.mono ?_
        rintro e w5 ⟨rfl, hb, hw⟩
        rw [← HT.out (by omega)] at hb
        have HR : Hid (FullRel w base p zs room (j + 1) w5) := ⟨hb, hR.out.2.trans (hw.mono HW.out)⟩
        clear hb hw
        go_wp2
        go_roundw
        case rel => exact ⟨j + 1, by omega, by go_num, HR⟩
        case measure => simp [intOf]; omega
    · obtain rfl : j = zs.length := by omega
      have hi : decide ((zs.length : Int) < (zs.length : Int)) = false := decide_eq_false (by omega)
      have HL := Lib.hid (fullLs_len zs room zs.length (Nat.le_refl _))
      by_cases hr : zs.length < room
      · have td : decide ((zs.length : Int) < (room : Int)) = true := decide_eq_true (by omega)
        have HL1 := lenk_I base p 2 room _ 1 wr hR.out.1 (by omega)
        rw [HL.out, Nat.min_eq_left (by omega)] at HL1
        have HL0 := lenk_I base p 2 room _ 0 wr hR.out.1 (by omega)
        have K1 := Lib.hid HL1
        have K0 := Lib.hid HL0
        clear HL1 HL0
        go_wp2_with fail
        refine K1.out.mono ?_
        rintro e w5 ⟨rfl, rfl⟩
        go_wp2_with fail
        refine K0.out.mono ?_
        rintro e w5 ⟨rfl, rfl⟩
        go_wp2
        go_ret
        exact ⟨rfl, hR.out.2⟩
      · have td : decide ((zs.length : Int) < (room : Int)) = false := decide_eq_false (by omega)
        obtain ⟨b, o, rfl, hc⟩ := nums_cell HZ.out hR.out.2 0 (by omega)
        rw [Nat.add_zero] at hc
        have hpos : (0 : Int) < zs.length := by omega
        have hpos' : 0 < zs.length := by omega
        obtain ⟨l', hl', hlen⟩ : ∃ l', fullLs zs room zs.length 1 = Value.int .i64 (zs.getD 0 0) :: l' ∧ l'.length + 1 = room := by
          have hll := HL.out
          cases hq : fullLs zs room zs.length 1 with
          | nil => rw [hq] at hll; simp at hll; omega
          | cons y l' =>
            refine ⟨l', ?_, by rw [hq] at hll; simp at hll; omega⟩
            unfold fullLs at hq
            rw [if_pos rfl, Nat.min_eq_right (by omega)] at hq
            cases zs with
            | nil => simp at hpos'
            | cons z zs' =>
              obtain ⟨r', rfl⟩ : ∃ r', room = r' + 1 := ⟨room - 1, by omega⟩
              simp at hq
              rw [← hq.1]; rfl
        have HG := Lib.hid (getc_I base p 2 room _ 1 (.int .i64 (zs.getD 0 0)) l' wr hR.out.1 (by omega) hl')
        have HLL := Lib.hid hlen
        clear hlen hl'
        generalize zs.getD 0 0 = x at *
        go_wp2_with fail
        refine HG.out.mono ?_
        rintro e w5 ⟨rfl, hb, hw⟩
        have HW5 := Lib.hid (hR.out.2.trans (hw.mono HW.out))
        have hc5 : w5.cell? ⟨b, o, none⟩ = some (.int .i64 x) := by
          rcases HZ.out with e | ⟨b', o', e1, hb', _⟩
          · rw [e] at hpos'; simp at hpos'
          · cases e1
            exact (hw.cell (p := ⟨b, o, none⟩) (Nat.lt_of_lt_of_le hb' HW.out)).trans hc
        have HP := Lib.hid (putt_I base p 2 room _ 1 (.int .i64 7) w5 hb (by omega) (by rw [setLs_at]; have := HLL.out; omega))
        clear hb hw hc
        go_wp2_with fail
        refine HP.out.mono ?_
        rintro e w6 ⟨rfl, hb, hw⟩
        have HW6 := Lib.hid (HW5.out.trans (hw.mono HW.out))
        have HP6 := Lib.hid (putf_I base p 2 room _ 1 (.int .i64 8) w6 hb (canPut_full (k := 1) (by rw [setLs_at, setLs_at, List.length_append]; have := HLL.out; simp; omega)))
        clear hb hw hc5
        go_wp2_with fail
        refine HP6.out.mono ?_
        rintro e w7 ⟨rfl, hb, hw⟩
        have HW7 := Lib.hid (HW6.out.trans (hw.mono HW.out))
        have HP7 := Lib.hid (putt_I base p 2 room _ 0 (.int .i64 9) w7 hb (by omega) (by rw [setLs_far _ _ _ _ (by decide), setLs_far _ _ _ _ (by decide)]; show 0 < room; omega))
        clear hb hw
        go_wp2_with fail
        refine HP7.out.mono ?_
        rintro e w8 ⟨rfl, hb, hw⟩
        have HW8 := Lib.hid (HW7.out.trans (hw.mono HW.out))
        clear hb hw
        go_wp2
        go_ret
        exact ⟨rfl, HW8.out⟩
theorem full_any (room : Int) (v : Value) (zs : List Int) (w : World) (hz : NumsIn .i64 w v zs) :
    Calls Try.prog 4 #[.int .i64 room, v] w fun e w' => e = .returned (.bool true) ∧ Below w.heap.size w w' := by
  by_cases h : room < 1 ∨ (1 ≤ room ∧ 64 < room) ∨ (1 ≤ room ∧ room ≤ 64 ∧ 80 < zs.length)
  · exact full_out room v zs w hz h
  · obtain ⟨r, rfl⟩ := Int.eq_ofNat_of_zero_le (show 0 ≤ room by omega)
    exact full_in r v zs w hz (by omega) (by omega) (by omega)
theorem Try.cellsInt : Try.prog.cellsOf 3 = 1 := by kernel_rfl
theorem full_walk {H : Type} {enc : TypeId × Value → H} {b0 : Nat} {d : DataW H} {ps : List MemPlace} (W : World) (room : Int) (_ : (Lit.int .i64 room).wf = true) (v : Value) (hok : Value.okWide Try.prog W .any b0 22 v)
    (h : DataW.Trod enc Try.prog W 0 (fun _ => true) true 22 v d ps) : Calls Try.prog 4 #[.int .i64 room, v] W fun e w' => e = .returned (.bool true) ∧ Below W.heap.size W w' := by
  obtain ⟨zs, hz⟩ := open_nums Try.underlying22 Try.underlying3 Try.cellsInt hok h
  exact full_any room v zs W hz
end Go.Proofs.Ytmpeijlfflfkbaa

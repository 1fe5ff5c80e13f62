/-
  The walk of ShipDrains.
-/
import Derived.Test.YtcgfbbfepopinaaShipM
namespace Go.Proofs.Ytcgfbbfepopinaa
open Go.RowKit Go.Shoal

theorem below_of' {w a b : World} {base : Nat} (h : Below w.heap.size w a) (k : Below base a b) (hb : w.heap.size ≤ base) : Below w.heap.size w b := h.trans (k.mono hb)
/-- While ShipDrains pushes, and acknowledges. -/
def DrainSt (base B pb : Nat) (w1 : World) (win n tot : Nat) (s : Shp) (wr : World) : Prop :=
  Sails base B pb w1 s [] wr ∧ s.Inv ∧ s.win = win ∧ s.que = 32 ∧ s.last + s.waits.length = n ∧ s.out.length + s.waits.length ≤ tot
set_option maxHeartbeats 1000000 in
theorem drains_out (win : Int) (v : Value) (l : List ByteArray) (w : World) (hz : Strs w v l) (h : win < 1 ∨ (1 ≤ win ∧ 16 < win) ∨ (1 ≤ win ∧ win ≤ 16 ∧ 30 < l.length)) :
    Calls Try.prog 3 #[.int .i64 win, v] w fun e w' => e = .returned (.bool true) ∧ Below w.heap.size w w' := by
  obtain ⟨A, c, rfl, hl, _⟩ := hz
  unfold maxLen at hl
  have HA := Lib.hid (awake_any w)
  rcases h with h | ⟨h, h1⟩ | ⟨h, h1, h2⟩
  all_goals
    go_enter Try.func3, Try.ntmps3
    go_wp2_with fail
    refine HA.out.mono ?_
    rintro e w1 ⟨rfl, hm⟩
    have HM := Lib.hid hm
    clear hm
    go_wp2
    go_ret
    exact ⟨rfl, HM.out⟩
set_option maxRecDepth 100000 in
set_option maxHeartbeats 4000000 in
theorem drains_in (win : Nat) (v : Value) (l : List ByteArray) (w : World) (hz : Strs w v l) (h1 : 1 ≤ win) (h2 : win ≤ 16) (h3 : l.length ≤ 30) :
    Calls Try.prog 3 #[.int .i64 win, v] w fun e w' => e = .returned (.bool true) ∧ Below w.heap.size w w' := by
  obtain ⟨A, c, rfl, hl, _, hz⟩ := hz
  have HA := Lib.hid (awake_any w)
  have t1 : decide ((win : Int) < 1) = false := decide_eq_false (by omega)
  have t2 : decide (16 < (win : Int)) = false := decide_eq_false (by omega)
  have t3 : decide (30 < (l.length : Int)) = false := decide_eq_false (by omega)
  have HZ := Lib.hid hz
  clear hz hl
  go_enter Try.func3, Try.ntmps3
  go_wp2_with fail
  refine HA.out.mono ?_
  rintro e w1 ⟨rfl, hm⟩
  have HM := Lib.hid hm
  have HN := Lib.hid (sail_new win 32 1 2 w1 h1 h2 (by decide) (by decide) (by decide) (by decide) (by decide))
  clear hm HA
  go_wp2_with fail
  refine HN.out.mono ?_
  rintro e w2 ⟨rfl, hs⟩
  have H0 : Hid (DrainSt w1.heap.size (w1.heap.size + 1) w1.heap.size w1 win 0 0 (Shp.new win 32 1 2) w2) := ⟨hs, Shp.Inv.new _ _ _ _, rfl, rfl, rfl, Nat.le_refl _⟩
  have HBASE : Hid (w.heap.size ≤ w1.heap.size) := HM.out.size
  clear hs HN
  generalize w1.heap.size + 1 = B at *
  generalize w1.heap.size = base at *
  go_wp2
  go_loopw [7, 8] (fun n i wr => ∃ (k : Nat) (s : Shp), k ≤ l.length ∧ n = .int .i64 k ∧ i = .int .i64 k ∧ Hid (DrainSt base B base w1 win k k s wr)) (fun _ i _ => l.length - (intOf i).toNat)
  case atStart => exact ⟨0, _, Nat.zero_le _, rfl, rfl, H0⟩
  case round =>
    obtain ⟨k, s, hk, rfl, rfl, hD⟩ := hrel
    have HBW : Hid (Below w.heap.size w wr) := by
      obtain ⟨⟨_, _, _, _, hB, _⟩, _⟩ := hD.out
      exact below_of' HM.out hB HBASE.out
    by_cases hlt : k < l.length
    · obtain ⟨b, o, rfl, hb, hc⟩ := ElemsIn.cell HZ.out HBW.out k hlt
      have hi : (k : Int) < l.length := by omega
      have hi0 : (0 : Int) ≤ (k : Int) := by omega
      obtain ⟨x, hx⟩ : ∃ x, l.getD k default = x := ⟨_, rfl⟩
      have k0 := hc 0 (.string x) (by rw [hx]; rfl)
      rw [Nat.mul_one, Nat.add_zero] at k0
      clear hc hx hb
      by_cases hsz : x.size ≤ 50
      · have tz : decide ((50 : Int) < (x.size : Int)) = false := decide_eq_false (by omega)
        obtain ⟨v1, W1, hrun, hm1, hsrc⟩ := conv_string wr x
        obtain ⟨a1, a2, a3, a4, a5, a6⟩ := hD.out
        have hwl : s.waits.length < 31 := by omega
        have hroom : s.room false = true := by
          show decide (s.waits.length + 1 < s.que) = true
          exact decide_eq_true (by omega)
        have HP := Lib.hid (sail_push (a1.none' hm1) v1 false x (a2.fit (by omega) (by omega) (by omega)) ⟨by omega, by omega⟩ (by omega) hroom hsrc (by omega))
        have HNx : Hid (∀ v5 w5, Sails base B base w1 (s.put x).filled [(v5, (s.put x).news)] w5 → DrainSt base B base w1 win (k + 1) (k + 1) (s.put x).filled w5) := fun v5 w5 h5 => by
          have hs := (s.put x).filled_sums
          have hpl : (s.put x).waits.length = s.waits.length + 1 := by show (s.waits ++ [x]).length = _; simp
          have hpo : (s.put x).out = s.out := rfl
          have hpla : (s.put x).last = s.last := rfl
          exact ⟨h5.less (fun r hr => by cases hr), a2.put hsz (by omega), hs.2.2.1.trans a3, hs.2.2.2.1.trans a4, by omega, by rw [hpo] at hs; omega⟩
        clear a1 a2 a3 a4 a5 a6 hwl hroom hm1 hsrc hsz
        go_wp2_with fail
        refine HP.out.mono ?_
        rintro e w5 ⟨v5, rfl, hs5⟩
        have HN5 := Lib.hid (HNx.out v5 w5 hs5)
        clear hs5 HNx HP hrun
        go_wp2
        go_roundw
        case rel => exact ⟨k + 1, _, by omega, by go_num, by go_num, HN5⟩
        case measure => simp [intOf]; omega
      · have tz : decide ((50 : Int) < (x.size : Int)) = true := decide_eq_true (by omega)
        clear hsz
        go_wp2
        go_ret
        exact ⟨rfl, HBW.out⟩
    · obtain rfl : k = l.length := by omega
      have ti : decide ((l.length : Int) < (l.length : Int)) = false := decide_eq_false (by omega)
      go_wp2
      go_loopw [11] (fun i wr => ∃ (j : Nat) (s : Shp), j ≤ l.length ∧ i = .int .i64 j ∧ Hid (DrainSt base B base w1 win l.length (l.length - j) s wr)) (fun i _ => l.length - (intOf i).toNat)
      case atStart => exact ⟨0, _, Nat.zero_le _, rfl, hD⟩
      case round =>
        clear ti
        obtain ⟨j, s, hj, rfl, hE⟩ := hrel
        obtain ⟨a1, a2, a3, a4, a5, a6⟩ := hE.out
        have HFit : Hid s.Fit := a2.fit (by omega) (by omega) (by omega)
        have HS := Lib.hid a1
        have HI := Lib.hid a2
        have HNUM : Hid (s.win = win ∧ s.que = 32 ∧ s.last + s.waits.length = l.length ∧ s.out.length + s.waits.length ≤ l.length - j) := ⟨a3, a4, a5, a6⟩
        clear a1 a2 a3 a4 a5 a6 hE
        by_cases hjl : j < l.length
        · have tj : decide ((j : Int) < (l.length : Int)) = true := decide_eq_true (by omega)
          have HOu := Lib.hid (sail_out HS.out HFit.out)
          by_cases hout : s.out = []
          · have HOUT : Hid (s.out.length = 0) := by rw [hout]; exact rfl
            have HWT : Hid (s.waits.length = 0) := by
              have hfull := HI.out.full
              cases hw : s.waits with
              | nil => exact rfl
              | cons b r =>
                have := hfull (by rw [hw]; simp)
                rw [hout] at this
                have h5 := HNUM.out.1
                simp at this
                omega
            have HLEFT : Hid (s.p.left = 0) := HI.out.idle hout
            have HLAST : Hid (s.last = l.length) := by have := HNUM.out; have := HWT.out; show _ = _; omega
            rw [HOUT.out] at HOu
            clear hout
            go_wp2_with fail
            refine HOu.out.mono ?_
            rintro e w5 ⟨A5, c5, rfl, hs5⟩
            have HS5 := Lib.hid (hs5.less (rs' := []) (fun r hr => by cases hr))
            clear hs5 HS HOu
            have HS := Lib.hid HS5.out
            clear HS5
            have HLf := Lib.hid (sail_left HS.out)
            rw [HLEFT.out] at HLf
            go_wp2_with fail
            refine HLf.out.mono ?_
            rintro e w6 ⟨rfl, hs6⟩
            have HS6 := Lib.hid hs6
            have HO6 := Lib.hid (sail_out hs6 HFit.out)
            rw [HOUT.out] at HO6
            clear hs6
            go_wp2_with fail
            refine HO6.out.mono ?_
            rintro e w7 ⟨A7, c7, rfl, hs7⟩
            have HW7 := Lib.hid (sail_waits hs7 HFit.out)
            rw [HWT.out] at HW7
            clear hs7
            go_wp2_with fail
            refine HW7.out.mono ?_
            rintro e w8 ⟨A8, c8, rfl, hs8⟩
            have HL8 := sail_last hs8
            rw [HLAST.out] at HL8
            have HL8' := Lib.hid HL8
            have HB8 : Hid (Below w.heap.size w w8) := by
              obtain ⟨_, _, _, _, hB, _⟩ := hs8
              exact below_of' HM.out hB HBASE.out
            clear hs8 HL8
            go_wp2_with fail
            refine HL8'.out.mono ?_
            rintro e w9 ⟨rfl, rfl⟩
            go_wp2
            go_ret
            exact ⟨rfl, HB8.out⟩
          · obtain ⟨x, r, hxr⟩ : ∃ x r, s.out = x :: r := by
              cases ho : s.out with
              | nil => exact (hout ho).elim
              | cons x r => exact ⟨x, r, rfl⟩
            have HX := Lib.hid hxr
            have hlen : s.out.length = r.length + 1 := by rw [hxr]; rfl
            rw [hlen] at HOu
            have tl : decide ((0 : Int) < (r.length : Int) + 1) = true := decide_eq_true (by omega)
            have HRL := Lib.hid hlen
            clear hout hxr hlen
            go_wp2_with fail
            refine HOu.out.mono ?_
            rintro e w5 ⟨A5, c5, rfl, hs5⟩
            have HS5 := Lib.hid hs5
            have HLa := Lib.hid (sail_last hs5)
            clear hs5
            go_wp2_with fail
            refine HLa.out.mono ?_
            rintro e w6 ⟨rfl, rfl⟩
            have HAk := Lib.hid (sail_ack HS5.out s.last HFit.out (by have := HNUM.out.1; omega) ⟨x, r, HX.out, HI.out.nums x (by rw [HX.out]; exact List.mem_cons_self), Nat.le_refl _⟩)
            have HNx : Hid (∀ (rs : List (Value × List It)) (w7 : World), Sails base B base w1 (s.acked s.last).filled rs w7 → DrainSt base B base w1 win l.length (l.length - (j + 1)) (s.acked s.last).filled w7) := fun rs w7 h7 => by
              have hs := (s.acked s.last).filled_sums
              have ho : (s.acked s.last).out = [] := List.filter_eq_nil_iff.2 (fun y hy => by have := HI.out.nums y hy; simp; omega)
              have hN := HNUM.out
              have hR := HRL.out
              have e1 : (s.acked s.last).waits = s.waits := rfl
              have e2 : (s.acked s.last).last = s.last := rfl
              rw [ho, e1] at hs
              rw [e2] at hs
              simp only [List.length_nil] at hs
              exact ⟨h7.less (fun r hr => by cases hr), HI.out.ack _, hs.2.2.1.trans hN.1, hs.2.2.2.1.trans hN.2.1, by omega, by omega⟩
            go_wp2_with fail
            refine HAk.out.mono ?_
            rintro e w7 ⟨v7, rfl, hs7⟩
            have HN7 := Lib.hid (HNx.out _ w7 hs7)
            clear hs7
            go_wp2
            go_roundw
            case rel => exact ⟨j + 1, _, by omega, by go_num, HN7⟩
            case measure => simp [intOf]; omega
        · obtain rfl : j = l.length := by omega
          have tj : decide ((l.length : Int) < (l.length : Int)) = false := decide_eq_false (by omega)
          have HOUT : Hid (s.out.length = 0) := by have := HNUM.out; show _ = _; omega
          have HWT : Hid (s.waits.length = 0) := by have := HNUM.out; show _ = _; omega
          have HLEFT : Hid (s.p.left = 0) := HI.out.idle (List.eq_nil_of_length_eq_zero HOUT.out)
          have HLAST : Hid (s.last = l.length) := by have := HNUM.out; have := HWT.out; show _ = _; omega
          have HLf := Lib.hid (sail_left HS.out)
          rw [HLEFT.out] at HLf
          go_wp2_with fail
          refine HLf.out.mono ?_
          rintro e w6 ⟨rfl, hs6⟩
          have HS6 := Lib.hid hs6
          have HO6 := Lib.hid (sail_out hs6 HFit.out)
          rw [HOUT.out] at HO6
          clear hs6
          go_wp2_with fail
          refine HO6.out.mono ?_
          rintro e w7 ⟨A7, c7, rfl, hs7⟩
          have HW7 := Lib.hid (sail_waits hs7 HFit.out)
          rw [HWT.out] at HW7
          clear hs7
          go_wp2_with fail
          refine HW7.out.mono ?_
          rintro e w8 ⟨A8, c8, rfl, hs8⟩
          have HL8 := sail_last hs8
          rw [HLAST.out] at HL8
          have HL8' := Lib.hid HL8
          have HB8 : Hid (Below w.heap.size w w8) := by
            obtain ⟨_, _, _, _, hB, _⟩ := hs8
            exact below_of' HM.out hB HBASE.out
          clear hs8 HL8
          go_wp2_with fail
          refine HL8'.out.mono ?_
          rintro e w9 ⟨rfl, rfl⟩
          go_wp2
          go_ret
          exact ⟨rfl, HB8.out⟩
theorem drains_any (win : Int) (v : Value) (l : List ByteArray) (w : World) (hz : Strs w v l) :
    Calls Try.prog 3 #[.int .i64 win, v] w fun e w' => e = .returned (.bool true) ∧ Below w.heap.size w w' := by
  by_cases h : win < 1 ∨ (1 ≤ win ∧ 16 < win) ∨ (1 ≤ win ∧ win ≤ 16 ∧ 30 < l.length)
  · exact drains_out win v l w hz h
  · obtain ⟨n, rfl⟩ := Int.eq_ofNat_of_zero_le (show 0 ≤ win by omega)
    exact drains_in n v l w hz (by omega) (by omega) (by omega)
theorem str_of {H : Type} {enc : TypeId × Value → H} {W : World} {base : Nat} {spare : Nat → Bool} {held : Bool} (n : Nat) (cs : List Value) (y : DataW H × List MemPlace) (hl : cs.length = 1)
    (h : DataW.trod enc Try.prog W base spare held n 9 cs = some y) : ∃ a : ByteArray, cs = strCells a ∧ a.size ≤ maxLen := by
  match cs, hl with
  | [c], _ =>
    obtain ⟨s, rfl, hs⟩ := string_of_trod Try.underlying9 h
    exact ⟨s, rfl, hs⟩
theorem drains_walk {H : Type} {enc : TypeId × Value → H} {b0 : Nat} {d : DataW H} {ps : List MemPlace} (W : World) (n : Int) (_ : (Lit.int .i64 n).wf = true) (v : Value) (hok : Value.okWide Try.prog W .any b0 22 v)
    (h : DataW.Trod enc Try.prog W 0 (fun _ => true) true 22 v d ps) : Calls Try.prog 3 #[.int .i64 n, v] W fun e w' => e = .returned (.bool true) ∧ Below W.heap.size W w' := by
  obtain ⟨l, hz⟩ := open_rows (C := 1) (cells := strCells) (fit := fun s => s.size ≤ maxLen) Try.underlying22 (show Try.prog.cellsOf 9 = 1 by kernel_rfl) (by decide) str_of hok h
  exact drains_any n v l W hz
end Go.Proofs.Ytcgfbbfepopinaa

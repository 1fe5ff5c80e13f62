/-
  CellEdges.
-/
import Derived.Test.YtpdpnhikcmpcdaaCellJ
import Derived.Test.YtpdpnhikcmpcdaaFloatIn
namespace Go.Proofs.Ytpdpnhikcmpcdaa
open Go.RowKit Go.Shoal

theorem below_of' {w a b : World} {base : Nat} (h : Below w.heap.size w a) (k : Below base a b) (hb : w.heap.size ≤ base) : Below w.heap.size w b := h.trans (k.mono hb)
/-- The cell behind k writes. -/
def ed (l : List Nat) (k : Nat) : Cl := ⟨plainCf 2 1, 0, [if k = 0 then vl0 else ⟨plainW (l.getD (k - 1) 0), 0, k⟩], k⟩
theorem ed_may (l : List Nat) (k : Nat) : (ed l k).may (0 : Nat) = 0 := by
  have h : (plainCf 2 1).keeps 0 0 = true := by decide +kernel
  unfold Cl.may
  rw [if_neg (by show ¬ ((((0 : Nat) : Int)) < 0 ∨ (1 : Int) ≤ ((0 : Nat) : Int)); omega)]
  show (if (plainCf 2 1).keeps 0 0 = true then 0 else 6) = (0 : Int)
  rw [if_pos h]
theorem ed_step (l : List Nat) (k : Nat) : (ed l k).wrote 0 (l.getD k 0) = ed l (k + 1) := rfl
theorem nan_is : isN nanW = true := by decide
set_option maxHeartbeats 1000000 in
theorem edges_out (v : Value) (l : List Nat) (w : World) (hz : Flts w v l) (h : l.length < 1 ∨ 30 < l.length) :
    Calls Try.prog 3 #[v] w fun e w' => e = .returned (.bool true) ∧ Below w.heap.size w w' := by
  obtain ⟨A, c, rfl, hl, _⟩ := hz
  unfold maxLen at hl
  have HA := Lib.hid (awake_any w)
  by_cases h1 : l.length < 1
  · have t1 : decide ((l.length : Int) < 1) = true := decide_eq_true (by omega)
    go_enter Try.func3, Try.ntmps3
    go_wp2_with fail
    refine HA.out.mono ?_
    rintro e w1 ⟨rfl, hm⟩
    have HM := Lib.hid hm
    clear hm
    go_wp2
    go_ret
    exact ⟨rfl, HM.out⟩
  · have t1 : decide ((l.length : Int) < 1) = false := decide_eq_false (by omega)
    have t2 : decide ((30 : Int) < (l.length : Int)) = true := decide_eq_true (by omega)
    go_enter Try.func3, Try.ntmps3
    go_wp2_with fail
    refine HA.out.mono ?_
    rintro e w1 ⟨rfl, hm⟩
    have HM := Lib.hid hm
    clear hm
    go_wp2
    go_ret
    exact ⟨rfl, HM.out⟩
set_option maxHeartbeats 4000000 in
theorem edges_in (v : Value) (l : List Nat) (w : World) (hz : Flts w v l) (h1 : 1 ≤ l.length) (h2 : l.length ≤ 30) :
    Calls Try.prog 3 #[v] w fun e w' => e = .returned (.bool true) ∧ Below w.heap.size w w' := by
  obtain ⟨A, c, rfl, hl, hfit, hz⟩ := hz
  have HA := Lib.hid (awake_any w)
  have t1 : decide ((l.length : Int) < 1) = false := decide_eq_false (by omega)
  have t2 : decide ((30 : Int) < (l.length : Int)) = false := decide_eq_false (by omega)
  have HZ := Lib.hid hz
  have HF := Lib.hid hfit
  have HP := Lib.hid (fun w => plain_any 2 1 w)
  clear hz hl hfit
  go_enter Try.func3, Try.ntmps3
  go_wp2_with fail
  refine HA.out.mono ?_
  rintro e w1 ⟨rfl, hm⟩
  have HM1 := Lib.hid hm
  clear hm HA
  go_wp2_with fail
  refine (HP.out _).mono ?_
  rintro e w2 ⟨v2, rfl, hs, hm⟩
  have HM2 : Hid (Below w.heap.size w w2) := HM1.out.trans (hm.below (fun _ _ x => x) HM1.out.size)
  have HN := Lib.hid (new_yes (plainCf 2 1) v2 0 w2 hs (by decide +kernel) (by decide) (by decide))
  clear hs hm HP HM1
  go_wp2_with fail
  refine HN.out.mono ?_
  rintro e w3 hn
  obtain ⟨B, vb, cv, rfl, hS⟩ := Sits.new hn
  have HS3 : Hid (Sits w2.heap.size B vb cv w2 (ed l 0) w3) := hS
  have HBASE : Hid (w.heap.size ≤ w2.heap.size) := HM2.out.size
  clear hS hn HN
  generalize w2.heap.size = base at *
  go_wp2
  go_loopw [5] (fun i wr => ∃ k : Nat, k ≤ l.length ∧ i = .int .i64 k ∧ Hid (Sits base B vb cv w2 (ed l k) wr)) (fun i _ => l.length - (intOf i).toNat)
  case atStart => exact ⟨0, Nat.zero_le _, rfl, HS3⟩
  case round =>
    obtain ⟨k, hk, rfl, hD⟩ := hrel
    have HBW : Hid (Below w.heap.size w wr) := below_of' HM2.out hD.out.bel HBASE.out
    by_cases hlt : k < l.length
    · obtain ⟨b, o, rfl, _, hc⟩ := ElemsIn.cell HZ.out HBW.out k hlt
      have hi : (k : Int) < l.length := by omega
      have hi0 : (0 : Int) ≤ (k : Int) := by omega
      have k0 := hc 0 (.float .f64 (l.getD k 0)) rfl
      rw [Nat.mul_one, Nat.add_zero] at k0
      have HC := Lib.hid (sit_write hD.out 0 (l.getD k 0) (ed_may l k) (by show 0 < 1; decide) (by show k ≤ 1000; omega))
      rw [ed_step] at HC
      obtain ⟨x, hx⟩ : ∃ x, x = l.getD k 0 := ⟨_, rfl⟩
      rw [← hx] at k0 HC
      clear hc hx
      go_wp2_with fail
      refine HC.out.mono ?_
      rintro e w4 ⟨rfl, hS, _⟩
      have HS4 := Lib.hid hS
      clear hS HC
      go_wp2
      go_roundw
      case rel => exact ⟨k + 1, by omega, by go_num, HS4⟩
      case measure => simp [intOf]; omega
    · obtain rfl : k = l.length := by omega
      obtain ⟨n, hn⟩ : ∃ n, l.length = n + 1 := ⟨l.length - 1, by omega⟩
      have ti : decide (l.length < l.length) = false := decide_eq_false (by omega)
      obtain ⟨x, hx⟩ : ∃ x, x = l.getD n 0 := ⟨_, rfl⟩
      obtain ⟨px, hpx⟩ : ∃ px, px = plainW x := ⟨_, rfl⟩
      have HC : Hid (Calls Try.prog 11 #[.pointer (some ⟨B, 0, none⟩), .int .i64 0] wr fun e w' => e = .returned (.tuple #[.agg #[.float .f64 px, .int .i64 0, .int .u64 (l.length : Int)], .int .i64 0]) ∧ Sits base B vb cv w2 (ed l l.length) w' ∧ Mod (fun i => i = B ∨ i = vb) wr w') :=
        sit_read hD.out 0 ⟨px, 0, l.length⟩ (ed_may l _) (by unfold ed; rw [hpx, hx, hn]; rfl)
      have HPX : Hid (px = x ∨ (isN x = true ∧ isN px = true)) := by
        show _ ∨ _
        rw [hpx]
        unfold plainW
        cases hN : isN x
        · exact .inl (by rw [if_neg (by decide)])
        · exact .inr ⟨rfl, by rw [if_pos rfl]; exact nan_is⟩
      clear hpx
      have HX := Lib.hid hx
      have HNL := Lib.hid hn
      clear hlt hx hn
      go_wp2_with fail
      refine HC.out.mono ?_
      rintro e w4 ⟨rfl, hS, _⟩
      have HB4 : Hid (Below w.heap.size w w4) := below_of' HM2.out hS.bel HBASE.out
      have HB5 : Hid (Below w.heap.size w (w4.alloc (.cells #[.float .f64 px, .int .i64 0, .int .u64 l.length] 35))) := HB4.out.alloc HB4.out.size _
      obtain ⟨b, o, rfl, hbz, hc⟩ := ElemsIn.cell HZ.out HB5.out n (by have := HNL.out; omega)
      have k0 := hc 0 (.float .f64 (l.getD n 0)) rfl
      rw [Nat.mul_one, Nat.add_zero, ← HX.out] at k0
      have e1 : (l.length : Int) - 1 = (n : Int) := by have := HNL.out; omega
      have hn0 : (0 : Int) ≤ (n : Int) := by omega
      have hn1 : (n : Int) < (l.length : Int) := by have := HNL.out; omega
      have hn9 : (l.length : Int) ≤ 30 := by omega
      have hl0 : (0 : Int) ≤ (l.length : Int) := by omega
      clear hc hS HC HB4
      by_cases hp : px = x
      · subst hp
        go_wp2
        go_ret
        exact ⟨rfl, HB5.out⟩
      · obtain ⟨n1, n2⟩ := HPX.out.resolve_left hp
        have g1 := order_self x
        have g2 := order_self px
        rw [n1] at g1
        rw [n2] at g2
        have g3 : ((px : Int) == (x : Int)) = false := by rw [beq_eq_false_iff_ne]; omega
        clear hp n1 n2
        go_wp2
        go_ret
        exact ⟨rfl, HB5.out⟩
theorem edges_any (v : Value) (l : List Nat) (w : World) (hz : Flts w v l) :
    Calls Try.prog 3 #[v] w fun e w' => e = .returned (.bool true) ∧ Below w.heap.size w w' := by
  by_cases h : l.length < 1 ∨ 30 < l.length
  · exact edges_out v l w hz h
  · exact edges_in v l w hz (by omega) (by omega)
theorem flt_of {H : Type} {enc : TypeId × Value → H} {W : World} {base : Nat} {spare : Nat → Bool} {held : Bool} (n : Nat) (cs : List Value) (y : DataW H × List MemPlace) (hl : cs.length = 1)
    (h : DataW.trod enc Try.prog W base spare held n 32 cs = some y) : ∃ a : Nat, cs = fltCells a ∧ a < B64 := by
  match cs, hl with
  | [c], _ =>
    obtain ⟨s, rfl, hs⟩ := float_of_trod Try.underlying32 h
    exact ⟨s, rfl, hs⟩
theorem edges_walk {H : Type} {enc : TypeId × Value → H} {b0 : Nat} {d : DataW H} {ps : List MemPlace} (W : World) (v : Value) (hok : Value.okWide Try.prog W .any b0 22 v)
    (h : DataW.Trod enc Try.prog W 0 (fun _ => true) true 22 v d ps) : Calls Try.prog 3 #[v] W fun e w' => e = .returned (.bool true) ∧ Below W.heap.size W w' := by
  obtain ⟨l, hz⟩ := open_rows (C := 1) (cells := fltCells) (fit := fun b => b < B64) Try.underlying22 (show Try.prog.cellsOf 32 = 1 by kernel_rfl) (by decide) flt_of hok h
  exact edges_any v l W hz
end Go.Proofs.Ytpdpnhikcmpcdaa

/-
  CellTags.
-/
import Derived.Test.YtpdpnhikcmpcdaaCellK
namespace Go.Proofs.Ytpdpnhikcmpcdaa
open Go.RowKit Go.Shoal

structure ActC where
  op : Int
  v : Int
  writer : Int
  x : Nat
  tag : Nat
instance : Inhabited ActC := ⟨⟨0, 0, 0, 0, 0⟩⟩
def ActC.cells (a : ActC) : List Value := [.int .i64 a.op, .int .i64 a.v, .int .i64 a.writer, .float .f64 a.x, .int .u64 a.tag]
def ActC.fit (a : ActC) : Prop := a.x < B64
def ActsC (w : World) (v : Value) (l : List ActC) : Prop := ElemsIn 5 ActC.cells ActC.fit w v l
theorem actC_of {H : Type} {enc : TypeId × Value → H} {W : World} {base : Nat} {spare : Nat → Bool} {held : Bool} (n : Nat) (cs : List Value) (y : DataW H × List MemPlace) (hl : cs.length = 5)
    (h : DataW.trod enc Try.prog W base spare held n 57 cs = some y) : ∃ a : ActC, cs = a.cells ∧ a.fit := by
  obtain ⟨c0, c1, c2, c3, c4, rfl⟩ : ∃ c0 c1 c2 c3 c4, cs = [c0, c1, c2, c3, c4] := by
    match cs, hl with
    | [a, b, c, d, e], _ => exact ⟨a, b, c, d, e, rfl⟩
  obtain ⟨k0, y0, h0⟩ := field_of_trod Try.underlying57 h 0 _ rfl rfl (by kernel_rfl) (by simp)
  obtain ⟨k1, y1, h1⟩ := field_of_trod Try.underlying57 h 1 _ rfl rfl (by kernel_rfl) (by simp)
  obtain ⟨k2, y2, h2⟩ := field_of_trod Try.underlying57 h 2 _ rfl rfl (by kernel_rfl) (by simp)
  obtain ⟨k3, y3, h3⟩ := field_of_trod Try.underlying57 h 3 _ rfl rfl (by kernel_rfl) (by simp)
  obtain ⟨k4, y4, h4⟩ := field_of_trod Try.underlying57 h 4 _ rfl rfl (by kernel_rfl) (by simp)
  obtain ⟨a0, e0, _⟩ := int_of_trod Try.underlying3 h0
  obtain ⟨a1, e1, _⟩ := int_of_trod Try.underlying3 h1
  obtain ⟨a2, e2, _⟩ := int_of_trod Try.underlying3 h2
  obtain ⟨a3, e3, w3⟩ := float_of_trod Try.underlying32 h3
  obtain ⟨a4, e4, w4⟩ := int_of_trod Try.underlying33 h4
  obtain ⟨a4, rfl⟩ := Int.eq_ofNat_of_zero_le (wf_u64 w4).1
  refine ⟨⟨a0, a1, a2, a3, a4⟩, ?_, w3⟩
  have f0 : c0 = _ := e0
  have f1 : c1 = _ := e1
  have f2 : c2 = _ := e2
  have f3 : c3 = _ := e3
  have f4 : c4 = _ := e4
  rw [f0, f1, f2, f3, f4]
  rfl
/-- The cell between two acts. -/
def tg (v : Vl) (n : Nat) : Cl := ⟨someCf, 0, [v, vl0], n⟩
theorem tg_may (v : Vl) (n : Nat) : (tg v n).may (0 : Nat) = 0 := by
  have h : someCf.keeps 0 0 = true := by decide +kernel
  unfold Cl.may
  rw [if_neg (by show ¬ ((((0 : Nat) : Int)) < 0 ∨ (2 : Int) ≤ ((0 : Nat) : Int)); omega)]
  show (if someCf.keeps 0 0 = true then 0 else 6) = (0 : Int)
  rw [if_pos h]
set_option maxHeartbeats 1000000 in
theorem ctags_out (v : Value) (l : List ActC) (w : World) (hz : ActsC w v l) (h : 40 < l.length) :
    Calls Try.prog 6 #[v] w fun e w' => e = .returned (.bool true) ∧ Below w.heap.size w w' := by
  obtain ⟨A, c, rfl, hl, _⟩ := hz
  unfold maxLen at hl
  have HA := Lib.hid (awake_any w)
  have t2 : decide ((40 : Int) < (l.length : Int)) = true := decide_eq_true (by omega)
  go_enter Try.func6, Try.ntmps6
  go_wp2_with fail
  refine HA.out.mono ?_
  rintro e w1 ⟨rfl, hm⟩
  have HM := Lib.hid hm
  clear hm
  go_wp2
  go_ret
  exact ⟨rfl, HM.out⟩
set_option maxRecDepth 100000 in
set_option maxHeartbeats 8000000 in
theorem ctags_in (v : Value) (l : List ActC) (w : World) (hz : ActsC w v l) (h2 : l.length ≤ 40) :
    Calls Try.prog 6 #[v] w fun e w' => e = .returned (.bool true) ∧ Below w.heap.size w w' := by
  obtain ⟨A, c, rfl, hl, hfit, hz⟩ := hz
  have HA := Lib.hid (awake_any w)
  have t2 : decide ((40 : Int) < (l.length : Int)) = false := decide_eq_false (by omega)
  have HZ := Lib.hid hz
  have HS := Lib.hid some_any'
  clear hz hl hfit
  go_enter Try.func6, Try.ntmps6
  go_wp2_with fail
  refine HA.out.mono ?_
  rintro e w1 ⟨rfl, hm⟩
  have HM1 := Lib.hid hm
  clear hm HA
  go_wp2_with fail
  refine (HS.out _).mono ?_
  rintro e w2 ⟨v2, rfl, hs, hm⟩
  have HM2 : Hid (Below w.heap.size w w2) := HM1.out.trans (hm.below (fun _ _ x => x) HM1.out.size)
  have HN := Lib.hid (new_yes someCf v2 0 w2 hs (by decide +kernel) (by decide) (by decide))
  clear hs hm HS HM1
  go_wp2_with fail
  refine HN.out.mono ?_
  rintro e w3 hn
  obtain ⟨B, vb, cv, rfl, hS⟩ := Sits.new hn
  have HS3 : Hid (Sits w2.heap.size B vb cv w2 (tg vl0 0) w3) := hS
  have HBASE : Hid (w.heap.size ≤ w2.heap.size) := HM2.out.size
  clear hS hn HN
  generalize w2.heap.size = base at *
  go_wp2
  go_loopw [5, 6] (fun nv i wr => ∃ (k n : Nat) (v0 : Vl), k ≤ l.length ∧ n ≤ k ∧ nv = .int .u64 n ∧ i = .int .i64 k ∧ Hid (Sits base B vb cv w2 (tg v0 n) wr)) (fun _ i _ => l.length - (intOf i).toNat)
  case atStart => exact ⟨0, 0, vl0, Nat.zero_le _, Nat.le_refl _, rfl, rfl, HS3⟩
  case round =>
    obtain ⟨k, n, v0, hk, hnk, rfl, rfl, hD⟩ := hrel
    have HBW : Hid (Below w.heap.size w wr) := below_of' HM2.out hD.out.bel HBASE.out
    by_cases hlt : k < l.length
    · obtain ⟨b, o, rfl, hb, hc⟩ := ElemsIn.cell HZ.out HBW.out k hlt
      have hi : (k : Int) < l.length := by omega
      have hi0 : (0 : Int) ≤ (k : Int) := by omega
      have hn40 : (n : Int) ≤ 40 := by omega
      have hn0 : (0 : Int) ≤ (n : Int) := by omega
      obtain ⟨op, vv, wt, x, tag, hq⟩ : ∃ a b c d e, l.getD k default = ActC.mk a b c d e := ⟨_, _, _, _, _, rfl⟩
      have k0 := hc 0 (.int .i64 op) (by rw [hq]; rfl)
      have k3 := hc 3 (.float .f64 x) (by rw [hq]; rfl)
      have k4 := hc 4 (.int .u64 tag) (by rw [hq]; rfl)
      rw [Nat.add_zero] at k0
      by_cases o0 : op = 0
      · subst o0
        have HC : Hid (Calls Try.prog 10 #[.pointer (some ⟨B, 0, none⟩), .int .i64 0, .float .f64 x] wr fun e w' => e = .returned (.tuple #[.agg #[.float .f64 (plainW x), .int .i64 0, .int .u64 ((n + 1 : Nat) : Int)], .int .i64 0]) ∧ Sits base B vb cv w2 (tg ⟨plainW x, 0, n + 1⟩ (n + 1)) w' ∧ Mod (fun i => i = B ∨ i = vb) wr w') :=
          sit_write hD.out 0 x (tg_may _ _) (by show 0 < 2; decide) (by show n ≤ 1000; omega)
        clear hc hq hb
        go_wp2_with fail
        refine HC.out.mono ?_
        rintro e w4 ⟨rfl, hS, _⟩
        have HS4 : Hid (Sits base B vb cv w2 (tg ⟨plainW x, 0, n + 1⟩ (n + 1)) (w4.alloc (.cells #[.float .f64 (plainW x), .int .i64 0, .int .u64 ((n + 1 : Nat) : Int)] 35))) := hS.same ((Mod.refl _ _).alloc _)
        clear hS HC
        go_wp2
        go_roundw
        case rel => exact ⟨k + 1, n + 1, _, by omega, by omega, by go_num, by go_num, HS4⟩
        case measure => simp [intOf]; omega
      · have q0 : (op == 0) = false := beq_eq_false_iff_ne.2 o0
        by_cases ht : tag = 0
        · subst ht
          have HC : Hid (Calls Try.prog 14 #[.pointer (some ⟨B, 0, none⟩), .int .i64 0, .agg #[.float .f64 x, .int .i64 1, .int .u64 0]] wr.drew fun e w' => e = .returned (.int .i64 1) ∧ Sits base B vb cv w2 (tg v0 n) w' ∧ Mod (fun i => i = B ∨ i = vb) wr.drew w') :=
            sit_apply_bad (hD.out.same ((Mod.refl _ _).drew)) (0 : Nat) ⟨x, 1, 0⟩ (tg_may _ _) (fun h => h.2.2.2 rfl)
          have HQ := Lib.hid hq
          clear hc hq hb o0
          go_wp2_with fail
          go_still_tail 12, (by kernel_rfl)
          change wpList _ _ _ _ _ wr.drew
          go_wp2_with fail
          refine HC.out.mono ?_
          rintro e w4 ⟨rfl, hS, _⟩
          have HR : Hid (Calls Try.prog 11 #[.pointer (some ⟨B, 0, none⟩), .int .i64 0] w4 fun e w' => e = .returned (.tuple #[.agg #[.float .f64 v0.x, .int .i64 v0.writer, .int .u64 v0.tag], .int .i64 0]) ∧ Sits base B vb cv w2 (tg v0 n) w' ∧ Mod (fun i => i = B ∨ i = vb) w4 w') :=
            sit_read hS 0 _ (tg_may _ _) rfl
          clear hS HC k0 k3 k4
          go_wp2_with fail
          refine HR.out.mono ?_
          rintro e w5 ⟨rfl, hS, _⟩
          have hS5 := hS.same (w' := w5.alloc (.cells #[.float .f64 v0.x, .int .i64 v0.writer, .int .u64 v0.tag] 35)) ((Mod.refl _ _).alloc _)
          have HS5 := Lib.hid hS5
          have HB5 : Hid (Below w.heap.size w _) := below_of' HM2.out hS5.bel HBASE.out
          obtain ⟨b', o', hA, hb', hc⟩ := ElemsIn.cell HZ.out HB5.out k hlt
          cases hA
          have k4 := hc 4 (.int .u64 (0 : Nat)) (by rw [HQ.out]; rfl)
          clear hc hS hS5 HR hb'
          go_wp2
          go_quiet (fail)
          have HS6 := Lib.hid (HS5.out.same ((Mod.refl _ _).drewN nq))
          go_wp2
          go_roundw
          case rel => exact ⟨k + 1, n, _, by omega, by omega, rfl, by go_num, HS6⟩
          case measure => simp [intOf]; omega
        · have HC : Hid (Calls Try.prog 14 #[.pointer (some ⟨B, 0, none⟩), .int .i64 0, .agg #[.float .f64 x, .int .i64 1, .int .u64 tag]] wr.drew fun e w' => e = .returned (.int .i64 0) ∧ Sits base B vb cv w2 (tg ⟨plainW x, 1, tag⟩ n) w' ∧ Mod (fun i => i = B ∨ i = vb) wr.drew w') :=
            sit_apply (hD.out.same ((Mod.refl _ _).drew)) 0 ⟨x, 1, tag⟩ (tg_may _ _) (by show 0 < 2; decide) ⟨by show (0 : Int) ≤ 1; decide, by show (1 : Int) < 3; decide, by show (1 : Int) ≠ 0; decide, ht⟩
          have q1 : decide ((0 : Int) < (tag : Int)) = true := decide_eq_true (by omega)
          have q1n : decide (0 < tag) = true := decide_eq_true (by omega)
          have q1p : 0 < tag := by omega
          have HQ := Lib.hid hq
          clear hc hq hb o0 ht
          go_wp2_with fail
          go_still_tail 12, (by kernel_rfl)
          change wpList _ _ _ _ _ wr.drew
          go_wp2_with fail
          refine HC.out.mono ?_
          rintro e w4 ⟨rfl, hS, _⟩
          have HR : Hid (Calls Try.prog 11 #[.pointer (some ⟨B, 0, none⟩), .int .i64 0] w4 fun e w' => e = .returned (.tuple #[.agg #[.float .f64 (plainW x), .int .i64 1, .int .u64 (tag : Int)], .int .i64 0]) ∧ Sits base B vb cv w2 (tg ⟨plainW x, 1, tag⟩ n) w' ∧ Mod (fun i => i = B ∨ i = vb) w4 w') :=
            sit_read hS 0 _ (tg_may _ _) rfl
          clear hS HC k0 k3 k4
          go_wp2_with fail
          refine HR.out.mono ?_
          rintro e w5 ⟨rfl, hS, _⟩
          have hS5 := hS.same (w' := w5.alloc (.cells #[.float .f64 (plainW x), .int .i64 1, .int .u64 (tag : Int)] 35)) ((Mod.refl _ _).alloc _)
          have HS5 := Lib.hid hS5
          have HB5 : Hid (Below w.heap.size w _) := below_of' HM2.out hS5.bel HBASE.out
          obtain ⟨b', o', hA, hb', hc⟩ := ElemsIn.cell HZ.out HB5.out k hlt
          cases hA
          have k4 := hc 4 (.int .u64 tag) (by rw [HQ.out]; rfl)
          clear hc hS hS5 HR hb'
          go_wp2
          go_quiet (fail)
          have HS6 := Lib.hid (HS5.out.same ((Mod.refl _ _).drewN nq))
          go_wp2
          go_roundw
          case rel => exact ⟨k + 1, n, _, by omega, by omega, rfl, by go_num, HS6⟩
          case measure => simp [intOf]; omega
    · obtain rfl : k = l.length := by omega
      have ti : decide (l.length < l.length) = false := decide_eq_false (by omega)
      have HT := Lib.hid (sit_tags hD.out)
      go_wp2_with fail
      refine HT.out.mono ?_
      rintro e w4 ⟨rfl, hS, _⟩
      have HE : Hid (Below w.heap.size w w4) := below_of' HM2.out hS.bel HBASE.out
      clear hS HT
      go_wp2
      go_ret
      exact ⟨ret_bool (by simp; rfl), HE.out⟩
theorem ctags_walk {H : Type} {enc : TypeId × Value → H} {b0 : Nat} {d : DataW H} {ps : List MemPlace} (W : World) (v : Value) (hok : Value.okWide Try.prog W .any b0 48 v)
    (h : DataW.Trod enc Try.prog W 0 (fun _ => true) true 48 v d ps) : Calls Try.prog 6 #[v] W fun e w' => e = .returned (.bool true) ∧ Below W.heap.size W w' := by
  obtain ⟨l, hz⟩ := open_rows (C := 5) (cells := ActC.cells) (fit := ActC.fit) Try.underlying48 (show Try.prog.cellsOf 57 = 5 by kernel_rfl) (by decide) actC_of hok h
  by_cases h : 40 < l.length
  · exact ctags_out v l W hz h
  · exact ctags_in v l W hz (by omega)
end Go.Proofs.Ytpdpnhikcmpcdaa

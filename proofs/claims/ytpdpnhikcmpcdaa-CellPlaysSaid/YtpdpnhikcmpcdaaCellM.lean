/-
  CellKnown.
-/
import Derived.Test.YtpdpnhikcmpcdaaCellL
namespace Go.Proofs.Ytpdpnhikcmpcdaa
open Go.RowKit Go.Shoal

def zeroCf : Cf := ⟨0, [], 0, 0, 0, 0, 0, 0⟩
def kw0 : Cl := Cl.new someCf 0
def kw1 : Cl := kw0.took 0 ⟨18446744073709551615, 1, 7⟩
theorem same_new (w : World) : Calls Try.prog 16 #[.agg #[.float .f64 0, .int .i64 (-1), .int .u64 0], .agg #[.float .f64 0, .int .i64 (-1), .int .u64 0]] w (Told w (.bool true)) := by
  have h := same_any ⟨0, -1, 0⟩ ⟨0, -1, 0⟩ w (by decide) (by decide)
  rw [show Vl.same ⟨0, -1, 0⟩ ⟨0, -1, 0⟩ = true by decide +kernel] at h
  exact h
theorem class_nan (w : World) : Calls Try.prog 17 #[.float .f64 nanW] w fun e w' => e = .returned (.int .i64 0) ∧ w = w' := by
  have h := rclass_any nanW w (by decide)
  rw [show classW nanW = 0 by decide +kernel] at h
  exact h
theorem new_zero (w : World) : Calls Try.prog 8 #[.agg #[.int .i64 0, .slice none 0 0, .int .i64 0, .int .i64 0, .int .i64 0, .int .i64 0, .int .i64 0, .int .i64 0], .int .i64 0] w (Told w (.tuple #[.pointer none, .int .i64 1])) :=
  new_no zeroCf (.slice none 0 0) 0 w ⟨none, 0, rfl, by unfold maxLen; decide, .inl rfl, fun s hs => by cases hs⟩ (fun h => absurd h.1 (by decide +kernel))
set_option maxRecDepth 100000 in
set_option maxHeartbeats 8000000 in
theorem known_any (w : World) : Calls Try.prog 4 #[] w fun e w' => e = .returned (.bool true) ∧ Below w.heap.size w w' := by
  have HA := Lib.hid (awake_any w)
  have HO := Lib.hid new_zero
  have HS := Lib.hid some_any'
  have HE := Lib.hid same_new
  have HCL := Lib.hid class_nan
  obtain ⟨nn, hnn⟩ : ∃ nn, nn = nanW := ⟨_, rfl⟩
  rw [← hnn] at HCL
  have HNN := Lib.hid hnn
  clear hnn
  go_enter Try.func4, Try.ntmps4
  go_wp2_with fail
  refine HA.out.mono ?_
  rintro e w1 ⟨rfl, hm⟩
  have HM1 := Lib.hid hm
  clear hm HA
  go_wp2_with fail
  refine (HO.out _).mono ?_
  rintro e w2 ⟨rfl, hm⟩
  have HM2 : Hid (Below w.heap.size w w2) := HM1.out.trans (hm.below (fun _ _ x => x) HM1.out.size)
  clear hm HO HM1
  go_wp2_with fail
  refine (HS.out _).mono ?_
  rintro e w3 ⟨v3, rfl, hs, hm⟩
  have HM3 : Hid (Below w.heap.size w w3) := HM2.out.trans (hm.below (fun _ _ x => x) HM2.out.size)
  have HN := Lib.hid (new_no someCf v3 3 w3 hs (fun h => absurd h.2.2 (by decide)))
  clear hs hm HM2
  go_wp2_with fail
  refine HN.out.mono ?_
  rintro e w4 ⟨rfl, hm⟩
  have HM4 : Hid (Below w.heap.size w w4) := HM3.out.trans (hm.below (fun _ _ x => x) HM3.out.size)
  clear hm HN HM3
  go_wp2_with fail
  refine (HS.out _).mono ?_
  rintro e w5 ⟨v5, rfl, hs, hm⟩
  have HM5 : Hid (Below w.heap.size w w5) := HM4.out.trans (hm.below (fun _ _ x => x) HM4.out.size)
  have HN := Lib.hid (new_yes someCf v5 0 w5 hs (by decide +kernel) (by decide) (by decide))
  clear hs hm HM4 HS
  go_wp2_with fail
  refine HN.out.mono ?_
  rintro e w6 hn
  obtain ⟨B, vb, cv, rfl, hS⟩ := Sits.new hn
  have HBASE : Hid (w.heap.size ≤ w5.heap.size) := HM5.out.size
  have HX : Hid (Sits w5.heap.size B vb cv w5 kw0 w6) := hS
  clear hS hn HN
  have HC : Hid (Calls Try.prog 11 #[.pointer (some ⟨B, 0, none⟩), .int .i64 0] (w6) fun e w' => e = .returned (.tuple #[.agg #[.float .f64 0, .int .i64 (-1), .int .u64 0], .int .i64 0]) ∧ Sits w5.heap.size B vb cv w5 kw0 w' ∧ Mod (fun i => i = B ∨ i = vb) (w6) w') :=
    sit_read HX.out 0 _ (by decide +kernel) rfl
  clear HX
  go_wp2_with fail
  refine HC.out.mono ?_
  rintro e w7 ⟨rfl, hS, hm⟩
  have HX : Hid (Sits w5.heap.size B vb cv w5 kw0 (w7.alloc (.cells #[.float .f64 0, .int .i64 (-1), .int .u64 0] 35))) := hS.same ((Mod.refl _ _).alloc _)
  have Hc1 : Hid ((w7.alloc (.cells #[.float .f64 0, .int .i64 (-1), .int .u64 0] 35)).heap[w7.heap.size]? = some (.cells #[.float .f64 0, .int .i64 (-1), .int .u64 0] 35 (0, 0))) := blk_new w7 _
  have hnec1 : B ≠ w7.heap.size ∧ vb ≠ w7.heap.size := ⟨Nat.ne_of_lt (blk_lt hS.at'.top), Nat.ne_of_lt (blk_lt hS.at'.vals)⟩
  have hltc1 : w7.heap.size < w7.heap.size + 1 := Nat.lt_succ_self _
  clear hS hm HC
  have HC : Hid (Calls Try.prog 10 #[.pointer (some ⟨B, 0, none⟩), .int .i64 1, .float .f64 4607182418800017408] (w7.alloc (.cells #[.float .f64 0, .int .i64 (-1), .int .u64 0] 35)) fun e w' => e = .returned (.tuple #[.agg #[.float .f64 0, .int .i64 0, .int .u64 0], .int .i64 6]) ∧ Sits w5.heap.size B vb cv w5 kw0 w' ∧ Mod (fun i => i = B ∨ i = vb) (w7.alloc (.cells #[.float .f64 0, .int .i64 (-1), .int .u64 0] 35)) w') :=
    sit_write_no HX.out 1 6 _ (by decide +kernel) (by decide)
  have hltc1' := hltc1
  clear HX
  go_wp2_with fail
  refine HC.out.mono ?_
  rintro e w8 ⟨rfl, hS, hm⟩
  have hbc1 := hm.blk Hc1.out (by omega)
  clear Hc1 hltc1 hltc1'
  have hltc1 : w7.heap.size < w8.heap.size := blk_lt hbc1
  have HX : Hid (Sits w5.heap.size B vb cv w5 kw0 (w8.alloc (.cells #[.float .f64 0, .int .i64 0, .int .u64 0] 35))) := hS.same ((Mod.refl _ _).alloc _)
  have Hc1 : Hid ((w8.alloc (.cells #[.float .f64 0, .int .i64 0, .int .u64 0] 35)).heap[w7.heap.size]? = some (.cells #[.float .f64 0, .int .i64 (-1), .int .u64 0] 35 (0, 0))) := blk_alloc hbc1 _
  clear hbc1
  clear hS hm HC
  have HC : Hid (Calls Try.prog 10 #[.pointer (some ⟨B, 0, none⟩), .int .i64 2, .float .f64 4607182418800017408] (w8.alloc (.cells #[.float .f64 0, .int .i64 0, .int .u64 0] 35)) fun e w' => e = .returned (.tuple #[.agg #[.float .f64 0, .int .i64 0, .int .u64 0], .int .i64 1]) ∧ Sits w5.heap.size B vb cv w5 kw0 w' ∧ Mod (fun i => i = B ∨ i = vb) (w8.alloc (.cells #[.float .f64 0, .int .i64 0, .int .u64 0] 35)) w') :=
    sit_write_no HX.out 2 1 _ (by decide +kernel) (by decide)
  have hltc1' := hltc1
  clear HX
  go_wp2_with fail
  refine HC.out.mono ?_
  rintro e w9 ⟨rfl, hS, hm⟩
  have hbc1 := hm.blk Hc1.out (by omega)
  clear Hc1 hltc1 hltc1'
  have hltc1 : w7.heap.size < w9.heap.size := blk_lt hbc1
  have HX : Hid (Sits w5.heap.size B vb cv w5 kw0 (w9.alloc (.cells #[.float .f64 0, .int .i64 0, .int .u64 0] 35))) := hS.same ((Mod.refl _ _).alloc _)
  have Hc1 : Hid ((w9.alloc (.cells #[.float .f64 0, .int .i64 0, .int .u64 0] 35)).heap[w7.heap.size]? = some (.cells #[.float .f64 0, .int .i64 (-1), .int .u64 0] 35 (0, 0))) := blk_alloc hbc1 _
  clear hbc1
  clear hS hm HC
  have HC : Hid (Calls Try.prog 14 #[.pointer (some ⟨B, 0, none⟩), .int .i64 1, .agg #[.float .f64 0, .int .i64 2, .int .u64 1]] (w9.alloc (.cells #[.float .f64 0, .int .i64 0, .int .u64 0] 35)) fun e w' => e = .returned (.int .i64 6) ∧ Sits w5.heap.size B vb cv w5 kw0 w' ∧ Mod (fun i => i = B ∨ i = vb) (w9.alloc (.cells #[.float .f64 0, .int .i64 0, .int .u64 0] 35)) w') :=
    sit_apply_no HX.out 1 6 ⟨0, 2, 1⟩ (by decide +kernel) (by decide)
  have hltc1' := hltc1
  clear HX
  go_wp2_with fail
  refine HC.out.mono ?_
  rintro e w10 ⟨rfl, hS, hm⟩
  have hbc1 := hm.blk Hc1.out (by omega)
  clear Hc1 hltc1 hltc1'
  have hltc1 : w7.heap.size < w10.heap.size := blk_lt hbc1
  have HX : Hid (Sits w5.heap.size B vb cv w5 kw0 w10) := hS
  have Hc1 : Hid (w10.heap[w7.heap.size]? = some (.cells #[.float .f64 0, .int .i64 (-1), .int .u64 0] 35 (0, 0))) := hbc1
  clear hbc1
  clear hS hm HC
  have HC : Hid (Calls Try.prog 14 #[.pointer (some ⟨B, 0, none⟩), .int .i64 (-1), .agg #[.float .f64 0, .int .i64 0, .int .u64 0]] (w10) fun e w' => e = .returned (.int .i64 1) ∧ Sits w5.heap.size B vb cv w5 kw0 w' ∧ Mod (fun i => i = B ∨ i = vb) (w10) w') :=
    sit_apply_no HX.out (-1) 1 ⟨0, 0, 0⟩ (by decide +kernel) (by decide)
  have hltc1' := hltc1
  clear HX
  go_wp2_with fail
  refine HC.out.mono ?_
  rintro e w11 ⟨rfl, hS, hm⟩
  have hbc1 := hm.blk Hc1.out (by omega)
  clear Hc1 hltc1 hltc1'
  have hltc1 : w7.heap.size < w11.heap.size := blk_lt hbc1
  have HX : Hid (Sits w5.heap.size B vb cv w5 kw0 w11) := hS
  have Hc1 : Hid (w11.heap[w7.heap.size]? = some (.cells #[.float .f64 0, .int .i64 (-1), .int .u64 0] 35 (0, 0))) := hbc1
  clear hbc1
  clear hS hm HC
  have HC : Hid (Calls Try.prog 14 #[.pointer (some ⟨B, 0, none⟩), .int .i64 0, .agg #[.float .f64 0, .int .i64 0, .int .u64 1]] (w11) fun e w' => e = .returned (.int .i64 1) ∧ Sits w5.heap.size B vb cv w5 kw0 w' ∧ Mod (fun i => i = B ∨ i = vb) (w11) w') :=
    sit_apply_bad HX.out 0 ⟨0, 0, 1⟩ (by decide +kernel) (fun h => h.2.2.1 rfl)
  have hltc1' := hltc1
  clear HX
  go_wp2_with fail
  refine HC.out.mono ?_
  rintro e w12 ⟨rfl, hS, hm⟩
  have hbc1 := hm.blk Hc1.out (by omega)
  clear Hc1 hltc1 hltc1'
  have hltc1 : w7.heap.size < w12.heap.size := blk_lt hbc1
  have HX : Hid (Sits w5.heap.size B vb cv w5 kw0 w12) := hS
  have Hc1 : Hid (w12.heap[w7.heap.size]? = some (.cells #[.float .f64 0, .int .i64 (-1), .int .u64 0] 35 (0, 0))) := hbc1
  clear hbc1
  clear hS hm HC
  have HC : Hid (Calls Try.prog 14 #[.pointer (some ⟨B, 0, none⟩), .int .i64 0, .agg #[.float .f64 0, .int .i64 1, .int .u64 0]] (w12) fun e w' => e = .returned (.int .i64 1) ∧ Sits w5.heap.size B vb cv w5 kw0 w' ∧ Mod (fun i => i = B ∨ i = vb) (w12) w') :=
    sit_apply_bad HX.out 0 ⟨0, 1, 0⟩ (by decide +kernel) (fun h => h.2.2.2 rfl)
  have hltc1' := hltc1
  clear HX
  go_wp2_with fail
  refine HC.out.mono ?_
  rintro e w13 ⟨rfl, hS, hm⟩
  have hbc1 := hm.blk Hc1.out (by omega)
  clear Hc1 hltc1 hltc1'
  have hltc1 : w7.heap.size < w13.heap.size := blk_lt hbc1
  have HX : Hid (Sits w5.heap.size B vb cv w5 kw0 w13) := hS
  have Hc1 : Hid (w13.heap[w7.heap.size]? = some (.cells #[.float .f64 0, .int .i64 (-1), .int .u64 0] 35 (0, 0))) := hbc1
  clear hbc1
  clear hS hm HC
  have HC : Hid (Calls Try.prog 14 #[.pointer (some ⟨B, 0, none⟩), .int .i64 0, .agg #[.float .f64 18446744073709551615, .int .i64 1, .int .u64 7]] (w13) fun e w' => e = .returned (.int .i64 0) ∧ Sits w5.heap.size B vb cv w5 kw1 w' ∧ Mod (fun i => i = B ∨ i = vb) (w13) w') :=
    sit_apply HX.out 0 ⟨18446744073709551615, 1, 7⟩ (by decide +kernel) (by decide) ⟨by decide, by decide, by decide, by decide⟩
  have hltc1' := hltc1
  clear HX
  go_wp2_with fail
  refine HC.out.mono ?_
  rintro e w14 ⟨rfl, hS, hm⟩
  have hbc1 := hm.blk Hc1.out (by omega)
  clear Hc1 hltc1 hltc1'
  have hltc1 : w7.heap.size < w14.heap.size := blk_lt hbc1
  have HX : Hid (Sits w5.heap.size B vb cv w5 kw1 w14) := hS
  have Hc1 : Hid (w14.heap[w7.heap.size]? = some (.cells #[.float .f64 0, .int .i64 (-1), .int .u64 0] 35 (0, 0))) := hbc1
  clear hbc1
  clear hS hm HC
  have HC : Hid (Calls Try.prog 11 #[.pointer (some ⟨B, 0, none⟩), .int .i64 0] (w14) fun e w' => e = .returned (.tuple #[.agg #[.float .f64 nn, .int .i64 1, .int .u64 7], .int .i64 0]) ∧ Sits w5.heap.size B vb cv w5 kw1 w' ∧ Mod (fun i => i = B ∨ i = vb) (w14) w') :=
    by rw [HNN.out]; exact sit_read HX.out 0 ⟨nanW, 1, 7⟩ (by decide +kernel) rfl
  have hltc1' := hltc1
  clear HX
  go_wp2_with fail
  refine HC.out.mono ?_
  rintro e w15 ⟨rfl, hS, hm⟩
  have hbc1 := hm.blk Hc1.out (by omega)
  clear Hc1 hltc1 hltc1'
  have hltc1 : w7.heap.size < w15.heap.size := blk_lt hbc1
  have HX : Hid (Sits w5.heap.size B vb cv w5 kw1 (w15.alloc (.cells #[.float .f64 nn, .int .i64 1, .int .u64 7] 35))) := hS.same ((Mod.refl _ _).alloc _)
  have Hc1 : Hid ((w15.alloc (.cells #[.float .f64 nn, .int .i64 1, .int .u64 7] 35)).heap[w7.heap.size]? = some (.cells #[.float .f64 0, .int .i64 (-1), .int .u64 0] 35 (0, 0))) := blk_alloc hbc1 _
  clear hbc1
  have Hk1 : Hid ((w15.alloc (.cells #[.float .f64 nn, .int .i64 1, .int .u64 7] 35)).heap[w15.heap.size]? = some (.cells #[.float .f64 nn, .int .i64 1, .int .u64 7] 35 (0, 0))) := blk_new w15 _
  have hnek1 : B ≠ w15.heap.size ∧ vb ≠ w15.heap.size := ⟨Nat.ne_of_lt (blk_lt hS.at'.top), Nat.ne_of_lt (blk_lt hS.at'.vals)⟩
  have hltk1 : w15.heap.size < w15.heap.size + 1 := Nat.lt_succ_self _
  clear hS hm HC
  have HC : Hid (Calls Try.prog 11 #[.pointer (some ⟨B, 0, none⟩), .int .i64 1] (w15.alloc (.cells #[.float .f64 nn, .int .i64 1, .int .u64 7] 35)) fun e w' => e = .returned (.tuple #[.agg #[.float .f64 0, .int .i64 0, .int .u64 0], .int .i64 6]) ∧ Sits w5.heap.size B vb cv w5 kw1 w' ∧ Mod (fun i => i = B ∨ i = vb) (w15.alloc (.cells #[.float .f64 nn, .int .i64 1, .int .u64 7] 35)) w') :=
    sit_read_no HX.out 1 6 (by decide +kernel) (by decide)
  have hltc1' := hltc1
  have hltk1' := hltk1
  clear HX
  go_wp2_with fail
  refine HC.out.mono ?_
  rintro e w16 ⟨rfl, hS, hm⟩
  have hbc1 := hm.blk Hc1.out (by omega)
  clear Hc1 hltc1 hltc1'
  have hltc1 : w7.heap.size < w16.heap.size := blk_lt hbc1
  have hbk1 := hm.blk Hk1.out (by omega)
  clear Hk1 hltk1 hltk1'
  have hltk1 : w15.heap.size < w16.heap.size := blk_lt hbk1
  have HX : Hid (Sits w5.heap.size B vb cv w5 kw1 (w16.alloc (.cells #[.float .f64 0, .int .i64 0, .int .u64 0] 35))) := hS.same ((Mod.refl _ _).alloc _)
  have Hc1 : Hid ((w16.alloc (.cells #[.float .f64 0, .int .i64 0, .int .u64 0] 35)).heap[w7.heap.size]? = some (.cells #[.float .f64 0, .int .i64 (-1), .int .u64 0] 35 (0, 0))) := blk_alloc hbc1 _
  clear hbc1
  have Hk1 : Hid ((w16.alloc (.cells #[.float .f64 0, .int .i64 0, .int .u64 0] 35)).heap[w15.heap.size]? = some (.cells #[.float .f64 nn, .int .i64 1, .int .u64 7] 35 (0, 0))) := blk_alloc hbk1 _
  clear hbk1
  clear hS hm HC
  obtain ⟨a0, a1, a2⟩ := three_cells Hc1.out
  go_wp2_with fail
  refine (HE.out _).mono ?_
  rintro e w20 ⟨rfl, hm⟩
  have hk := hm.blk Hk1.out (fun x => x)
  obtain ⟨a0, a1, a2⟩ := three_cells hk
  have HT : Hid (Calls Try.prog 18 #[.pointer (some ⟨B, 0, none⟩)] w20 fun e w' => e = .returned (.int .u64 0) ∧ Sits w5.heap.size B vb cv w5 kw1 w' ∧ Mod (fun i => i = B ∨ i = vb) w20 w') := sit_tags (HX.out.same hm)
  clear hm hk Hk1 Hc1 HX HE
  go_wp2_with fail
  refine (HCL.out _).mono ?_
  rintro e w21 ⟨rfl, rfl⟩
  go_wp2_with fail
  refine HT.out.mono ?_
  rintro e w22 ⟨rfl, hS, _⟩
  have HE : Hid (Below w.heap.size w w22) := HM5.out.trans (hS.bel.mono HBASE.out)
  clear hS HT
  go_wp2
  go_ret
  exact ⟨rfl, HE.out⟩
theorem known_walk (W : World) : Calls Try.prog 4 #[] W fun e w' => e = .returned (.bool true) ∧ Below W.heap.size W w' := known_any W
end Go.Proofs.Ytpdpnhikcmpcdaa

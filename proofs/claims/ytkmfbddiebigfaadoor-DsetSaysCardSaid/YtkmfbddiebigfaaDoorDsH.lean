/-
  What the rows give of memory (tables, errors, the greatest row of bytes); DsetSums.
-/
import Derived.Test.YtkmfbddiebigfaaDoorDsG
import Derived.Test.YtkmfbddiebigfaaDoorRows
import Derived.LaidSub
import Derived.Stop.LaidErr
import Derived.Shelf.Vars
namespace Go.Proofs.YtkmfbddiebigfaaDoor
open Go.RowKit Go.Shoal Go.WideShapes

theorem gTab : Tryd.prog.globalNamed "math/bits.deBruijn64tab" = some 0 := by kernel_rfl
theorem gTabType : (Tryd.prog.globals[0]?).map (·.type) = some 63 := by kernel_rfl
theorem cellsTab : Tryd.prog.cellsOf 63 = 64 := by kernel_rfl
theorem cellsU8 : Tryd.prog.cellsOf 5 = 1 := by kernel_rfl
theorem tab_one {W : World} (h : laidMetH Tryd.prog [("math/bits.deBruijn64tab", Rows.laid_math_bits_deBruijn64tab)] W) : Tab W := by
  have ht : Lib.TabIs Tryd.prog W "math/bits.deBruijn64tab" .u8 (Lib.deBruijn64tab.map fun (k : Nat) => (k : Int)) :=
    Lib.tabIs_of_head (rest := []) gTab gTabType Tryd.underlying63 Tryd.underlying5 cellsU8 cellsTab h
  have hc : ∀ j, j < 64 → W.cell? ⟨0, j, none⟩ = some (.int .u8 ((Lib.deBruijn64tab.getD j 0 : Nat) : Int)) := fun j hj => by
    have hl : j < Lib.deBruijn64tab.length := hj
    have h1 := ht.cell gTab j (by rw [List.length_map]; exact hl)
    rw [h1, List.getD_eq_getElem?_getD, List.getD_eq_getElem?_getD, List.getElem?_map, List.getElem?_eq_getElem hl]
    rfl
  exact ⟨World.block_lt_of_cell? W _ (hc 0 (by decide)), hc⟩
theorem star : "*" ++ "errors.errorString" = "*errors.errorString" := by decide
set_option maxRecDepth 100000 in
theorem rowErr (u : TypeId) (h : Tryd.prog.typeName? 3 u = some "*errors.errorString") : u = 101 := typeName_ptr_named (nm := "errors.errorString") (by rw [star]; kernel_rfl) (by kernel_rfl) (by decide) u (by rw [star]; exact h)
theorem gSyn : Tryd.prog.globalNamed "strconv.ErrSyntax" = some 1 := by kernel_rfl
theorem gRan : Tryd.prog.globalNamed "strconv.ErrRange" = some 2 := by kernel_rfl
theorem gSynT : (Tryd.prog.globals[1]?).map (·.type) = some 54 := by kernel_rfl
theorem gRanT : (Tryd.prog.globals[2]?).map (·.type) = some 54 := by kernel_rfl
theorem cellsErr : Tryd.prog.cellsOf 103 = 1 := by kernel_rfl
theorem cellsStr : Tryd.prog.cellsOf 9 = 1 := by kernel_rfl
theorem laid_all {l : List (String × DataW Unit)} {W : World} (h : laidMetH Tryd.prog l W) (h0 : l.filter (fun x => x.1 == "math/bits.deBruijn64tab") = [("math/bits.deBruijn64tab", Rows.laid_math_bits_deBruijn64tab)])
    (h1 : l.filter (fun x => x.1 == "strconv.ErrSyntax") = [("strconv.ErrSyntax", Rows.laid_strconv_ErrSyntax)]) (h2 : l.filter (fun x => x.1 == "strconv.ErrRange") = [("strconv.ErrRange", Rows.laid_strconv_ErrRange)]) (hsh : W.ShapedOpen Tryd.prog) : Tab W ∧ Errs W := by
  refine ⟨tab_one (by rw [← h0]; exact h.filter _), ?_⟩
  have hs : laidMet Tryd.prog [("strconv.ErrSyntax", Rows.laid_strconv_ErrSyntax)] W := (laidMetH_iff.1 (h1 ▸ h.filter (fun x => x.1 == "strconv.ErrSyntax") : laidMetH Tryd.prog [("strconv.ErrSyntax", Rows.laid_strconv_ErrSyntax)] W)).1
  have hr : laidMet Tryd.prog [("strconv.ErrRange", Rows.laid_strconv_ErrRange)] W := (laidMetH_iff.1 (h2 ▸ h.filter (fun x => x.1 == "strconv.ErrRange") : laidMetH Tryd.prog [("strconv.ErrRange", Rows.laid_strconv_ErrRange)] W)).1
  obtain ⟨a0, s0, hv0, _, _, _⟩ := laid_sentinel hs gSyn gSynT Tryd.underlying54 rowErr Tryd.underlying101 Tryd.underlying103 rfl rfl Tryd.underlying9 cellsErr cellsStr
  obtain ⟨a1, s1, hv1, _, _, _⟩ := laid_sentinel hr gRan gRanT Tryd.underlying54 rowErr Tryd.underlying101 Tryd.underlying103 rfl rfl Tryd.underlying9 cellsErr cellsStr
  have hg0 : W.cell? ⟨1, 0, none⟩ = some (.iface 101 (.pointer (some a0))) := by simpa using World.var?_cell gSyn hv0 0
  have hg1 : W.cell? ⟨2, 0, none⟩ = some (.iface 101 (.pointer (some a1))) := by simpa using World.var?_cell gRan hv1 0
  obtain ⟨m, hm⟩ := cell_of_shapedOpen_int (P := Tryd.prog) (w := W) (g := 3) (t := 3) (zero := #[.int .i64 0]) (k := .i64) hsh (of_decide_eq_true (by kernel_rfl)) (by kernel_rfl) rfl (by kernel_rfl) (by kernel_rfl) Tryd.underlying3
  exact ⟨World.block_lt_of_cell? W _ hm, ⟨_, hg0, .inr ⟨_, _, rfl⟩⟩, ⟨_, hg1, .inr ⟨_, _, rfl⟩⟩, ⟨m, hm⟩⟩
theorem laid_sums {W : World} (h : laidMetH Tryd.prog Rows.dsetSumsRow.laid W) (hs : W.ShapedOpen Tryd.prog) : Tab W ∧ Errs W := laid_all h (by rfl) (by rfl) (by rfl) hs

theorem count_sums (s t : Nat) : ∀ (n i : Nat), (bitsFrom (s ||| t) i n).length + (bitsFrom (s &&& t) i n).length = (bitsFrom s i n).length + (bitsFrom t i n).length
  | 0, _ => rfl
  | n + 1, i => by
    have ih := count_sums s t n (i + 1)
    unfold bitsFrom
    rw [Nat.testBit_or, Nat.testBit_and]
    cases s.testBit i <;> cases t.testBit i <;> simp <;> omega
theorem inSet_or (s t : Nat) (p : Int) : inSet (s ||| t) p = (inSet s p || inSet t p) := by
  unfold inSet; rw [Nat.testBit_or]
  cases decide (0 ≤ p) <;> cases decide (p < 64) <;> simp
theorem inSet_and (s t : Nat) (p : Int) : inSet (s &&& t) p = (inSet s p && inSet t p) := by
  unfold inSet; rw [Nat.testBit_and]
  cases decide (0 ≤ p) <;> cases decide (p < 64) <;> simp
theorem inSet_less (s t : Nat) (p : Int) (hs : s < 18446744073709551616) (ht : t < 18446744073709551616) : inSet (lessOf s t) p = (inSet s p && !inSet t p) := by
  unfold inSet; rw [testBit_less _ _ _ ht hs]
  cases decide (0 ≤ p) <;> cases decide (p < 64) <;> simp
theorem bit_small {s i : Nat} (hs : s < 18446744073709551616) (h : s.testBit i = true) : i < 64 := Classical.byContradiction fun hh => by
  rw [Nat.testBit_lt_two_pow (Nat.lt_of_lt_of_le hs (Nat.pow_le_pow_right (n := 2) (i := 64) (by decide) (by omega)))] at h
  cases h
theorem within_eq (s t : Nat) (hs : s < 18446744073709551616) (ht : t < 18446744073709551616) : decide (lessOf s t = 0) = decide (s ||| t = t) := by
  rw [Bool.eq_iff_iff, decide_eq_true_iff, decide_eq_true_iff, less_zero hs ht]
  constructor
  · intro h
    apply Nat.eq_of_testBit_eq
    intro i
    rw [Nat.testBit_or]
    cases hb : s.testBit i with
    | false => rfl
    | true => rw [h i (bit_small hs hb) hb]; rfl
  · intro h i _ hb
    rw [← h, Nat.testBit_or, hb]; rfl
theorem and_bits64 (s t : Nat) (hs : s < 18446744073709551616) (ht : t < 18446744073709551616) : bits .and .u64 (s : Int) (t : Int) = ((s &&& t : Nat) : Int) := bits_and_u64_nat s t hs ht
theorem less_bits64 (s t : Nat) (hs : s < 18446744073709551616) (ht : t < 18446744073709551616) : bits .andNot .u64 (s : Int) (t : Int) = ((lessOf s t : Nat) : Int) := by
  rw [u64_andNot_nat s t hs ht]; unfold lessOf; rfl

set_option maxHeartbeats 8000000 in
theorem sums_any (s t : Nat) (p : Int) (w : World) (hs : s < 18446744073709551616) (ht : t < 18446744073709551616) (hT : Tab w) (hE : Errs w) :
    Calls Tryd.prog 7 #[.int .u64 s, .int .u64 t, .int .i64 p] w fun e w' => e = .returned (.bool true) ∧ Mod (fun _ => False) w w' := by
  have ho := or_lt64 hs ht
  have hn : s &&& t < 18446744073709551616 := Nat.lt_of_le_of_lt Nat.and_le_left hs
  have hl := less_lt s t hs
  have bo := or_bits s t hs ht
  have bn := and_bits64 s t hs ht
  have bl := less_bits64 s t hs ht
  have HA := Lib.hid (awake_any w hT hE)
  have C1 : Hid (∀ W, Calls Tryd.prog 14 #[.int .u64 (bits .or .u64 (s : Int) (t : Int))] W fun e w' => e = .returned (.int .i64 ((bitsOf (s ||| t)).length : Int)) ∧ W = w') := fun W => by rw [bo]; exact count_any _ W ho
  have C2 : Hid (∀ W, Calls Tryd.prog 14 #[.int .u64 (bits .and .u64 (s : Int) (t : Int))] W fun e w' => e = .returned (.int .i64 ((bitsOf (s &&& t)).length : Int)) ∧ W = w') := fun W => by rw [bn]; exact count_any _ W hn
  have C3 : Hid (∀ W, Calls Tryd.prog 14 #[.int .u64 (s : Int)] W fun e w' => e = .returned (.int .i64 ((bitsOf s).length : Int)) ∧ W = w') := fun W => count_any _ W hs
  have C4 : Hid (∀ W, Calls Tryd.prog 14 #[.int .u64 (t : Int)] W fun e w' => e = .returned (.int .i64 ((bitsOf t).length : Int)) ∧ W = w') := fun W => count_any _ W ht
  have hc := count_sums s t 64 0
  have L1 := bitsOf_len (s ||| t)
  have L2 := bitsOf_len (s &&& t)
  have L3 := bitsOf_len s
  have L4 := bitsOf_len t
  have hc' : (bitsOf (s ||| t)).length + (bitsOf (s &&& t)).length = (bitsOf s).length + (bitsOf t).length := hc
  have H1 : Hid (∀ W, Calls Tryd.prog 13 #[.int .u64 (bits .or .u64 (s : Int) (t : Int)), .int .i64 p] W fun e w' => e = .returned (.bool (inSet s p || inSet t p)) ∧ W = w') := fun W => by rw [bo, ← inSet_or]; exact has_any _ p W ho
  have H2 : Hid (∀ W, Calls Tryd.prog 13 #[.int .u64 (bits .and .u64 (s : Int) (t : Int)), .int .i64 p] W fun e w' => e = .returned (.bool (inSet s p && inSet t p)) ∧ W = w') := fun W => by rw [bn, ← inSet_and]; exact has_any _ p W hn
  have H3 : Hid (∀ W, Calls Tryd.prog 13 #[.int .u64 (bits .andNot .u64 (s : Int) (t : Int)), .int .i64 p] W fun e w' => e = .returned (.bool (inSet s p && !inSet t p)) ∧ W = w') := fun W => by rw [bl, ← inSet_less s t p hs ht]; exact has_any _ p W hl
  have H4 : Hid (∀ W, Calls Tryd.prog 13 #[.int .u64 (s : Int), .int .i64 p] W fun e w' => e = .returned (.bool (inSet s p)) ∧ W = w') := fun W => has_any _ p W hs
  have H5 : Hid (∀ W, Calls Tryd.prog 13 #[.int .u64 (t : Int), .int .i64 p] W fun e w' => e = .returned (.bool (inSet t p)) ∧ W = w') := fun W => has_any _ p W ht
  have e1 : lessOf (s &&& t) s = 0 := (less_zero hn hs).2 fun i _ h => by rw [Nat.testBit_and] at h; exact (Bool.and_eq_true_iff.1 h).1
  have e2 : lessOf s (s ||| t) = 0 := (less_zero hs ho).2 fun i _ h => by rw [Nat.testBit_or, h]; rfl
  have W1 : Hid (∀ W, Calls Tryd.prog 15 #[.int .u64 (bits .and .u64 (s : Int) (t : Int)), .int .u64 (s : Int)] W fun e w' => e = .returned (.bool true) ∧ W = w') := fun W => by
    rw [bn]
    have h := within_any (s &&& t) s W hn hs
    rw [decide_eq_true e1] at h
    exact h
  have W2 : Hid (∀ W, Calls Tryd.prog 15 #[.int .u64 (s : Int), .int .u64 (bits .or .u64 (s : Int) (t : Int))] W fun e w' => e = .returned (.bool true) ∧ W = w') := fun W => by
    rw [bo]
    have h := within_any s (s ||| t) W hs ho
    rw [decide_eq_true e2] at h
    exact h
  have hwe := within_eq s t hs ht
  have W3 : Hid (∀ W, Calls Tryd.prog 15 #[.int .u64 (s : Int), .int .u64 (t : Int)] W fun e w' => e = .returned (.bool (decide (s ||| t = t))) ∧ W = w') := fun W => by
    have h := within_any s t W hs ht
    rw [hwe] at h
    exact h
  have tE : (bits .or .u64 (s : Int) (t : Int) == (t : Int)) = decide (s ||| t = t) := by
    rw [bo, Bool.eq_iff_iff, beq_iff_eq, decide_eq_true_iff]; omega
  clear bo bn bl ho hn hl hc hwe e1 e2 hT hE
  generalize (bitsOf (s ||| t)).length = n1 at *
  generalize (bitsOf (s &&& t)).length = n2 at *
  generalize (bitsOf s).length = n3 at *
  generalize (bitsOf t).length = n4 at *
  generalize decide (s ||| t = t) = bw at *
  generalize inSet s p = bs at *
  generalize inSet t p = bt at *
  have tc : ((n1 : Int) + (n2 : Int) == (n3 : Int) + (n4 : Int)) = true := by rw [beq_iff_eq]; omega
  have tbw : (bw == bw) = true := by simp
  cases bs <;> cases bt
  · skip
    go_enter Tryd.func7, Tryd.ntmps7
    go_wp2_with fail
    refine HA.out.mono ?_
    rintro e w1 ⟨rfl, hm⟩
    have HM := Lib.hid hm
    clear hm
    go_wp2_with fail
    refine (C1.out _).mono ?_
    rintro e wx ⟨rfl, rfl⟩
    go_wp2_with fail
    refine (C2.out _).mono ?_
    rintro e wx ⟨rfl, rfl⟩
    go_wp2_with fail
    refine (C3.out _).mono ?_
    rintro e wx ⟨rfl, rfl⟩
    go_wp2_with fail
    refine (C4.out _).mono ?_
    rintro e wx ⟨rfl, rfl⟩
    go_wp2_with fail
    refine (H1.out _).mono ?_
    rintro e wx ⟨rfl, rfl⟩
    go_wp2_with fail
    refine (H4.out _).mono ?_
    rintro e wx ⟨rfl, rfl⟩
    go_wp2_with fail
    refine (H5.out _).mono ?_
    rintro e wx ⟨rfl, rfl⟩
    go_wp2_with fail
    refine (H2.out _).mono ?_
    rintro e wx ⟨rfl, rfl⟩
    go_wp2_with fail
    refine (H4.out _).mono ?_
    rintro e wx ⟨rfl, rfl⟩
    go_wp2_with fail
    refine (H3.out _).mono ?_
    rintro e wx ⟨rfl, rfl⟩
    go_wp2_with fail
    refine (H4.out _).mono ?_
    rintro e wx ⟨rfl, rfl⟩
    go_wp2_with fail
    refine (W1.out _).mono ?_
    rintro e wx ⟨rfl, rfl⟩
    go_wp2_with fail
    refine (W2.out _).mono ?_
    rintro e wx ⟨rfl, rfl⟩
    go_wp2_with fail
    refine (W3.out _).mono ?_
    rintro e wx ⟨rfl, rfl⟩
    go_wp2
    go_ret
    exact ⟨rfl, HM.out⟩
  · skip
    go_enter Tryd.func7, Tryd.ntmps7
    go_wp2_with fail
    refine HA.out.mono ?_
    rintro e w1 ⟨rfl, hm⟩
    have HM := Lib.hid hm
    clear hm
    go_wp2_with fail
    refine (C1.out _).mono ?_
    rintro e wx ⟨rfl, rfl⟩
    go_wp2_with fail
    refine (C2.out _).mono ?_
    rintro e wx ⟨rfl, rfl⟩
    go_wp2_with fail
    refine (C3.out _).mono ?_
    rintro e wx ⟨rfl, rfl⟩
    go_wp2_with fail
    refine (C4.out _).mono ?_
    rintro e wx ⟨rfl, rfl⟩
    go_wp2_with fail
    refine (H1.out _).mono ?_
    rintro e wx ⟨rfl, rfl⟩
    go_wp2_with fail
    refine (H4.out _).mono ?_
    rintro e wx ⟨rfl, rfl⟩
    go_wp2_with fail
    refine (H5.out _).mono ?_
    rintro e wx ⟨rfl, rfl⟩
    go_wp2_with fail
    refine (H2.out _).mono ?_
    rintro e wx ⟨rfl, rfl⟩
    go_wp2_with fail
    refine (H4.out _).mono ?_
    rintro e wx ⟨rfl, rfl⟩
    go_wp2_with fail
    refine (H3.out _).mono ?_
    rintro e wx ⟨rfl, rfl⟩
    go_wp2_with fail
    refine (H4.out _).mono ?_
    rintro e wx ⟨rfl, rfl⟩
    go_wp2_with fail
    refine (W1.out _).mono ?_
    rintro e wx ⟨rfl, rfl⟩
    go_wp2_with fail
    refine (W2.out _).mono ?_
    rintro e wx ⟨rfl, rfl⟩
    go_wp2_with fail
    refine (W3.out _).mono ?_
    rintro e wx ⟨rfl, rfl⟩
    go_wp2
    go_ret
    exact ⟨rfl, HM.out⟩
  · skip
    go_enter Tryd.func7, Tryd.ntmps7
    go_wp2_with fail
    refine HA.out.mono ?_
    rintro e w1 ⟨rfl, hm⟩
    have HM := Lib.hid hm
    clear hm
    go_wp2_with fail
    refine (C1.out _).mono ?_
    rintro e wx ⟨rfl, rfl⟩
    go_wp2_with fail
    refine (C2.out _).mono ?_
    rintro e wx ⟨rfl, rfl⟩
    go_wp2_with fail
    refine (C3.out _).mono ?_
    rintro e wx ⟨rfl, rfl⟩
    go_wp2_with fail
    refine (C4.out _).mono ?_
    rintro e wx ⟨rfl, rfl⟩
    go_wp2_with fail
    refine (H1.out _).mono ?_
    rintro e wx ⟨rfl, rfl⟩
    go_wp2_with fail
    refine (H4.out _).mono ?_
    rintro e wx ⟨rfl, rfl⟩
    go_wp2_with fail
    refine (H2.out _).mono ?_
    rintro e wx ⟨rfl, rfl⟩
    go_wp2_with fail
    refine (H4.out _).mono ?_
    rintro e wx ⟨rfl, rfl⟩
    go_wp2_with fail
    refine (H5.out _).mono ?_
    rintro e wx ⟨rfl, rfl⟩
    go_wp2_with fail
    refine (H3.out _).mono ?_
    rintro e wx ⟨rfl, rfl⟩
    go_wp2_with fail
    refine (H4.out _).mono ?_
    rintro e wx ⟨rfl, rfl⟩
    go_wp2_with fail
    refine (H5.out _).mono ?_
    rintro e wx ⟨rfl, rfl⟩
    go_wp2_with fail
    refine (W1.out _).mono ?_
    rintro e wx ⟨rfl, rfl⟩
    go_wp2_with fail
    refine (W2.out _).mono ?_
    rintro e wx ⟨rfl, rfl⟩
    go_wp2_with fail
    refine (W3.out _).mono ?_
    rintro e wx ⟨rfl, rfl⟩
    go_wp2
    go_ret
    exact ⟨rfl, HM.out⟩
  · skip
    go_enter Tryd.func7, Tryd.ntmps7
    go_wp2_with fail
    refine HA.out.mono ?_
    rintro e w1 ⟨rfl, hm⟩
    have HM := Lib.hid hm
    clear hm
    go_wp2_with fail
    refine (C1.out _).mono ?_
    rintro e wx ⟨rfl, rfl⟩
    go_wp2_with fail
    refine (C2.out _).mono ?_
    rintro e wx ⟨rfl, rfl⟩
    go_wp2_with fail
    refine (C3.out _).mono ?_
    rintro e wx ⟨rfl, rfl⟩
    go_wp2_with fail
    refine (C4.out _).mono ?_
    rintro e wx ⟨rfl, rfl⟩
    go_wp2_with fail
    refine (H1.out _).mono ?_
    rintro e wx ⟨rfl, rfl⟩
    go_wp2_with fail
    refine (H4.out _).mono ?_
    rintro e wx ⟨rfl, rfl⟩
    go_wp2_with fail
    refine (H2.out _).mono ?_
    rintro e wx ⟨rfl, rfl⟩
    go_wp2_with fail
    refine (H4.out _).mono ?_
    rintro e wx ⟨rfl, rfl⟩
    go_wp2_with fail
    refine (H5.out _).mono ?_
    rintro e wx ⟨rfl, rfl⟩
    go_wp2_with fail
    refine (H3.out _).mono ?_
    rintro e wx ⟨rfl, rfl⟩
    go_wp2_with fail
    refine (H4.out _).mono ?_
    rintro e wx ⟨rfl, rfl⟩
    go_wp2_with fail
    refine (H5.out _).mono ?_
    rintro e wx ⟨rfl, rfl⟩
    go_wp2_with fail
    refine (W1.out _).mono ?_
    rintro e wx ⟨rfl, rfl⟩
    go_wp2_with fail
    refine (W2.out _).mono ?_
    rintro e wx ⟨rfl, rfl⟩
    go_wp2_with fail
    refine (W3.out _).mono ?_
    rintro e wx ⟨rfl, rfl⟩
    go_wp2
    go_ret
    exact ⟨rfl, HM.out⟩
theorem sums_walk (W : World) (hL : Tab W ∧ Errs W) (s : Int) (hs : (Lit.int .u64 s).wf = true) (t : Int) (ht : (Lit.int .u64 t).wf = true) (p : Int) (_ : (Lit.int .i64 p).wf = true) :
    Calls Tryd.prog 7 #[.int .u64 s, .int .u64 t, .int .i64 p] W fun e w' => e = .returned (.bool true) ∧ Below W.heap.size W w' := by
  obtain ⟨h1, h2⟩ := wf_u64 hs
  obtain ⟨h3, h4⟩ := wf_u64 ht
  obtain ⟨s, rfl⟩ := Int.eq_ofNat_of_zero_le h1
  obtain ⟨t, rfl⟩ := Int.eq_ofNat_of_zero_le h3
  exact (sums_any s t p W (by omega) (by omega) hL.1 hL.2).mono fun _ _ ⟨x, y⟩ => ⟨x, y.none_below⟩
end Go.Proofs.YtkmfbddiebigfaaDoor

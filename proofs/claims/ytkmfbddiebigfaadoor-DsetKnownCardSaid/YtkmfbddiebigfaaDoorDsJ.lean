/-
  DsetKnown's walk.
-/
import Derived.Test.YtkmfbddiebigfaaDoorDsI
namespace Go.Proofs.YtkmfbddiebigfaaDoor
open Go.RowKit Go.Shoal

def showD (s : Nat) : List UInt8 := 123 :: (Lib.join ((bitsOf s).map dd) [44] ++ [125])
def parseD (s : List UInt8) : Nat × Bool :=
  if formed s = true then (if showD (putsA (Lib.split (bodyOf s) [44])) = s then (putsA (Lib.split (bodyOf s) [44]), true) else (0, false)) else (0, false)
theorem parse_D (s : List UInt8) : parseX s = parseD s := by
  unfold parseX parseD showD
  rw [showL_dd]
/-- The texts that have no form. -/
def badL : List (List UInt8) := [[], [123], [123, 48, 44, 125], [123, 51, 44, 48, 125], [123, 48, 48, 125], [123, 54, 52, 125], [123, 48, 32, 125], [123, 49, 44, 49, 125], [48]]
theorem bad_all : badL.all (fun t => parseD t == (0, false)) = true := by kernel_rfl
theorem bad_len : badL.all (fun t => decide (t.length ≤ 10)) = true := by kernel_rfl
def badV : List Value := badL.map fun t => Value.string ⟨t.toArray⟩
theorem bad_parse {k : Nat} (h : k < 9) (W : World) (hT : Tab W) (hE : Errs W) : Calls Tryd.prog 9 #[.string ⟨(badL.getD k []).toArray⟩] W fun e w' => e = .returned (.tuple #[.int .u64 0, .bool false]) ∧ Mod (fun _ => False) W w' := by
  have hm : badL.getD k [] ∈ badL := by
    rw [List.getD_eq_getElem?_getD, List.getElem?_eq_getElem (show k < badL.length from h)]
    exact List.getElem_mem _
  have h1 := List.all_eq_true.1 bad_all _ hm
  have h2 := of_decide_eq_true (List.all_eq_true.1 bad_len _ hm)
  have h3 := parse_any (badL.getD k []) (by omega) W hT hE
  rw [parse_D, beq_iff_eq.1 h1] at h3
  exact h3
theorem bad_at {w : World} {B k : Nat} (hb : w.heap[B]? = some (.cells badV.toArray 9 (0, 0))) (h : k < 9) : w.cell? ⟨B, k, none⟩ = some (.string ⟨(badL.getD k []).toArray⟩) := by
  rw [blk_cell hb, List.getElem?_toArray]
  unfold badV
  rw [List.getElem?_map, List.getD_eq_getElem?_getD, List.getElem?_eq_getElem (show k < badL.length from h)]
  rfl
theorem Errs.mod' {w w' : World} (h : Errs w) (hm : Mod (fun _ => False) w w') : Errs w' := h.mod hm
theorem set3 : setOf [-1, 64, 63] = 9223372036854775808 := by kernel_rfl
theorem all64 : allOf 64 = 18446744073709551615 := by kernel_rfl
theorem allM : allOf (-1) = 0 := by kernel_rfl
theorem all99 : allOf 99 = 18446744073709551615 := by kernel_rfl
theorem all3 : allOf 3 = 7 := by kernel_rfl
theorem cnt64 : (bitsOf 18446744073709551615).length = 64 := by kernel_rfl
theorem first12 : firstOf 12 = (2, true) := by kernel_rfl
theorem parse0 : parseX [123, 125] = (0, true) := (parse_D _).trans (by kernel_rfl)
set_option maxHeartbeats 4000000 in
theorem known_any (w : World) (hT : Tab w) (hE : Errs w) : Calls Tryd.prog 3 #[] w fun e w' => e = .returned (.bool true) ∧ Mod (fun _ => False) w w' := by
  have HA := Lib.hid (awake_any w hT hE)
  have HT : Hid (∀ W, Mod (fun _ => False) w W → Tab W) := fun W hW => hT.mod hW (fun h => h)
  have HE : Hid (∀ W, Mod (fun _ => False) w W → Errs W) := fun W hW => hE.mod hW
  have C0 : Hid (∀ W, Mod (fun _ => False) w W → Calls Tryd.prog 9 #[.string ⟨#[123, 125]⟩] W fun e w' => e = .returned (.tuple #[.int .u64 0, .bool true]) ∧ Mod (fun _ => False) W w') := fun W hW => by
    have h := parse_any [123, 125] (by decide) W (HT.out W hW) (HE.out W hW)
    rw [parse0] at h
    exact h
  have C1 : Hid (∀ W, Mod (fun _ => False) w W → Calls Tryd.prog 10 #[.int .u64 0] W fun e w' => e = .returned (.tuple #[.int .i64 0, .bool false]) ∧ W = w') := fun W hW => first_any 0 W (by decide) (HT.out W hW)
  have C2 : Hid (∀ W, Mod (fun _ => False) w W → Calls Tryd.prog 10 #[.int .u64 12] W fun e w' => e = .returned (.tuple #[.int .i64 2, .bool true]) ∧ W = w') := fun W hW => by
    have h := first_any 12 W (by decide) (HT.out W hW)
    rw [first12] at h
    exact h
  have D1 : Hid (∀ W, Calls Tryd.prog 12 #[.int .i64 64] W fun e w' => e = .returned (.int .u64 18446744073709551615) ∧ W = w') := fun W => by
    have h := all_any 64 W; rw [all64] at h; exact h
  have D2 : Hid (∀ W, Calls Tryd.prog 12 #[.int .i64 (-1)] W fun e w' => e = .returned (.int .u64 0) ∧ W = w') := fun W => by
    have h := all_any (-1) W; rw [allM] at h; exact h
  have D3 : Hid (∀ W, Calls Tryd.prog 12 #[.int .i64 99] W fun e w' => e = .returned (.int .u64 18446744073709551615) ∧ W = w') := fun W => by
    have h := all_any 99 W; rw [all99] at h; exact h
  have D4 : Hid (∀ W, Calls Tryd.prog 12 #[.int .i64 3] W fun e w' => e = .returned (.int .u64 7) ∧ W = w') := fun W => by
    have h := all_any 3 W; rw [all3] at h; exact h
  have E1 : Hid (∀ W, Calls Tryd.prog 13 #[.int .u64 9223372036854775808, .int .i64 64] W fun e w' => e = .returned (.bool false) ∧ W = w') := fun W => by
    have h := has_any 9223372036854775808 64 W (by decide)
    rw [show inSet 9223372036854775808 64 = false by kernel_rfl] at h; exact h
  have E2 : Hid (∀ W, Calls Tryd.prog 13 #[.int .u64 1, .int .i64 (-1)] W fun e w' => e = .returned (.bool false) ∧ W = w') := fun W => by
    have h := has_any 1 (-1) W (by decide)
    rw [show inSet 1 (-1) = false by kernel_rfl] at h; exact h
  have F1 : Hid (∀ W, Calls Tryd.prog 14 #[.int .u64 18446744073709551615] W fun e w' => e = .returned (.int .i64 64) ∧ W = w') := fun W => by
    have h := count_any 18446744073709551615 W (by decide)
    rw [cnt64] at h; exact h
  have G1 : Hid (∀ W, Calls Tryd.prog 15 #[.int .u64 0, .int .u64 0] W fun e w' => e = .returned (.bool true) ∧ W = w') := fun W => by
    have h := within_any 0 0 W (by decide) (by decide)
    rw [show decide (lessOf 0 0 = 0) = true by kernel_rfl] at h; exact h
  have G2 : Hid (∀ W, Calls Tryd.prog 15 #[.int .u64 1, .int .u64 3] W fun e w' => e = .returned (.bool true) ∧ W = w') := fun W => by
    have h := within_any 1 3 W (by decide) (by decide)
    rw [show decide (lessOf 1 3 = 0) = true by kernel_rfl] at h; exact h
  have G3 : Hid (∀ W, Calls Tryd.prog 15 #[.int .u64 4, .int .u64 3] W fun e w' => e = .returned (.bool false) ∧ W = w') := fun W => by
    have h := within_any 4 3 W (by decide) (by decide)
    rw [show decide (lessOf 4 3 = 0) = false by kernel_rfl] at h; exact h
  clear hT hE
  go_enter Tryd.func3, Tryd.ntmps3
  go_wp2_with fail
  refine HA.out.mono ?_
  rintro e w1 ⟨rfl, hm⟩
  have HM := Lib.hid hm
  clear hm HA
  go_wp2
  go_loopw [2] (fun i wr => ∃ k : Nat, k ≤ 9 ∧ i = .int .i64 k ∧ Hid (wr.heap[w1.heap.size]? = some (.cells badV.toArray 9 (0, 0)) ∧ Mod (fun _ => False) w wr)) (fun i _ => 9 - (intOf i).toNat)
  case atStart => exact ⟨0, Nat.zero_le _, rfl, ⟨blk_new w1 _, HM.out.alloc _⟩⟩
  case round =>
    obtain ⟨k, hk, rfl, hD⟩ := hrel
    have HB := Lib.hid hD.out.1
    have HW := Lib.hid hD.out.2
    clear hD
    by_cases hlt : k < 9
    · have c0 := bad_at HB.out hlt
      have HP := Lib.hid (bad_parse hlt wr (HT.out _ HW.out) (HE.out _ HW.out))
      have hi : (k : Int) < 9 := by omega
      have hi0 : (0 : Int) ≤ (k : Int) := by omega
      generalize badL.getD k [] = t at *
      go_wp2_with fail
      refine HP.out.mono ?_
      rintro e w2 ⟨rfl, hm⟩
      have HE2 : Hid (w2.heap[w1.heap.size]? = some (.cells badV.toArray 9 (0, 0)) ∧ Mod (fun _ => False) w w2) := ⟨hm.blk HB.out (fun h => h), HW.out.trans hm⟩
      clear hm HP
      go_wp2
      go_roundw
      case rel => exact ⟨k + 1, by omega, by go_num, HE2⟩
      case measure => simp [intOf]; omega
    · obtain rfl : k = 9 := by omega
      clear HB hlt hk
      have CC0 := Lib.hid (C0.out wr HW.out)
      go_wp2_with fail
      refine CC0.out.mono ?_
      rintro e w2 ⟨rfl, hm⟩
      have HW2 : Hid (Mod (fun _ => False) w w2) := HW.out.trans hm
      have CC1 := Lib.hid (C1.out w2 HW2.out)
      have CC2 := Lib.hid (C2.out w2 HW2.out)
      clear hm CC0 HW
      go_wp2_with fail
      refine CC1.out.mono ?_
      rintro e w3 ⟨rfl, rfl⟩
      go_wp2_with fail
      refine CC2.out.mono ?_
      rintro e w3 ⟨rfl, rfl⟩
      have HO : Hid (Calls Tryd.prog 11 #[.slice (some ⟨w2.heap.size, 0, none⟩) 3 3] (w2.alloc (.cells #[.int .i64 (-1), .int .i64 64, .int .i64 63] 3)) fun e w' => e = .returned (.int .u64 9223372036854775808) ∧ (w2.alloc (.cells #[.int .i64 (-1), .int .i64 64, .int .i64 63] 3)) = w') := by
        have h := of_any (.slice (some ⟨w2.heap.size, 0, none⟩) 3 3) [-1, 64, 63] (w2.alloc (.cells #[.int .i64 (-1), .int .i64 64, .int .i64 63] 3)) ⟨_, _, rfl, .inr ⟨_, _, rfl, fun i hi => by
          have : i = 0 ∨ i = 1 ∨ i = 2 := by have : i < 3 := hi; omega
          rcases this with rfl | rfl | rfl
          · rw [blk_cell (blk_new w2 _)]; rfl
          · rw [blk_cell (blk_new w2 _)]; rfl
          · rw [blk_cell (blk_new w2 _)]; rfl⟩⟩ (by decide)
        rw [set3] at h
        exact h
      have HW3 : Hid (Mod (fun _ => False) w (w2.alloc (.cells #[.int .i64 (-1), .int .i64 64, .int .i64 63] 3))) := HW2.out.alloc _
      clear HW2 CC1 CC2
      go_wp2_with fail
      refine HO.out.mono ?_
      rintro e w3 ⟨rfl, rfl⟩
      clear HO
      generalize w2.alloc (.cells #[.int .i64 (-1), .int .i64 64, .int .i64 63] 3) = w3 at *
      go_wp2_with fail
      refine (D1.out _).mono ?_
      rintro e w4 ⟨rfl, rfl⟩
      go_wp2_with fail
      refine (D2.out _).mono ?_
      rintro e w4 ⟨rfl, rfl⟩
      go_wp2_with fail
      refine (D3.out _).mono ?_
      rintro e w4 ⟨rfl, rfl⟩
      go_wp2_with fail
      refine (D4.out _).mono ?_
      rintro e w4 ⟨rfl, rfl⟩
      go_wp2_with fail
      refine (E1.out _).mono ?_
      rintro e w4 ⟨rfl, rfl⟩
      go_wp2_with fail
      refine (E2.out _).mono ?_
      rintro e w4 ⟨rfl, rfl⟩
      go_wp2_with fail
      refine (F1.out _).mono ?_
      rintro e w4 ⟨rfl, rfl⟩
      go_wp2_with fail
      refine (G1.out _).mono ?_
      rintro e w4 ⟨rfl, rfl⟩
      go_wp2_with fail
      refine (G2.out _).mono ?_
      rintro e w4 ⟨rfl, rfl⟩
      go_wp2_with fail
      refine (G3.out _).mono ?_
      rintro e w4 ⟨rfl, rfl⟩
      go_wp2
      go_ret
      exact ⟨rfl, HW3.out⟩
theorem known_walk (W : World) (hL : Tab W ∧ Errs W) : Calls Tryd.prog 3 #[] W fun e w' => e = .returned (.bool true) ∧ Below W.heap.size W w' :=
  (known_any W hL.1 hL.2).mono fun _ _ ⟨x, y⟩ => ⟨x, y.none_below⟩
end Go.Proofs.YtkmfbddiebigfaaDoor

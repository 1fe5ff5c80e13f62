/-
  The reference's SetOf, List, Digits, ShowSet, ParseSet.
-/
import Derived.Test.YtkmfbddiebigfaaDoorDsI
import Derived.Laws.BytesString
namespace Go.Proofs.YtkmfbddiebigfaaDoor
open Go.RowKit Go.Shoal

set_option maxHeartbeats 2000000 in
theorem rsetof_any (v : Value) (l : List Int) (w : World) (h : Ints w v l) (hl : l.length ≤ 1000000) : Calls Tryd.prog 18 #[v] w fun e w' => e = .returned (.int .u64 ((setOf l : Nat) : Int)) ∧ w = w' := by
  obtain ⟨A, c, rfl, hc⟩ := ints_cells h
  have HC := Lib.hid hc
  clear hc h
  go_enter Tryd.func18, Tryd.ntmps18
  go_wp2
  go_loop [3, 4] (fun s i => ∃ k : Nat, k ≤ l.length ∧ i = .int .i64 k ∧ s = .int .u64 ((setOf (l.take k) : Nat) : Int)) (fun _ i => l.length - (intOf i).toNat)
  case atStart => exact ⟨0, Nat.zero_le _, rfl, rfl⟩
  case round =>
    obtain ⟨k, hk, rfl, rfl⟩ := hrel
    by_cases hlt : k < l.length
    · obtain ⟨b, o, rfl, k0⟩ := HC.out k hlt
      have hi : (k : Int) < l.length := by omega
      have hi0 : (0 : Int) ≤ (k : Int) := by omega
      have tk : decide (k < l.length) = true := decide_eq_true hlt
      have hs := setOf_lt (l.take k)
      have HT : Hid (l.take (k + 1) = l.take k ++ [l.getD k 0]) := by
        show _ = _
        rw [List.take_succ_eq_append_getElem hlt, List.getD_eq_getElem?_getD, List.getElem?_eq_getElem hlt]; rfl
      generalize l.getD k 0 = p at *
      by_cases h1 : 0 ≤ p
      · by_cases h2 : p ≤ 63
        · have HO := Lib.hid (oneOf_bits h1 (show p < 64 by omega))
          have HB := Lib.hid (or_bits (setOf (l.take k)) (oneOf p) hs (oneOf_lt p))
          have HN : Hid (setOf (l.take (k + 1)) = setOf (l.take k) ||| oneOf p) := by show _ = _; rw [HT.out, setOf_snoc]
          have h4 : IntKind.u64.wrap p = p := by rw [IntKind.wrap_u64]; omega
          have h64 : p < 64 := by omega
          generalize setOf (l.take k) = s at *
          clear hlt
          go_wp2
          go_round
          case rel => exact ⟨k + 1, by omega, by go_num, by rw [HN.out, ← HB.out, ← HO.out]⟩
          case measure => simp [intOf]; omega
        · have HN : Hid (setOf (l.take (k + 1)) = setOf (l.take k)) := by show _ = _; rw [HT.out, setOf_snoc, show oneOf p = 0 by unfold oneOf; rw [if_neg (by omega)], Nat.or_zero]
          generalize setOf (l.take k) = s at *
          clear hlt
          go_wp2
          go_round
          case rel => exact ⟨k + 1, by omega, by go_num, by rw [HN.out]⟩
          case measure => simp [intOf]; omega
      · have HN : Hid (setOf (l.take (k + 1)) = setOf (l.take k)) := by show _ = _; rw [HT.out, setOf_snoc, show oneOf p = 0 by unfold oneOf; rw [if_neg (by omega)], Nat.or_zero]
        generalize setOf (l.take k) = s at *
        clear hlt
        go_wp2
        go_round
        case rel => exact ⟨k + 1, by omega, by go_num, by rw [HN.out]⟩
        case measure => simp [intOf]; omega
    · obtain rfl : k = l.length := by omega
      have ti : decide (l.length < l.length) = false := decide_eq_false (by omega)
      rw [List.take_length]
      go_wp2
      go_ret
      exact ⟨rfl, rfl⟩
def bitsTo (s k : Nat) : List Nat := bitsFrom s 0 k
theorem bitsFrom_snoc (s : Nat) : ∀ (n i : Nat), bitsFrom s i (n + 1) = bitsFrom s i n ++ (if s.testBit (i + n) then [i + n] else [])
  | 0, i => by
    unfold bitsFrom bitsFrom
    rw [Nat.add_zero]
    split <;> rfl
  | n + 1, i => by
    rw [bitsFrom_succ, bitsFrom_snoc s n (i + 1), bitsFrom_succ, show i + 1 + n = i + (n + 1) by omega]
    split <;> simp
theorem bitsTo_next (s k : Nat) : bitsTo s (k + 1) = bitsTo s k ++ (if s.testBit k then [k] else []) := by
  unfold bitsTo
  rw [bitsFrom_snoc, Nat.zero_add]
theorem bitsTo_len (s k : Nat) : (bitsTo s k).length ≤ k := bitsFrom_len s k 0
set_option maxHeartbeats 2000000 in
theorem rlist_any (s : Nat) (w : World) (hs : s < 18446744073709551616) : Calls Tryd.prog 17 #[.int .u64 s] w (NGave w (bitsOf s)) := by
  obtain ⟨i0, hii, hz0, hz1, hz2⟩ := info_parts Tryd.infoInt
  have HR0 : Hid (NRel w [] (.slice none 0 0) w) := ⟨RowOf.nil _ _ _, Mod.refl _ _, fun q hq => by cases hq⟩
  have HIN : Hid (∀ (k : Nat) W, Calls Tryd.prog 20 #[.int .u64 s, .int .i64 k] W fun e w' => e = .returned (.bool (inSet s k)) ∧ W = w') := fun k W => rin_any s k W hs
  have HB : Hid (∀ k : Nat, inSet s k = s.testBit k) := fun k => inSet_nat s k hs
  clear hs
  go_enter Tryd.func17, Tryd.ntmps17
  go_wp2
  go_loopw [3, 4] (fun acc i wr => ∃ (k : Nat) (v : Value), k ≤ 64 ∧ i = .int .i64 k ∧ v = acc ∧ Hid (NRel w (bitsTo s k) v wr)) (fun _ i _ => 64 - (intOf i).toNat)
  case atStart => exact ⟨0, _, Nat.zero_le _, rfl, rfl, HR0⟩
  case round =>
    obtain ⟨k, v, hk, rfl, rfl, hR⟩ := hrel
    by_cases hlt : k < 64
    · have hi : (k : Int) < 64 := by omega
      have HI := Lib.hid (HIN.out k wr)
      have HNX := Lib.hid (bitsTo_next s k)
      have HDL := Lib.hid (bitsTo_len s k)
      rw [HB.out] at HI
      generalize bitsTo s k = done at *
      cases hb : s.testBit k with
      | true =>
        have HRW : Hid (RowOf (wr.alloc (.cells #[.int .i64 (k : Int)] 3)) 3 1 v done.length (natV done)) := RowOf.alloc hR.out.1 _
        have HX : Hid (SrcOk (wr.alloc (.cells #[.int .i64 (k : Int)] 3)) (.slice (some ⟨wr.heap.size, 0, none⟩) 1 1) 1 1 [.int .i64 (k : Int)]) := SrcOk.block (blk_new wr _) rfl (fun j u hu => by rw [Nat.zero_add]; simpa using hu) (by simp [Value.oneCell'])
        rw [hb] at HI HNX
        go_wp2_with fail
        refine HI.out.mono ?_
        rintro e w1 ⟨rfl, rfl⟩
        go_wp2_with (at_builtin; refine wpList_append_row (by rfl) _ _ 35 (by rfl) i0 (.int .i64 0) 8 Tryd.underlying35 hii hz0 hz1 hz2 (by rfl) (by omega) (by rfl) HRW.out (natV_one _) _ 1 [.int .i64 (k : Int)] (by rfl) HX.out (by have := HDL.out; unfold maxLen; omega) (by have := HDL.out; omega) ?_)
        intro v' w' hv1 hv2 hv3
        have HE : Hid (NRel w (bitsTo s (k + 1)) v' w') := by
          show NRel _ _ _ _
          rw [HNX.out]
          exact hR.out.put hv1 hv2 (by simpa using hv3)
        clear hv1 hv2 hv3 HRW HX hR
        go_wp2
        go_roundw
        case rel => exact ⟨k + 1, v', by omega, by go_num, rfl, HE⟩
        case measure => simp [intOf]; omega
      | false =>
        rw [hb] at HI HNX
        have HE : Hid (NRel w (bitsTo s (k + 1)) v wr) := by
          show NRel _ _ _ _
          rw [HNX.out, if_neg (by decide), List.append_nil]
          exact hR.out
        clear hR
        go_wp2_with fail
        refine HI.out.mono ?_
        rintro e w1 ⟨rfl, rfl⟩
        go_wp2
        go_roundw
        case rel => exact ⟨k + 1, v, by omega, by go_num, rfl, HE⟩
        case measure => simp [intOf]; omega
    · obtain rfl : k = 64 := by omega
      have HE : Hid (NGave w (bitsOf s) (.returned v) wr) := ⟨v, rfl, hR.out.1, hR.out.2.1⟩
      clear hR
      go_wp2
      go_ret
      exact HE.out
end Go.Proofs.YtkmfbddiebigfaaDoor

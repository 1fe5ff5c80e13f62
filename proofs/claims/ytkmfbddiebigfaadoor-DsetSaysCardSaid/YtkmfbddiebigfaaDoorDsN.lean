/-
  The reference's ParseSet.
-/
import Derived.Test.YtkmfbddiebigfaaDoorDsM
namespace Go.Proofs.YtkmfbddiebigfaaDoor
open Go.RowKit Go.Shoal

theorem idx_at (l : List UInt8) (k : Nat) (hk : k < l.length) (w : World) : (Instr.index 9 (.string ⟨l.toArray⟩) (.int .i64 (k : Int))).run Tryd.prog w = .ok (.int .u8 (((l.getD k 0).toNat : Nat) : Int)) w := by
  have hs : (⟨l.toArray⟩ : ByteArray).size = l.length := rfl
  rw [run_index_string (P := Tryd.prog) w 9 ⟨l.toArray⟩ .i64 k Tryd.underlying9, dif_pos ⟨by omega, by rw [hs]; omega⟩]
  have e : (⟨l.toArray⟩ : ByteArray)[(k : Int).toNat]'(by rw [hs]; omega) = l.getD k 0 := by
    rw [List.getD_eq_getElem?_getD, List.getElem?_eq_getElem hk]
    rfl
  exact congrArg (fun x : UInt8 => Result.ok (Value.int .u8 ((x.toNat : Nat) : Int)) w) e
def retP (x : Nat × Bool) : Value := .tuple #[.int .u64 x.1, .bool x.2]
set_option maxRecDepth 100000 in
set_option maxHeartbeats 4000000 in
theorem rparse_any (l : List UInt8) (hl : l.length ≤ 300) (w : World) : Calls Tryd.prog 16 #[.string ⟨l.toArray⟩] w fun e w' => e = .returned (retP (pscan l, decide (showL (pscan l) = l))) ∧ Mod (fun _ => False) w w' := by
  obtain ⟨R, hR0⟩ : ∃ R, R = decide (showL (pscan l) = l) := ⟨_, rfl⟩
  obtain ⟨x, hx0⟩ : ∃ x, x = pscan l := ⟨_, rfl⟩
  rw [← hR0, ← hx0]
  have HR0 := Lib.hid hR0
  have HX0 := Lib.hid hx0
  clear hR0 hx0
  go_enter Tryd.func16, Tryd.ntmps16
  go_wp2
  go_loop [4, 5, 6, 7] (fun s n b i => ∃ k : Nat, k ≤ l.length ∧ i = .int .i64 k ∧ s = .int .u64 ((pfold (l.take k)).s : Int) ∧ n = .int .i64 ((pfold (l.take k)).n : Int) ∧ b = .bool (pfold (l.take k)).some) (fun _ _ _ i => l.length - (intOf i).toNat)
  case atStart => exact ⟨0, Nat.zero_le _, rfl, rfl, rfl, rfl⟩
  case round =>
    obtain ⟨k, hk, rfl, rfl, rfl, rfl⟩ := hrel
    by_cases hlt : k < l.length
    · have hi : (k : Int) < l.length := by omega
      have hi0 : (0 : Int) ≤ (k : Int) := by omega
      have hi3 : (k : Int) < 300 := by omega
      have tk : decide (k < l.length) = true := decide_eq_true hlt
      have hix := idx_at l k hlt w
      have HT : Hid (pfold (l.take (k + 1)) = pstep (pfold (l.take k)) (l.getD k 0)) := by
        show _ = _
        rw [List.take_succ_eq_append_getElem hlt, pfold_snoc, List.getD_eq_getElem?_getD, List.getElem?_eq_getElem hlt]; rfl
      obtain ⟨hs, hn⟩ := pfold_lt (l.take k)
      generalize pfold (l.take k) = st at *
      obtain ⟨s, n, b⟩ := st
      dsimp only at hs hn ⊢
      generalize l.getD k 0 = c at *
      have hc : c.toNat < 256 := c.toNat_lt
      have HA : Hid (48 ≤ c.toNat → c.toNat ≤ 57 → n < 100 → pfold (l.take (k + 1)) = ⟨s, 10 * n + (c.toNat - 48), true⟩) := fun h1 h2 h3 => by
        rw [HT.out]
        unfold pstep isDig
        rw [decide_eq_true h1, decide_eq_true h2]
        exact if_pos ⟨rfl, h3⟩
      have HB : Hid ((c.toNat < 48 ∨ 57 < c.toNat ∨ 100 ≤ n) → pfold (l.take (k + 1)) = ⟨pend ⟨s, n, b⟩, 0, false⟩) := fun h => by
        rw [HT.out]
        unfold pstep
        refine if_neg ?_
        rintro ⟨h1, h2⟩
        have h3 := Bool.and_eq_true_iff.1 h1
        have h4 := of_decide_eq_true h3.1
        have h5 := of_decide_eq_true h3.2
        have h6 : n < 100 := h2
        omega
      generalize c.toNat = cn at *
      have hn0 : (n : Int) < 1000 := by omega
      by_cases hdig : 48 ≤ cn ∧ cn ≤ 57 ∧ n < 100
      · obtain ⟨d1, d2, d3⟩ := hdig
        have HE := Lib.hid (HA.out d1 d2 d3)
        have j1 : (48 : Int) ≤ (cn : Int) := by omega
        have j2 : (cn : Int) ≤ 57 := by omega
        have j3 : (n : Int) < 100 := by omega
        have hsub : IntKind.u8.wrap ((cn : Int) - 48) = (cn : Int) - 48 := by rw [IntKind.wrap_u8]; omega
        have HNum : Hid ((10 : Int) * (n : Int) + ((cn : Int) - 48) = ((10 * n + (cn - 48) : Nat) : Int)) := by show _ = _; omega
        clear HA HB HT hc d1 d2 d3 hs hn
        go_wp2
        go_round
        case rel => exact ⟨k + 1, by omega, by go_num, by rw [HE.out], by rw [HE.out, ← HNum.out], by rw [HE.out]⟩
        case measure => simp [intOf]; omega
      · have HE := HB.out (by omega)
        have h3 : cn < 48 ∨ (48 ≤ cn ∧ 57 < cn) ∨ (48 ≤ cn ∧ cn ≤ 57 ∧ 100 ≤ n) := by omega
        clear HA HB HT hc hdig
        cases b with
        | false =>
          have HE : Hid (pfold (l.take (k + 1)) = ⟨s, 0, false⟩) := HE
          clear hs hn
          rcases h3 with h3 | ⟨h3, h4⟩ | ⟨h3, h4, h5⟩
          · have j1 : ¬ (48 : Int) ≤ (cn : Int) := by omega
            clear h3
            go_wp2
            go_round
            case rel => exact ⟨k + 1, by omega, by go_num, by rw [HE.out], by rw [HE.out]; rfl, by rw [HE.out]⟩
            case measure => simp [intOf]; omega
          · have j1 : (48 : Int) ≤ (cn : Int) := by omega
            have j2 : ¬ (cn : Int) ≤ 57 := by omega
            clear h3 h4
            go_wp2
            go_round
            case rel => exact ⟨k + 1, by omega, by go_num, by rw [HE.out], by rw [HE.out]; rfl, by rw [HE.out]⟩
            case measure => simp [intOf]; omega
          · have j1 : (48 : Int) ≤ (cn : Int) := by omega
            have j2 : (cn : Int) ≤ 57 := by omega
            have j3 : ¬ (n : Int) < 100 := by omega
            clear h3 h4 h5
            go_wp2
            go_round
            case rel => exact ⟨k + 1, by omega, by go_num, by rw [HE.out], by rw [HE.out]; rfl, by rw [HE.out]⟩
            case measure => simp [intOf]; omega
        | true =>
          by_cases h64 : n < 64
          · have j4 : (n : Int) < 64 := by omega
            have HO : Hid (IntKind.u64.wrap (2 ^ n) = ((oneOf (n : Int) : Nat) : Int)) := by
              have h := oneOf_bits (p := (n : Int)) (by omega) j4
              rw [Int.toNat_natCast] at h
              exact h
            have h3 : cn < 48 ∨ (48 ≤ cn ∧ 57 < cn) := by omega
            have HB2 := Lib.hid (or_bits s (oneOf (n : Int)) hs (oneOf_lt _))
            have hwn : IntKind.u64.wrap (n : Int) = (n : Int) := by rw [IntKind.wrap_u64]; omega
            have HE : Hid (pfold (l.take (k + 1)) = ⟨s ||| oneOf (n : Int), 0, false⟩) := by
              show _ = _
              rw [HE, pend_num s n h64]
            clear hs hn
            rcases h3 with h3 | ⟨h3, h4⟩
            · have j1 : ¬ (48 : Int) ≤ (cn : Int) := by omega
              clear h3
              go_wp2
              go_round
              case rel => exact ⟨k + 1, by omega, by go_num, by rw [HE.out, ← HB2.out, ← HO.out], by rw [HE.out]; rfl, by rw [HE.out]⟩
              case measure => simp [intOf]; omega
            · have j1 : (48 : Int) ≤ (cn : Int) := by omega
              have j2 : ¬ (cn : Int) ≤ 57 := by omega
              clear h3 h4
              go_wp2
              go_round
              case rel => exact ⟨k + 1, by omega, by go_num, by rw [HE.out, ← HB2.out, ← HO.out], by rw [HE.out]; rfl, by rw [HE.out]⟩
              case measure => simp [intOf]; omega
          · have j4 : ¬ (n : Int) < 64 := by omega
            have HE : Hid (pfold (l.take (k + 1)) = ⟨s, 0, false⟩) := by
              show _ = _
              rw [HE]
              unfold pend
              rw [if_neg (by rintro ⟨_, h⟩; exact h64 h)]
            clear hs hn h64
            rcases h3 with h3 | ⟨h3, h4⟩ | ⟨h3, h4, h5⟩
            · have j1 : ¬ (48 : Int) ≤ (cn : Int) := by omega
              clear h3
              go_wp2
              go_round
              case rel => exact ⟨k + 1, by omega, by go_num, by rw [HE.out], by rw [HE.out]; rfl, by rw [HE.out]⟩
              case measure => simp [intOf]; omega
            · have j1 : (48 : Int) ≤ (cn : Int) := by omega
              have j2 : ¬ (cn : Int) ≤ 57 := by omega
              clear h3 h4
              go_wp2
              go_round
              case rel => exact ⟨k + 1, by omega, by go_num, by rw [HE.out], by rw [HE.out]; rfl, by rw [HE.out]⟩
              case measure => simp [intOf]; omega
            · have j1 : (48 : Int) ≤ (cn : Int) := by omega
              have j2 : (cn : Int) ≤ 57 := by omega
              have j3 : ¬ (n : Int) < 100 := by omega
              clear h3 h4 h5
              go_wp2
              go_round
              case rel => exact ⟨k + 1, by omega, by go_num, by rw [HE.out], by rw [HE.out]; rfl, by rw [HE.out]⟩
              case measure => simp [intOf]; omega
    · obtain rfl : k = l.length := by omega
      have ti : decide (l.length < l.length) = false := decide_eq_false (by omega)
      rw [List.take_length]
      have hs := (pfold_lt l).1
      have HS := Lib.hid (rshow_any (pscan l) w hs)
      unfold Shown showS at HS
      have HR : Hid ((showL (pscan l) == l) = decide (showL (pscan l) = l)) := by
        show _ = _
        rw [Bool.eq_iff_iff, beq_iff_eq, decide_eq_true_iff]
      have e0 : (pfold l).s = pscan l := rfl
      rw [e0, ← HX0.out]
      rw [← HR0.out, ← HX0.out] at HR
      rw [← HX0.out] at HS
      generalize showL x = sx at *
      have HR := HR.out
      clear e0 hs
      go_wp2_with fail
      refine HS.out.mono ?_
      rintro e w6 ⟨rfl, hm⟩
      have HM := Lib.hid hm
      clear hm
      go_wp2
      go_ret2
      exact ⟨rfl, HM.out⟩
end Go.Proofs.YtkmfbddiebigfaaDoor

/-
  Numbers by sixteen, read: internal/strconv.ParseUint at base 16, 64 bits.
-/
import Derived.Test.YtgpjipgbighplaaDoorFlL
import Derived.Lib.AtoiAllMem
import Derived.Lib.ConvBytes
import Derived.Lib.Strings
import Derived.Laws.Strings3
namespace Go.Proofs.YtgpjipgbighplaaDoor
open Go.RowKit Go.Shoal

def digX (c : UInt8) : Nat := if 48 ≤ c.toNat ∧ c.toNat ≤ 57 then c.toNat - 48 else if 97 ≤ (c.toNat ||| 32) ∧ (c.toNat ||| 32) ≤ 122 then (c.toNat ||| 32) - 87 else 255
def puX : Nat → List UInt8 → Lib.NumEnd Nat
  | acc, [] => .ok acc
  | acc, c :: cs => if 16 ≤ digX c then .syntax else if 1152921504606846976 ≤ acc then .range else puX (acc * 16 + digX c) cs
theorem lower_any (c : UInt8) (w : World) : Calls Tryd.prog 54 #[.int .u8 (c.toNat : Int)] w fun e w' => e = .returned (.int .u8 ((c.toNat ||| 32 : Nat) : Int)) ∧ w = w' := by
  have h := u8_or_nat c.toNat 32 c.toNat_lt (by decide)
  have H : Hid (bits .or .u8 (c.toNat : Int) 32 = ((c.toNat ||| 32 : Nat) : Int)) := h
  clear h
  go_enter Tryd.func54, Tryd.ntmps54
  go_wp2
  go_ret
  exact ⟨by rw [← H.out]; rfl, rfl⟩
theorem bytes_mod (w : World) (s : ByteArray) : Mod (fun _ => False) w (Lib.bytesWorld w 5 s) := by
  have hs := Lib.bytesWorld_size w 5 s
  exact ⟨rfl, rfl, rfl, by omega, fun i hi _ => Lib.bytesWorld_at_old w 5 s i hi⟩
theorem wrap_mul {a : Int} (h0 : 0 ≤ a) (h : a < 1152921504606846976) : IntKind.u64.wrap (a * 16) = a * 16 := by
  rw [IntKind.wrap_u64]
  omega
set_option maxHeartbeats 32000000 in
set_option maxRecDepth 100000 in
theorem ipu_any (t : ByteArray) (hne : t.size ≠ 0) (hmax : t.size ≤ 9223372036854775806) (w : World) :
    Calls Tryd.prog 45 #[.string t, .int .i64 16, .int .i64 64] w fun e w' => e = .returned (Lib.uintTuple 72 (puX 0 t.data.toList)) ∧ w' = Lib.bytesWorld w 5 t := by
  have hemp : t.toList.isEmpty = false := by
    rw [← decide_eq_emptyBytes]
    exact decide_eq_false (fun h => hne (by rw [h]; rfl))
  have hcv := Lib.run_convert_string_bytes (P := Tryd.prog) w 9 64 5 t (u := .string) Tryd.underlying9 Tryd.underlying64 Tryd.underlying5
  have hB : ∀ j, j < t.size → (Lib.bytesWorld w 5 t).cell? ⟨w.heap.size, j, none⟩ = some (.int .u8 (t.data.toList.getD j 0).toNat) := fun j hj => Lib.bytesWorld_cell w 5 t j hj
  obtain ⟨W1, hW1⟩ : ∃ W1, W1 = Lib.bytesWorld w 5 t := ⟨_, rfl⟩
  rw [← hW1] at hcv hB ⊢
  clear hW1
  obtain ⟨bs, hL⟩ : ∃ bs, bs = t.data.toList := ⟨_, rfl⟩
  have hLn : bs.length = t.size := by rw [hL, Lib.size_eq]
  rw [← hL] at hB ⊢
  clear hL
  have hmv : IntKind.u64.wrap (IntKind.u64.wrap 18446744073709551616 - 1) = 18446744073709551615 := by
    rw [IntKind.wrap_u64, IntKind.wrap_u64]
    decide
  have HW := Lib.hid (fun c => lower_any c W1)
  go_enter Tryd.func45, Tryd.ntmps45
  go_wp2
  go_loop [12, 13, 101] (fun vu vn vi => ∃ (k acc : Nat) (a : Int), vu = .bool false ∧ vn = .int .u64 a ∧ vi = .int .i64 k ∧ k ≤ t.size ∧ Hid (a = (acc : Int) ∧ acc < 18446744073709551616 ∧ puX 0 bs = puX acc (bs.drop k)))
    (fun _ _ vi => t.size - (intOf vi).toNat)
  case atStart => exact ⟨0, 0, 0, rfl, rfl, rfl, by omega, rfl, by omega, rfl⟩
  case round =>
    obtain ⟨k, acc, a, rfl, rfl, rfl, hk, hh⟩ := hrel
    obtain ⟨ha, hacc, hdec⟩ := hh.out
    clear hh
    have a0 : 0 ≤ a := by omega
    have a1 : a < 18446744073709551616 := by omega
    by_cases hkn : k < t.size
    · have hc := hB k hkn
      have hdrop : bs.drop k = bs[k]'(by omega) :: bs.drop (k + 1) := List.drop_eq_getElem_cons (by omega)
      have hget : bs.getD k 0 = bs[k]'(by omega) := by simp [List.getD, List.getElem?_eq_getElem (show k < bs.length by omega)]
      rw [hdrop] at hdec
      rw [hget] at hc
      generalize bs[k]'(by omega) = c at hc hdec
      have hc256 : c.toNat < 256 := c.toNat_lt
      clear hB hdrop hget
      by_cases hdig : 48 ≤ c.toNat ∧ c.toNat ≤ 57
      · have hdx : digX c = c.toNat - 48 := if_pos hdig
        obtain ⟨hd0, hd1⟩ := hdig
        by_cases hcut : 1152921504606846976 ≤ acc
        · have hF : puX acc (c :: bs.drop (k + 1)) = .range := by rw [puX, if_neg (by omega), if_pos hcut]
          rw [hF] at hdec
          have icut : 1152921504606846976 ≤ a := by omega
          have HDEC := Lib.hid hdec
          clear hcut hacc hF ha hdec
          go_wp2
          go_ret2
          exact ⟨by rw [HDEC.out]; rfl, rfl⟩
        · have hF : puX acc (c :: bs.drop (k + 1)) = puX (acc * 16 + (c.toNat - 48)) (bs.drop (k + 1)) := by rw [puX, if_neg (by omega), if_neg hcut, hdx]
          have HN : Hid (a * 16 + ((c.toNat - 48 : Nat) : Int) = ((acc * 16 + (c.toNat - 48) : Nat) : Int) ∧ acc * 16 + (c.toNat - 48) < 18446744073709551616 ∧ puX 0 bs = puX (acc * 16 + (c.toNat - 48)) (bs.drop (k + 1))) := Lib.hid ⟨by omega, by omega, hdec.trans hF⟩
          have icut : a < 1152921504606846976 := by omega
          have iov : a * 16 + ((c.toNat - 48 : Nat) : Int) < 18446744073709551616 := by omega
          clear hcut hacc hF hdec ha
          go_wp2
          refine ⟨⟨k + 1, acc * 16 + (c.toNat - 48), a * 16 + ((c.toNat - 48 : Nat) : Int), rfl, (by first | rfl | (congr 1; omega)), (by first | rfl | (congr 1; omega)), by omega, HN⟩, by simp [intOf]; omega⟩
      · have hx1 : digX c = if 97 ≤ (c.toNat ||| 32) ∧ (c.toNat ||| 32) ≤ 122 then (c.toNat ||| 32) - 87 else 255 := if_neg hdig
        have HL := Lib.hid (HW.out c)
        have hl256 : (c.toNat ||| 32) < 256 := Nat.or_lt_two_pow (n := 8) hc256 (by decide)
        have h95 : c.toNat = 95 → (c.toNat ||| 32) = 127 := fun h => by rw [h]; rfl
        generalize (c.toNat ||| 32) = l at *
        by_cases hlet : 97 ≤ l ∧ l ≤ 122
        · have hdx : digX c = l - 87 := hx1.trans (if_pos hlet)
          obtain ⟨hl0, hl1⟩ := hlet
          have hn95 : ((c.toNat : Int) == 95) = false := by rw [beq_eq_false_iff_ne]; intro h; have := h95 (by omega); omega
          clear h95 hx1
          by_cases hbig : 16 ≤ l - 87
          · have hF : puX acc (c :: bs.drop (k + 1)) = .syntax := by rw [puX, if_pos (by omega)]
            rw [hF] at hdec
            have HDEC := Lib.hid hdec
            have hbig2 : 103 ≤ l := by omega
            clear hacc hF ha hdec hdx hbig
            go_wp2_with (go_at_call 54; refine HL.out.mono ?_; rintro e w2 ⟨rfl, rfl⟩)
            all_goals go_ret2
            all_goals exact ⟨by rw [HDEC.out]; rfl, rfl⟩
          · have hbig2 : l < 103 := by omega
            clear hbig
            by_cases hcut : 1152921504606846976 ≤ acc
            · have hF : puX acc (c :: bs.drop (k + 1)) = .range := by rw [puX, if_neg (by omega), if_pos hcut]
              rw [hF] at hdec
              have icut : 1152921504606846976 ≤ a := by omega
              have HDEC := Lib.hid hdec
              clear hcut hacc hF ha hdec
              go_wp2_with (go_at_call 54; refine HL.out.mono ?_; rintro e w2 ⟨rfl, rfl⟩)
              all_goals go_ret2
              all_goals exact ⟨by rw [HDEC.out]; rfl, rfl⟩
            · have hF : puX acc (c :: bs.drop (k + 1)) = puX (acc * 16 + (l - 87)) (bs.drop (k + 1)) := by rw [puX, if_neg (by omega), if_neg hcut, hdx]
              have HN : Hid (a * 16 + ((l - 87 : Nat) : Int) = ((acc * 16 + (l - 87) : Nat) : Int) ∧ acc * 16 + (l - 87) < 18446744073709551616 ∧ puX 0 bs = puX (acc * 16 + (l - 87)) (bs.drop (k + 1))) := Lib.hid ⟨by omega, by omega, hdec.trans hF⟩
              have icut : a < 1152921504606846976 := by omega
              have iov : a * 16 + ((l - 87 : Nat) : Int) < 18446744073709551616 := by omega
              clear hcut hacc hF hdec ha
              go_wp2_with (go_at_call 54; refine HL.out.mono ?_; rintro e w2 ⟨rfl, rfl⟩)
              all_goals refine ⟨⟨k + 1, acc * 16 + (l - 87), a * 16 + ((l - 87 : Nat) : Int), rfl, (by first | rfl | (congr 1; omega)), (by first | rfl | (congr 1; omega)), by omega, HN⟩, by simp [intOf]; omega⟩
        · have hdx : digX c = 255 := hx1.trans (if_neg hlet)
          have hF : puX acc (c :: bs.drop (k + 1)) = .syntax := by rw [puX, if_pos (by omega)]
          rw [hF] at hdec
          have HDEC := Lib.hid hdec
          clear hacc hF ha hdec hdx hx1 h95
          by_cases h9 : c.toNat = 95
          · rw [h9] at hc HL
            clear hdig h9 hc256
            go_wp2_with (go_at_call 54; refine HL.out.mono ?_; rintro e w2 ⟨rfl, rfl⟩)
            all_goals go_ret2
            all_goals exact ⟨by rw [HDEC.out]; rfl, rfl⟩
          · have hn95 : ((c.toNat : Int) == 95) = false := by rw [beq_eq_false_iff_ne]; omega
            clear h9
            go_wp2_with (go_at_call 54; refine HL.out.mono ?_; rintro e w2 ⟨rfl, rfl⟩)
            all_goals go_ret2
            all_goals exact ⟨by rw [HDEC.out]; rfl, rfl⟩
    · have hkk : k = t.size := by omega
      subst hkk
      have hF : puX acc (bs.drop t.size) = .ok acc := by rw [List.drop_eq_nil_of_le (by omega)]; rfl
      rw [hF] at hdec
      subst ha
      have HDEC := Lib.hid hdec
      clear hacc hF a0 a1 hdec
      go_wp2
      all_goals go_ret2
      all_goals exact ⟨by rw [HDEC.out]; rfl, rfl⟩
end Go.Proofs.YtgpjipgbighplaaDoor

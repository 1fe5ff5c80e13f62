/-
  The reference's Parse.
-/
import Derived.Test.YtgpjipgbighplaaDoorFlQ
namespace Go.Proofs.YtgpjipgbighplaaDoor
open Go.RowKit Go.Shoal

/-- A digit as the document writes it. -/
def lowX (c : UInt8) : Bool := (decide (48 ≤ c.toNat) && decide (c.toNat ≤ 57)) || (decide (97 ≤ c.toNat) && decide (c.toNat ≤ 102))
def digL (c : UInt8) : Nat := if 48 ≤ c.toNat ∧ c.toNat ≤ 57 then c.toNat - 48 else c.toNat - 87
theorem lowX_dig : ∀ c : UInt8, lowX c = true → digX c = digL c ∧ digL c < 16 := by
  have : ∀ c : Fin 256, lowX (UInt8.ofNat c.1) = true → digX (UInt8.ofNat c.1) = digL (UInt8.ofNat c.1) ∧ digL (UInt8.ofNat c.1) < 16 := by decide +kernel
  intro c
  have h := this ⟨c.toNat, c.toNat_lt⟩
  simpa using h
theorem hexD_low : ∀ d, d < 16 → lowX (hexD d) = true := by
  intro d h
  have : ∀ d : Fin 16, lowX (hexD d.1) = true := by decide
  exact this ⟨d, h⟩
theorem join16 (b d : Nat) (hb : b < 1152921504606846976) (hd : d < 16) : bits .or .u64 ((b * 16 : Nat) : Int) (d : Int) = ((b * 16 + d : Nat) : Int) := by
  have h := u64_or_nat (b * 16) d (by omega) (by omega)
  have e : b * 16 ||| d = b * 16 + d := nat_join 4 (b * 16) d (show b * 16 % 16 = 0 by omega) hd
  rw [e] at h
  exact h
theorem all_false {s : List UInt8} {k : Nat} (h : k < s.length) (hc : lowX s[k] = false) : s.all lowX = false := by
  cases hs : s.all lowX
  · rfl
  · have := List.all_eq_true.1 hs _ (List.getElem_mem h)
    rw [hc] at this
    cases this
theorem valX_snoc (D : List UInt8) (c : UInt8) (acc : Nat) : valX acc (D ++ [c]) = valX acc D * 16 + digX c := by
  unfold valX
  rw [List.foldl_append]
  rfl
def parseL (s : List UInt8) : Nat × Bool := if s.all lowX then (if showW (valX 0 s) = s then (valX 0 s, true) else (0, false)) else (0, false)
set_option maxRecDepth 100000 in
set_option maxHeartbeats 4000000 in
theorem rparse_16 (s : List UInt8) (hl : s.length = 16) (w : World) : Calls Tryd.prog 26 #[.string ⟨s.toArray⟩] w fun e w' => e = .returned (pairF (parseL s)) ∧ w = w' := by
  have hne : ∀ l : List UInt8, l.length < 16 → (s == l) = false := fun l hl' => by
    rw [beq_eq_false_iff_ne]
    intro e
    rw [e] at hl
    omega
  have e1 := hne [110, 97, 110] (by decide)
  have e2 := hne [105, 110, 102] (by decide)
  have e3 := hne [45, 105, 110, 102] (by decide)
  clear hne
  generalize hr : parseL s = r
  have HR := Lib.hid hr
  clear hr
  go_enter Tryd.func26, Tryd.ntmps26
  go_wp2
  go_loop [4, 5, 6] (fun b i _ => ∃ (k acc : Nat), k ≤ 16 ∧ b = .int .u64 acc ∧ i = .int .i64 k ∧ Hid (acc = valX 0 (s.take k) ∧ acc < 16 ^ k ∧ (s.take k).all lowX = true)) (fun _ i _ => 16 - (intOf i).toNat)
  case atStart => exact ⟨0, 0, by decide, rfl, rfl, rfl, by decide, rfl⟩
  case round =>
    obtain ⟨k, acc, hk, rfl, rfl, hh⟩ := hrel
    by_cases hlt : k < 16
    · have hks : k < s.length := by omega
      have hb : k < (⟨s.toArray⟩ : ByteArray).size := hks
      have hget : ((⟨s.toArray⟩ : ByteArray)[k]'hb) = s[k]'hks := rfl
      have HG := Lib.hid hget
      clear hget
      have hc256 : ((⟨s.toArray⟩ : ByteArray)[k]'hb).toNat < 256 := UInt8.toNat_lt _
      have hacc : acc < 1152921504606846976 := Nat.lt_of_lt_of_le hh.out.2.1 (Nat.le_trans (Nat.pow_le_pow_right (show 16 > 0 by decide) (show k ≤ 15 by omega)) (by decide))
      by_cases hdig : 48 ≤ ((⟨s.toArray⟩ : ByteArray)[k]'hb).toNat ∧ ((⟨s.toArray⟩ : ByteArray)[k]'hb).toNat ≤ 57
      · have hlow : lowX ((⟨s.toArray⟩ : ByteArray)[k]'hb) = true := by unfold lowX; rw [decide_eq_true hdig.1, decide_eq_true hdig.2]; rfl
        have hdl := lowX_dig _ hlow
        obtain ⟨hd0, hd1⟩ := hdig
        have hval : bits .or .u64 (IntKind.u64.wrap ((acc : Int) * 16)) ((((⟨s.toArray⟩ : ByteArray)[k]'hb).toNat : Int) - 48) = ((acc * 16 + digL ((⟨s.toArray⟩ : ByteArray)[k]'hb) : Nat) : Int) := by
          rw [wrap_mul (by omega) (by omega), ← join16 acc _ hacc hdl.2]
          congr 1
          unfold digL
          rw [if_pos ⟨hd0, hd1⟩]; omega
        have HV := Lib.hid hval
        have HN : Hid (acc * 16 + digL ((⟨s.toArray⟩ : ByteArray)[k]'hb) = valX 0 (s.take (k + 1)) ∧ acc * 16 + digL ((⟨s.toArray⟩ : ByteArray)[k]'hb) < 16 ^ (k + 1) ∧ (s.take (k + 1)).all lowX = true) := by
          refine Lib.hid ⟨?_, ?_, ?_⟩
          · rw [List.take_succ_eq_append_getElem hks, valX_snoc, ← hh.out.1, ← HG.out, hdl.1]
          · have h1 := hh.out.2.1
            have h2 := hdl.2
            rw [Nat.pow_succ]
            omega
          · rw [List.take_succ_eq_append_getElem hks, List.all_append, hh.out.2.2, ← HG.out]
            simp [hlow]
        clear hval hdl hlow hacc
        go_wp2
        go_round
        case rel => exact ⟨k + 1, _, by omega, by rw [HV.out], rfl, HN⟩
        case measure => simp [intOf]; omega
      by_cases hlet : 97 ≤ ((⟨s.toArray⟩ : ByteArray)[k]'hb).toNat ∧ ((⟨s.toArray⟩ : ByteArray)[k]'hb).toNat ≤ 102
      · have hlow : lowX ((⟨s.toArray⟩ : ByteArray)[k]'hb) = true := by unfold lowX; rw [decide_eq_true hlet.1, decide_eq_true hlet.2, Bool.and_true, Bool.or_true]
        have hdl := lowX_dig _ hlow
        obtain ⟨hd0, hd1⟩ := hlet
        have hval : bits .or .u64 (IntKind.u64.wrap ((acc : Int) * 16)) ((((⟨s.toArray⟩ : ByteArray)[k]'hb).toNat : Int) - 97 + 10) = ((acc * 16 + digL ((⟨s.toArray⟩ : ByteArray)[k]'hb) : Nat) : Int) := by
          rw [wrap_mul (by omega) (by omega), ← join16 acc _ hacc hdl.2]
          congr 1
          unfold digL
          rw [if_neg hdig]; omega
        have HV := Lib.hid hval
        have HN : Hid (acc * 16 + digL ((⟨s.toArray⟩ : ByteArray)[k]'hb) = valX 0 (s.take (k + 1)) ∧ acc * 16 + digL ((⟨s.toArray⟩ : ByteArray)[k]'hb) < 16 ^ (k + 1) ∧ (s.take (k + 1)).all lowX = true) := by
          refine Lib.hid ⟨?_, ?_, ?_⟩
          · rw [List.take_succ_eq_append_getElem hks, valX_snoc, ← hh.out.1, ← HG.out, hdl.1]
          · have h1 := hh.out.2.1
            have h2 := hdl.2
            rw [Nat.pow_succ]
            omega
          · rw [List.take_succ_eq_append_getElem hks, List.all_append, hh.out.2.2, ← HG.out]
            simp [hlow]
        clear hval hdl hlow hacc
        go_wp2
        go_round
        case rel => exact ⟨k + 1, _, by omega, by rw [HV.out], rfl, HN⟩
        case measure => simp [intOf]; omega
      · have hno : lowX (s[k]'hks) = false := by
          rw [← HG.out]
          cases hq : lowX ((⟨s.toArray⟩ : ByteArray)[k]'hb)
          · rfl
          · unfold lowX at hq
            simp only [Bool.or_eq_true, Bool.and_eq_true, decide_eq_true_eq] at hq
            exact absurd hq (by omega)
        have HRR : Hid (r = (0, false)) := by
          show _ = _
          rw [← HR.out]
          unfold parseL
          rw [all_false hks hno]
          rfl
        clear hno hacc
        go_wp2
        all_goals go_ret2
        all_goals exact ⟨by rw [HRR.out]; rfl, rfl⟩
    · obtain rfl : k = 16 := by omega
      obtain ⟨h1, h2, h3⟩ := hh.out
      have ht : s.take 16 = s := List.take_of_length_le (by omega)
      rw [ht] at h1 h3
      have hb64 : acc < B64 := h2
      have HS := Lib.hid (rshow_any acc hb64 w)
      have HRR : Hid (r = if showW acc = s then (acc, true) else (0, false)) := by
        show _ = _
        rw [← HR.out]
        unfold parseL
        rw [h3, if_pos rfl, ← h1]
      clear h1 h2 h3 ht hb64 hh
      generalize showW acc = z at *
      go_wp2_with fail
      refine HS.out.mono ?_
      rintro e w1 ⟨rfl, rfl⟩
      by_cases hq : z = s
      · have q1 : (z == s) = true := beq_iff_eq.2 hq
        have HQ : Hid (r = (acc, true)) := by show _ = _; rw [HRR.out, if_pos hq]
        clear hq HRR
        go_wp2
        go_ret2
        exact ⟨by rw [HQ.out]; rfl, rfl⟩
      · have q1 : (z == s) = false := beq_eq_false_iff_ne.2 hq
        have HQ : Hid (r = (0, false)) := by show _ = _; rw [HRR.out, if_neg hq]
        clear hq HRR
        go_wp2
        go_ret2
        exact ⟨by rw [HQ.out]; rfl, rfl⟩
end Go.Proofs.YtgpjipgbighplaaDoor

/-
  MeterNone.
-/
import Derived.Test.YtpjlplkoiedhjaaMetO
import Derived.Test.YtpjlplkoiedhjaaElems
namespace Go.Proofs.Ytpjlplkoiedhjaa
open Go.RowKit Go.Shoal Go.ChangeShapes Go.WideShapes Go.ChangeAt Go.Deep

theorem same_yes {a b : Nat} (h : SameN a b) (w : World) : Calls Try.prog 11 #[.float .f64 a, .float .f64 b] w fun e w' => e = .returned (.bool true) ∧ w = w' := by
  have := same_any a b w
  rw [h.b] at this
  exact this
/-- The cells of a slice that came in, in all later worlds. -/
theorem flts_cell {w : World} {A : Option Addr} {c : Nat} {l : List Nat} (hz : Flts w (.slice A l.length c) l) (k : Nat) (hk : k < l.length) :
    ∃ b o, A = some ⟨b, o, none⟩ ∧ l.getD k 0 < B64 ∧ ∀ W, Below w.heap.size w W → W.cell? ⟨b, o + k, none⟩ = some (.float .f64 (l.getD k 0)) := by
  obtain ⟨A', c', he, _, hf, hx⟩ := hz
  cases he
  rcases hx with hx | ⟨b, o, rfl, hb, hc⟩
  · subst hx; exact absurd hk (Nat.not_lt_zero k)
  · refine ⟨b, o, rfl, hf k hk, fun W hB => ?_⟩
    have k0 := hc k 0 (.float .f64 (l.getD k 0)) hk rfl
    rw [Nat.mul_one, Nat.add_zero] at k0
    exact (hB.cell (p := ⟨b, o + k, none⟩) hb).trans k0
theorem nan_w : nanW < B64 ∧ isN nanW = true := by decide
def extra (at_ : Int) (k : Nat) : Nat := if 0 ≤ at_ ∧ at_ < (k : Int) then 1 else 0
/-- Behind k rounds. -/
def NoneAt (w : World) (ga gb : Nat) (at_ : Int) (k : Nat) (wr : World) : Prop :=
  ∃ ma mb, Two w ga ma gb mb wr ∧ Alike ma mb ∧ ma.ks.length = k ∧ mb.ks.length = k + extra at_ k
theorem none_out (v : Value) (l : List Nat) (at_ : Int) (w : World) (hz : Flts w v l) (h : 40 < l.length) :
    Calls Try.prog 6 #[v, .int .i64 at_] w fun e w' => e = .returned (.bool true) ∧ Below w.heap.size w w' := by
  obtain ⟨A, c, rfl, hl, _⟩ := hz
  unfold maxLen at hl
  have HA := Lib.hid (awake_any w)
  have t1 : decide ((40 : Int) < (l.length : Int)) = true := decide_eq_true (by omega)
  go_enter Try.func6, Try.ntmps6
  go_wp2_with fail
  refine HA.out.mono ?_
  rintro e w1 ⟨rfl, hm⟩
  have HM := Lib.hid hm.none_below
  clear hm
  go_wp2
  go_ret
  exact ⟨rfl, HM.out⟩
set_option maxRecDepth 100000 in
set_option maxHeartbeats 4000000 in
theorem none_in (v : Value) (l : List Nat) (at_ : Int) (w : World) (hz : Flts w v l) (h : l.length ≤ 40) :
    Calls Try.prog 6 #[v, .int .i64 at_] w fun e w' => e = .returned (.bool true) ∧ Below w.heap.size w w' := by
  obtain ⟨A, c, rfl⟩ : ∃ A c, v = .slice A l.length c := by obtain ⟨A, c, h, _⟩ := hz; exact ⟨A, c, h⟩
  have HZ := Lib.hid hz
  have HA := Lib.hid (awake_any w)
  have t1 : decide ((40 : Int) < (l.length : Int)) = false := decide_eq_false (by omega)
  clear hz
  go_enter Try.func6, Try.ntmps6
  go_wp2_with fail
  refine HA.out.mono ?_
  rintro e w1 ⟨rfl, hm⟩
  have HM1 := Lib.hid hm.none_below
  clear hm HA
  go_wp2_with fail
  refine (new_any _).mono ?_
  intro e w2 hn
  have HN1 := Lib.hid hn
  obtain ⟨rfl, -, -⟩ := hn
  go_wp2_with fail
  refine (new_any _).mono ?_
  intro e w3 hn
  have HT : Hid (NoneAt w w1.heap.size w2.heap.size at_ 0 w3) := ⟨_, _, (Two.new HN1.out hn HM1.out).2.2, Alike.refl _, rfl, by unfold extra; rw [if_neg (by omega)]; rfl⟩
  obtain ⟨rfl, -, -⟩ := hn
  clear HN1 HM1
  generalize w1.heap.size = ga at *
  generalize w2.heap.size = gb at *
  go_wp2
  go_loopw [7] (fun i wr => ∃ k : Nat, k ≤ l.length ∧ i = .int .i64 k ∧ Hid (NoneAt w ga gb at_ k wr)) (fun i _ => l.length - (intOf i).toNat)
  case atStart => exact ⟨0, Nat.zero_le _, rfl, HT⟩
  case round =>
    obtain ⟨k, hk, rfl, hD⟩ := hrel
    obtain ⟨ma, mb, hT, hA, hla, hlb⟩ := hD.out
    have hex : extra at_ k ≤ 1 := by unfold extra; split <;> omega
    by_cases hlt : k < l.length
    · obtain ⟨b, o, rfl, hx, hc⟩ := flts_cell HZ.out k hlt
      have HC := Lib.hid hc
      have hi : (k : Int) < l.length := by omega
      have hi0 : (0 : Int) ≤ (k : Int) := by omega
      have tk : decide (k < l.length) = true := decide_eq_true hlt
      generalize l.getD k 0 = x at *
      have HX : Hid (x < B64) := hx
      have HT0 := Lib.hid hT
      have HAL := Lib.hid hA
      have HLA := Lib.hid hla
      have HLB := Lib.hid hlb
      have HEX : Hid (extra at_ k ≤ 1) := hex
      clear hx hc hT hA hla hlb hex hD
      by_cases hat : (k : Int) = at_
      · have t2 : ((k : Int) == at_) = true := by rw [beq_iff_eq]; exact hat
        have HE : Hid (extra at_ k = 0 ∧ extra at_ (k + 1) = 1) := by
          show _ ∧ _
          unfold extra
          rw [if_neg (by omega), if_pos (by omega)]
          exact ⟨rfl, rfl⟩
        have HN := Lib.hid (nan_any)
        have HB := Lib.hid (two_add' HT0.out nan_w.1 (by have := HLB.out; have := HEX.out; omega))
        clear hat
        go_wp2_with fail
        refine (HN.out _).mono ?_
        rintro e w4 ⟨rfl, rfl⟩
        go_wp2_with fail
        refine HB.out.mono ?_
        rintro e w4 ⟨rfl, mb1, hb1, hT1⟩
        have k0 := HC.out w4 hT1.fst.bel
        have HB1 := Lib.hid hb1
        have HT1 := Lib.hid hT1
        have HA2 := Lib.hid (two_add HT1.out HX.out (by have := HLA.out; omega))
        clear hb1 hT1 HB HN
        go_wp2_with fail
        refine HA2.out.mono ?_
        rintro e w5 ⟨rfl, ma2, ha2, hT2⟩
        have k1 := HC.out w5 hT2.fst.bel
        have HAD := Lib.hid ha2
        have HT2 := Lib.hid hT2
        have HB3 := Lib.hid (two_add' HT2.out HX.out (by have := HLB.out; have := HEX.out; have := HB1.out.len; omega))
        clear ha2 hT2 HA2 k0
        go_wp2_with fail
        refine HB3.out.mono ?_
        rintro e w6 ⟨rfl, mb3, hb3, hT3⟩
        have HF : Hid (NoneAt w ga gb at_ (k + 1) w6) := ⟨ma2, mb3, hT3, (HAL.out.nan HB1.out nan_w.2).add HAD.out hb3, by have := HAD.out.len; have := HLA.out; omega, by have := hb3.len; have := HB1.out.len; have := HLB.out; have := HE.out; omega⟩
        clear hb3 hT3 HB3 k1
        go_wp2
        go_roundw
        case rel => exact ⟨k + 1, by omega, by go_num, HF⟩
        case measure => simp [intOf]; omega
      · have t2 : ((k : Int) == at_) = false := by rw [beq_eq_false_iff_ne]; exact hat
        have HE : Hid (extra at_ (k + 1) = extra at_ k) := by
          show _ = _
          unfold extra
          by_cases h1 : 0 ≤ at_ ∧ at_ < (k : Int)
          · rw [if_pos h1, if_pos (by omega)]
          · rw [if_neg h1, if_neg (by omega)]
        have HA2 := Lib.hid (two_add HT0.out HX.out (by have := HLA.out; omega))
        have k0 := HC.out wr HT0.out.fst.bel
        clear hat
        go_wp2_with fail
        refine HA2.out.mono ?_
        rintro e w5 ⟨rfl, ma2, ha2, hT2⟩
        have k1 := HC.out w5 hT2.fst.bel
        have HAD := Lib.hid ha2
        have HT2 := Lib.hid hT2
        have HB3 := Lib.hid (two_add' HT2.out HX.out (by have := HLB.out; have := HEX.out; omega))
        clear ha2 hT2 HA2 k0
        go_wp2_with fail
        refine HB3.out.mono ?_
        rintro e w6 ⟨rfl, mb3, hb3, hT3⟩
        have HF : Hid (NoneAt w ga gb at_ (k + 1) w6) := ⟨ma2, mb3, hT3, HAL.out.add HAD.out hb3, by have := HAD.out.len; have := HLA.out; omega, by have := hb3.len; have := HLB.out; have := HE.out; omega⟩
        clear hb3 hT3 HB3 k1
        go_wp2
        go_roundw
        case rel => exact ⟨k + 1, by omega, by go_num, HF⟩
        case measure => simp [intOf]; omega
    · obtain rfl : k = l.length := by omega
      have ti : decide (l.length < l.length) = false := decide_eq_false (by omega)
      have HT0 := Lib.hid hT
      have HAL := Lib.hid hA
      have HCA := Lib.hid (sit_count hT.fst)
      rw [hla] at HCA
      have e1 : mb.n = ma.n := hA.n
      have e2 : mb.f = ma.f := hA.f
      have HCB : Hid (∀ n, Calls Try.prog 21 #[.pointer (some ⟨gb, 0, none⟩)] (wr.drewN n) fun e w' => e = .returned (.tuple #[.int .i64 ((l.length + extra at_ l.length : Nat) : Int), .int .i64 (ma.n : Int), .int .i64 (ma.f : Int)]) ∧ ∃ n', w' = (wr.drewN n).drewN n') := Lib.hid fun n => by
        have := sit_count (hT.snd.drewN n)
        rw [e1, e2, hlb] at this
        exact this
      have hex : extra at_ l.length ≤ 1 := hex
      have hcase : (0 ≤ at_ ∧ at_ < (l.length : Int) ∧ extra at_ l.length = 1) ∨ ((at_ < 0 ∨ (l.length : Int) ≤ at_) ∧ extra at_ l.length = 0) := by
        unfold extra
        by_cases h1 : 0 ≤ at_ ∧ at_ < (l.length : Int)
        · rw [if_pos h1]; exact .inl ⟨h1.1, h1.2, rfl⟩
        · rw [if_neg h1]; exact .inr ⟨by omega, rfl⟩
      have HCASE := Lib.hid hcase
      generalize extra at_ l.length = q at *
      clear hT hA hla hlb e1 e2 hex hcase hD hlt
      go_wp2_with fail
      refine HCA.out.mono ?_
      rintro e w4 ⟨rfl, n4, rfl⟩
      go_wp2_with fail
      refine (HCB.out n4).mono ?_
      rintro e w5 ⟨rfl, n5, rfl⟩
      have HT5 : Hid (Two w ga ma gb mb ((wr.drewN n4).drewN n5)) := (HT0.out.drewN n4).drewN n5
      generalize World.drewN (World.drewN wr n4) n5 = w5 at *
      clear HCA HCB HT0
      rcases HCASE.out with ⟨g1, g2, rfl⟩ | ⟨g1 | g1, rfl⟩
      · have t3 : decide (0 ≤ at_) = true := decide_eq_true g1
        have t4 : decide (at_ < (l.length : Int)) = true := decide_eq_true g2
        have t5 : (((l.length + 1 : Nat) : Int) == (l.length : Int) + 1) = true := by rw [beq_iff_eq]; omega
        clear g1 g2 HCASE ti
        go_wp2_with fail
        refine (sit_sum HT5.out.fst).mono ?_
        rintro e w6 ⟨rfl, rfl⟩
        go_wp2_with fail
        refine (sit_sum HT5.out.snd).mono ?_
        rintro e w6 ⟨rfl, rfl⟩
        go_wp2_with fail
        refine (same_yes HAL.out.s _).mono ?_
        rintro e w6 ⟨rfl, rfl⟩
        go_wp2_with fail
        refine (sit_mean HT5.out.fst).mono ?_
        rintro e w6 ⟨⟨r, rfl, hr⟩, n6, rfl⟩
        have HR := Lib.hid hr
        have HT6 : Hid (Two w ga ma gb mb (w5.drewN n6)) := HT5.out.drewN n6
        clear hr HT5
        generalize World.drewN w5 n6 = w6 at *
        go_wp2_with fail
        refine (sit_mean HT6.out.snd).mono ?_
        rintro e w7 ⟨⟨r2, rfl, hr⟩, n7, rfl⟩
        have HR2 := Lib.hid hr
        have HT7 : Hid (Two w ga ma gb mb (w6.drewN n7)) := HT6.out.drewN n7
        clear hr HT6
        generalize World.drewN w6 n7 = w7 at *
        go_wp2_with fail
        refine (same_yes (HAL.out.mean HR.out HR2.out) _).mono ?_
        rintro e w8 ⟨rfl, rfl⟩
        go_wp2_with fail
        refine (sit_least HT7.out.fst).mono ?_
        rintro e w8 ⟨rfl, rfl⟩
        go_wp2_with fail
        refine (sit_least HT7.out.snd).mono ?_
        rintro e w8 ⟨rfl, rfl⟩
        go_wp2_with fail
        refine (same_yes (.inl HAL.out.le.symm) _).mono ?_
        rintro e w8 ⟨rfl, rfl⟩
        go_wp2_with fail
        refine (sit_most HT7.out.fst).mono ?_
        rintro e w8 ⟨rfl, rfl⟩
        go_wp2_with fail
        refine (sit_most HT7.out.snd).mono ?_
        rintro e w8 ⟨rfl, rfl⟩
        go_wp2_with fail
        refine (same_yes (.inl HAL.out.mo.symm) _).mono ?_
        rintro e w8 ⟨rfl, rfl⟩
        go_wp2_with fail
        refine (sit_smooth HT7.out.fst).mono ?_
        rintro e w8 ⟨rfl, rfl⟩
        go_wp2_with fail
        refine (sit_smooth HT7.out.snd).mono ?_
        rintro e w8 ⟨rfl, rfl⟩
        go_wp2_with fail
        refine (same_yes HAL.out.sm _).mono ?_
        rintro e w8 ⟨rfl, rfl⟩
        go_wp2
        go_ret
        exact ⟨rfl, HT7.out.fst.bel⟩
      · have t3 : decide (0 ≤ at_) = false := decide_eq_false (by omega)
        clear g1 HCASE ti
        go_wp2_with fail
        refine (sit_sum HT5.out.fst).mono ?_
        rintro e w6 ⟨rfl, rfl⟩
        go_wp2_with fail
        refine (sit_sum HT5.out.snd).mono ?_
        rintro e w6 ⟨rfl, rfl⟩
        go_wp2_with fail
        refine (same_yes HAL.out.s _).mono ?_
        rintro e w6 ⟨rfl, rfl⟩
        go_wp2_with fail
        refine (sit_mean HT5.out.fst).mono ?_
        rintro e w6 ⟨⟨r, rfl, hr⟩, n6, rfl⟩
        have HR := Lib.hid hr
        have HT6 : Hid (Two w ga ma gb mb (w5.drewN n6)) := HT5.out.drewN n6
        clear hr HT5
        generalize World.drewN w5 n6 = w6 at *
        go_wp2_with fail
        refine (sit_mean HT6.out.snd).mono ?_
        rintro e w7 ⟨⟨r2, rfl, hr⟩, n7, rfl⟩
        have HR2 := Lib.hid hr
        have HT7 : Hid (Two w ga ma gb mb (w6.drewN n7)) := HT6.out.drewN n7
        clear hr HT6
        generalize World.drewN w6 n7 = w7 at *
        go_wp2_with fail
        refine (same_yes (HAL.out.mean HR.out HR2.out) _).mono ?_
        rintro e w8 ⟨rfl, rfl⟩
        go_wp2_with fail
        refine (sit_least HT7.out.fst).mono ?_
        rintro e w8 ⟨rfl, rfl⟩
        go_wp2_with fail
        refine (sit_least HT7.out.snd).mono ?_
        rintro e w8 ⟨rfl, rfl⟩
        go_wp2_with fail
        refine (same_yes (.inl HAL.out.le.symm) _).mono ?_
        rintro e w8 ⟨rfl, rfl⟩
        go_wp2_with fail
        refine (sit_most HT7.out.fst).mono ?_
        rintro e w8 ⟨rfl, rfl⟩
        go_wp2_with fail
        refine (sit_most HT7.out.snd).mono ?_
        rintro e w8 ⟨rfl, rfl⟩
        go_wp2_with fail
        refine (same_yes (.inl HAL.out.mo.symm) _).mono ?_
        rintro e w8 ⟨rfl, rfl⟩
        go_wp2_with fail
        refine (sit_smooth HT7.out.fst).mono ?_
        rintro e w8 ⟨rfl, rfl⟩
        go_wp2_with fail
        refine (sit_smooth HT7.out.snd).mono ?_
        rintro e w8 ⟨rfl, rfl⟩
        go_wp2_with fail
        refine (same_yes HAL.out.sm _).mono ?_
        rintro e w8 ⟨rfl, rfl⟩
        go_wp2
        go_ret
        exact ⟨rfl, HT7.out.fst.bel⟩
      · by_cases g2 : 0 ≤ at_
        · have t3 : decide (0 ≤ at_) = true := decide_eq_true g2
          have t4 : decide (at_ < (l.length : Int)) = false := decide_eq_false (by omega)
          clear g1 g2 HCASE ti
          go_wp2_with fail
          refine (sit_sum HT5.out.fst).mono ?_
          rintro e w6 ⟨rfl, rfl⟩
          go_wp2_with fail
          refine (sit_sum HT5.out.snd).mono ?_
          rintro e w6 ⟨rfl, rfl⟩
          go_wp2_with fail
          refine (same_yes HAL.out.s _).mono ?_
          rintro e w6 ⟨rfl, rfl⟩
          go_wp2_with fail
          refine (sit_mean HT5.out.fst).mono ?_
          rintro e w6 ⟨⟨r, rfl, hr⟩, n6, rfl⟩
          have HR := Lib.hid hr
          have HT6 : Hid (Two w ga ma gb mb (w5.drewN n6)) := HT5.out.drewN n6
          clear hr HT5
          generalize World.drewN w5 n6 = w6 at *
          go_wp2_with fail
          refine (sit_mean HT6.out.snd).mono ?_
          rintro e w7 ⟨⟨r2, rfl, hr⟩, n7, rfl⟩
          have HR2 := Lib.hid hr
          have HT7 : Hid (Two w ga ma gb mb (w6.drewN n7)) := HT6.out.drewN n7
          clear hr HT6
          generalize World.drewN w6 n7 = w7 at *
          go_wp2_with fail
          refine (same_yes (HAL.out.mean HR.out HR2.out) _).mono ?_
          rintro e w8 ⟨rfl, rfl⟩
          go_wp2_with fail
          refine (sit_least HT7.out.fst).mono ?_
          rintro e w8 ⟨rfl, rfl⟩
          go_wp2_with fail
          refine (sit_least HT7.out.snd).mono ?_
          rintro e w8 ⟨rfl, rfl⟩
          go_wp2_with fail
          refine (same_yes (.inl HAL.out.le.symm) _).mono ?_
          rintro e w8 ⟨rfl, rfl⟩
          go_wp2_with fail
          refine (sit_most HT7.out.fst).mono ?_
          rintro e w8 ⟨rfl, rfl⟩
          go_wp2_with fail
          refine (sit_most HT7.out.snd).mono ?_
          rintro e w8 ⟨rfl, rfl⟩
          go_wp2_with fail
          refine (same_yes (.inl HAL.out.mo.symm) _).mono ?_
          rintro e w8 ⟨rfl, rfl⟩
          go_wp2_with fail
          refine (sit_smooth HT7.out.fst).mono ?_
          rintro e w8 ⟨rfl, rfl⟩
          go_wp2_with fail
          refine (sit_smooth HT7.out.snd).mono ?_
          rintro e w8 ⟨rfl, rfl⟩
          go_wp2_with fail
          refine (same_yes HAL.out.sm _).mono ?_
          rintro e w8 ⟨rfl, rfl⟩
          go_wp2
          go_ret
          exact ⟨rfl, HT7.out.fst.bel⟩
        · have t3 : decide (0 ≤ at_) = false := decide_eq_false g2
          clear g1 g2 HCASE ti
          go_wp2_with fail
          refine (sit_sum HT5.out.fst).mono ?_
          rintro e w6 ⟨rfl, rfl⟩
          go_wp2_with fail
          refine (sit_sum HT5.out.snd).mono ?_
          rintro e w6 ⟨rfl, rfl⟩
          go_wp2_with fail
          refine (same_yes HAL.out.s _).mono ?_
          rintro e w6 ⟨rfl, rfl⟩
          go_wp2_with fail
          refine (sit_mean HT5.out.fst).mono ?_
          rintro e w6 ⟨⟨r, rfl, hr⟩, n6, rfl⟩
          have HR := Lib.hid hr
          have HT6 : Hid (Two w ga ma gb mb (w5.drewN n6)) := HT5.out.drewN n6
          clear hr HT5
          generalize World.drewN w5 n6 = w6 at *
          go_wp2_with fail
          refine (sit_mean HT6.out.snd).mono ?_
          rintro e w7 ⟨⟨r2, rfl, hr⟩, n7, rfl⟩
          have HR2 := Lib.hid hr
          have HT7 : Hid (Two w ga ma gb mb (w6.drewN n7)) := HT6.out.drewN n7
          clear hr HT6
          generalize World.drewN w6 n7 = w7 at *
          go_wp2_with fail
          refine (same_yes (HAL.out.mean HR.out HR2.out) _).mono ?_
          rintro e w8 ⟨rfl, rfl⟩
          go_wp2_with fail
          refine (sit_least HT7.out.fst).mono ?_
          rintro e w8 ⟨rfl, rfl⟩
          go_wp2_with fail
          refine (sit_least HT7.out.snd).mono ?_
          rintro e w8 ⟨rfl, rfl⟩
          go_wp2_with fail
          refine (same_yes (.inl HAL.out.le.symm) _).mono ?_
          rintro e w8 ⟨rfl, rfl⟩
          go_wp2_with fail
          refine (sit_most HT7.out.fst).mono ?_
          rintro e w8 ⟨rfl, rfl⟩
          go_wp2_with fail
          refine (sit_most HT7.out.snd).mono ?_
          rintro e w8 ⟨rfl, rfl⟩
          go_wp2_with fail
          refine (same_yes (.inl HAL.out.mo.symm) _).mono ?_
          rintro e w8 ⟨rfl, rfl⟩
          go_wp2_with fail
          refine (sit_smooth HT7.out.fst).mono ?_
          rintro e w8 ⟨rfl, rfl⟩
          go_wp2_with fail
          refine (sit_smooth HT7.out.snd).mono ?_
          rintro e w8 ⟨rfl, rfl⟩
          go_wp2_with fail
          refine (same_yes HAL.out.sm _).mono ?_
          rintro e w8 ⟨rfl, rfl⟩
          go_wp2
          go_ret
          exact ⟨rfl, HT7.out.fst.bel⟩
theorem none_any (v : Value) (l : List Nat) (at_ : Int) (w : World) (hz : Flts w v l) :
    Calls Try.prog 6 #[v, .int .i64 at_] w fun e w' => e = .returned (.bool true) ∧ Below w.heap.size w w' := by
  by_cases h : 40 < l.length
  · exact none_out v l at_ w hz h
  · exact none_in v l at_ w hz (by omega)
theorem flt_of {H : Type} {enc : TypeId × Value → H} {W : World} {base : Nat} {spare : Nat → Bool} {held : Bool} (n : Nat) (cs : List Value) (y : DataW H × List MemPlace) (hl : cs.length = 1)
    (h : DataW.trod enc Try.prog W base spare held n 22 cs = some y) : ∃ a : Nat, cs = fltCells a ∧ a < B64 := by
  match cs, hl with
  | [c], _ =>
    obtain ⟨s, rfl, hs⟩ := float_of_trod Try.underlying22 h
    exact ⟨s, rfl, hs⟩
theorem none_walk {H : Type} {enc : TypeId × Value → H} {b0 : Nat} {d : DataW H} {ps : List MemPlace} (W : World) (v : Value) (hok : Value.okWide Try.prog W .any b0 36 v)
    (h : DataW.Trod enc Try.prog W 0 (fun _ => true) true 36 v d ps) (at_ : Int) (_ : (Lit.int .i64 at_).wf = true) : Calls Try.prog 6 #[v, .int .i64 at_] W fun e w' => e = .returned (.bool true) ∧ Below W.heap.size W w' := by
  obtain ⟨l, hz⟩ := open_rows (C := 1) (cells := fltCells) (fit := fun b => b < B64) Try.underlying36 (show Try.prog.cellsOf 22 = 1 by kernel_rfl) (by decide) flt_of hok h
  exact none_any v l at_ W hz
end Go.Proofs.Ytpjlplkoiedhjaa

/-
  MeterOne.
-/
import Derived.Test.YtpjlplkoiedhjaaMetP
namespace Go.Proofs.Ytpjlplkoiedhjaa
open Go.RowKit Go.Shoal

/-- One of the tests ahead holds. -/
theorem one_out (x : Nat) (n : Int) (w : World) (h : n < 1 ∨ 30 < n ∨ isN x = true) :
    Calls Try.prog 3 #[.float .f64 x, .int .i64 n] w fun e w' => e = .returned (.bool true) ∧ Below w.heap.size w w' := by
  have HA := Lib.hid (awake_any w)
  have o1 := order_self x
  by_cases h1 : n < 1
  · have t1 : decide (n < 1) = true := decide_eq_true h1
    clear h o1
    go_enter Try.func3, Try.ntmps3
    go_wp2_with fail
    refine HA.out.mono ?_
    rintro e w1 ⟨rfl, hm⟩
    have HM := Lib.hid hm.none_below
    clear hm
    go_wp2
    go_ret
    exact ⟨rfl, HM.out⟩
  have t1 : decide (n < 1) = false := decide_eq_false h1
  by_cases h2 : 30 < n
  · have t2 : decide (30 < n) = true := decide_eq_true h2
    clear h o1 h1
    go_enter Try.func3, Try.ntmps3
    go_wp2_with fail
    refine HA.out.mono ?_
    rintro e w1 ⟨rfl, hm⟩
    have HM := Lib.hid hm.none_below
    clear hm
    go_wp2
    go_ret
    exact ⟨rfl, HM.out⟩
  have t2 : decide (30 < n) = false := decide_eq_false h2
  rw [(h.resolve_left h1).resolve_left h2] at o1
  clear h h1 h2
  go_enter Try.func3, Try.ntmps3
  go_wp2_with fail
  refine HA.out.mono ?_
  rintro e w1 ⟨rfl, hm⟩
  have HM := Lib.hid hm.none_below
  clear hm
  go_wp2
  go_ret
  exact ⟨rfl, HM.out⟩
theorem order_nan {r y : Nat} (h : isN r = true) : (FloatKind.f64.format.order r y != some Ordering.eq) = true := by
  show (Ieee.double.order r y != some Ordering.eq) = true
  rw [order_none (.inl h)]; rfl
theorem one_fin {x r : Nat} (h : Arith .sub x x r) (hn : isN x = false) (hr : (FloatKind.f64.format.order r 0 != some Ordering.eq) = false) : isF x := by
  refine isF_of hn ?_
  cases hi : isI x
  · rfl
  · rw [order_nan (sub_self_nan h hi)] at hr; cases hr
theorem order_true {a x : Nat} (ha : isF a) (hx : isF x) (h : valI a = valI x) : (FloatKind.f64.format.order a x == some Ordering.eq) = true := by
  rw [order_val ha.num hx.num]; exact decide_eq_true h
set_option maxRecDepth 100000 in
set_option maxHeartbeats 4000000 in
theorem one_in (x : Nat) (n : Int) (w : World) (hb : x < B64) (h1 : 1 ≤ n) (h2 : n ≤ 30) (hn : isN x = false) :
    Calls Try.prog 3 #[.float .f64 x, .int .i64 n] w fun e w' => e = .returned (.bool true) ∧ Below w.heap.size w w' := by
  obtain ⟨N, rfl⟩ : ∃ N : Nat, n = N := ⟨n.toNat, by omega⟩
  have HA := Lib.hid (awake_any w)
  have o1 := order_self x
  rw [hn] at o1
  have t1 : decide ((N : Int) < 1) = false := decide_eq_false (by omega)
  have t2 : decide (30 < (N : Int)) = false := decide_eq_false (by omega)
  have HN := Lib.hid hn
  have HB : Hid (x < B64) := hb
  clear hn hb
  go_enter Try.func3, Try.ntmps3
  go_wp2_with fail
  refine HA.out.mono ?_
  rintro e w1 ⟨rfl, hm⟩
  have HM0 := Lib.hid hm.none_below
  clear hm HA
  obtain ⟨r, kk, hrun, har⟩ := arith_run (P := Try.prog) .sub (.inr (.inl rfl)) 22 x x w1
  have HAR := Lib.hid har
  have HM : Hid (Below w.heap.size w (w1.drewN kk)) := ⟨HM0.out.os, HM0.out.tape, HM0.out.output, HM0.out.size, HM0.out.block⟩
  clear har HM0
  cases t4 : (FloatKind.f64.format.order r 0 != some Ordering.eq)
  case true =>
    go_wp2
    go_ret
    exact ⟨rfl, HM.out⟩
  have HF : Hid (isF x) := Lib.hid (one_fin HAR.out HN.out t4)
  clear HAR
  cases t5 : (FloatKind.f64.format.order x 6103021453049119613 == some Ordering.gt)
  case true =>
    go_wp2
    go_ret
    exact ⟨rfl, HM.out⟩
  cases t6 : (FloatKind.f64.format.order x 15326393489903895421 == some Ordering.lt)
  case true =>
    go_wp2
    go_ret
    exact ⟨rfl, HM.out⟩
  go_wp2_with fail
  refine (new_any _).mono ?_
  intro e w3 hn
  have HT : Hid (Sit w (w1.drewN kk).heap.size newMt w3) := (Sit.new hn HM.out).2
  obtain ⟨rfl, -, -⟩ := hn
  clear hrun t4 t5 t6 o1 HM
  generalize (w1.drewN kk).heap.size = g at *
  go_wp2
  go_loopw [6] (fun i wr => ∃ k : Nat, k ≤ N ∧ i = .int .i64 k ∧ Hid (∃ m, Sit w g m wr ∧ OneAt x k m)) (fun i _ => N - (intOf i).toNat)
  case atStart => exact ⟨0, Nat.zero_le _, rfl, ⟨_, HT.out, OneAt.new x⟩⟩
  case round =>
    obtain ⟨k, hk, rfl, hD⟩ := hrel
    obtain ⟨m, hS, hO⟩ := hD.out
    have HS := Lib.hid hS
    have HO := Lib.hid hO
    clear hS hO hD
    by_cases hlt : k < N
    · have tk : decide (k < N) = true := decide_eq_true hlt
      have HAD := Lib.hid (sit_add HS.out HB.out (by have := HO.out.len; omega))
      go_wp2_with fail
      refine HAD.out.mono ?_
      rintro e w4 ⟨rfl, m', ha, hS⟩
      have HE : Hid (∃ m, Sit w g m w4 ∧ OneAt x (k + 1) m) := ⟨m', hS, HO.out.step ha HF.out HB.out⟩
      clear ha hS HAD
      go_wp2
      go_roundw
      case rel => exact ⟨k + 1, by omega, by go_num, HE⟩
      case measure => simp [intOf]; omega
    · obtain rfl : k = N := by omega
      have ti : decide (k < k) = false := decide_eq_false (by omega)
      obtain ⟨s1, s2, s3, s4⟩ := HO.out.some_ (by omega)
      have HLE := sit_least HS.out
      rw [s1] at HLE
      have HLE := Lib.hid HLE
      have HMO := sit_most HS.out
      rw [s2] at HMO
      have HMO := Lib.hid HMO
      have t7 := order_true s3 HF.out s4
      have HRK : Hid (Calls Try.prog 15 #[.pointer (some ⟨g, 0, none⟩), .float .f64 x] wr fun e w' => e = .returned (.int .i64 0) ∧ ∃ n, w' = wr.drewN n) := by
        have := sit_rank HS.out x HB.out (by have := HO.out.len; omega)
        rw [HO.out.rank] at this
        exact this
      have HSM := Lib.hid (sit_smooth HS.out)
      clear s1 s2 s3 s4 hlt
      generalize hs : m.sm = s at *
      clear hs
      go_wp2_with fail
      refine HLE.out.mono ?_
      rintro e w4 ⟨rfl, rfl⟩
      go_wp2_with fail
      refine (same_yes (.refl x) _).mono ?_
      rintro e w4 ⟨rfl, rfl⟩
      go_wp2_with fail
      refine HMO.out.mono ?_
      rintro e w4 ⟨rfl, rfl⟩
      go_wp2_with fail
      refine (same_yes (.refl x) _).mono ?_
      rintro e w4 ⟨rfl, rfl⟩
      go_wp2_with fail
      refine HSM.out.mono ?_
      rintro e w4 ⟨rfl, rfl⟩
      go_wp2_with fail
      refine HRK.out.mono ?_
      rintro e w5 ⟨rfl, n5, rfl⟩
      have HS5 : Hid (Sit w g m (wr.drewN n5)) := HS.out.drewN n5
      clear HLE HMO HSM HRK HS
      generalize World.drewN wr n5 = w5 at *
      by_cases h9 : 1 < k
      · have t8 : decide (1 < (k : Int)) = true := decide_eq_true (by omega)
        go_wp2
        go_ret
        exact ⟨rfl, HS5.out.bel⟩
      · obtain rfl : k = 1 := by omega
        have t8 : decide (1 < ((1 : Nat) : Int)) = false := by decide
        go_wp2_with fail
        refine (sit_mean HS5.out).mono ?_
        rintro e w6 ⟨⟨r6, rfl, hr⟩, n6, rfl⟩
        obtain ⟨f1, f2⟩ := HO.out.mean hr HF.out HB.out
        have t9 := order_true f1 HF.out f2
        have HS6 : Hid (Sit w g m (w5.drewN n6)) := HS5.out.drewN n6
        clear hr f1 f2
        go_wp2
        go_ret
        exact ⟨rfl, HS6.out.bel⟩
theorem one_walk (W : World) (x : Nat) (hx : (Lit.float .f64 x).wf = true) (n : Int) (_ : (Lit.int .i64 n).wf = true) : Calls Try.prog 3 #[.float .f64 x, .int .i64 n] W fun e w' => e = .returned (.bool true) ∧ Below W.heap.size W w' := by
  have hb : x < B64 := by
    have h : x < 2 ^ 64 := by simpa [Lit.wf] using hx
    exact h
  by_cases h : n < 1 ∨ 30 < n ∨ isN x = true
  · exact one_out x n W h
  · refine one_in x n W hb (by omega) (by omega) ?_
    cases hn : isN x
    · rfl
    · exact absurd (.inr (.inr hn)) h
end Go.Proofs.Ytpjlplkoiedhjaa

/-
  PastPlays, wherever.
-/
import Derived.Test.YteicceikaecfcaaPastRi
namespace Go.Proofs.Yteicceikaecfcaa
open Go.RowKit Go.Shoal Go.Maps

set_option maxRecDepth 100000 in
set_option maxHeartbeats 4000000 in
theorem plays_out (n : Int) (v : Value) (l : List ActP) (w : World) (hz : ActsP w v l) (h : ¬ (1 ≤ n ∧ n ≤ 16 ∧ l.length ≤ 40)) :
    Calls Try.prog 7 #[.int .i64 n, v] w fun e w' => e = .returned (.bool true) ∧ Below w.heap.size w w' := by
  obtain ⟨A, c, rfl, hlm, _, _⟩ := hz
  unfold maxLen at hlm
  have HA := Lib.hid (awake_any w)
  by_cases hn : 1 ≤ n ∧ n ≤ 16
  · obtain ⟨m, rfl⟩ : ∃ m : Nat, n = m := ⟨n.toNat, by omega⟩
    have tl : decide (40 < (l.length : Int)) = true := decide_eq_true (by omega)
    have t1 : decide ((m : Int) < 1) = false := decide_eq_false (by omega)
    have t2 : decide (16 < (m : Int)) = false := decide_eq_false (by omega)
    have HNew : Hid (∀ w, Calls Try.prog 9 #[.int .i64 (m : Int)] w fun e w' => ∃ B kB cB tB hB kb, e = .returned (.tuple #[.pointer (some ⟨B, 0, none⟩), .int .i64 0]) ∧ Lives w B (Pa.born m kB cB tB hB kb) w') := fun w => lives_new m w (by omega) (by omega)
    clear h hn
    go_enter Try.func7, Try.ntmps7
    go_wp2_with fail
    refine HA.out.mono ?_
    rintro e w1 ⟨rfl, hb⟩
    have HB1 := Lib.hid hb
    clear hb HA
    go_wp2_with fail
    refine (HNew.out _).mono ?_
    rintro e w2 ⟨B, kB, cB, tB, hB, kb, rfl, hL⟩
    have HE := Lib.hid (hL.base HB1.out).low
    clear hL HNew HB1
    go_wp2
    go_ret
    exact ⟨rfl, HE.out⟩
  · have HNew : Hid (∀ w, Calls Try.prog 9 #[.int .i64 n] w fun e w' => e = .returned (.tuple #[.pointer none, .int .i64 1]) ∧ w = w') := fun w => new_past_no n w (by omega)
    by_cases h1 : n < 1
    · have t1 : decide (n < 1) = true := decide_eq_true h1
      clear h hn
      go_enter Try.func7, Try.ntmps7
      go_wp2_with fail
      refine HA.out.mono ?_
      rintro e w1 ⟨rfl, hb⟩
      have HB1 := Lib.hid hb
      clear hb HA
      go_wp2_with fail
      refine (HNew.out _).mono ?_
      rintro e w2 ⟨rfl, rfl⟩
      go_wp2
      go_ret
      exact ⟨rfl, HB1.out⟩
    · have t1 : decide (n < 1) = false := decide_eq_false h1
      have t2 : decide (16 < n) = true := decide_eq_true (by omega)
      clear h hn
      go_enter Try.func7, Try.ntmps7
      go_wp2_with fail
      refine HA.out.mono ?_
      rintro e w1 ⟨rfl, hb⟩
      have HB1 := Lib.hid hb
      clear hb HA
      go_wp2_with fail
      refine (HNew.out _).mono ?_
      rintro e w2 ⟨rfl, rfl⟩
      go_wp2
      go_ret
      exact ⟨rfl, HB1.out⟩
theorem plays_walk {H : Type} {enc : TypeId × Value → H} {b0 : Nat} {d : DataW H} {ps : List MemPlace} (W : World) (n : Int) (_ : (Lit.int .i64 n).wf = true) (v : Value) (hok : Value.okWide Try.prog W .any b0 22 v)
    (h : DataW.Trod enc Try.prog W 0 (fun _ => true) true 22 v d ps) : Calls Try.prog 7 #[.int .i64 n, v] W fun e w' => e = .returned (.bool true) ∧ Below W.heap.size W w' := by
  obtain ⟨l, hz⟩ := open_rows (C := 4) (cells := ActP.cells) (fit := ActP.fit) Try.underlying22 (show Try.prog.cellsOf 32 = 4 by kernel_rfl) (by decide) actp_of hok h
  by_cases hc : 1 ≤ n ∧ n ≤ 16 ∧ l.length ≤ 40
  · obtain ⟨m, rfl⟩ : ∃ m : Nat, n = m := ⟨n.toNat, by omega⟩
    exact plays_in m v l W hz (by omega) (by omega) hc.2.2
  · exact plays_out n v l W hz hc
end Go.Proofs.Yteicceikaecfcaa

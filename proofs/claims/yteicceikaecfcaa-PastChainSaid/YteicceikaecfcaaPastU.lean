/-
  PastChain, wherever.
-/
import Derived.Test.YteicceikaecfcaaPastT
namespace Go.Proofs.Yteicceikaecfcaa
open Go.RowKit Go.Shoal Go.Maps

set_option maxRecDepth 100000 in
set_option maxHeartbeats 1000000 in
theorem chain_out (n many : Int) (w : World) (h : ¬ (3 ≤ n ∧ n ≤ 8 ∧ 1 ≤ many ∧ many ≤ 12)) :
    Calls Try.prog 4 #[.int .i64 n, .int .i64 many] w fun e w' => e = .returned (.bool true) ∧ Below w.heap.size w w' := by
  have HA := Lib.hid (awake_any w)
  have key : (n < 3) ∨ (¬ n < 3 ∧ 8 < n) ∨ (¬ n < 3 ∧ ¬ 8 < n ∧ many < 1) ∨ (¬ n < 3 ∧ ¬ 8 < n ∧ ¬ many < 1 ∧ 12 < many) := by omega
  clear h
  rcases key with k1 | ⟨k1, k2⟩ | ⟨k1, k2, k3⟩ | ⟨k1, k2, k3, k4⟩
  all_goals
    go_enter Try.func4, Try.ntmps4
    go_wp2_with fail
    refine HA.out.mono ?_
    rintro e w1 ⟨rfl, hb⟩
    have HB1 := Lib.hid hb
    clear hb HA
    go_wp2
    go_ret
    exact ⟨rfl, HB1.out⟩
theorem pchain_walk (W : World) (n : Int) (_ : (Lit.int .i64 n).wf = true) (many : Int) (_ : (Lit.int .i64 many).wf = true) :
    Calls Try.prog 4 #[.int .i64 n, .int .i64 many] W fun e w' => e = .returned (.bool true) ∧ Below W.heap.size W w' := by
  by_cases hc : 3 ≤ n ∧ n ≤ 8 ∧ 1 ≤ many ∧ many ≤ 12
  · obtain ⟨last, rfl⟩ : ∃ m : Nat, n = (m : Int) + 1 := ⟨(n - 1).toNat, by omega⟩
    obtain ⟨m, rfl⟩ : ∃ m : Nat, many = m := ⟨many.toNat, by omega⟩
    exact chain_in last m W (by omega) (by omega) (by omega) (by omega)
  · exact chain_out n many W hc
end Go.Proofs.Yteicceikaecfcaa

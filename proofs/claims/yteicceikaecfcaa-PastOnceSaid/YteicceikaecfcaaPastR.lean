/-
  PastOnce, wherever.
-/
import Derived.Test.YteicceikaecfcaaPastQ
namespace Go.Proofs.Yteicceikaecfcaa
open Go.RowKit Go.Shoal Go.Maps

set_option maxRecDepth 100000 in
set_option maxHeartbeats 1000000 in
theorem once_out (n : Int) (t : Int) (v : Value) (zs : List Int) (w : World) (hz : NumsIn .i64 w v zs) (h : ¬ (2 ≤ n ∧ n ≤ 10 ∧ zs.length ≤ 30)) :
    Calls Try.prog 5 #[.int .i64 n, .int .u64 t, v] w fun e w' => e = .returned (.bool true) ∧ Below w.heap.size w w' := by
  obtain ⟨A, c, rfl, hlm, _⟩ := hz
  unfold maxLen at hlm
  have HA := Lib.hid (awake_any w)
  by_cases h1 : n < 2
  · clear h
    go_enter Try.func5, Try.ntmps5
    go_wp2_with fail
    refine HA.out.mono ?_
    rintro e w1 ⟨rfl, hb⟩
    have HB1 := Lib.hid hb
    clear hb HA
    go_wp2
    go_ret
    exact ⟨rfl, HB1.out⟩
  by_cases h2 : 10 < n
  · clear h
    go_enter Try.func5, Try.ntmps5
    go_wp2_with fail
    refine HA.out.mono ?_
    rintro e w1 ⟨rfl, hb⟩
    have HB1 := Lib.hid hb
    clear hb HA
    go_wp2
    go_ret
    exact ⟨rfl, HB1.out⟩
  have t3 : decide (30 < (zs.length : Int)) = true := decide_eq_true (by omega)
  clear h
  go_enter Try.func5, Try.ntmps5
  go_wp2_with fail
  refine HA.out.mono ?_
  rintro e w1 ⟨rfl, hb⟩
  have HB1 := Lib.hid hb
  clear hb HA
  go_wp2
  go_ret
  exact ⟨rfl, HB1.out⟩
theorem ponce_walk {H : Type} {enc : TypeId × Value → H} {b0 : Nat} {d : DataW H} {ps : List MemPlace} (W : World) (n : Int) (_ : (Lit.int .i64 n).wf = true) (t : Int) (ht : (Lit.int .u64 t).wf = true) (v : Value) (hok : Value.okWide Try.prog W .any b0 44 v)
    (h : DataW.Trod enc Try.prog W 0 (fun _ => true) true 44 v d ps) : Calls Try.prog 5 #[.int .i64 n, .int .u64 t, v] W fun e w' => e = .returned (.bool true) ∧ Below W.heap.size W w' := by
  obtain ⟨zs, hz⟩ := open_nums Try.underlying44 Try.underlying3 (show Try.prog.cellsOf 3 = 1 by kernel_rfl) hok h
  by_cases hc : 2 ≤ n ∧ n ≤ 10 ∧ zs.length ≤ 30
  · have hw := wf_u64 ht
    obtain ⟨m, rfl⟩ : ∃ m : Nat, n = m := ⟨n.toNat, by omega⟩
    obtain ⟨u, rfl⟩ : ∃ u : Nat, t = u := ⟨t.toNat, by omega⟩
    exact once_in m u v zs W hz (by omega) (by omega) (by omega) hc.2.2
  · exact once_out n t v zs W hz hc
end Go.Proofs.Yteicceikaecfcaa

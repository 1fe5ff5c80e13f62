/-
  Awake.
-/
import Derived.Test.YtpjlplkoiedhjaaMetI
namespace Go.Proofs.Ytpjlplkoiedhjaa
open Go.RowKit Go.Shoal

theorem arith_is {op : BinOp} {x y q r : Nat} (ha : Arith op x y r) (h : floatBits op .f64 x y = some q) : r = q := by
  rcases ha.2 with h1 | ⟨h1, _⟩
  · rw [h] at h1; exact (Option.some.inj h1).symm
  · rw [h] at h1; cases h1
def oneW : Nat := 4607182418800017408
def threeW : Nat := 4613937818241073152
theorem wake_one {m : Mt} (h : AddTo newMt oneW m) : m.ks = [fkey oneW] ∧ m.n = 1 ∧ m.f = 1 ∧ m.s = oneW ∧ m.sm = oneW := by
  obtain ⟨hk, ⟨h1, _⟩ | ⟨_, e1, e2, _, _, ⟨h1, _⟩ | ⟨_, e5, ⟨_, e6⟩ | ⟨h1, _⟩⟩⟩⟩ := h
  · exact absurd h1 (by decide)
  · exact absurd h1 (by decide)
  · exact ⟨hk, e1, e5, arith_is e2 (by kernel_rfl), e6⟩
  · exact absurd rfl h1
theorem wake_two {m m' : Mt} (h : AddTo newMt oneW m) (h' : AddTo m threeW m') : rank m'.ks (fkey 4611686018427387904) = 1 ∧ m'.n = 2 ∧ m'.s = 4616189618054758400 ∧ m'.sm = 4608308318706860032 := by
  obtain ⟨k1, k2, k3, k4, k5⟩ := wake_one h
  obtain ⟨hk, ⟨h1, _⟩ | ⟨_, e1, e2, _, _, ⟨h1, _⟩ | ⟨_, e5, ⟨h1, e6⟩ | ⟨h1, d, q, hd, hq, hs⟩⟩⟩⟩ := h'
  · exact absurd h1 (by decide)
  · exact absurd h1 (by decide)
  · omega
  · rw [k4] at e2
    rw [k5] at hd hs
    have d1 := arith_is hd (q := 4611686018427387904) (by kernel_rfl)
    rw [d1] at hq
    have q1 := arith_is hq (q := 4598175219545276416) (by kernel_rfl)
    rw [q1] at hs
    refine ⟨by rw [hk, k1]; decide, by omega, arith_is e2 (by kernel_rfl), arith_is hs (by kernel_rfl)⟩
theorem wake_mean {m : Mt} {r : Nat} (h : MeanOf m r) (hn : m.n = 2) (hs : m.s = 4616189618054758400) : r = 4611686018427387904 := by
  rcases h with ⟨h, _⟩ | ⟨_, h⟩
  · omega
  · rw [hn, hs] at h
    exact arith_is h (by kernel_rfl)
end Go.Proofs.Ytpjlplkoiedhjaa

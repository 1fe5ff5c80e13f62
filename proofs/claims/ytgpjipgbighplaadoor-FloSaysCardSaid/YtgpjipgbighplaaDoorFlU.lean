/-
  The reference's Parse on any text; FloSays.
-/
import Derived.Test.YtgpjipgbighplaaDoorFlT
namespace Go.Proofs.YtgpjipgbighplaaDoor
open Go.RowKit Go.Shoal

theorem rparse_nan (w : World) : Calls Tryd.prog 26 #[.string ⟨#[110, 97, 110]⟩] w fun e w' => e = .returned (pairF (nanW, true)) ∧ w = w' := by
  have H1 := Lib.hid (nan_any w)
  go_enter Tryd.func26, Tryd.ntmps26
  go_wp2_with fail
  refine H1.out.mono ?_
  rintro e w1 ⟨rfl, rfl⟩
  go_wp2
  go_ret2
  exact ⟨rfl, rfl⟩
theorem rparse_inf (w : World) : Calls Tryd.prog 26 #[.string ⟨#[105, 110, 102]⟩] w fun e w' => e = .returned (pairF (INF, true)) ∧ w = w' := by
  have H1 := Lib.hid (inf_any w)
  go_enter Tryd.func26, Tryd.ntmps26
  go_wp2_with fail
  refine H1.out.mono ?_
  rintro e w1 ⟨rfl, rfl⟩
  go_wp2
  go_ret2
  exact ⟨rfl, rfl⟩
theorem rparse_minf (w : World) : Calls Tryd.prog 26 #[.string ⟨#[45, 105, 110, 102]⟩] w fun e w' => e = .returned (pairF (INF + B63, true)) ∧ w = w' := by
  have H1 := Lib.hid (minf_any w)
  go_enter Tryd.func26, Tryd.ntmps26
  go_wp2_with fail
  refine H1.out.mono ?_
  rintro e w1 ⟨rfl, rfl⟩
  go_wp2
  go_ret2
  exact ⟨rfl, rfl⟩
theorem rparse_long (s : List UInt8) (hl : s.length ≠ 16) (e1 : (s == [110, 97, 110]) = false) (e2 : (s == [105, 110, 102]) = false) (e3 : (s == [45, 105, 110, 102]) = false) (w : World) :
    Calls Tryd.prog 26 #[.string ⟨s.toArray⟩] w fun e w' => e = .returned (pairF (0, false)) ∧ w = w' := by
  have t1 : ((s.length : Int) == 16) = false := by rw [beq_eq_false_iff_ne]; omega
  go_enter Tryd.func26, Tryd.ntmps26
  go_wp2
  go_ret2
  exact ⟨rfl, rfl⟩
theorem rparse_any (s : List UInt8) (w : World) : Calls Tryd.prog 26 #[.string ⟨s.toArray⟩] w fun e w' => e = .returned (pairF (parseW s)) ∧ w = w' := by
  unfold parseW
  by_cases h1 : s = [110, 97, 110]
  · subst h1
    rw [if_pos rfl]
    exact rparse_nan w
  by_cases h2 : s = [105, 110, 102]
  · subst h2
    rw [if_neg h1, if_pos rfl]
    exact rparse_inf w
  by_cases h3 : s = [45, 105, 110, 102]
  · subst h3
    rw [if_neg h1, if_neg h2, if_pos rfl]
    exact rparse_minf w
  rw [if_neg h1, if_neg h2, if_neg h3]
  by_cases h16 : s.length = 16
  · rw [if_pos h16]
    exact rparse_16 s h16 w
  · rw [if_neg h16]
    exact rparse_long s h16 (beq_eq_false_iff_ne.2 h1) (beq_eq_false_iff_ne.2 h2) (beq_eq_false_iff_ne.2 h3) w
end Go.Proofs.YtgpjipgbighplaaDoor

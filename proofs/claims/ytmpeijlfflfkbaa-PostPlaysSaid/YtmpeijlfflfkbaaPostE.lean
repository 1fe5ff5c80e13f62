/-
  Package post: Any.
-/
import Derived.Test.YtmpeijlfflfkbaaPostD
namespace Go.Proofs.Ytmpeijlfflfkbaa
open Go.RowKit Go.Shoal Go.Conc

/-- While Any looks. -/
def AnyRelI (base p n room : Nat) (ls : Nat → List Value) (w : World) (k : Nat) (wr : World) : Prop := (∀ j, j < k → ls j = []) ∧ BoxesI base wr p n room ls ∧ Below base w wr
/-- What Any gives. -/
def AnyEndI (base p n room : Nat) (ls : Nat → List Value) (w : World) (e : Ending) (w' : World) : Prop :=
  (∃ k y l, k < n ∧ (∀ j, j < k → ls j = []) ∧ ls k = y :: l ∧ e = .returned (.tuple #[.int .i64 (k : Int), y, .bool true]) ∧ BoxesI base w' p n room (setLs ls k l) ∧ Below base w w') ∨
  ((∀ j, j < n → ls j = []) ∧ e = .returned (.tuple #[.int .i64 0, .int .i64 0, .bool false]) ∧ BoxesI base w' p n room ls ∧ Below base w w')
theorem canGet_cons {n : Nat} {ls : Nat → List Value} {k : Nat} {y : Value} {l : List Value} (hk : k < n) (h : ls k = y :: l) : canGet n ls (k : Int) = true := by
  unfold canGet
  rw [Int.toNat_natCast, h]
  simp; omega
theorem canGet_nil {n : Nat} {ls : Nat → List Value} {k : Nat} (h : ls k = []) : canGet n ls (k : Int) = false := by
  unfold canGet
  rw [Int.toNat_natCast, h]
  simp
theorem getc_I (base p n room : Nat) (ls : Nat → List Value) (k : Nat) (y : Value) (l : List Value) (w : World) (h : BoxesI base w p n room ls) (hk : k < n) (hl : ls k = y :: l) :
    Calls Try.prog 12 #[.pointer (some ⟨p, 0, none⟩), .int .i64 k] w fun e w' => e = .returned (.tuple #[y, .bool true]) ∧ BoxesI base w' p n room (setLs ls k l) ∧ Below base w w' := by
  refine (get_I base p n room ls k w h).mono fun e w' ⟨h1, h2, h3⟩ => ?_
  rw [canGet_cons hk hl, if_pos rfl, Int.toNat_natCast, hl] at h1
  unfold getLs at h2
  rw [canGet_cons hk hl, if_pos rfl, Int.toNat_natCast, hl] at h2
  exact ⟨h1, h2, h3⟩
theorem getn_I (base p n room : Nat) (ls : Nat → List Value) (k : Nat) (w : World) (h : BoxesI base w p n room ls) (hl : ls k = []) :
    Calls Try.prog 12 #[.pointer (some ⟨p, 0, none⟩), .int .i64 k] w fun e w' => e = .returned (.tuple #[.int .i64 0, .bool false]) ∧ BoxesI base w' p n room ls ∧ Below base w w' := by
  refine (get_I base p n room ls k w h).mono fun e w' ⟨h1, h2, h3⟩ => ?_
  rw [canGet_nil hl, if_neg (by decide)] at h1
  unfold getLs at h2
  rw [canGet_nil hl, if_neg (by decide)] at h2
  exact ⟨h1, h2, h3⟩
set_option maxHeartbeats 1000000 in
theorem any_I (base p n room : Nat) (ls : Nat → List Value) (w : World) (h : BoxesI base w p n room ls) (hn : n ≤ 16) :
    Calls Try.prog 10 #[.pointer (some ⟨p, 0, none⟩)] w (AnyEndI base p n room ls w) := by
  have H0 : Hid (AnyRelI base p n room ls w 0 w) := ⟨fun j hj => by omega, h, Below.refl _ _⟩
  obtain ⟨g, c, h0, h1, h2, h3, h4, h5⟩ := h
  have c0 := (blk_cell h2 0).trans rfl
  clear h0 h1 h2 h3 h4 h5
  go_enter Try.func10, Try.ntmps10
  go_wp2
  go_loopw [3, 13] (fun v i wr => ∃ k : Nat, k ≤ n ∧ v = .int .i64 0 ∧ i = .int .i64 k ∧ Hid (AnyRelI base p n room ls w k wr)) (fun _ i _ => n - (intOf i).toNat)
  case atStart => exact ⟨0, Nat.zero_le _, rfl, rfl, H0⟩
  case round =>
    obtain ⟨k, hk, rfl, rfl, hR⟩ := hrel
    by_cases hlt : k < n
    · cases hl : ls k with
      | nil =>
        have HC := Lib.hid (getn_I base p n room ls k wr hR.out.2.1 hl)
        have HL := Lib.hid hl
        clear hl
        go_wp2_with fail
        refine HC.out.mono ?_
        rintro e w1 ⟨rfl, hb1, hb2⟩
        have HR : Hid (AnyRelI base p n room ls w (k + 1) w1) := ⟨fun j hj => by
          by_cases hjk : j = k
          · rw [hjk]; exact HL.out
          · exact hR.out.1 j (by omega), hb1, hR.out.2.2.trans hb2⟩
        clear hb1 hb2
        go_wp2
        go_roundw
        case rel => exact ⟨k + 1, by omega, rfl, by go_num, HR⟩
        case measure => simp [intOf]; omega
      | cons y l =>
        have HC := Lib.hid (getc_I base p n room ls k y l wr hR.out.2.1 hlt hl)
        have HL := Lib.hid hl
        clear hl
        go_wp2_with fail
        refine HC.out.mono ?_
        rintro e w1 ⟨rfl, hb1, hb2⟩
        have HE : Hid (AnyEndI base p n room ls w (.returned (.tuple #[.int .i64 (k : Int), y, .bool true])) w1) :=
          .inl ⟨k, y, l, hlt, hR.out.1, HL.out, rfl, hb1, hR.out.2.2.trans hb2⟩
        clear hb1 hb2
        go_wp2
        go_ret3
        exact HE.out
    · obtain rfl : k = n := by omega
      have hi : decide ((k : Int) < k) = false := decide_eq_false (by omega)
      have HE : Hid (AnyEndI base p k room ls w (.returned (.tuple #[.int .i64 0, .int .i64 0, .bool false])) wr) := .inr ⟨hR.out.1, rfl, hR.out.2.1, hR.out.2.2⟩
      go_wp2
      go_ret3
      exact HE.out

/-- While Any looks. -/
def AnyRelS (base p n room : Nat) (ls : Nat → List Value) (w : World) (k : Nat) (wr : World) : Prop := (∀ j, j < k → ls j = []) ∧ BoxesS base wr p n room ls ∧ Below base w wr
/-- What Any gives. -/
def AnyEndS (base p n room : Nat) (ls : Nat → List Value) (w : World) (e : Ending) (w' : World) : Prop :=
  (∃ k y l, k < n ∧ (∀ j, j < k → ls j = []) ∧ ls k = y :: l ∧ e = .returned (.tuple #[.int .i64 (k : Int), y, .bool true]) ∧ BoxesS base w' p n room (setLs ls k l) ∧ Below base w w') ∨
  ((∀ j, j < n → ls j = []) ∧ e = .returned (.tuple #[.int .i64 0, .string ⟨#[]⟩, .bool false]) ∧ BoxesS base w' p n room ls ∧ Below base w w')
theorem getc_S (base p n room : Nat) (ls : Nat → List Value) (k : Nat) (y : Value) (l : List Value) (w : World) (h : BoxesS base w p n room ls) (hk : k < n) (hl : ls k = y :: l) :
    Calls Try.prog 15 #[.pointer (some ⟨p, 0, none⟩), .int .i64 k] w fun e w' => e = .returned (.tuple #[y, .bool true]) ∧ BoxesS base w' p n room (setLs ls k l) ∧ Below base w w' := by
  refine (get_S base p n room ls k w h).mono fun e w' ⟨h1, h2, h3⟩ => ?_
  rw [canGet_cons hk hl, if_pos rfl, Int.toNat_natCast, hl] at h1
  unfold getLs at h2
  rw [canGet_cons hk hl, if_pos rfl, Int.toNat_natCast, hl] at h2
  exact ⟨h1, h2, h3⟩
theorem getn_S (base p n room : Nat) (ls : Nat → List Value) (k : Nat) (w : World) (h : BoxesS base w p n room ls) (hl : ls k = []) :
    Calls Try.prog 15 #[.pointer (some ⟨p, 0, none⟩), .int .i64 k] w fun e w' => e = .returned (.tuple #[.string ⟨#[]⟩, .bool false]) ∧ BoxesS base w' p n room ls ∧ Below base w w' := by
  refine (get_S base p n room ls k w h).mono fun e w' ⟨h1, h2, h3⟩ => ?_
  rw [canGet_nil hl, if_neg (by decide)] at h1
  unfold getLs at h2
  rw [canGet_nil hl, if_neg (by decide)] at h2
  exact ⟨h1, h2, h3⟩
set_option maxHeartbeats 1000000 in
theorem any_S (base p n room : Nat) (ls : Nat → List Value) (w : World) (h : BoxesS base w p n room ls) (hn : n ≤ 16) :
    Calls Try.prog 17 #[.pointer (some ⟨p, 0, none⟩)] w (AnyEndS base p n room ls w) := by
  have H0 : Hid (AnyRelS base p n room ls w 0 w) := ⟨fun j hj => by omega, h, Below.refl _ _⟩
  obtain ⟨g, c, h0, h1, h2, h3, h4, h5⟩ := h
  have c0 := (blk_cell h2 0).trans rfl
  clear h0 h1 h2 h3 h4 h5
  go_enter Try.func17, Try.ntmps17
  go_wp2
  go_loopw [3, 13] (fun v i wr => ∃ k : Nat, k ≤ n ∧ v = .string ⟨#[]⟩ ∧ i = .int .i64 k ∧ Hid (AnyRelS base p n room ls w k wr)) (fun _ i _ => n - (intOf i).toNat)
  case atStart => exact ⟨0, Nat.zero_le _, rfl, rfl, H0⟩
  case round =>
    obtain ⟨k, hk, rfl, rfl, hR⟩ := hrel
    by_cases hlt : k < n
    · cases hl : ls k with
      | nil =>
        have HC := Lib.hid (getn_S base p n room ls k wr hR.out.2.1 hl)
        have HL := Lib.hid hl
        clear hl
        go_wp2_with fail
        refine HC.out.mono ?_
        rintro e w1 ⟨rfl, hb1, hb2⟩
        have HR : Hid (AnyRelS base p n room ls w (k + 1) w1) := ⟨fun j hj => by
          by_cases hjk : j = k
          · rw [hjk]; exact HL.out
          · exact hR.out.1 j (by omega), hb1, hR.out.2.2.trans hb2⟩
        clear hb1 hb2
        go_wp2
        go_roundw
        case rel => exact ⟨k + 1, by omega, rfl, by go_num, HR⟩
        case measure => simp [intOf]; omega
      | cons y l =>
        have HC := Lib.hid (getc_S base p n room ls k y l wr hR.out.2.1 hlt hl)
        have HL := Lib.hid hl
        clear hl
        go_wp2_with fail
        refine HC.out.mono ?_
        rintro e w1 ⟨rfl, hb1, hb2⟩
        have HE : Hid (AnyEndS base p n room ls w (.returned (.tuple #[.int .i64 (k : Int), y, .bool true])) w1) :=
          .inl ⟨k, y, l, hlt, hR.out.1, HL.out, rfl, hb1, hR.out.2.2.trans hb2⟩
        clear hb1 hb2
        go_wp2
        go_ret3
        exact HE.out
    · obtain rfl : k = n := by omega
      have hi : decide ((k : Int) < k) = false := decide_eq_false (by omega)
      have HE : Hid (AnyEndS base p k room ls w (.returned (.tuple #[.int .i64 0, .string ⟨#[]⟩, .bool false])) wr) := .inr ⟨hR.out.1, rfl, hR.out.2.1, hR.out.2.2⟩
      go_wp2
      go_ret3
      exact HE.out

end Go.Proofs.Ytmpeijlfflfkbaa

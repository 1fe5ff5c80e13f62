/-
  The reference's Any, Either.
-/
import Derived.Test.YtmpeijlfflfkbaaPostN
namespace Go.Proofs.Ytmpeijlfflfkbaa
open Go.RowKit Go.Shoal Go.Conc

/-- While the reference's Any looks. -/
def RAnyRel (base W g n room : Nat) (L : Nat → List Int) (w : World) (k : Nat) (wr : World) : Prop := (∀ j, j < k → L j = []) ∧ RefP base wr W g n room L ∧ Mod (· = g) w wr
def RAnyEnd (base W g n room : Nat) (L : Nat → List Int) (w : World) (e : Ending) (w' : World) : Prop :=
  e = .returned (.tuple #[.int .i64 (anyI L n 0).1, .int .i64 (anyI L n 0).2.1, .bool (anyI L n 0).2.2.1]) ∧ RefP base w' W g n room (anyI L n 0).2.2.2 ∧ Mod (· = g) w w'
theorem canGetI_cons {n : Nat} {L : Nat → List Int} {k : Nat} {y : Int} {l : List Int} (hk : k < n) (h : L k = y :: l) : canGetI n L (k : Int) = true := by
  unfold canGetI
  rw [Int.toNat_natCast, h]
  simp; omega
theorem canGetI_nil {n : Nat} {L : Nat → List Int} {k : Nat} (h : L k = []) : canGetI n L (k : Int) = false := by
  unfold canGetI
  rw [Int.toNat_natCast, h]
  simp
theorem ref_getc (base W g n room : Nat) (L : Nat → List Int) (k : Nat) (y : Int) (l : List Int) (w : World) (h : RefP base w W g n room L) (hk : k < n) (hl : L k = y :: l) :
    Calls Try.prog 20 #[.pointer (some ⟨W, 0, none⟩), .int .i64 k] w fun e w' => e = .returned (.tuple #[.int .i64 y, .bool true]) ∧ RefP base w' W g n room (setI L k l) ∧ Mod (· = g) w w' := by
  refine (ref_get base W g n room L k w h).mono fun e w' ⟨h1, h2, h3⟩ => ?_
  unfold gotI at h1
  unfold getI at h2
  rw [canGetI_cons hk hl, if_pos rfl, Int.toNat_natCast, hl] at h1 h2
  exact ⟨h1, h2, h3⟩
theorem ref_getn (base W g n room : Nat) (L : Nat → List Int) (b : Int) (w : World) (h : RefP base w W g n room L) (hc : canGetI n L b = false) :
    Calls Try.prog 20 #[.pointer (some ⟨W, 0, none⟩), .int .i64 b] w fun e w' => e = .returned (.tuple #[.int .i64 0, .bool false]) ∧ RefP base w' W g n room L ∧ Mod (· = g) w w' := by
  refine (ref_get base W g n room L b w h).mono fun e w' ⟨h1, h2, h3⟩ => ?_
  unfold gotI at h1
  unfold getI at h2
  rw [hc, if_neg (by decide)] at h1 h2
  exact ⟨h1, h2, h3⟩
set_option maxHeartbeats 1000000 in
theorem ref_any (base W g n room : Nat) (L : Nat → List Int) (w : World) (h : RefP base w W g n room L) (hn : n ≤ 16) :
    Calls Try.prog 21 #[.pointer (some ⟨W, 0, none⟩)] w (RAnyEnd base W g n room L w) := by
  have H0 : Hid (RAnyRel base W g n room L w 0 w) := ⟨fun j hj => by omega, h, Mod.refl _ _⟩
  clear h
  go_enter Try.func21, Try.ntmps21
  go_wp2
  go_loopw [5] (fun i wr => ∃ k : Nat, k ≤ n ∧ i = .int .i64 k ∧ Hid (RAnyRel base W g n room L w k wr)) (fun i _ => n - (intOf i).toNat)
  case atStart => exact ⟨0, Nat.zero_le _, rfl, H0⟩
  case round =>
    obtain ⟨k, hk, rfl, hR⟩ := hrel
    obtain ⟨cells, _, _, h3, _⟩ := hR.out.2.1
    have c1 := (blk_cell h3 1).trans rfl
    clear h3
    by_cases hlt : k < n
    · cases hl : L k with
      | nil =>
        have HC := Lib.hid (ref_getn base W g n room L k wr hR.out.2.1 (canGetI_nil hl))
        have HL := Lib.hid hl
        clear hl
        go_wp2_with fail
        refine HC.out.mono ?_
        rintro e w1 ⟨rfl, hb1, hb2⟩
        have HR : Hid (RAnyRel base W g n room L w (k + 1) w1) := ⟨fun j hj => by
          by_cases hjk : j = k
          · rw [hjk]; exact HL.out
          · exact hR.out.1 j (by omega), hb1, hR.out.2.2.trans hb2⟩
        clear hb1 hb2 c1
        go_wp2
        go_roundw
        case rel => exact ⟨k + 1, by omega, by go_num, HR⟩
        case measure => simp [intOf]; omega
      | cons y l =>
        have HC := Lib.hid (ref_getc base W g n room L k y l wr hR.out.2.1 hlt hl)
        have HA : Hid (anyI L n 0 = ((k : Int), y, true, setI L k l)) := anyI_some hlt hR.out.1 hl
        clear hl
        go_wp2_with fail
        refine HC.out.mono ?_
        rintro e w1 ⟨rfl, hb1, hb2⟩
        have HE : Hid (RAnyEnd base W g n room L w (.returned (.tuple #[.int .i64 (k : Int), .int .i64 y, .bool true])) w1) := by
          show RAnyEnd _ _ _ _ _ _ _ _ _
          unfold RAnyEnd
          rw [HA.out]
          exact ⟨rfl, hb1, hR.out.2.2.trans hb2⟩
        clear hb1 hb2 c1
        go_wp2
        go_ret3
        exact HE.out
    · obtain rfl : k = n := by omega
      have hi : decide ((k : Int) < k) = false := decide_eq_false (by omega)
      have HE : Hid (RAnyEnd base W g k room L w (.returned (.tuple #[.int .i64 0, .int .i64 0, .bool false])) wr) := by
        show RAnyEnd _ _ _ _ _ _ _ _ _
        unfold RAnyEnd
        rw [anyI_none hR.out.1]
        exact ⟨rfl, hR.out.2.1, hR.out.2.2⟩
      go_wp2
      go_ret3
      exact HE.out
def REithEnd (base W g n room : Nat) (L : Nat → List Int) (a b : Int) (w : World) (e : Ending) (w' : World) : Prop :=
  e = .returned (.tuple #[.int .i64 (eithI n L a b).1, .int .i64 (eithI n L a b).2.1, .bool (eithI n L a b).2.2.1]) ∧ RefP base w' W g n room (eithI n L a b).2.2.2 ∧ Mod (· = g) w w'
theorem ref_gety (base W g n room : Nat) (L : Nat → List Int) (b : Int) (w : World) (h : RefP base w W g n room L) (hc : canGetI n L b = true) :
    Calls Try.prog 20 #[.pointer (some ⟨W, 0, none⟩), .int .i64 b] w fun e w' => e = .returned (.tuple #[.int .i64 (gotI n L b), .bool true]) ∧ RefP base w' W g n room (getI n L b) ∧ Mod (· = g) w w' := by
  refine (ref_get base W g n room L b w h).mono fun e w' ⟨h1, h2, h3⟩ => ?_
  rw [hc] at h1
  exact ⟨h1, h2, h3⟩
set_option maxHeartbeats 1000000 in
theorem ref_either (base W g n room : Nat) (L : Nat → List Int) (a b : Int) (w : World) (h : RefP base w W g n room L) :
    Calls Try.prog 23 #[.pointer (some ⟨W, 0, none⟩), .int .i64 a, .int .i64 b] w (REithEnd base W g n room L a b w) := by
  have H := Lib.hid h
  clear h
  by_cases ca : canGetI n L a = true
  · have HG := Lib.hid (ref_gety base W g n room L a w H.out ca)
    have HC := Lib.hid ca
    clear ca
    go_enter Try.func23, Try.ntmps23
    go_wp2_with fail
    refine HG.out.mono ?_
    rintro e w1 ⟨rfl, hb1, hb2⟩
    have HE : Hid (REithEnd base W g n room L a b w (.returned (.tuple #[.int .i64 a, .int .i64 (gotI n L a), .bool true])) w1) := by
      show REithEnd _ _ _ _ _ _ _ _ _ _ _
      unfold REithEnd eithI
      rw [if_pos HC.out]
      exact ⟨rfl, hb1, hb2⟩
    clear hb1 hb2
    go_wp2
    go_ret3
    exact HE.out
  · have ca' : canGetI n L a = false := by simpa using ca
    have HG := Lib.hid (ref_getn base W g n room L a w H.out ca')
    have HC := Lib.hid ca
    clear ca ca'
    by_cases cb : canGetI n L b = true
    · have HD := Lib.hid cb
      clear cb
      go_enter Try.func23, Try.ntmps23
      go_wp2_with fail
      refine HG.out.mono ?_
      rintro e w1 ⟨rfl, hb1, hb2⟩
      have HG2 := Lib.hid (ref_gety base W g n room L b w1 hb1 HD.out)
      have HB := Lib.hid hb2
      clear hb1 hb2
      go_wp2_with fail
      refine HG2.out.mono ?_
      rintro e w2 ⟨rfl, hb1, hb2⟩
      have HE : Hid (REithEnd base W g n room L a b w (.returned (.tuple #[.int .i64 b, .int .i64 (gotI n L b), .bool true])) w2) := by
        show REithEnd _ _ _ _ _ _ _ _ _ _ _
        unfold REithEnd eithI
        rw [if_neg HC.out, if_pos HD.out]
        exact ⟨rfl, hb1, HB.out.trans hb2⟩
      clear hb1 hb2
      go_wp2
      go_ret3
      exact HE.out
    · have HD := Lib.hid cb
      clear cb
      go_enter Try.func23, Try.ntmps23
      go_wp2_with fail
      refine HG.out.mono ?_
      rintro e w1 ⟨rfl, hb1, hb2⟩
      have HG2 := Lib.hid (ref_getn base W g n room L b w1 hb1 (by simpa using HD.out))
      have HB := Lib.hid hb2
      clear hb1 hb2
      go_wp2_with fail
      refine HG2.out.mono ?_
      rintro e w2 ⟨rfl, hb1, hb2⟩
      have HE : Hid (REithEnd base W g n room L a b w (.returned (.tuple #[.int .i64 0, .int .i64 0, .bool false])) w2) := by
        show REithEnd _ _ _ _ _ _ _ _ _ _ _
        unfold REithEnd eithI
        rw [if_neg HC.out, if_neg HD.out]
        exact ⟨rfl, hb1, HB.out.trans hb2⟩
      clear hb1 hb2
      go_wp2
      go_ret3
      exact HE.out
end Go.Proofs.Ytmpeijlfflfkbaa

/-
  flo.Show.
-/
import Derived.Test.YtgpjipgbighplaaDoorFlB
import Derived.Test.YtgpjipgbighplaaDoorFlE
import Derived.Test.YtgpjipgbighplaaDoorShelf
namespace Go.Proofs.YtgpjipgbighplaaDoor
open Go.RowKit Go.Shoal

theorem iformat_16 (u : Nat) (hu : u < B64) (w : World) (hT : Tab w) : Calls Tryd.prog 47 #[.int .u64 u, .int .i64 16] w fun e w' => e = .returned (.string ⟨(hexs u).toArray⟩) ∧ Mod (fun _ => False) w w' := by
  have HF := Lib.hid (fb_16 u hu w hT)
  clear hT hu
  go_enter Tryd.func47, Tryd.ntmps47
  go_wp2_with fail
  refine HF.out.mono ?_
  rintro e w1 ⟨rfl, hm⟩
  go_wp2
  go_ret
  exact ⟨rfl, hm⟩
theorem format_16 (u : Nat) (hu : u < B64) (w : World) (hT : Tab w) : Calls Tryd.prog 40 #[.int .u64 u, .int .i64 16] w fun e w' => e = .returned (.string ⟨(hexs u).toArray⟩) ∧ Mod (fun _ => False) w w' := by
  have HF := Lib.hid (iformat_16 u hu w hT)
  clear hT hu
  go_enter Tryd.func40, Tryd.ntmps40
  go_wp2_with fail
  refine HF.out.mono ?_
  rintro e w1 ⟨rfl, hm⟩
  go_wp2
  go_ret
  exact ⟨rfl, hm⟩
theorem hexF_len (n : Nat) : ∀ (v : Nat) (ds : List UInt8), (hexF n v ds).length ≤ n + ds.length := by
  induction n with
  | zero => intro v ds; exact Nat.le_of_eq (Nat.zero_add _).symm
  | succ n ih =>
    intro v ds
    rw [hexF]
    split
    · rw [List.length_cons]; omega
    · have := ih (v / 16) (hexD (v % 16) :: ds)
      rw [List.length_cons] at this
      omega
theorem hexs_len (u : Nat) : (hexs u).length ≤ 16 := hexF_len 16 u []
def showW (x : Nat) : List UInt8 := if isN x then [110, 97, 110] else if x == INF then [105, 110, 102] else if x == INF + B63 then [45, 105, 110, 102] else List.replicate (16 - (hexs x).length) 48 ++ hexs x
theorem rep_zero (n : Nat) : Lib.repeatL [48] n = List.replicate n (48 : UInt8) := by
  induction n with
  | zero => rfl
  | succ n ih => rw [List.replicate_succ, ← ih]; rfl
theorem str_app (a b : List UInt8) : (⟨a.toArray⟩ : ByteArray) ++ ⟨b.toArray⟩ = ⟨(a ++ b).toArray⟩ := by
  apply ByteArray.ext
  rw [ByteArray.data_append]
  simp
set_option maxHeartbeats 1000000 in
theorem show_any (x : Nat) (hx : x < B64) (w : World) (hT : Tab w) : Calls Tryd.prog 21 #[.float .f64 x] w fun e w' => e = .returned (.string ⟨(showW x).toArray⟩) ∧ Mod (fun _ => False) w w' := by
  have H1 := Lib.hid (isnan_any x w)
  have H2 := Lib.hid (isinf_plus x hx w)
  have H3 := Lib.hid (isinf_minus x hx w)
  have HF := Lib.hid (format_16 x hx w hT)
  have HL := hexs_len x
  have HE : Hid (showW x = if isN x then [110, 97, 110] else if x == INF then [105, 110, 102] else if x == INF + B63 then [45, 105, 110, 102] else List.replicate (16 - (hexs x).length) 48 ++ hexs x) := rfl
  clear hT hx
  generalize showW x = r at *
  generalize isN x = n at *
  generalize (x == INF + B63) = i1 at *
  generalize (x == INF) = i2 at *
  generalize hexs x = d at *
  cases n
  rotate_left
  · go_enter Tryd.func21, Tryd.ntmps21
    go_wp2_with fail
    refine H1.out.mono ?_
    rintro e w1 ⟨rfl, rfl⟩
    go_wp2
    go_ret
    exact ⟨by rw [HE.out]; rfl, Mod.refl _ _⟩
  cases i2
  rotate_left
  · go_enter Tryd.func21, Tryd.ntmps21
    go_wp2_with fail
    refine H1.out.mono ?_
    rintro e w1 ⟨rfl, rfl⟩
    go_wp2_with fail
    refine H2.out.mono ?_
    rintro e w1 ⟨rfl, rfl⟩
    go_wp2
    go_ret
    exact ⟨by rw [HE.out]; rfl, Mod.refl _ _⟩
  cases i1
  rotate_left
  · go_enter Tryd.func21, Tryd.ntmps21
    go_wp2_with fail
    refine H1.out.mono ?_
    rintro e w1 ⟨rfl, rfl⟩
    go_wp2_with fail
    refine H2.out.mono ?_
    rintro e w1 ⟨rfl, rfl⟩
    go_wp2_with fail
    refine H3.out.mono ?_
    rintro e w1 ⟨rfl, rfl⟩
    go_wp2
    go_ret
    exact ⟨by rw [HE.out]; rfl, Mod.refl _ _⟩
  obtain ⟨k, hk⟩ : ∃ k, 16 - d.length = k := ⟨_, rfl⟩
  have hk2 : d.length + k = 16 := by omega
  have HR := Lib.hid (fun w => Tryd.strings_Repeat ⟨#[48]⟩ k w (by omega) (by show 1 * k ≤ _; omega))
  go_enter Tryd.func21, Tryd.ntmps21
  go_wp2_with fail
  refine H1.out.mono ?_
  rintro e w1 ⟨rfl, rfl⟩
  go_wp2_with fail
  refine H2.out.mono ?_
  rintro e w1 ⟨rfl, rfl⟩
  go_wp2_with fail
  refine H3.out.mono ?_
  rintro e w1 ⟨rfl, rfl⟩
  go_wp2_with fail
  refine HF.out.mono ?_
  rintro e w1 ⟨rfl, hm⟩
  have HM := Lib.hid hm
  have hs : (⟨d.toArray⟩ : ByteArray).size = d.length := rfl
  have hk3 : (16 : Int) - (d.length : Int) = (k : Int) := by omega
  clear hm HF H1 H2 H3
  go_wp2_with fail
  refine (HR.out _).mono ?_
  rintro e w2 ⟨rfl, hb⟩
  have HM2 := Lib.hid (HM.out.trans (Mod.of_below hb))
  have hz : (Lib.repeatL [48] k).length = k := by rw [rep_zero, List.length_replicate]
  have HZ2 : Hid (Lib.repeatL [48] k = List.replicate k 48) := rep_zero k
  have hz3 : (⟨(Lib.repeatL [48] k).toArray⟩ : ByteArray).size + (⟨d.toArray⟩ : ByteArray).size ≤ 9223372036854775807 := by show (Lib.repeatL [48] k).length + d.length ≤ _; omega
  clear hb
  go_wp2
  go_ret
  refine ⟨?_, HM2.out⟩
  show Ending.returned (.string ((⟨(Lib.repeatL [48] k).toArray⟩ : ByteArray) ++ ⟨d.toArray⟩)) = _
  rw [HE.out, str_app, HZ2.out, ← hk]
  rfl
end Go.Proofs.YtgpjipgbighplaaDoor

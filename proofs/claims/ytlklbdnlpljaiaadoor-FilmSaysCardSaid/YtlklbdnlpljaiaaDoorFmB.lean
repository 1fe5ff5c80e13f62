/-
  What film reaches of package flo and of the reference's numbers (cut out of flo's texts).
-/
import Derived.Test.YtlklbdnlpljaiaaDoorFlC
import Derived.Test.YtlklbdnlpljaiaaDoorShelf
import Derived.Lib.LaidTab
import Derived.Shelf.Spec.TrailingZeros
import Derived.Laws.IdiomStrings
import Derived.Laws.Concat
import Derived.WideShapes
namespace Go.Proofs.YtlklbdnlpljaiaaDoor
open Go.RowKit Go.Shoal

/-- The laid tables. -/
def Tab (w : World) : Prop := 4 < w.heap.size ∧ (∀ j, j < 64 → w.cell? ⟨2, j, none⟩ = some (.int .u8 ((Lib.deBruijn64tab.getD j 0 : Nat) : Int))) ∧ Lib.TabIs Tryd.prog w "internal/strconv.uint64pow10" .u64 Lib.pow10Tab
theorem gPow : Tryd.prog.globalNamed "internal/strconv.uint64pow10" = some 1 := by kernel_rfl
theorem Tab.mod {w w' : World} (h : Tab w) (hm : Mod (fun _ => False) w w') (_ : ¬ False) : Tab w' := by
  refine ⟨Nat.lt_of_lt_of_le h.1 hm.size, fun j hj => by rw [World.cell?_of_block (hm.block 2 (by have := h.1; omega) (fun x => x))]; exact h.2.1 j hj, ?_⟩
  have h2 := h.2.2
  unfold Lib.TabIs World.var? at h2 ⊢
  rw [gPow] at h2 ⊢
  simp only [Option.bind_some] at h2 ⊢
  rw [hm.block 1 (by have := h.1; omega) (fun x => x)]
  exact h2

set_option maxHeartbeats 1000000 in
theorem tz64_16 (w : World) (hT : Tab w) : Calls Tryd.prog 64 #[.int .u64 16] w fun e w' => e = .returned (.int .i64 4) ∧ w = w' := by
  have k2 : w.cell? ⟨2, 15, none⟩ = some (.int .u8 4) := hT.2.1 15 (by decide)
  have key : IntKind.u64.wrap (bits BinOp.and IntKind.u64 (16 : Int) (IntKind.u64.wrap (-(16 : Int))) * 285870213051353865) / 288230376151711744 = 15 := by decide
  clear hT
  go_enter Tryd.func64, Tryd.ntmps64
  go_wp2_with (simp only [key])
  go_ret
  exact ⟨rfl, rfl⟩
theorem tz_16 (w : World) (hT : Tab w) : Calls Tryd.prog 76 #[.int .u64 16] w fun e w' => e = .returned (.int .i64 4) ∧ w = w' := by
  have HT := Lib.hid (tz64_16 w hT)
  clear hT
  go_enter Tryd.func76, Tryd.ntmps76
  go_wp2_with (go_at_call 64; refine HT.out.mono ?_; rintro e w' ⟨rfl, rfl⟩)
  go_ret
  exact ⟨rfl, rfl⟩
theorem pow2_16 (w : World) : Calls Tryd.prog 75 #[.int .i64 16] w fun e w' => e = .returned (.bool true) ∧ w = w' := by
  go_enter Tryd.func75, Tryd.ntmps75
  go_wp2
  go_ret
  exact ⟨rfl, rfl⟩

/-- Digits. -/
def letters : List UInt8 := [48, 49, 50, 51, 52, 53, 54, 55, 56, 57, 97, 98, 99, 100, 101, 102]
def hexD (d : Nat) : UInt8 := letters.getD d 0
def hexF : Nat → Nat → List UInt8 → List UInt8
  | 0, _, ds => ds
  | n + 1, v, ds => if v < 16 then hexD v :: ds else hexF n (v / 16) (hexD (v % 16) :: ds)
def hexs (u : Nat) : List UInt8 := hexF 16 u []
def encB (b : UInt8) : Value := .int .u8 (b.toNat : Int)
def padB (ds : List UInt8) : Array Value := (List.replicate (65 - ds.length) (Value.int .u8 0) ++ ds.map encB).toArray
theorem padB_size {ds : List UInt8} (h : ds.length ≤ 65) : (padB ds).size = 65 := by
  unfold padB
  rw [List.size_toArray, List.length_append, List.length_replicate, List.length_map]
  omega
theorem padB_set (ds : List UInt8) (b : UInt8) (h : ds.length < 65) : (padB ds).setIfInBounds (64 - ds.length) (encB b) = padB (b :: ds) := by
  unfold padB
  rw [List.setIfInBounds_toArray]
  congr 1
  rw [List.length_cons, List.map_cons, List.set_append_left _ _ (by rw [List.length_replicate]; omega)]
  obtain ⟨k, hk⟩ : ∃ k, 65 - ds.length = k + 1 := ⟨64 - ds.length, by omega⟩
  rw [hk, show 64 - ds.length = k by omega, show 65 - (ds.length + 1) = k by omega]
  rw [show List.replicate (k + 1) (Value.int .u8 0) = List.replicate k (Value.int .u8 0) ++ [.int .u8 0] from List.replicate_succ' .., List.set_append_right _ _ (by rw [List.length_replicate]; exact Nat.le_refl _), List.length_replicate, Nat.sub_self, List.append_assoc]
  rfl
theorem padB_get (ds : List UInt8) (j : Nat) (hj : j < ds.length) (h : ds.length ≤ 65) : (padB ds)[65 - ds.length + j]? = some (encB ds[j]) := by
  unfold padB
  rw [List.getElem?_toArray, List.getElem?_append_right (by rw [List.length_replicate]; omega), List.length_replicate, show 65 - ds.length + j - (65 - ds.length) = j by omega, List.getElem?_map, List.getElem?_eq_getElem hj]
  rfl
def lettersB : ByteArray := ⟨#[48, 49, 50, 51, 52, 53, 54, 55, 56, 57, 97, 98, 99, 100, 101, 102, 103, 104, 105, 106, 107, 108, 109, 110, 111, 112, 113, 114, 115, 116, 117, 118, 119, 120, 121, 122]⟩
theorem letter_at (d : Nat) (h : d < 36) (h' : d < 16) : lettersB[d]'h = hexD d := by
  have : ∀ d : Fin 16, (lettersB[d.1]'(Nat.lt_of_lt_of_le d.2 (by decide))) = hexD d.1 := by decide
  exact this ⟨d, h'⟩
theorem idx_any (d : Nat) (h : d < 16) (w : World) : (Instr.index 9 (.string ⟨#[48, 49, 50, 51, 52, 53, 54, 55, 56, 57, 97, 98, 99, 100, 101, 102, 103, 104, 105, 106, 107, 108, 109, 110, 111, 112, 113, 114, 115, 116, 117, 118, 119, 120, 121, 122]⟩) (.int .u64 d)).run Tryd.prog w = .ok (encB (hexD d)) w := by
  show (Instr.index 9 (.string lettersB) (.int .u64 d)).run Tryd.prog w = _
  have h2 : d < 36 := by omega
  have hs : lettersB.size = 36 := rfl
  rw [run_index_string (P := Tryd.prog) w 9 lettersB .u64 d Tryd.underlying9, dif_pos ⟨by omega, by rw [hs]; omega⟩]
  unfold encB
  congr 3
  exact congrArg (fun x : UInt8 => x.toNat) (letter_at d h2 h)
theorem and_15 (v : Nat) (hv : v < B64) : bits .and .u64 (v : Int) 15 = ((v % 16 : Nat) : Int) := by
  have h := bits_and_u64_nat v 15 hv (by omega)
  have e : v &&& 15 = v % 16 := Nat.and_two_pow_sub_one_eq_mod v 4
  rw [e] at h
  exact h
theorem padB_zero (ds : List UInt8) (m : Nat) (h : ds.length + m = 64) : (padB ds)[m]? = some (.int .u8 0) := by
  unfold padB
  rw [List.getElem?_toArray, List.getElem?_append_left (by rw [List.length_replicate]; omega), List.getElem?_replicate, if_pos (by omega)]
theorem hex_lt {v n : Nat} (h : v < 16 ^ (n + 1)) : v / 16 < 16 ^ n := by
  rw [Nat.pow_succ] at h
  exact Nat.div_lt_of_lt_mul (by omega)
theorem hex_two {v k : Nat} (h : v < 16 ^ (16 - k)) (h16 : 16 ≤ v) (hk : k ≤ 15) : ∃ n, 16 - k = n + 2 := by
  by_cases e : k = 15
  · subst e; exact absurd h (by show ¬ v < 16; omega)
  · exact ⟨14 - k, by omega⟩
theorem zero97 : Tryd.zeroCells109 = padB [] := by kernel_rfl
set_option maxRecDepth 100000 in
set_option maxHeartbeats 4000000 in
theorem fb_16 (u : Nat) (hu : u < B64) (w : World) (hT : Tab w) : Calls Tryd.prog 63 #[.slice none 0 0, .int .u64 u, .int .i64 16, .bool false, .bool false] w fun e w' => e = .returned (.tuple #[.slice none 0 0, .string ⟨(hexs u).toArray⟩]) ∧ Mod (fun _ => False) w w' := by
  have HB := blk_new w (.cells (padB []) 109)
  rw [← zero97] at HB
  have hT1 : Tab (w.alloc (.cells Tryd.zeroCells109 109)) := hT.mod ((Mod.refl _ _).alloc _) (fun x => x)
  have HTZ := Lib.hid (tz_16 _ hT1)
  have HP := Lib.hid (pow2_16 (w.alloc (.cells Tryd.zeroCells109 109)))
  have HB := Lib.hid HB
  clear hT hT1
  go_enter Tryd.func63, Tryd.ntmps63
  go_wp2_with (first | (go_at_call 75; refine HP.out.mono ?_; rintro e w' ⟨rfl, rfl⟩) | (go_at_call 76; refine HTZ.out.mono ?_; rintro e w' ⟨rfl, rfl⟩))
  have HM : Hid (Mod (fun _ => False) w (w.alloc (.cells Tryd.zeroCells109 109))) := (Mod.refl _ _).alloc _
  have HB0 : Hid ((w.alloc (.cells Tryd.zeroCells109 109)).heap[w.heap.size]? = some (.cells (padB []) 109 (0, 0))) := by rw [← zero97]; exact HB.out
  have hBE : hexs u = hexF 16 u [] := rfl
  have HBE := Lib.hid hBE
  clear hBE HB HP HTZ
  generalize w.alloc (.cells Tryd.zeroCells109 109) = w1 at *
  go_loopw [1, 13] (fun q i wr => ∃ (v : Nat) (ds : List UInt8), q = .int .u64 v ∧ i = .int .i64 (65 - ds.length : Nat) ∧ ds.length ≤ 15 ∧ v < 16 ^ (16 - ds.length) ∧ Hid (hexs u = hexF (16 - ds.length) v ds) ∧ Hid (Mod (fun _ => False) w wr ∧ wr.heap[w.heap.size]? = some (.cells (padB ds) 109 (0, 0)))) (fun q _ _ => (intOf q).toNat)
  case atStart => exact ⟨u, [], rfl, rfl, by decide, hu, HBE, ⟨HM.out, HB0.out⟩⟩
  case round =>
    obtain ⟨v, ds, rfl, rfl, hl, hv, hx, hr⟩ := hrel
    have hvB : v < B64 := Nat.lt_of_lt_of_le hv (Nat.pow_le_pow_right (show 16 > 0 by decide) (show 16 - ds.length ≤ 16 by omega))
    have hm := hr.out.1
    have hb := hr.out.2
    clear hr
    obtain ⟨m, hm1⟩ : ∃ m, 65 - ds.length = m + 1 := ⟨64 - ds.length, by omega⟩
    have hm2 : m ≤ 64 := by omega
    have c0 := (blk_cell hb m).trans (padB_zero ds m (by omega))
    have f0 := blk_frozen hb m
    have hZ := blk_lt hb
    have hds : ds.length + m = 64 := by omega
    rw [hm1]
    by_cases h16 : 16 ≤ v
    · have t1 : decide ((16 : Int) ≤ (v : Int)) = true := decide_eq_true (by omega)
      have t2 := and_15 v hvB
      have hd : v % 16 < 16 := Nat.mod_lt _ (by decide)
      have hd2 : v % 16 < 36 := by omega
      have hle := letter_at (v % 16) hd2 hd
      obtain ⟨n, hn⟩ := hex_two hv h16 hl
      have HX : Hid (hexs u = hexF (n + 1) (v / 16) (hexD (v % 16) :: ds)) := by
        show _ = _
        rw [hx.out, hn, show n + 2 = (n + 1) + 1 from rfl, hexF, if_neg (by omega)]
      have HL : Hid (v / 16 < 16 ^ (n + 1)) := hex_lt (by rw [← hn]; exact hv)
      have hb2 := blk_set hb m (encB (hexD (v % 16)))
      rw [show m = 64 - ds.length by omega, padB_set ds _ (by omega), show 64 - ds.length = m by omega] at hb2
      have HB2 : Hid (Mod (fun _ => False) w (wr.setCell ⟨w.heap.size, m, none⟩ (encB (hexD (v % 16)))) ∧ (wr.setCell ⟨w.heap.size, m, none⟩ (encB (hexD (v % 16)))).heap[w.heap.size]? = some (.cells (padB (hexD (v % 16) :: ds)) 109 (0, 0))) := ⟨hm.set (fun h => absurd h (Nat.lt_irrefl _)) _, hb2⟩
      unfold encB at HB2
      rw [← hle] at HB2 HX
      unfold lettersB at HB2 HX
      clear hb2 hx hm hvB hb hle
      go_wp2
      go_roundw
      case rel => exact ⟨v / 16, _, by rw [Int.natCast_ediv]; rfl, by rw [List.length_cons, show 65 - (ds.length + 1) = m by omega], by rw [List.length_cons]; omega, by rw [List.length_cons, show 16 - (ds.length + 1) = n + 1 by omega]; exact HL.out, by rw [List.length_cons, show 16 - (ds.length + 1) = n + 1 by omega]; exact HX, HB2⟩
      case measure => simp [intOf]; omega
    · have t1 : decide ((16 : Int) ≤ (v : Int)) = false := decide_eq_false (by omega)
      have hd : v < 16 := by omega
      have hd2 : v < 36 := by omega
      have hle := letter_at v hd2 hd
      have HX : hexs u = hexD v :: ds := by
        obtain ⟨n, hn⟩ : ∃ n, 16 - ds.length = n + 1 := ⟨15 - ds.length, by omega⟩
        rw [hx.out, hn, hexF, if_pos hd]
      have hb2 := blk_set hb m (encB (hexD v))
      rw [show m = 64 - ds.length by omega, padB_set ds _ (by omega), show 64 - ds.length = m by omega, ← HX] at hb2
      have hlen : (hexs u).length = 65 - m := by rw [HX, List.length_cons]; omega
      have hmo : Mod (fun _ => False) w (wr.setCell ⟨w.heap.size, m, none⟩ (encB (hexD v))) := hm.set (fun h => absurd h (Nat.lt_irrefl _)) _
      have hcv := run_convert_bytes_back (P := Tryd.prog) (wr.setCell ⟨w.heap.size, m, none⟩ (encB (hexD v))) 68 9 5 ⟨w.heap.size, m, none⟩ (65 - m) (hexs u) Tryd.underlying68 Tryd.underlying5 Tryd.underlying9 (fun j hj => by
        have h1 := padB_get (hexs u) j hj (by omega)
        rw [show 65 - (hexs u).length = m by omega] at h1
        rw [Go.WideShapes.add_plain]
        exact (blk_cell hb2 (m + j)).trans h1)
      rw [hlen] at hcv
      have hal : Tryd.prog.arrayLen 109 = 65 := by simp [Program.arrayLen, Tryd.underlying109]
      have hsl : ∀ W, (Instr.sliceAt 109 (.pointer (some ⟨w.heap.size, 0, none⟩)) (some (.int .i64 (m : Int))) none none).run Tryd.prog W = .ok (.slice (some ⟨w.heap.size, m, none⟩) (65 - m) (65 - m)) W := fun W => by
        rw [run_sliceAt_array_l W 109 ⟨w.heap.size, 0, none⟩ (by simp [Program.arrayLen, Program.elem, Tryd.underlying109]) .i64 (m : Int) (by omega) (by rw [hal]; omega)]
        go_simp
        omega
      unfold encB at hcv hmo
      rw [← hle] at hcv hmo
      unfold lettersB at hcv hmo
      have HMO := Lib.hid hmo
      clear hb2 hx hm hvB hb hle hmo HX hlen
      go_wp2
      go_ret2
      exact ⟨rfl, HMO.out⟩

theorem andnot_top (b : Nat) (hb : b < B64) : bits .andNot .u64 (b : Int) 9223372036854775808 = ((b % B63 : Nat) : Int) := by
  have h := u64_andNot_nat b 9223372036854775808 hb (by decide)
  have e : b &&& (18446744073709551615 - 9223372036854775808) = b % B63 := Nat.and_two_pow_sub_one_eq_mod b 63
  rw [e] at h
  exact h
def topW (b : Nat) : Nat := if isNeg b then B63 else 0
theorem and_top (b : Nat) (hb : b < B64) : bits .and .u64 (b : Int) 9223372036854775808 = ((topW b : Nat) : Int) := by
  have h := bits_and_u64_nat b 9223372036854775808 hb (by decide)
  have e : b &&& 9223372036854775808 = topW b := by
    unfold topW
    apply Nat.eq_of_testBit_eq
    intro i
    rw [Nat.testBit_and, show (9223372036854775808 : Nat) = 2 ^ 63 from rfl, Nat.testBit_two_pow]
    by_cases hi : 63 = i
    · subst hi
      rw [decide_eq_true rfl, Bool.and_true]
      have e1 : b.testBit 63 = isNeg b := by
        rw [Nat.testBit_eq_decide_div_mod_eq]
        unfold isNeg
        rw [Bool.eq_iff_iff, decide_eq_true_eq, beq_iff_eq]
        exact Iff.rfl
      rw [e1]
      cases isNeg b <;> rfl
    · rw [decide_eq_false hi, Bool.and_false]
      cases isNeg b
      · rw [if_neg (by decide)]
        exact (Nat.zero_testBit i).symm
      · rw [if_pos rfl]
        show false = (2 ^ 63).testBit i
        rw [Nat.testBit_two_pow, decide_eq_false hi]
  rw [e] at h
  exact h
theorem topW_lt (b : Nat) : topW b ≤ B63 := by
  unfold topW
  split
  · exact Nat.le_refl _
  · exact Nat.zero_le _
theorem low_zero (b : Nat) (hb : b < B64) : (bits .and .u64 (b : Int) 9223372036854775808 == 0) = decide (b < B63) := by
  rw [and_top b hb]
  have h64 := b64_is
  have h63 := b63_is
  unfold topW isNeg
  rw [h63, Bool.eq_iff_iff, beq_iff_eq, decide_eq_true_eq]
  by_cases h : (b / 9223372036854775808 % 2 == 1) = true
  · rw [if_pos h]
    rw [beq_iff_eq] at h
    omega
  · rw [if_neg h]
    rw [beq_iff_eq] at h
    omega
set_option maxHeartbeats 1000000 in
theorem key_any (b : Nat) (w : World) (hb : b < B64) : Calls Tryd.prog 57 #[.float .f64 b] w fun e w' => e = .returned (.int .u64 (fkey b)) ∧ w = w' := by
  have HC := Lib.hid (isnan_any b w)
  have e1 := low_zero b hb
  by_cases hn : isN b = true
  · rw [hn] at HC
    have HE : Hid (fkey b = 18446744073709551615) := by show _ = _; unfold fkey; rw [if_pos hn]; rfl
    clear hn hb e1
    go_enter Tryd.func57, Tryd.ntmps57
    go_wp2_with fail
    refine HC.out.mono ?_
    rintro e w1 ⟨rfl, rfl⟩
    go_wp2
    go_ret
    exact ⟨by rw [HE.out]; rfl, rfl⟩
  · have hn' : isN b = false := by simpa using hn
    rw [hn'] at HC
    by_cases hl : b < B63
    · have e2 := top_or b hl
      have HE : Hid (fkey b = b + B63) := by show _ = _; unfold fkey; rw [if_neg hn, if_pos hl]
      rw [decide_eq_true hl] at e1
      clear hn hb hn' hl
      go_enter Tryd.func57, Tryd.ntmps57
      go_wp2_with fail
      refine HC.out.mono ?_
      rintro e w1 ⟨rfl, rfl⟩
      go_wp2
      go_ret
      exact ⟨by rw [HE.out]; rfl, rfl⟩
    · have HX := Lib.hid (not_bits b hb)
      have HE : Hid (fkey b = B64 - 1 - b) := by show _ = _; unfold fkey; rw [if_neg hn, if_neg hl]
      rw [decide_eq_false hl] at e1
      clear hn hb hn' hl
      go_enter Tryd.func57, Tryd.ntmps57
      go_wp2_with fail
      refine HC.out.mono ?_
      rintro e w1 ⟨rfl, rfl⟩
      go_wp2
      go_ret
      exact ⟨by rw [HE.out, ← HX.out]; rfl, rfl⟩

def cmpI (x y : Nat) : Int := if x < y then -1 else if y < x then 1 else 0
theorem compare_any (x y : Nat) (w : World) : Calls Tryd.prog 56 #[.int .u64 x, .int .u64 y] w fun e w' => e = .returned (.int .i64 (cmpI x y)) ∧ w = w' := by
  have HC : Hid (cmpI x y = if x < y then -1 else if y < x then 1 else 0) := rfl
  generalize cmpI x y = c at *
  by_cases h1 : x < y
  · have t1 : decide (x < y) = true := decide_eq_true h1
    have HR := Lib.hid (HC.out.trans (if_pos h1))
    go_enter Tryd.func56, Tryd.ntmps56
    go_wp2
    go_ret
    exact ⟨by rw [HR.out]; rfl, rfl⟩
  have t1 : decide (x < y) = false := decide_eq_false h1
  by_cases h2 : y < x
  · have t2 : decide (y < x) = true := decide_eq_true h2
    have HR := Lib.hid (HC.out.trans ((if_neg h1).trans (if_pos h2)))
    go_enter Tryd.func56, Tryd.ntmps56
    go_wp2
    go_ret
    exact ⟨by rw [HR.out]; rfl, rfl⟩
  have t2 : decide (y < x) = false := decide_eq_false h2
  have HR := Lib.hid (HC.out.trans ((if_neg h1).trans (if_neg h2)))
  go_enter Tryd.func56, Tryd.ntmps56
  go_wp2
  go_ret
  exact ⟨by rw [HR.out]; rfl, rfl⟩
theorem cmp_any (a b : Nat) (w : World) (ha : a < B64) (hb : b < B64) : Calls Tryd.prog 42 #[.float .f64 a, .float .f64 b] w fun e w' => e = .returned (.int .i64 (cmpW a b)) ∧ w = w' := by
  have HA := Lib.hid (key_any a w ha)
  have HB := Lib.hid (key_any b w hb)
  have HC := Lib.hid (compare_any (fkey a) (fkey b) w)
  have HE : Hid (cmpI (fkey a) (fkey b) = cmpW a b) := rfl
  generalize cmpW a b = c at *
  generalize fkey a = x at *
  generalize fkey b = y at *
  clear ha hb
  go_enter Tryd.func42, Tryd.ntmps42
  go_wp2_with fail
  refine HA.out.mono ?_
  rintro e w1 ⟨rfl, rfl⟩
  go_wp2_with fail
  refine HB.out.mono ?_
  rintro e w1 ⟨rfl, rfl⟩
  go_wp2_with fail
  refine HC.out.mono ?_
  rintro e w1 ⟨rfl, rfl⟩
  go_wp2
  go_ret
  exact ⟨by rw [← HE.out]; rfl, rfl⟩
theorem same_any (a b : Nat) (w : World) (ha : a < B64) (hb : b < B64) : Calls Tryd.prog 27 #[.float .f64 a, .float .f64 b] w fun e w' => e = .returned (.bool (sameW a b)) ∧ w = w' := by
  have HC := Lib.hid (cmp_any a b w ha hb)
  have t := cmpW_zero a b
  generalize cmpW a b = c at *
  generalize sameW a b = s at *
  go_enter Tryd.func27, Tryd.ntmps27
  go_wp2_with fail
  refine HC.out.mono ?_
  rintro e w1 ⟨rfl, rfl⟩
  go_wp2
  go_ret
  exact ⟨rfl, rfl⟩
theorem class_cases (b : Nat) (hb : b < B64) : classW b = if isN b then 0 else if b == INF + B63 then 1 else if b == INF then 6 else if (!isN b && isNeg b && decide (0 < b % B63)) then 2 else if (!isN b && !isNeg b && decide (0 < b % B63)) then 5 else if isNeg b then 3 else 4 := by
  have h64 := b64_is
  have h63 := b63_is
  have hI := inf_is
  unfold classW
  cases hn : isN b
  · have hn' : b % B63 ≤ INF := by
      unfold isN at hn
      have := of_decide_eq_false hn
      omega
    simp only [Bool.false_eq_true, if_false, Bool.not_false, Bool.true_and]
    cases hg : isNeg b
    · have hg' : b < B63 := by
        have h := Nat.lt_or_ge b B63
        rcases h with h | h
        · exact h
        · rw [isNeg_high h hb] at hg; cases hg
      have e : b % B63 = b := mod_low hg'
      rw [e]
      simp only [Bool.false_eq_true, if_false, Bool.not_false, Bool.true_and, Bool.false_and, beq_iff_eq, decide_eq_true_eq]
      by_cases h1 : b = INF
      · have h3 : ¬ b = INF + B63 := by omega
        simp only [h1, if_true]
        rw [if_neg (by omega)]
      · have h3 : ¬ b = INF + B63 := by omega
        by_cases h2 : b = 0
        · have h4 : ¬ 0 < b := by omega
          simp only [h1, h3, h4, if_false]
          rw [if_pos h2]
        · have h4 : 0 < b := by omega
          simp only [h1, h3, h4, h2, if_true, if_false]
    · have hg' : B63 ≤ b := by
        have h := Nat.lt_or_ge b B63
        rcases h with h | h
        · rw [isNeg_low h] at hg; cases hg
        · exact h
      have e : b % B63 = b - B63 := mod_high hg' hb
      rw [e]
      simp only [if_true, Bool.not_true, Bool.true_and, Bool.false_and, Bool.false_eq_true, if_false, beq_iff_eq, decide_eq_true_eq]
      by_cases h1 : b - B63 = INF
      · rw [if_pos h1, if_pos (by omega)]
      · have h3 : ¬ b = INF + B63 := by omega
        have h5 : ¬ b = INF := by omega
        by_cases h2 : b - B63 = 0
        · have h4 : ¬ 0 < b - B63 := by omega
          simp only [h1, h3, h4, h5, if_false]
          rw [if_pos h2]
        · have h4 : 0 < b - B63 := by omega
          simp only [h1, h3, h4, h5, h2, if_true, if_false]
  · simp only [if_true]
theorem iformat_16 (u : Nat) (hu : u < B64) (w : World) (hT : Tab w) : Calls Tryd.prog 48 #[.int .u64 u, .int .i64 16] w fun e w' => e = .returned (.string ⟨(hexs u).toArray⟩) ∧ Mod (fun _ => False) w w' := by
  have HF := Lib.hid (fb_16 u hu w hT)
  clear hT hu
  go_enter Tryd.func48, Tryd.ntmps48
  go_wp2_with fail
  refine HF.out.mono ?_
  rintro e w1 ⟨rfl, hm⟩
  go_wp2
  go_ret
  exact ⟨rfl, hm⟩
theorem format_16 (u : Nat) (hu : u < B64) (w : World) (hT : Tab w) : Calls Tryd.prog 35 #[.int .u64 u, .int .i64 16] w fun e w' => e = .returned (.string ⟨(hexs u).toArray⟩) ∧ Mod (fun _ => False) w w' := by
  have HF := Lib.hid (iformat_16 u hu w hT)
  clear hT hu
  go_enter Tryd.func35, Tryd.ntmps35
  go_wp2_with fail
  refine HF.out.mono ?_
  rintro e w1 ⟨rfl, hm⟩
  go_wp2
  go_ret
  exact ⟨rfl, hm⟩
theorem hexF_len (n : Nat) : ∀ (v : Nat) (ds : List UInt8), (hexF n v ds).length ≤ n + ds.length := by
  induction n with
  | zero => intro v ds; exact Nat.le_of_eq (Nat.zero_add _).symm
  | succ n ih =>
    intro v ds
    rw [hexF]
    split
    · rw [List.length_cons]; omega
    · have := ih (v / 16) (hexD (v % 16) :: ds)
      rw [List.length_cons] at this
      omega
theorem hexs_len (u : Nat) : (hexs u).length ≤ 16 := hexF_len 16 u []
def showW (x : Nat) : List UInt8 := if isN x then [110, 97, 110] else if x == INF then [105, 110, 102] else if x == INF + B63 then [45, 105, 110, 102] else List.replicate (16 - (hexs x).length) 48 ++ hexs x
theorem rep_zero (n : Nat) : Lib.repeatL [48] n = List.replicate n (48 : UInt8) := by
  induction n with
  | zero => rfl
  | succ n ih => rw [List.replicate_succ, ← ih]; rfl
theorem str_app (a b : List UInt8) : (⟨a.toArray⟩ : ByteArray) ++ ⟨b.toArray⟩ = ⟨(a ++ b).toArray⟩ := by
  apply ByteArray.ext
  rw [ByteArray.data_append]
  simp
set_option maxHeartbeats 1000000 in
theorem show_any (x : Nat) (hx : x < B64) (w : World) (hT : Tab w) : Calls Tryd.prog 37 #[.float .f64 x] w fun e w' => e = .returned (.string ⟨(showW x).toArray⟩) ∧ Mod (fun _ => False) w w' := by
  have H1 := Lib.hid (isnan_any x w)
  have H2 := Lib.hid (isinf_plus x hx w)
  have H3 := Lib.hid (isinf_minus x hx w)
  have HF := Lib.hid (format_16 x hx w hT)
  have HL := hexs_len x
  have HE : Hid (showW x = if isN x then [110, 97, 110] else if x == INF then [105, 110, 102] else if x == INF + B63 then [45, 105, 110, 102] else List.replicate (16 - (hexs x).length) 48 ++ hexs x) := rfl
  clear hT hx
  generalize showW x = r at *
  generalize isN x = n at *
  generalize (x == INF + B63) = i1 at *
  generalize (x == INF) = i2 at *
  generalize hexs x = d at *
  cases n
  rotate_left
  · go_enter Tryd.func37, Tryd.ntmps37
    go_wp2_with fail
    refine H1.out.mono ?_
    rintro e w1 ⟨rfl, rfl⟩
    go_wp2
    go_ret
    exact ⟨by rw [HE.out]; rfl, Mod.refl _ _⟩
  cases i2
  rotate_left
  · go_enter Tryd.func37, Tryd.ntmps37
    go_wp2_with fail
    refine H1.out.mono ?_
    rintro e w1 ⟨rfl, rfl⟩
    go_wp2_with fail
    refine H2.out.mono ?_
    rintro e w1 ⟨rfl, rfl⟩
    go_wp2
    go_ret
    exact ⟨by rw [HE.out]; rfl, Mod.refl _ _⟩
  cases i1
  rotate_left
  · go_enter Tryd.func37, Tryd.ntmps37
    go_wp2_with fail
    refine H1.out.mono ?_
    rintro e w1 ⟨rfl, rfl⟩
    go_wp2_with fail
    refine H2.out.mono ?_
    rintro e w1 ⟨rfl, rfl⟩
    go_wp2_with fail
    refine H3.out.mono ?_
    rintro e w1 ⟨rfl, rfl⟩
    go_wp2
    go_ret
    exact ⟨by rw [HE.out]; rfl, Mod.refl _ _⟩
  obtain ⟨k, hk⟩ : ∃ k, 16 - d.length = k := ⟨_, rfl⟩
  have hk2 : d.length + k = 16 := by omega
  have HR := Lib.hid (fun w => Tryd.strings_Repeat ⟨#[48]⟩ k w (by omega) (by show 1 * k ≤ _; omega))
  go_enter Tryd.func37, Tryd.ntmps37
  go_wp2_with fail
  refine H1.out.mono ?_
  rintro e w1 ⟨rfl, rfl⟩
  go_wp2_with fail
  refine H2.out.mono ?_
  rintro e w1 ⟨rfl, rfl⟩
  go_wp2_with fail
  refine H3.out.mono ?_
  rintro e w1 ⟨rfl, rfl⟩
  go_wp2_with fail
  refine HF.out.mono ?_
  rintro e w1 ⟨rfl, hm⟩
  have HM := Lib.hid hm
  have hs : (⟨d.toArray⟩ : ByteArray).size = d.length := rfl
  have hk3 : (16 : Int) - (d.length : Int) = (k : Int) := by omega
  clear hm HF H1 H2 H3
  go_wp2_with fail
  refine (HR.out _).mono ?_
  rintro e w2 ⟨rfl, hb⟩
  have HM2 := Lib.hid (HM.out.trans (Mod.of_below hb))
  have hz : (Lib.repeatL [48] k).length = k := by rw [rep_zero, List.length_replicate]
  have HZ2 : Hid (Lib.repeatL [48] k = List.replicate k 48) := rep_zero k
  have hz3 : (⟨(Lib.repeatL [48] k).toArray⟩ : ByteArray).size + (⟨d.toArray⟩ : ByteArray).size ≤ 9223372036854775807 := by show (Lib.repeatL [48] k).length + d.length ≤ _; omega
  clear hb
  go_wp2
  go_ret
  refine ⟨?_, HM2.out⟩
  show Ending.returned (.string ((⟨(Lib.repeatL [48] k).toArray⟩ : ByteArray) ++ ⟨d.toArray⟩)) = _
  rw [HE.out, str_app, HZ2.out, ← hk]
  rfl

def hex16 (u : Nat) : List UInt8 := List.replicate (16 - (hexs u).length) 48 ++ hexs u
def hexN : Nat → Nat → List UInt8 → List UInt8
  | 0, _, ds => ds
  | n + 1, v, ds => hexN n (v / 16) (hexD (v % 16) :: ds)
theorem hexN_zero (n : Nat) : ∀ ds, hexN n 0 ds = List.replicate n 48 ++ ds := by
  induction n with
  | zero => intro ds; rfl
  | succ n ih =>
    intro ds
    rw [hexN, ih, List.replicate_succ', List.append_assoc]
    rfl
theorem hexF_hexN (n : Nat) : ∀ (v : Nat) (ds : List UInt8), v < 16 ^ (n + 1) → List.replicate (n + 1 + ds.length - (hexF (n + 1) v ds).length) 48 ++ hexF (n + 1) v ds = hexN (n + 1) v ds := by
  induction n with
  | zero =>
    intro v ds h
    rw [hexF, if_pos (by omega), hexN, hexN, List.length_cons, show 0 + 1 + ds.length - (ds.length + 1) = 0 by omega, Nat.mod_eq_of_lt (by omega)]
    rfl
  | succ n ih =>
    intro v ds h
    rw [hexF, hexN]
    by_cases hv : v < 16
    · rw [if_pos hv, Nat.div_eq_of_lt hv, Nat.mod_eq_of_lt hv, hexN_zero, List.length_cons, show n + 1 + 1 + ds.length - (ds.length + 1) = n + 1 by omega]
    · rw [if_neg hv, ← ih _ _ (hex_lt h), List.length_cons, show n + 1 + 1 + ds.length = n + 1 + (ds.length + 1) by omega]
theorem hexN_range (n : Nat) : ∀ (v : Nat) (ds : List UInt8), hexN n v ds = (List.range n).map (fun i => hexD (v / 16 ^ (n - 1 - i) % 16)) ++ ds := by
  induction n with
  | zero => intro v ds; rfl
  | succ n ih =>
    intro v ds
    rw [hexN, ih, List.range_succ, List.map_append, List.append_assoc]
    congr 1
    · apply List.map_congr_left
      intro i hi
      have hi := List.mem_range.1 hi
      have e : n + 1 - 1 - i = (n - 1 - i) + 1 := by omega
      rw [e, Nat.div_div_eq_div_mul, Nat.pow_succ, Nat.mul_comm]
    · simp
theorem hex16_range (u : Nat) (hu : u < B64) : hex16 u = (List.range 16).map (fun i => hexD (u / 16 ^ (15 - i) % 16)) := by
  have h := hexF_hexN 15 u [] hu
  rw [hexN_range, List.append_nil] at h
  exact h
def cutHex (u k : Nat) : List UInt8 := (List.range k).map (fun i => hexD (u / 16 ^ (15 - i) % 16))
theorem cutHex_succ (u k : Nat) : cutHex u (k + 1) = cutHex u k ++ [hexD (u / 16 ^ (15 - k) % 16)] := by
  unfold cutHex
  rw [List.range_succ, List.map_append]
  rfl
theorem cutHex_len (u k : Nat) : (cutHex u k).length = k := by unfold cutHex; rw [List.length_map, List.length_range]
theorem slice_hex (d : Nat) (h : d < 16) (w : World) : (Instr.sliceAt 9 (.string ⟨#[48, 49, 50, 51, 52, 53, 54, 55, 56, 57, 97, 98, 99, 100, 101, 102]⟩) (some (.int .u64 (d : Int))) (some (.int .u64 ((d : Int) + 1))) none).run Tryd.prog w = .ok (.string ⟨[hexD d].toArray⟩) w := by
  have hd : d = 0 ∨ d = 1 ∨ d = 2 ∨ d = 3 ∨ d = 4 ∨ d = 5 ∨ d = 6 ∨ d = 7 ∨ d = 8 ∨ d = 9 ∨ d = 10 ∨ d = 11 ∨ d = 12 ∨ d = 13 ∨ d = 14 ∨ d = 15 := by omega
  rcases hd with rfl | rfl | rfl | rfl | rfl | rfl | rfl | rfl | rfl | rfl | rfl | rfl | rfl | rfl | rfl | rfl
  all_goals (show _ = _; kernel_rfl)
set_option maxRecDepth 100000 in
set_option maxHeartbeats 8000000 in
theorem rshow_any (x : Nat) (hx : x < B64) (w : World) : Calls Tryd.prog 31 #[.float .f64 x] w fun e w' => e = .returned (.string ⟨(showW x).toArray⟩) ∧ w = w' := by
  have H1 := Lib.hid (rclass_any x w hx)
  have hcc := class_cases x hx
  have HE : Hid (showW x = if isN x then [110, 97, 110] else if x == INF then [105, 110, 102] else if x == INF + B63 then [45, 105, 110, 102] else cutHex x 16) := by
    show _ = _
    unfold cutHex
    rw [← hex16_range x hx]
    rfl
  have HR := Lib.hid (fun k => cutHex_succ x k)
  have hxx := hx
  generalize showW x = r at *
  generalize classW x = c at *
  cases hn : isN x
  rotate_left
  · rw [hn] at hcc HE
    replace hcc : c = 0 := hcc
    subst hcc
    clear hx hxx HR hn
    go_enter Tryd.func31, Tryd.ntmps31
    go_wp2_with fail
    refine H1.out.mono ?_
    rintro e w1 ⟨rfl, rfl⟩
    go_wp2
    go_ret
    exact ⟨by rw [HE.out]; rfl, rfl⟩
  rw [hn] at hcc HE
  by_cases h2 : (x == INF + B63) = true
  · have h3 : (x == INF) = false := by
      rw [beq_iff_eq] at h2
      rw [beq_eq_false_iff_ne, h2]
      decide
    rw [h2, h3] at hcc HE
    replace hcc : c = 1 := hcc
    subst hcc
    clear hx hxx HR hn h2 h3
    go_enter Tryd.func31, Tryd.ntmps31
    go_wp2_with fail
    refine H1.out.mono ?_
    rintro e w1 ⟨rfl, rfl⟩
    go_wp2
    go_ret
    exact ⟨by rw [HE.out]; rfl, rfl⟩
  have h2' : (x == INF + B63) = false := by simpa using h2
  by_cases h3 : (x == INF) = true
  · rw [h2', h3] at hcc HE
    replace hcc : c = 6 := hcc
    subst hcc
    clear hx hxx HR hn h2 h2' h3
    go_enter Tryd.func31, Tryd.ntmps31
    go_wp2_with fail
    refine H1.out.mono ?_
    rintro e w1 ⟨rfl, rfl⟩
    go_wp2
    go_ret
    exact ⟨by rw [HE.out]; rfl, rfl⟩
  have h3' : (x == INF) = false := by simpa using h3
  rw [h2', h3'] at hcc HE
  have hc : c = 2 ∨ c = 5 ∨ c = 3 ∨ c = 4 := by
    rw [if_neg (by decide), if_neg (by decide), if_neg (by decide)] at hcc
    rw [hcc]
    split
    · exact .inl rfl
    · split
      · exact .inr (.inl rfl)
      · split
        · exact .inr (.inr (.inl rfl))
        · exact .inr (.inr (.inr rfl))
  have c0 : (c == 0) = false := by rw [beq_eq_false_iff_ne]; omega
  have c1 : (c == 1) = false := by rw [beq_eq_false_iff_ne]; omega
  have c6 : (c == 6) = false := by rw [beq_eq_false_iff_ne]; omega
  have HX := Lib.hid hxx
  clear hx hxx hn h2 h3 h2' h3' hc hcc
  go_enter Tryd.func31, Tryd.ntmps31
  go_wp2_with fail
  refine H1.out.mono ?_
  rintro e w1 ⟨rfl, rfl⟩
  go_wp2
  go_loop [5, 6] (fun s i => ∃ k : Nat, k ≤ 16 ∧ i = .int .i64 k ∧ s = .string ⟨(cutHex x k).toArray⟩) (fun _ i => 16 - (intOf i).toNat)
  case atStart => exact ⟨0, by decide, rfl, rfl⟩
  case round =>
    obtain ⟨k, hk, rfl, rfl⟩ := hrel
    by_cases hlt : k < 16
    · have hsucc := HR.out k
      have hl := cutHex_len x k
      have hd : x / 16 ^ (15 - k) % 16 < 16 := Nat.mod_lt _ (by decide)
      have hle : x / 16 ^ (15 - k) ≤ x := Nat.div_le_self _ _
      have ha := and_15 (x / 16 ^ (15 - k)) (Nat.lt_of_le_of_lt hle HX.out)
      rw [Int.natCast_ediv] at ha
      have hs := slice_hex _ hd
      obtain ⟨d, hde⟩ : ∃ d, d = x / 16 ^ (15 - k) % 16 := ⟨_, rfl⟩
      rw [← hde] at hsucc hd ha hs
      have HS := Lib.hid hsucc
      have HAPP := Lib.hid (str_app (cutHex x k) [hexD d])
      generalize hz : cutHex x k = z at *
      have HZ := Lib.hid hz
      have hsum : (⟨z.toArray⟩ : ByteArray).size + (⟨[hexD d].toArray⟩ : ByteArray).size ≤ 9223372036854775807 := by show z.length + 1 ≤ _; omega
      clear hsucc hle hde hz
      have hk16 : k = 0 ∨ k = 1 ∨ k = 2 ∨ k = 3 ∨ k = 4 ∨ k = 5 ∨ k = 6 ∨ k = 7 ∨ k = 8 ∨ k = 9 ∨ k = 10 ∨ k = 11 ∨ k = 12 ∨ k = 13 ∨ k = 14 ∨ k = 15 := by omega
      rcases hk16 with rfl | rfl | rfl | rfl | rfl | rfl | rfl | rfl | rfl | rfl | rfl | rfl | rfl | rfl | rfl | rfl
      · have ha2 : bits .and .u64 ((x : Int) / 1152921504606846976) 15 = (d : Int) := ha
        clear ha
        go_wp2
        go_round
        case rel => exact ⟨1, by decide, rfl, by rw [show cutHex x 1 = z ++ [hexD d] from HS.out, ← HAPP.out]⟩
        case measure => simp [intOf]
      · have ha2 : bits .and .u64 ((x : Int) / 72057594037927936) 15 = (d : Int) := ha
        clear ha
        go_wp2
        go_round
        case rel => exact ⟨2, by decide, rfl, by rw [show cutHex x 2 = z ++ [hexD d] from HS.out, ← HAPP.out]⟩
        case measure => simp [intOf]
      · have ha2 : bits .and .u64 ((x : Int) / 4503599627370496) 15 = (d : Int) := ha
        clear ha
        go_wp2
        go_round
        case rel => exact ⟨3, by decide, rfl, by rw [show cutHex x 3 = z ++ [hexD d] from HS.out, ← HAPP.out]⟩
        case measure => simp [intOf]
      · have ha2 : bits .and .u64 ((x : Int) / 281474976710656) 15 = (d : Int) := ha
        clear ha
        go_wp2
        go_round
        case rel => exact ⟨4, by decide, rfl, by rw [show cutHex x 4 = z ++ [hexD d] from HS.out, ← HAPP.out]⟩
        case measure => simp [intOf]
      · have ha2 : bits .and .u64 ((x : Int) / 17592186044416) 15 = (d : Int) := ha
        clear ha
        go_wp2
        go_round
        case rel => exact ⟨5, by decide, rfl, by rw [show cutHex x 5 = z ++ [hexD d] from HS.out, ← HAPP.out]⟩
        case measure => simp [intOf]
      · have ha2 : bits .and .u64 ((x : Int) / 1099511627776) 15 = (d : Int) := ha
        clear ha
        go_wp2
        go_round
        case rel => exact ⟨6, by decide, rfl, by rw [show cutHex x 6 = z ++ [hexD d] from HS.out, ← HAPP.out]⟩
        case measure => simp [intOf]
      · have ha2 : bits .and .u64 ((x : Int) / 68719476736) 15 = (d : Int) := ha
        clear ha
        go_wp2
        go_round
        case rel => exact ⟨7, by decide, rfl, by rw [show cutHex x 7 = z ++ [hexD d] from HS.out, ← HAPP.out]⟩
        case measure => simp [intOf]
      · have ha2 : bits .and .u64 ((x : Int) / 4294967296) 15 = (d : Int) := ha
        clear ha
        go_wp2
        go_round
        case rel => exact ⟨8, by decide, rfl, by rw [show cutHex x 8 = z ++ [hexD d] from HS.out, ← HAPP.out]⟩
        case measure => simp [intOf]
      · have ha2 : bits .and .u64 ((x : Int) / 268435456) 15 = (d : Int) := ha
        clear ha
        go_wp2
        go_round
        case rel => exact ⟨9, by decide, rfl, by rw [show cutHex x 9 = z ++ [hexD d] from HS.out, ← HAPP.out]⟩
        case measure => simp [intOf]
      · have ha2 : bits .and .u64 ((x : Int) / 16777216) 15 = (d : Int) := ha
        clear ha
        go_wp2
        go_round
        case rel => exact ⟨10, by decide, rfl, by rw [show cutHex x 10 = z ++ [hexD d] from HS.out, ← HAPP.out]⟩
        case measure => simp [intOf]
      · have ha2 : bits .and .u64 ((x : Int) / 1048576) 15 = (d : Int) := ha
        clear ha
        go_wp2
        go_round
        case rel => exact ⟨11, by decide, rfl, by rw [show cutHex x 11 = z ++ [hexD d] from HS.out, ← HAPP.out]⟩
        case measure => simp [intOf]
      · have ha2 : bits .and .u64 ((x : Int) / 65536) 15 = (d : Int) := ha
        clear ha
        go_wp2
        go_round
        case rel => exact ⟨12, by decide, rfl, by rw [show cutHex x 12 = z ++ [hexD d] from HS.out, ← HAPP.out]⟩
        case measure => simp [intOf]
      · have ha2 : bits .and .u64 ((x : Int) / 4096) 15 = (d : Int) := ha
        clear ha
        go_wp2
        go_round
        case rel => exact ⟨13, by decide, rfl, by rw [show cutHex x 13 = z ++ [hexD d] from HS.out, ← HAPP.out]⟩
        case measure => simp [intOf]
      · have ha2 : bits .and .u64 ((x : Int) / 256) 15 = (d : Int) := ha
        clear ha
        go_wp2
        go_round
        case rel => exact ⟨14, by decide, rfl, by rw [show cutHex x 14 = z ++ [hexD d] from HS.out, ← HAPP.out]⟩
        case measure => simp [intOf]
      · have ha2 : bits .and .u64 ((x : Int) / 16) 15 = (d : Int) := ha
        clear ha
        go_wp2
        go_round
        case rel => exact ⟨15, by decide, rfl, by rw [show cutHex x 15 = z ++ [hexD d] from HS.out, ← HAPP.out]⟩
        case measure => simp [intOf]
      · have ha2 : bits .and .u64 ((x : Int)) 15 = (d : Int) := by have h := ha; rw [show ((16 ^ (15 - 15) : Nat) : Int) = 1 from rfl, Int.ediv_one] at h; exact h
        clear ha
        go_wp2
        go_round
        case rel => exact ⟨16, by decide, rfl, by rw [show cutHex x 16 = z ++ [hexD d] from HS.out, ← HAPP.out]⟩
        case measure => simp [intOf]
    · obtain rfl : k = 16 := by omega
      go_wp2
      go_ret
      exact ⟨by rw [HE.out]; rfl, rfl⟩

end Go.Proofs.YtlklbdnlpljaiaaDoor

/-
  Numbers by sixteen: internal/strconv.formatBits at base 16.
-/
import Derived.Test.YtgpjipgbighplaaDoorFlA
import Derived.Lib.LaidTab
import Derived.Shelf.Spec.TrailingZeros
import Derived.Laws.IdiomStrings
import Derived.WideShapes
namespace Go.Proofs.YtgpjipgbighplaaDoor
open Go.RowKit Go.Shoal

/-- The laid table. -/
def Tab (w : World) : Prop := 6 < w.heap.size ∧ ∀ j, j < 64 → w.cell? ⟨6, j, none⟩ = some (.int .u8 ((Lib.deBruijn64tab.getD j 0 : Nat) : Int))
theorem Tab.mod {S : Nat → Prop} {w w' : World} (h : Tab w) (hm : Mod S w w') (hs : ¬ S 6) : Tab w' :=
  ⟨Nat.lt_of_lt_of_le h.1 hm.size, fun j hj => by rw [World.cell?_of_block (hm.block _ h.1 hs)]; exact h.2 j hj⟩
set_option maxHeartbeats 1000000 in
theorem tz64_16 (w : World) (hT : Tab w) : Calls Tryd.prog 81 #[.int .u64 16] w fun e w' => e = .returned (.int .i64 4) ∧ w = w' := by
  have k2 : w.cell? ⟨6, 15, none⟩ = some (.int .u8 4) := hT.2 15 (by decide)
  have key : IntKind.u64.wrap (bits BinOp.and IntKind.u64 (16 : Int) (IntKind.u64.wrap (-(16 : Int))) * 285870213051353865) / 288230376151711744 = 15 := by decide
  clear hT
  go_enter Tryd.func81, Tryd.ntmps81
  go_wp2_with (simp only [key])
  go_ret
  exact ⟨rfl, rfl⟩
theorem tz_16 (w : World) (hT : Tab w) : Calls Tryd.prog 76 #[.int .u64 16] w fun e w' => e = .returned (.int .i64 4) ∧ w = w' := by
  have HT := Lib.hid (tz64_16 w hT)
  clear hT
  go_enter Tryd.func76, Tryd.ntmps76
  go_wp2_with (go_at_call 81; refine HT.out.mono ?_; rintro e w' ⟨rfl, rfl⟩)
  go_ret
  exact ⟨rfl, rfl⟩
theorem pow2_16 (w : World) : Calls Tryd.prog 75 #[.int .i64 16] w fun e w' => e = .returned (.bool true) ∧ w = w' := by
  go_enter Tryd.func75, Tryd.ntmps75
  go_wp2
  go_ret
  exact ⟨rfl, rfl⟩

/-- Digits. -/
def letters : List UInt8 := [48, 49, 50, 51, 52, 53, 54, 55, 56, 57, 97, 98, 99, 100, 101, 102]
def hexD (d : Nat) : UInt8 := letters.getD d 0
def hexF : Nat → Nat → List UInt8 → List UInt8
  | 0, _, ds => ds
  | n + 1, v, ds => if v < 16 then hexD v :: ds else hexF n (v / 16) (hexD (v % 16) :: ds)
def hexs (u : Nat) : List UInt8 := hexF 16 u []
def encB (b : UInt8) : Value := .int .u8 (b.toNat : Int)
def padB (ds : List UInt8) : Array Value := (List.replicate (65 - ds.length) (Value.int .u8 0) ++ ds.map encB).toArray
theorem padB_size {ds : List UInt8} (h : ds.length ≤ 65) : (padB ds).size = 65 := by
  unfold padB
  rw [List.size_toArray, List.length_append, List.length_replicate, List.length_map]
  omega
theorem padB_set (ds : List UInt8) (b : UInt8) (h : ds.length < 65) : (padB ds).setIfInBounds (64 - ds.length) (encB b) = padB (b :: ds) := by
  unfold padB
  rw [List.setIfInBounds_toArray]
  congr 1
  rw [List.length_cons, List.map_cons, List.set_append_left _ _ (by rw [List.length_replicate]; omega)]
  obtain ⟨k, hk⟩ : ∃ k, 65 - ds.length = k + 1 := ⟨64 - ds.length, by omega⟩
  rw [hk, show 64 - ds.length = k by omega, show 65 - (ds.length + 1) = k by omega]
  rw [show List.replicate (k + 1) (Value.int .u8 0) = List.replicate k (Value.int .u8 0) ++ [.int .u8 0] from List.replicate_succ' .., List.set_append_right _ _ (by rw [List.length_replicate]; exact Nat.le_refl _), List.length_replicate, Nat.sub_self, List.append_assoc]
  rfl
theorem padB_get (ds : List UInt8) (j : Nat) (hj : j < ds.length) (h : ds.length ≤ 65) : (padB ds)[65 - ds.length + j]? = some (encB ds[j]) := by
  unfold padB
  rw [List.getElem?_toArray, List.getElem?_append_right (by rw [List.length_replicate]; omega), List.length_replicate, show 65 - ds.length + j - (65 - ds.length) = j by omega, List.getElem?_map, List.getElem?_eq_getElem hj]
  rfl
def lettersB : ByteArray := ⟨#[48, 49, 50, 51, 52, 53, 54, 55, 56, 57, 97, 98, 99, 100, 101, 102, 103, 104, 105, 106, 107, 108, 109, 110, 111, 112, 113, 114, 115, 116, 117, 118, 119, 120, 121, 122]⟩
theorem letter_at (d : Nat) (h : d < 36) (h' : d < 16) : lettersB[d]'h = hexD d := by
  have : ∀ d : Fin 16, (lettersB[d.1]'(Nat.lt_of_lt_of_le d.2 (by decide))) = hexD d.1 := by decide
  exact this ⟨d, h'⟩
theorem idx_any (d : Nat) (h : d < 16) (w : World) : (Instr.index 9 (.string ⟨#[48, 49, 50, 51, 52, 53, 54, 55, 56, 57, 97, 98, 99, 100, 101, 102, 103, 104, 105, 106, 107, 108, 109, 110, 111, 112, 113, 114, 115, 116, 117, 118, 119, 120, 121, 122]⟩) (.int .u64 d)).run Tryd.prog w = .ok (encB (hexD d)) w := by
  show (Instr.index 9 (.string lettersB) (.int .u64 d)).run Tryd.prog w = _
  have h2 : d < 36 := by omega
  have hs : lettersB.size = 36 := rfl
  rw [run_index_string (P := Tryd.prog) w 9 lettersB .u64 d Tryd.underlying9, dif_pos ⟨by omega, by rw [hs]; omega⟩]
  unfold encB
  congr 3
  exact congrArg (fun x : UInt8 => x.toNat) (letter_at d h2 h)
theorem and_15 (v : Nat) (hv : v < B64) : bits .and .u64 (v : Int) 15 = ((v % 16 : Nat) : Int) := by
  have h := bits_and_u64_nat v 15 hv (by omega)
  have e : v &&& 15 = v % 16 := Nat.and_two_pow_sub_one_eq_mod v 4
  rw [e] at h
  exact h
theorem padB_zero (ds : List UInt8) (m : Nat) (h : ds.length + m = 64) : (padB ds)[m]? = some (.int .u8 0) := by
  unfold padB
  rw [List.getElem?_toArray, List.getElem?_append_left (by rw [List.length_replicate]; omega), List.getElem?_replicate, if_pos (by omega)]
theorem hex_lt {v n : Nat} (h : v < 16 ^ (n + 1)) : v / 16 < 16 ^ n := by
  rw [Nat.pow_succ] at h
  exact Nat.div_lt_of_lt_mul (by omega)
theorem hex_two {v k : Nat} (h : v < 16 ^ (16 - k)) (h16 : 16 ≤ v) (hk : k ≤ 15) : ∃ n, 16 - k = n + 2 := by
  by_cases e : k = 15
  · subst e; exact absurd h (by show ¬ v < 16; omega)
  · exact ⟨14 - k, by omega⟩
theorem zero97 : Tryd.zeroCells97 = padB [] := by kernel_rfl
set_option maxRecDepth 100000 in
set_option maxHeartbeats 4000000 in
theorem fb_16 (u : Nat) (hu : u < B64) (w : World) (hT : Tab w) : Calls Tryd.prog 63 #[.slice none 0 0, .int .u64 u, .int .i64 16, .bool false, .bool false] w fun e w' => e = .returned (.tuple #[.slice none 0 0, .string ⟨(hexs u).toArray⟩]) ∧ Mod (fun _ => False) w w' := by
  have HB := blk_new w (.cells (padB []) 97)
  rw [← zero97] at HB
  have hT1 : Tab (w.alloc (.cells Tryd.zeroCells97 97)) := hT.mod (S := fun _ => False) ((Mod.refl _ _).alloc _) (fun x => x)
  have HTZ := Lib.hid (tz_16 _ hT1)
  have HP := Lib.hid (pow2_16 (w.alloc (.cells Tryd.zeroCells97 97)))
  have HB := Lib.hid HB
  clear hT hT1
  go_enter Tryd.func63, Tryd.ntmps63
  go_wp2_with (first | (go_at_call 75; refine HP.out.mono ?_; rintro e w' ⟨rfl, rfl⟩) | (go_at_call 76; refine HTZ.out.mono ?_; rintro e w' ⟨rfl, rfl⟩))
  have HM : Hid (Mod (fun _ => False) w (w.alloc (.cells Tryd.zeroCells97 97))) := (Mod.refl _ _).alloc _
  have HB0 : Hid ((w.alloc (.cells Tryd.zeroCells97 97)).heap[w.heap.size]? = some (.cells (padB []) 97 (0, 0))) := by rw [← zero97]; exact HB.out
  have hBE : hexs u = hexF 16 u [] := rfl
  have HBE := Lib.hid hBE
  clear hBE HB HP HTZ
  generalize w.alloc (.cells Tryd.zeroCells97 97) = w1 at *
  go_loopw [1, 13] (fun q i wr => ∃ (v : Nat) (ds : List UInt8), q = .int .u64 v ∧ i = .int .i64 (65 - ds.length : Nat) ∧ ds.length ≤ 15 ∧ v < 16 ^ (16 - ds.length) ∧ Hid (hexs u = hexF (16 - ds.length) v ds) ∧ Hid (Mod (fun _ => False) w wr ∧ wr.heap[w.heap.size]? = some (.cells (padB ds) 97 (0, 0)))) (fun q _ _ => (intOf q).toNat)
  case atStart => exact ⟨u, [], rfl, rfl, by decide, hu, HBE, ⟨HM.out, HB0.out⟩⟩
  case round =>
    obtain ⟨v, ds, rfl, rfl, hl, hv, hx, hr⟩ := hrel
    have hvB : v < B64 := Nat.lt_of_lt_of_le hv (Nat.pow_le_pow_right (show 16 > 0 by decide) (show 16 - ds.length ≤ 16 by omega))
    have hm := hr.out.1
    have hb := hr.out.2
    clear hr
    obtain ⟨m, hm1⟩ : ∃ m, 65 - ds.length = m + 1 := ⟨64 - ds.length, by omega⟩
    have hm2 : m ≤ 64 := by omega
    have c0 := (blk_cell hb m).trans (padB_zero ds m (by omega))
    have f0 := blk_frozen hb m
    have hZ := blk_lt hb
    have hds : ds.length + m = 64 := by omega
    rw [hm1]
    by_cases h16 : 16 ≤ v
    · have t1 : decide ((16 : Int) ≤ (v : Int)) = true := decide_eq_true (by omega)
      have t2 := and_15 v hvB
      have hd : v % 16 < 16 := Nat.mod_lt _ (by decide)
      have hd2 : v % 16 < 36 := by omega
      have hle := letter_at (v % 16) hd2 hd
      obtain ⟨n, hn⟩ := hex_two hv h16 hl
      have HX : Hid (hexs u = hexF (n + 1) (v / 16) (hexD (v % 16) :: ds)) := by
        show _ = _
        rw [hx.out, hn, show n + 2 = (n + 1) + 1 from rfl, hexF, if_neg (by omega)]
      have HL : Hid (v / 16 < 16 ^ (n + 1)) := hex_lt (by rw [← hn]; exact hv)
      have hb2 := blk_set hb m (encB (hexD (v % 16)))
      rw [show m = 64 - ds.length by omega, padB_set ds _ (by omega), show 64 - ds.length = m by omega] at hb2
      have HB2 : Hid (Mod (fun _ => False) w (wr.setCell ⟨w.heap.size, m, none⟩ (encB (hexD (v % 16)))) ∧ (wr.setCell ⟨w.heap.size, m, none⟩ (encB (hexD (v % 16)))).heap[w.heap.size]? = some (.cells (padB (hexD (v % 16) :: ds)) 97 (0, 0))) := ⟨hm.set (fun h => absurd h (Nat.lt_irrefl _)) _, hb2⟩
      unfold encB at HB2
      rw [← hle] at HB2 HX
      unfold lettersB at HB2 HX
      clear hb2 hx hm hvB hb hle
      go_wp2
      go_roundw
      case rel => exact ⟨v / 16, _, by rw [Int.natCast_ediv]; rfl, by rw [List.length_cons, show 65 - (ds.length + 1) = m by omega], by rw [List.length_cons]; omega, by rw [List.length_cons, show 16 - (ds.length + 1) = n + 1 by omega]; exact HL.out, by rw [List.length_cons, show 16 - (ds.length + 1) = n + 1 by omega]; exact HX, HB2⟩
      case measure => simp [intOf]; omega
    · have t1 : decide ((16 : Int) ≤ (v : Int)) = false := decide_eq_false (by omega)
      have hd : v < 16 := by omega
      have hd2 : v < 36 := by omega
      have hle := letter_at v hd2 hd
      have HX : hexs u = hexD v :: ds := by
        obtain ⟨n, hn⟩ : ∃ n, 16 - ds.length = n + 1 := ⟨15 - ds.length, by omega⟩
        rw [hx.out, hn, hexF, if_pos hd]
      have hb2 := blk_set hb m (encB (hexD v))
      rw [show m = 64 - ds.length by omega, padB_set ds _ (by omega), show 64 - ds.length = m by omega, ← HX] at hb2
      have hlen : (hexs u).length = 65 - m := by rw [HX, List.length_cons]; omega
      have hmo : Mod (fun _ => False) w (wr.setCell ⟨w.heap.size, m, none⟩ (encB (hexD v))) := hm.set (fun h => absurd h (Nat.lt_irrefl _)) _
      have hcv := run_convert_bytes_back (P := Tryd.prog) (wr.setCell ⟨w.heap.size, m, none⟩ (encB (hexD v))) 64 9 5 ⟨w.heap.size, m, none⟩ (65 - m) (hexs u) Tryd.underlying64 Tryd.underlying5 Tryd.underlying9 (fun j hj => by
        have h1 := padB_get (hexs u) j hj (by omega)
        rw [show 65 - (hexs u).length = m by omega] at h1
        rw [Go.WideShapes.add_plain]
        exact (blk_cell hb2 (m + j)).trans h1)
      rw [hlen] at hcv
      have hal : Tryd.prog.arrayLen 97 = 65 := by simp [Program.arrayLen, Tryd.underlying97]
      have hsl : ∀ W, (Instr.sliceAt 97 (.pointer (some ⟨w.heap.size, 0, none⟩)) (some (.int .i64 (m : Int))) none none).run Tryd.prog W = .ok (.slice (some ⟨w.heap.size, m, none⟩) (65 - m) (65 - m)) W := fun W => by
        rw [run_sliceAt_array_l W 97 ⟨w.heap.size, 0, none⟩ (by simp [Program.arrayLen, Program.elem, Tryd.underlying97]) .i64 (m : Int) (by omega) (by rw [hal]; omega)]
        go_simp
        omega
      unfold encB at hcv hmo
      rw [← hle] at hcv hmo
      unfold lettersB at hcv hmo
      have HMO := Lib.hid hmo
      clear hb2 hx hm hvB hb hle hmo HX hlen
      go_wp2
      go_ret2
      exact ⟨rfl, HMO.out⟩
end Go.Proofs.YtgpjipgbighplaaDoor

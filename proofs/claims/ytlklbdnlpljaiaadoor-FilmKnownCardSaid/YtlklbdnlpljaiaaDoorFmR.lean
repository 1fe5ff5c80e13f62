/-
  FilmKnown: the examples answer as told.
-/
import Derived.Test.YtlklbdnlpljaiaaDoorFmN
import Derived.Test.YtlklbdnlpljaiaaDoorFmQ
namespace Go.Proofs.YtlklbdnlpljaiaaDoor
open Go.RowKit Go.Shoal

def evA : Ev := ⟨4, 1, 0, 0, 0, 2, 0, 0, 0⟩
def evB : Ev := ⟨5, 1, (-1), 0, 0, 2, 9221120237041090561, 0, 0⟩
def evC : Ev := ⟨5, 1, 0, 0, 0, 3, 0, 0, 0⟩
def evD : Ev := ⟨3, 0, 0, 0, 0, 1, 4607182418800017408, 9, 0⟩
def evE : Ev := ⟨5, 1, (-1), 0, 0, 2, 18446744073709551615, 0, 0⟩
def evL1 : Ev := ⟨1, 2, 0, 7, 3, 0, 0, 0, 0⟩
def evL6 : Ev := ⟨6, 1, 0, 0, 0, 0, 0, 0, 7⟩
def evL7 : Ev := ⟨7, 0, 0, 0, 0, 0, 0, 0, 0⟩
def evL0 : Ev := ⟨0, 0, 0, 0, 0, 0, 0, 0, 0⟩
def evL2 : Ev := ⟨2, 1, 0, 0, 0, 0, 0, 0, 0⟩
theorem okA : evA.Ok := ⟨i64_small (by decide) (by decide), i64_small (by decide) (by decide), i64_small (by decide) (by decide), by decide, by decide, i64_small (by decide) (by decide), by decide, by decide, i64_small (by decide) (by decide)⟩
theorem okB : evB.Ok := ⟨i64_small (by decide) (by decide), i64_small (by decide) (by decide), i64_small (by decide) (by decide), by decide, by decide, i64_small (by decide) (by decide), by decide, by decide, i64_small (by decide) (by decide)⟩
theorem okC : evC.Ok := ⟨i64_small (by decide) (by decide), i64_small (by decide) (by decide), i64_small (by decide) (by decide), by decide, by decide, i64_small (by decide) (by decide), by decide, by decide, i64_small (by decide) (by decide)⟩
theorem okD : evD.Ok := ⟨i64_small (by decide) (by decide), i64_small (by decide) (by decide), i64_small (by decide) (by decide), by decide, by decide, i64_small (by decide) (by decide), by decide, by decide, i64_small (by decide) (by decide)⟩
theorem okE : evE.Ok := ⟨i64_small (by decide) (by decide), i64_small (by decide) (by decide), i64_small (by decide) (by decide), by decide, by decide, i64_small (by decide) (by decide), by decide, by decide, i64_small (by decide) (by decide)⟩
theorem okL1 : evL1.Ok := ⟨i64_small (by decide) (by decide), i64_small (by decide) (by decide), i64_small (by decide) (by decide), by decide, by decide, i64_small (by decide) (by decide), by decide, by decide, i64_small (by decide) (by decide)⟩
theorem okL6 : evL6.Ok := ⟨i64_small (by decide) (by decide), i64_small (by decide) (by decide), i64_small (by decide) (by decide), by decide, by decide, i64_small (by decide) (by decide), by decide, by decide, i64_small (by decide) (by decide)⟩
theorem okL7 : evL7.Ok := ⟨i64_small (by decide) (by decide), i64_small (by decide) (by decide), i64_small (by decide) (by decide), by decide, by decide, i64_small (by decide) (by decide), by decide, by decide, i64_small (by decide) (by decide)⟩
theorem okL0 : evL0.Ok := ⟨i64_small (by decide) (by decide), i64_small (by decide) (by decide), i64_small (by decide) (by decide), by decide, by decide, i64_small (by decide) (by decide), by decide, by decide, i64_small (by decide) (by decide)⟩
theorem okL2 : evL2.Ok := ⟨i64_small (by decide) (by decide), i64_small (by decide) (by decide), i64_small (by decide) (by decide), by decide, by decide, i64_small (by decide) (by decide), by decide, by decide, i64_small (by decide) (by decide)⟩
theorem itoa_m1 : itoaS (-1) = ⟨#[45, 49]⟩ := by
  have h := Lib.itoa_neg 1 (by decide)
  unfold itoaS
  rw [show (-1 : Int) = -((1 : Nat) : Int) from rfl, h, Lib.decDigits_one (by decide)]
  rfl
theorem set3 : Dst.showS 3 = ⟨#[123, 48, 44, 49, 125]⟩ := by
  unfold Dst.showS
  rw [Dst.showL_dd]
  kernel_rfl
theorem flo1 : floS 4607182418800017408 = ⟨#[51, 102, 102, 48, 48, 48, 48, 48, 48, 48, 48, 48, 48, 48, 48, 48]⟩ := by kernel_rfl
theorem flon : floS 9221120237041090561 = ⟨#[110, 97, 110]⟩ := by kernel_rfl
theorem showL1 : showE evL1 = ⟨#[50, 32, 115, 101, 110, 116, 32, 55, 32, 123, 48, 44, 49, 125]⟩ := by
  have e1 : wordsL evL1 = [⟨#[115, 101, 110, 116]⟩, ⟨#[55]⟩, ⟨#[123, 48, 44, 49, 125]⟩] := by
    show [_, numS 7, Dst.showS 3] = _
    rw [numS_one (by decide), set3]
    rfl
  unfold showE
  rw [e1, if_neg (by simp)]
  show itoaS ((2 : Nat) : Int) ++ _ ++ _ = _
  rw [itoaS_one (by decide)]
  kernel_rfl
theorem showD : showE evD = ⟨#[48, 32, 119, 114, 111, 116, 101, 32, 49, 32, 51, 102, 102, 48, 48, 48, 48, 48, 48, 48, 48, 48, 48, 48, 48, 48, 32, 57]⟩ := by
  have e1 : wordsL evD = [⟨#[119, 114, 111, 116, 101]⟩, ⟨#[49]⟩, ⟨#[51, 102, 102, 48, 48, 48, 48, 48, 48, 48, 48, 48, 48, 48, 48, 48]⟩, ⟨#[57]⟩] := by
    show [_, itoaS ((1 : Nat) : Int), floS 4607182418800017408, numS 9] = _
    rw [itoaS_one (by decide), numS_one (by decide), flo1]
    rfl
  unfold showE
  rw [e1, if_neg (by simp)]
  show itoaS ((0 : Nat) : Int) ++ _ ++ _ = _
  rw [itoaS_one (by decide)]
  kernel_rfl
theorem showA : showE evA = ⟨#[49, 32, 97, 115, 107, 115, 32, 50]⟩ := by
  have e1 : wordsL evA = [⟨#[97, 115, 107, 115]⟩, ⟨#[50]⟩] := by
    show [_, itoaS ((2 : Nat) : Int)] = _
    rw [itoaS_one (by decide)]
    rfl
  unfold showE
  rw [e1, if_neg (by simp)]
  show itoaS ((1 : Nat) : Int) ++ _ ++ _ = _
  rw [itoaS_one (by decide)]
  kernel_rfl
theorem showB : showE evB = ⟨#[49, 32, 114, 101, 97, 100, 32, 50, 32, 110, 97, 110, 32, 45, 49, 32, 48]⟩ := by
  have e1 : wordsL evB = [⟨#[114, 101, 97, 100]⟩, ⟨#[50]⟩, ⟨#[110, 97, 110]⟩, ⟨#[45, 49]⟩, ⟨#[48]⟩] := by
    show [_, itoaS ((2 : Nat) : Int), floS 9221120237041090561, itoaS (-1), numS 0] = _
    rw [itoaS_one (by decide), numS_one (by decide), flon, itoa_m1]
    rfl
  unfold showE
  rw [e1, if_neg (by simp)]
  show itoaS ((1 : Nat) : Int) ++ _ ++ _ = _
  rw [itoaS_one (by decide)]
  kernel_rfl
theorem showL6 : showE evL6 = ⟨#[49, 32, 114, 101, 102, 117, 115, 101, 100, 32, 55]⟩ := by
  have e1 : wordsL evL6 = [⟨#[114, 101, 102, 117, 115, 101, 100]⟩, ⟨#[55]⟩] := by
    show [_, itoaS ((7 : Nat) : Int)] = _
    rw [itoaS_one (by decide)]
    rfl
  unfold showE
  rw [e1, if_neg (by simp)]
  show itoaS ((1 : Nat) : Int) ++ _ ++ _ = _
  rw [itoaS_one (by decide)]
  kernel_rfl
theorem showL7 : showE evL7 = ⟨#[]⟩ := rfl
theorem showL0 : showE evL0 = ⟨#[]⟩ := rfl
theorem evIn_new (w : World) (l : List Ev) (_ : 0 < l.length) : EvIn (w.alloc (.cells (evFlat l).toArray 31)) (.slice (some ⟨w.heap.size, 0, none⟩) l.length l.length) l := by
  refine ⟨_, _, rfl, fun k e he => ⟨w.heap.size, 0, rfl, blk_lt (blk_new w _), fun j u hu => ?_⟩⟩
  have hj : j < 9 := (List.getElem?_eq_some_iff.1 hu).1
  rw [Nat.zero_add, blk_cell (blk_new w _), List.getElem?_toArray]
  exact (flat_at (f := Ev.cells) (C := 9) (fun _ => rfl) l k j e he hj).trans hu
theorem evIn_nil (w : World) : EvIn w (.slice none 0 0) [] := ⟨_, _, rfl, fun k e he => by simp at he⟩
theorem size4 (w1 : World) (a b c d : Obj) : ((((w1.alloc a).alloc b).alloc c).alloc d).heap.size = w1.heap.size + 4 := by simp
set_option maxRecDepth 100000 in
set_option maxHeartbeats 32000000 in
theorem known_any (w : World) (hT : Tab w) : Calls Tryd.prog 5 #[] w fun q w' => q = .returned (.bool true) ∧ Mod (fun _ => False) w w' := by
  have HA := Lib.hid (awake_any w hT)
  have HT : Hid (∀ W, Mod (fun _ => False) w W → Tab W) := fun W hW => hT.mod hW (fun h => h)
  have HNAN : Hid (∀ W, Calls Tryd.prog 15 #[] W fun e w' => e = .returned (.float .f64 9221120237041090561) ∧ W = w') := nan_any
  have SL1 : Hid (∀ W, Tab W → Calls Tryd.prog 13 #[.agg #[.int .i64 1, .int .i64 2, .int .i64 0, .int .u64 7, .int .u64 3, .int .i64 0, .float .f64 0, .int .u64 0, .int .i64 0]] W fun q w' => q = .returned (.string ⟨#[50, 32, 115, 101, 110, 116, 32, 55, 32, 123, 48, 44, 49, 125]⟩) ∧ Mod (fun _ => False) W w') := fun W hW => by
    have h := shown_any evL1 okL1 W hW
    rw [showL1] at h
    exact h
  have SD : Hid (∀ W, Tab W → Calls Tryd.prog 13 #[.agg #[.int .i64 3, .int .i64 0, .int .i64 0, .int .u64 0, .int .u64 0, .int .i64 1, .float .f64 4607182418800017408, .int .u64 9, .int .i64 0]] W fun q w' => q = .returned (.string ⟨#[48, 32, 119, 114, 111, 116, 101, 32, 49, 32, 51, 102, 102, 48, 48, 48, 48, 48, 48, 48, 48, 48, 48, 48, 48, 48, 32, 57]⟩) ∧ Mod (fun _ => False) W w') := fun W hW => by
    have h := shown_any evD okD W hW
    rw [showD] at h
    exact h
  have SA : Hid (∀ W, Tab W → Calls Tryd.prog 13 #[.agg #[.int .i64 4, .int .i64 1, .int .i64 0, .int .u64 0, .int .u64 0, .int .i64 2, .float .f64 0, .int .u64 0, .int .i64 0]] W fun q w' => q = .returned (.string ⟨#[49, 32, 97, 115, 107, 115, 32, 50]⟩) ∧ Mod (fun _ => False) W w') := fun W hW => by
    have h := shown_any evA okA W hW
    rw [showA] at h
    exact h
  have SB : Hid (∀ W, Tab W → Calls Tryd.prog 13 #[.agg #[.int .i64 5, .int .i64 1, .int .i64 (-1), .int .u64 0, .int .u64 0, .int .i64 2, .float .f64 9221120237041090561, .int .u64 0, .int .i64 0]] W fun q w' => q = .returned (.string ⟨#[49, 32, 114, 101, 97, 100, 32, 50, 32, 110, 97, 110, 32, 45, 49, 32, 48]⟩) ∧ Mod (fun _ => False) W w') := fun W hW => by
    have h := shown_any evB okB W hW
    rw [showB] at h
    exact h
  have SL6 : Hid (∀ W, Tab W → Calls Tryd.prog 13 #[.agg #[.int .i64 6, .int .i64 1, .int .i64 0, .int .u64 0, .int .u64 0, .int .i64 0, .float .f64 0, .int .u64 0, .int .i64 7]] W fun q w' => q = .returned (.string ⟨#[49, 32, 114, 101, 102, 117, 115, 101, 100, 32, 55]⟩) ∧ Mod (fun _ => False) W w') := fun W hW => by
    have h := shown_any evL6 okL6 W hW
    rw [showL6] at h
    exact h
  have SL7 : Hid (∀ W, Tab W → Calls Tryd.prog 13 #[.agg #[.int .i64 7, .int .i64 0, .int .i64 0, .int .u64 0, .int .u64 0, .int .i64 0, .float .f64 0, .int .u64 0, .int .i64 0]] W fun q w' => q = .returned (.string ⟨#[]⟩) ∧ Mod (fun _ => False) W w') := fun W hW => by
    have h := shown_any evL7 okL7 W hW
    rw [showL7] at h
    exact h
  have SL0 : Hid (∀ W, Tab W → Calls Tryd.prog 13 #[.agg #[.int .i64 0, .int .i64 0, .int .i64 0, .int .u64 0, .int .u64 0, .int .i64 0, .float .f64 0, .int .u64 0, .int .i64 0]] W fun q w' => q = .returned (.string ⟨#[]⟩) ∧ Mod (fun _ => False) W w') := fun W hW => by
    have h := shown_any evL0 okL0 W hW
    rw [showL0] at h
    exact h
  have QBE : Hid (∀ W, Calls Tryd.prog 14 #[.agg #[.int .i64 5, .int .i64 1, .int .i64 (-1), .int .u64 0, .int .u64 0, .int .i64 2, .float .f64 9221120237041090561, .int .u64 0, .int .i64 0], .agg #[.int .i64 5, .int .i64 1, .int .i64 (-1), .int .u64 0, .int .u64 0, .int .i64 2, .float .f64 18446744073709551615, .int .u64 0, .int .i64 0]] W fun q w' => q = .returned (.bool true) ∧ Mod (fun _ => False) W w') := fun W => by
    have h := fsame_any evB evE (by decide) (by decide) W
    rw [show sameE evB evE = true by kernel_rfl] at h
    exact h
  have QAB : Hid (∀ W, Calls Tryd.prog 14 #[.agg #[.int .i64 4, .int .i64 1, .int .i64 0, .int .u64 0, .int .u64 0, .int .i64 2, .float .f64 0, .int .u64 0, .int .i64 0], .agg #[.int .i64 5, .int .i64 1, .int .i64 (-1), .int .u64 0, .int .u64 0, .int .i64 2, .float .f64 9221120237041090561, .int .u64 0, .int .i64 0]] W fun q w' => q = .returned (.bool false) ∧ Mod (fun _ => False) W w') := fun W => by
    have h := fsame_any evA evB (by decide) (by decide) W
    rw [show sameE evA evB = false by kernel_rfl] at h
    exact h
  have K0 : Hid (∀ W : World, Calls Tryd.prog 17 #[.slice (some ⟨W.heap.size, 0, none⟩) 3 3] (W.alloc (.cells #[.int .i64 4, .int .i64 1, .int .i64 0, .int .u64 0, .int .u64 0, .int .i64 2, .float .f64 0, .int .u64 0, .int .i64 0, .int .i64 5, .int .i64 1, .int .i64 (-1), .int .u64 0, .int .u64 0, .int .i64 2, .float .f64 9221120237041090561, .int .u64 0, .int .i64 0, .int .i64 4, .int .i64 1, .int .i64 0, .int .u64 0, .int .u64 0, .int .i64 2, .float .f64 0, .int .u64 0, .int .i64 0] 31)) fun q w' => q = .returned (.bool true) ∧ Mod (fun _ => False) (W.alloc (.cells #[.int .i64 4, .int .i64 1, .int .i64 0, .int .u64 0, .int .u64 0, .int .i64 2, .float .f64 0, .int .u64 0, .int .i64 0, .int .i64 5, .int .i64 1, .int .i64 (-1), .int .u64 0, .int .u64 0, .int .i64 2, .float .f64 9221120237041090561, .int .u64 0, .int .i64 0, .int .i64 4, .int .i64 1, .int .i64 0, .int .u64 0, .int .u64 0, .int .i64 2, .float .f64 0, .int .u64 0, .int .i64 0] 31)) w') := fun W => by
    have h := cut_any _ [evA, evB, evA] _ (evIn_new W [evA, evB, evA] (by decide)) (by decide) (by
      intro e he
      simp only [List.mem_cons, List.not_mem_nil, or_false] at he
      rcases he with rfl | rfl | rfl
      all_goals first | exact okA | exact okB)
    rw [show cutB [evA, evB, evA] = true by kernel_rfl] at h
    exact h
  have K1 : Hid (∀ W : World, Calls Tryd.prog 17 #[.slice (some ⟨W.heap.size, 0, none⟩) 2 2] (W.alloc (.cells #[.int .i64 4, .int .i64 1, .int .i64 0, .int .u64 0, .int .u64 0, .int .i64 2, .float .f64 0, .int .u64 0, .int .i64 0, .int .i64 5, .int .i64 1, .int .i64 0, .int .u64 0, .int .u64 0, .int .i64 3, .float .f64 0, .int .u64 0, .int .i64 0] 31)) fun q w' => q = .returned (.bool false) ∧ Mod (fun _ => False) (W.alloc (.cells #[.int .i64 4, .int .i64 1, .int .i64 0, .int .u64 0, .int .u64 0, .int .i64 2, .float .f64 0, .int .u64 0, .int .i64 0, .int .i64 5, .int .i64 1, .int .i64 0, .int .u64 0, .int .u64 0, .int .i64 3, .float .f64 0, .int .u64 0, .int .i64 0] 31)) w') := fun W => by
    have h := cut_any _ [evA, evC] _ (evIn_new W [evA, evC] (by decide)) (by decide) (by
      intro e he
      simp only [List.mem_cons, List.not_mem_nil, or_false] at he
      rcases he with rfl | rfl
      all_goals first | exact okA | exact okC)
    rw [show cutB [evA, evC] = false by kernel_rfl] at h
    exact h
  have K2 : Hid (∀ W : World, Calls Tryd.prog 17 #[.slice (some ⟨W.heap.size, 0, none⟩) 2 2] (W.alloc (.cells #[.int .i64 4, .int .i64 1, .int .i64 0, .int .u64 0, .int .u64 0, .int .i64 2, .float .f64 0, .int .u64 0, .int .i64 0, .int .i64 4, .int .i64 1, .int .i64 0, .int .u64 0, .int .u64 0, .int .i64 2, .float .f64 0, .int .u64 0, .int .i64 0] 31)) fun q w' => q = .returned (.bool false) ∧ Mod (fun _ => False) (W.alloc (.cells #[.int .i64 4, .int .i64 1, .int .i64 0, .int .u64 0, .int .u64 0, .int .i64 2, .float .f64 0, .int .u64 0, .int .i64 0, .int .i64 4, .int .i64 1, .int .i64 0, .int .u64 0, .int .u64 0, .int .i64 2, .float .f64 0, .int .u64 0, .int .i64 0] 31)) w') := fun W => by
    have h := cut_any _ [evA, evA] _ (evIn_new W [evA, evA] (by decide)) (by decide) (by
      intro e he
      simp only [List.mem_cons, List.not_mem_nil, or_false] at he
      rcases he with rfl | rfl
      all_goals first | exact okA)
    rw [show cutB [evA, evA] = false by kernel_rfl] at h
    exact h
  have K3 : Hid (∀ W : World, Calls Tryd.prog 17 #[.slice (some ⟨W.heap.size, 0, none⟩) 4 4] (W.alloc (.cells #[.int .i64 4, .int .i64 1, .int .i64 0, .int .u64 0, .int .u64 0, .int .i64 2, .float .f64 0, .int .u64 0, .int .i64 0, .int .i64 3, .int .i64 0, .int .i64 0, .int .u64 0, .int .u64 0, .int .i64 1, .float .f64 4607182418800017408, .int .u64 9, .int .i64 0, .int .i64 2, .int .i64 1, .int .i64 0, .int .u64 0, .int .u64 0, .int .i64 0, .float .f64 0, .int .u64 0, .int .i64 0, .int .i64 5, .int .i64 1, .int .i64 (-1), .int .u64 0, .int .u64 0, .int .i64 2, .float .f64 9221120237041090561, .int .u64 0, .int .i64 0] 31)) fun q w' => q = .returned (.bool true) ∧ Mod (fun _ => False) (W.alloc (.cells #[.int .i64 4, .int .i64 1, .int .i64 0, .int .u64 0, .int .u64 0, .int .i64 2, .float .f64 0, .int .u64 0, .int .i64 0, .int .i64 3, .int .i64 0, .int .i64 0, .int .u64 0, .int .u64 0, .int .i64 1, .float .f64 4607182418800017408, .int .u64 9, .int .i64 0, .int .i64 2, .int .i64 1, .int .i64 0, .int .u64 0, .int .u64 0, .int .i64 0, .float .f64 0, .int .u64 0, .int .i64 0, .int .i64 5, .int .i64 1, .int .i64 (-1), .int .u64 0, .int .u64 0, .int .i64 2, .float .f64 9221120237041090561, .int .u64 0, .int .i64 0] 31)) w') := fun W => by
    have h := cut_any _ [evA, evD, evL2, evB] _ (evIn_new W [evA, evD, evL2, evB] (by decide)) (by decide) (by
      intro e he
      simp only [List.mem_cons, List.not_mem_nil, or_false] at he
      rcases he with rfl | rfl | rfl | rfl
      all_goals first | exact okA | exact okB | exact okD | exact okL2)
    rw [show cutB [evA, evD, evL2, evB] = true by kernel_rfl] at h
    exact h
  have K4 : Hid (∀ W : World, Calls Tryd.prog 17 #[.slice (some ⟨W.heap.size, 0, none⟩) 2 2] (W.alloc (.cells #[.int .i64 5, .int .i64 1, .int .i64 0, .int .u64 0, .int .u64 0, .int .i64 3, .float .f64 0, .int .u64 0, .int .i64 0, .int .i64 5, .int .i64 1, .int .i64 (-1), .int .u64 0, .int .u64 0, .int .i64 2, .float .f64 9221120237041090561, .int .u64 0, .int .i64 0] 31)) fun q w' => q = .returned (.bool true) ∧ Mod (fun _ => False) (W.alloc (.cells #[.int .i64 5, .int .i64 1, .int .i64 0, .int .u64 0, .int .u64 0, .int .i64 3, .float .f64 0, .int .u64 0, .int .i64 0, .int .i64 5, .int .i64 1, .int .i64 (-1), .int .u64 0, .int .u64 0, .int .i64 2, .float .f64 9221120237041090561, .int .u64 0, .int .i64 0] 31)) w') := fun W => by
    have h := cut_any _ [evC, evB] _ (evIn_new W [evC, evB] (by decide)) (by decide) (by
      intro e he
      simp only [List.mem_cons, List.not_mem_nil, or_false] at he
      rcases he with rfl | rfl
      all_goals first | exact okB | exact okC)
    rw [show cutB [evC, evB] = true by kernel_rfl] at h
    exact h
  have K5 : Hid (∀ W : World, Calls Tryd.prog 17 #[.slice none 0 0] W fun q w' => q = .returned (.bool true) ∧ Mod (fun _ => False) W w') := fun W => cut_any _ [] _ (evIn_nil W) (by decide) (fun e he => by simp at he)
  clear hT
  go_enter Tryd.func5, Tryd.ntmps5
  go_wp2_with fail
  refine HA.out.mono ?_
  rintro q w1 ⟨rfl, hm⟩
  have HM := Lib.hid hm
  clear hm HA
  go_wp2_with fail
  refine (HNAN.out _).mono ?_
  rintro q wz ⟨rfl, rfl⟩
  have hsz := size4 w1 (.cells #[.int .i64 4, .int .i64 1, .int .i64 0, .int .u64 0, .int .u64 0, .int .i64 2, .float .f64 0, .int .u64 0, .int .i64 0] 31) (.cells #[.int .i64 5, .int .i64 1, .int .i64 (-1), .int .u64 0, .int .u64 0, .int .i64 2, .float .f64 9221120237041090561, .int .u64 0, .int .i64 0] 31) (.cells #[.int .i64 5, .int .i64 1, .int .i64 0, .int .u64 0, .int .u64 0, .int .i64 3, .float .f64 0, .int .u64 0, .int .i64 0] 31) (.cells #[.int .i64 3, .int .i64 0, .int .i64 0, .int .u64 0, .int .u64 0, .int .i64 1, .float .f64 4607182418800017408, .int .u64 9, .int .i64 0] 31)
  have hB4 : ((((w1.alloc (.cells #[.int .i64 4, .int .i64 1, .int .i64 0, .int .u64 0, .int .u64 0, .int .i64 2, .float .f64 0, .int .u64 0, .int .i64 0] 31)).alloc (.cells #[.int .i64 5, .int .i64 1, .int .i64 (-1), .int .u64 0, .int .u64 0, .int .i64 2, .float .f64 9221120237041090561, .int .u64 0, .int .i64 0] 31)).alloc (.cells #[.int .i64 5, .int .i64 1, .int .i64 0, .int .u64 0, .int .u64 0, .int .i64 3, .float .f64 0, .int .u64 0, .int .i64 0] 31)).alloc (.cells #[.int .i64 3, .int .i64 0, .int .i64 0, .int .u64 0, .int .u64 0, .int .i64 1, .float .f64 4607182418800017408, .int .u64 9, .int .i64 0] 31)).heap[w1.heap.size + 1]? = some (.cells #[.int .i64 5, .int .i64 1, .int .i64 (-1), .int .u64 0, .int .u64 0, .int .i64 2, .float .f64 9221120237041090561, .int .u64 0, .int .i64 0] 31 (0, 0)) := by
    have h := blk_new (w1.alloc (.cells #[.int .i64 4, .int .i64 1, .int .i64 0, .int .u64 0, .int .u64 0, .int .i64 2, .float .f64 0, .int .u64 0, .int .i64 0] 31)) (.cells #[.int .i64 5, .int .i64 1, .int .i64 (-1), .int .u64 0, .int .u64 0, .int .i64 2, .float .f64 9221120237041090561, .int .u64 0, .int .i64 0] 31)
    rw [show (w1.alloc (.cells #[.int .i64 4, .int .i64 1, .int .i64 0, .int .u64 0, .int .u64 0, .int .i64 2, .float .f64 0, .int .u64 0, .int .i64 0] 31)).heap.size = w1.heap.size + 1 by simp] at h
    exact blk_alloc (blk_alloc h _) _
  obtain ⟨b0, b1, b2, b3, b4, b5, b6, b7, b8⟩ := nine_cells hB4
  have HX0 : Hid ((((((w1.alloc (.cells #[.int .i64 4, .int .i64 1, .int .i64 0, .int .u64 0, .int .u64 0, .int .i64 2, .float .f64 0, .int .u64 0, .int .i64 0] 31)).alloc (.cells #[.int .i64 5, .int .i64 1, .int .i64 (-1), .int .u64 0, .int .u64 0, .int .i64 2, .float .f64 9221120237041090561, .int .u64 0, .int .i64 0] 31)).alloc (.cells #[.int .i64 5, .int .i64 1, .int .i64 0, .int .u64 0, .int .u64 0, .int .i64 3, .float .f64 0, .int .u64 0, .int .i64 0] 31)).alloc (.cells #[.int .i64 3, .int .i64 0, .int .i64 0, .int .u64 0, .int .u64 0, .int .i64 1, .float .f64 4607182418800017408, .int .u64 9, .int .i64 0] 31)).alloc (.cells #[.int .i64 5, .int .i64 1, .int .i64 (-1), .int .u64 0, .int .u64 0, .int .i64 2, .float .f64 18446744073709551615, .int .u64 0, .int .i64 0] 31)).heap[w1.heap.size]? = some (.cells #[.int .i64 4, .int .i64 1, .int .i64 0, .int .u64 0, .int .u64 0, .int .i64 2, .float .f64 0, .int .u64 0, .int .i64 0] 31 (0, 0))) := blk_alloc (blk_alloc (blk_alloc (blk_alloc (blk_new w1 _) _) _) _) _
  have HX1 : Hid ((((((w1.alloc (.cells #[.int .i64 4, .int .i64 1, .int .i64 0, .int .u64 0, .int .u64 0, .int .i64 2, .float .f64 0, .int .u64 0, .int .i64 0] 31)).alloc (.cells #[.int .i64 5, .int .i64 1, .int .i64 (-1), .int .u64 0, .int .u64 0, .int .i64 2, .float .f64 9221120237041090561, .int .u64 0, .int .i64 0] 31)).alloc (.cells #[.int .i64 5, .int .i64 1, .int .i64 0, .int .u64 0, .int .u64 0, .int .i64 3, .float .f64 0, .int .u64 0, .int .i64 0] 31)).alloc (.cells #[.int .i64 3, .int .i64 0, .int .i64 0, .int .u64 0, .int .u64 0, .int .i64 1, .float .f64 4607182418800017408, .int .u64 9, .int .i64 0] 31)).alloc (.cells #[.int .i64 5, .int .i64 1, .int .i64 (-1), .int .u64 0, .int .u64 0, .int .i64 2, .float .f64 18446744073709551615, .int .u64 0, .int .i64 0] 31)).heap[w1.heap.size + 1]? = some (.cells #[.int .i64 5, .int .i64 1, .int .i64 (-1), .int .u64 0, .int .u64 0, .int .i64 2, .float .f64 9221120237041090561, .int .u64 0, .int .i64 0] 31 (0, 0))) := blk_alloc hB4 _
  have HX2 : Hid ((((((w1.alloc (.cells #[.int .i64 4, .int .i64 1, .int .i64 0, .int .u64 0, .int .u64 0, .int .i64 2, .float .f64 0, .int .u64 0, .int .i64 0] 31)).alloc (.cells #[.int .i64 5, .int .i64 1, .int .i64 (-1), .int .u64 0, .int .u64 0, .int .i64 2, .float .f64 9221120237041090561, .int .u64 0, .int .i64 0] 31)).alloc (.cells #[.int .i64 5, .int .i64 1, .int .i64 0, .int .u64 0, .int .u64 0, .int .i64 3, .float .f64 0, .int .u64 0, .int .i64 0] 31)).alloc (.cells #[.int .i64 3, .int .i64 0, .int .i64 0, .int .u64 0, .int .u64 0, .int .i64 1, .float .f64 4607182418800017408, .int .u64 9, .int .i64 0] 31)).alloc (.cells #[.int .i64 5, .int .i64 1, .int .i64 (-1), .int .u64 0, .int .u64 0, .int .i64 2, .float .f64 18446744073709551615, .int .u64 0, .int .i64 0] 31)).heap[w1.heap.size + 1 + 1]? = some (.cells #[.int .i64 5, .int .i64 1, .int .i64 0, .int .u64 0, .int .u64 0, .int .i64 3, .float .f64 0, .int .u64 0, .int .i64 0] 31 (0, 0))) := by
    have h := blk_new ((w1.alloc (.cells #[.int .i64 4, .int .i64 1, .int .i64 0, .int .u64 0, .int .u64 0, .int .i64 2, .float .f64 0, .int .u64 0, .int .i64 0] 31)).alloc (.cells #[.int .i64 5, .int .i64 1, .int .i64 (-1), .int .u64 0, .int .u64 0, .int .i64 2, .float .f64 9221120237041090561, .int .u64 0, .int .i64 0] 31)) (.cells #[.int .i64 5, .int .i64 1, .int .i64 0, .int .u64 0, .int .u64 0, .int .i64 3, .float .f64 0, .int .u64 0, .int .i64 0] 31)
    rw [show ((w1.alloc (.cells #[.int .i64 4, .int .i64 1, .int .i64 0, .int .u64 0, .int .u64 0, .int .i64 2, .float .f64 0, .int .u64 0, .int .i64 0] 31)).alloc (.cells #[.int .i64 5, .int .i64 1, .int .i64 (-1), .int .u64 0, .int .u64 0, .int .i64 2, .float .f64 9221120237041090561, .int .u64 0, .int .i64 0] 31)).heap.size = w1.heap.size + 1 + 1 by simp] at h
    exact blk_alloc (blk_alloc h _) _
  have HX3 : Hid ((((((w1.alloc (.cells #[.int .i64 4, .int .i64 1, .int .i64 0, .int .u64 0, .int .u64 0, .int .i64 2, .float .f64 0, .int .u64 0, .int .i64 0] 31)).alloc (.cells #[.int .i64 5, .int .i64 1, .int .i64 (-1), .int .u64 0, .int .u64 0, .int .i64 2, .float .f64 9221120237041090561, .int .u64 0, .int .i64 0] 31)).alloc (.cells #[.int .i64 5, .int .i64 1, .int .i64 0, .int .u64 0, .int .u64 0, .int .i64 3, .float .f64 0, .int .u64 0, .int .i64 0] 31)).alloc (.cells #[.int .i64 3, .int .i64 0, .int .i64 0, .int .u64 0, .int .u64 0, .int .i64 1, .float .f64 4607182418800017408, .int .u64 9, .int .i64 0] 31)).alloc (.cells #[.int .i64 5, .int .i64 1, .int .i64 (-1), .int .u64 0, .int .u64 0, .int .i64 2, .float .f64 18446744073709551615, .int .u64 0, .int .i64 0] 31)).heap[w1.heap.size + 1 + 1 + 1]? = some (.cells #[.int .i64 3, .int .i64 0, .int .i64 0, .int .u64 0, .int .u64 0, .int .i64 1, .float .f64 4607182418800017408, .int .u64 9, .int .i64 0] 31 (0, 0))) := by
    have h := blk_new (((w1.alloc (.cells #[.int .i64 4, .int .i64 1, .int .i64 0, .int .u64 0, .int .u64 0, .int .i64 2, .float .f64 0, .int .u64 0, .int .i64 0] 31)).alloc (.cells #[.int .i64 5, .int .i64 1, .int .i64 (-1), .int .u64 0, .int .u64 0, .int .i64 2, .float .f64 9221120237041090561, .int .u64 0, .int .i64 0] 31)).alloc (.cells #[.int .i64 5, .int .i64 1, .int .i64 0, .int .u64 0, .int .u64 0, .int .i64 3, .float .f64 0, .int .u64 0, .int .i64 0] 31)) (.cells #[.int .i64 3, .int .i64 0, .int .i64 0, .int .u64 0, .int .u64 0, .int .i64 1, .float .f64 4607182418800017408, .int .u64 9, .int .i64 0] 31)
    rw [show (((w1.alloc (.cells #[.int .i64 4, .int .i64 1, .int .i64 0, .int .u64 0, .int .u64 0, .int .i64 2, .float .f64 0, .int .u64 0, .int .i64 0] 31)).alloc (.cells #[.int .i64 5, .int .i64 1, .int .i64 (-1), .int .u64 0, .int .u64 0, .int .i64 2, .float .f64 9221120237041090561, .int .u64 0, .int .i64 0] 31)).alloc (.cells #[.int .i64 5, .int .i64 1, .int .i64 0, .int .u64 0, .int .u64 0, .int .i64 3, .float .f64 0, .int .u64 0, .int .i64 0] 31)).heap.size = w1.heap.size + 1 + 1 + 1 by simp] at h
    exact blk_alloc h _
  have HX4 : Hid ((((((w1.alloc (.cells #[.int .i64 4, .int .i64 1, .int .i64 0, .int .u64 0, .int .u64 0, .int .i64 2, .float .f64 0, .int .u64 0, .int .i64 0] 31)).alloc (.cells #[.int .i64 5, .int .i64 1, .int .i64 (-1), .int .u64 0, .int .u64 0, .int .i64 2, .float .f64 9221120237041090561, .int .u64 0, .int .i64 0] 31)).alloc (.cells #[.int .i64 5, .int .i64 1, .int .i64 0, .int .u64 0, .int .u64 0, .int .i64 3, .float .f64 0, .int .u64 0, .int .i64 0] 31)).alloc (.cells #[.int .i64 3, .int .i64 0, .int .i64 0, .int .u64 0, .int .u64 0, .int .i64 1, .float .f64 4607182418800017408, .int .u64 9, .int .i64 0] 31)).alloc (.cells #[.int .i64 5, .int .i64 1, .int .i64 (-1), .int .u64 0, .int .u64 0, .int .i64 2, .float .f64 18446744073709551615, .int .u64 0, .int .i64 0] 31)).heap[w1.heap.size + 4]? = some (.cells #[.int .i64 5, .int .i64 1, .int .i64 (-1), .int .u64 0, .int .u64 0, .int .i64 2, .float .f64 18446744073709551615, .int .u64 0, .int .i64 0] 31 (0, 0))) := by
    have h := blk_new ((((w1.alloc (.cells #[.int .i64 4, .int .i64 1, .int .i64 0, .int .u64 0, .int .u64 0, .int .i64 2, .float .f64 0, .int .u64 0, .int .i64 0] 31)).alloc (.cells #[.int .i64 5, .int .i64 1, .int .i64 (-1), .int .u64 0, .int .u64 0, .int .i64 2, .float .f64 9221120237041090561, .int .u64 0, .int .i64 0] 31)).alloc (.cells #[.int .i64 5, .int .i64 1, .int .i64 0, .int .u64 0, .int .u64 0, .int .i64 3, .float .f64 0, .int .u64 0, .int .i64 0] 31)).alloc (.cells #[.int .i64 3, .int .i64 0, .int .i64 0, .int .u64 0, .int .u64 0, .int .i64 1, .float .f64 4607182418800017408, .int .u64 9, .int .i64 0] 31)) (.cells #[.int .i64 5, .int .i64 1, .int .i64 (-1), .int .u64 0, .int .u64 0, .int .i64 2, .float .f64 18446744073709551615, .int .u64 0, .int .i64 0] 31)
    rw [hsz] at h
    exact h
  have HM5 : Hid (Mod (fun _ => False) w (((((w1.alloc (.cells #[.int .i64 4, .int .i64 1, .int .i64 0, .int .u64 0, .int .u64 0, .int .i64 2, .float .f64 0, .int .u64 0, .int .i64 0] 31)).alloc (.cells #[.int .i64 5, .int .i64 1, .int .i64 (-1), .int .u64 0, .int .u64 0, .int .i64 2, .float .f64 9221120237041090561, .int .u64 0, .int .i64 0] 31)).alloc (.cells #[.int .i64 5, .int .i64 1, .int .i64 0, .int .u64 0, .int .u64 0, .int .i64 3, .float .f64 0, .int .u64 0, .int .i64 0] 31)).alloc (.cells #[.int .i64 3, .int .i64 0, .int .i64 0, .int .u64 0, .int .u64 0, .int .i64 1, .float .f64 4607182418800017408, .int .u64 9, .int .i64 0] 31)).alloc (.cells #[.int .i64 5, .int .i64 1, .int .i64 (-1), .int .u64 0, .int .u64 0, .int .i64 2, .float .f64 18446744073709551615, .int .u64 0, .int .i64 0] 31))) := ((((HM.out.alloc _).alloc _).alloc _).alloc _).alloc _
  clear hB4
  have HS0 := Lib.hid (SL1.out (((((w1.alloc (.cells #[.int .i64 4, .int .i64 1, .int .i64 0, .int .u64 0, .int .u64 0, .int .i64 2, .float .f64 0, .int .u64 0, .int .i64 0] 31)).alloc (.cells #[.int .i64 5, .int .i64 1, .int .i64 (-1), .int .u64 0, .int .u64 0, .int .i64 2, .float .f64 9221120237041090561, .int .u64 0, .int .i64 0] 31)).alloc (.cells #[.int .i64 5, .int .i64 1, .int .i64 0, .int .u64 0, .int .u64 0, .int .i64 3, .float .f64 0, .int .u64 0, .int .i64 0] 31)).alloc (.cells #[.int .i64 3, .int .i64 0, .int .i64 0, .int .u64 0, .int .u64 0, .int .i64 1, .float .f64 4607182418800017408, .int .u64 9, .int .i64 0] 31)).alloc (.cells #[.int .i64 5, .int .i64 1, .int .i64 (-1), .int .u64 0, .int .u64 0, .int .i64 2, .float .f64 18446744073709551615, .int .u64 0, .int .i64 0] 31)) (HT.out _ HM5.out))
  go_wp2_with fail
  refine HS0.out.mono ?_
  rintro q v1 ⟨rfl, hm⟩
  have HN1 : Hid (Mod (fun _ => False) (((((w1.alloc (.cells #[.int .i64 4, .int .i64 1, .int .i64 0, .int .u64 0, .int .u64 0, .int .i64 2, .float .f64 0, .int .u64 0, .int .i64 0] 31)).alloc (.cells #[.int .i64 5, .int .i64 1, .int .i64 (-1), .int .u64 0, .int .u64 0, .int .i64 2, .float .f64 9221120237041090561, .int .u64 0, .int .i64 0] 31)).alloc (.cells #[.int .i64 5, .int .i64 1, .int .i64 0, .int .u64 0, .int .u64 0, .int .i64 3, .float .f64 0, .int .u64 0, .int .i64 0] 31)).alloc (.cells #[.int .i64 3, .int .i64 0, .int .i64 0, .int .u64 0, .int .u64 0, .int .i64 1, .float .f64 4607182418800017408, .int .u64 9, .int .i64 0] 31)).alloc (.cells #[.int .i64 5, .int .i64 1, .int .i64 (-1), .int .u64 0, .int .u64 0, .int .i64 2, .float .f64 18446744073709551615, .int .u64 0, .int .i64 0] 31)) v1) := hm
  clear hm HS0 b0 b1 b2 b3 b4 b5 b6 b7 b8 hsz SL1
  generalize (((((w1.alloc (.cells #[.int .i64 4, .int .i64 1, .int .i64 0, .int .u64 0, .int .u64 0, .int .i64 2, .float .f64 0, .int .u64 0, .int .i64 0] 31)).alloc (.cells #[.int .i64 5, .int .i64 1, .int .i64 (-1), .int .u64 0, .int .u64 0, .int .i64 2, .float .f64 9221120237041090561, .int .u64 0, .int .i64 0] 31)).alloc (.cells #[.int .i64 5, .int .i64 1, .int .i64 0, .int .u64 0, .int .u64 0, .int .i64 3, .float .f64 0, .int .u64 0, .int .i64 0] 31)).alloc (.cells #[.int .i64 3, .int .i64 0, .int .i64 0, .int .u64 0, .int .u64 0, .int .i64 1, .float .f64 4607182418800017408, .int .u64 9, .int .i64 0] 31)).alloc (.cells #[.int .i64 5, .int .i64 1, .int .i64 (-1), .int .u64 0, .int .u64 0, .int .i64 2, .float .f64 18446744073709551615, .int .u64 0, .int .i64 0] 31)) = w5 at *
  obtain ⟨d0, d1, d2, d3, d4, d5, d6, d7, d8⟩ := nine_cells (HN1.out.blk HX3.out (fun h => h))
  have HS := Lib.hid (SD.out v1 (HT.out _ (HM5.out.trans HN1.out)))
  go_wp2_with fail
  refine HS.out.mono ?_
  rintro q v2 ⟨rfl, hm⟩
  have HN2 : Hid (Mod (fun _ => False) w5 v2) := HN1.out.trans hm
  clear hm HN1 d0 d1 d2 d3 d4 d5 d6 d7 d8 HS
  obtain ⟨a0, a1, a2, a3, a4, a5, a6, a7, a8⟩ := nine_cells (HN2.out.blk HX0.out (fun h => h))
  have HS := Lib.hid (SA.out v2 (HT.out _ (HM5.out.trans HN2.out)))
  go_wp2_with fail
  refine HS.out.mono ?_
  rintro q v3 ⟨rfl, hm⟩
  have HN3 : Hid (Mod (fun _ => False) w5 v3) := HN2.out.trans hm
  clear hm HN2 a0 a1 a2 a3 a4 a5 a6 a7 a8 HS
  obtain ⟨b0, b1, b2, b3, b4, b5, b6, b7, b8⟩ := nine_cells (HN3.out.blk HX1.out (fun h => h))
  have HS := Lib.hid (SB.out v3 (HT.out _ (HM5.out.trans HN3.out)))
  go_wp2_with fail
  refine HS.out.mono ?_
  rintro q v4 ⟨rfl, hm⟩
  have HN4 : Hid (Mod (fun _ => False) w5 v4) := HN3.out.trans hm
  clear hm HN3 b0 b1 b2 b3 b4 b5 b6 b7 b8 HS
  have HS := Lib.hid (SL6.out v4 (HT.out _ (HM5.out.trans HN4.out)))
  go_wp2_with fail
  refine HS.out.mono ?_
  rintro q v5 ⟨rfl, hm⟩
  have HN5 : Hid (Mod (fun _ => False) w5 v5) := HN4.out.trans hm
  clear hm HN4  HS
  have HS := Lib.hid (SL7.out v5 (HT.out _ (HM5.out.trans HN5.out)))
  go_wp2_with fail
  refine HS.out.mono ?_
  rintro q v6 ⟨rfl, hm⟩
  have HN6 : Hid (Mod (fun _ => False) w5 v6) := HN5.out.trans hm
  clear hm HN5  HS
  have HS := Lib.hid (SL0.out v6 (HT.out _ (HM5.out.trans HN6.out)))
  go_wp2_with fail
  refine HS.out.mono ?_
  rintro q v7 ⟨rfl, hm⟩
  have HN7 : Hid (Mod (fun _ => False) w5 v7) := HN6.out.trans hm
  clear hm HN6  HS
  obtain ⟨b0, b1, b2, b3, b4, b5, b6, b7, b8⟩ := nine_cells (HN7.out.blk HX1.out (fun h => h))
  obtain ⟨e0, e1, e2, e3, e4, e5, e6, e7, e8⟩ := nine_cells (HN7.out.blk HX4.out (fun h => h))
  go_wp2_with fail
  refine (QBE.out _).mono ?_
  rintro q v8 ⟨rfl, hm⟩
  have HN8 : Hid (Mod (fun _ => False) w5 v8) := HN7.out.trans hm
  clear hm HN7 b0 b1 b2 b3 b4 b5 b6 b7 b8 e0 e1 e2 e3 e4 e5 e6 e7 e8
  obtain ⟨a0, a1, a2, a3, a4, a5, a6, a7, a8⟩ := nine_cells (HN8.out.blk HX0.out (fun h => h))
  obtain ⟨b0, b1, b2, b3, b4, b5, b6, b7, b8⟩ := nine_cells (HN8.out.blk HX1.out (fun h => h))
  go_wp2_with fail
  refine (QAB.out _).mono ?_
  rintro q v9 ⟨rfl, hm⟩
  have HN9 : Hid (Mod (fun _ => False) w5 v9) := HN8.out.trans hm
  clear hm HN8 a0 a1 a2 a3 a4 a5 a6 a7 a8 b0 b1 b2 b3 b4 b5 b6 b7 b8
  obtain ⟨a0, a1, a2, a3, a4, a5, a6, a7, a8⟩ := nine_cells (HN9.out.blk HX0.out (fun h => h))
  obtain ⟨b0, b1, b2, b3, b4, b5, b6, b7, b8⟩ := nine_cells (HN9.out.blk HX1.out (fun h => h))
  go_wp2_with fail
  refine (K0.out _).mono ?_
  rintro q v10 ⟨rfl, hm⟩
  have HN10 : Hid (Mod (fun _ => False) w5 v10) := (HN9.out.alloc _).trans hm
  clear hm HN9 a0 a1 a2 a3 a4 a5 a6 a7 a8 b0 b1 b2 b3 b4 b5 b6 b7 b8
  obtain ⟨a0, a1, a2, a3, a4, a5, a6, a7, a8⟩ := nine_cells (HN10.out.blk HX0.out (fun h => h))
  obtain ⟨c0, c1, c2, c3, c4, c5, c6, c7, c8⟩ := nine_cells (HN10.out.blk HX2.out (fun h => h))
  go_wp2_with fail
  refine (K1.out _).mono ?_
  rintro q v11 ⟨rfl, hm⟩
  have HN11 : Hid (Mod (fun _ => False) w5 v11) := (HN10.out.alloc _).trans hm
  clear hm HN10 a0 a1 a2 a3 a4 a5 a6 a7 a8 c0 c1 c2 c3 c4 c5 c6 c7 c8
  obtain ⟨a0, a1, a2, a3, a4, a5, a6, a7, a8⟩ := nine_cells (HN11.out.blk HX0.out (fun h => h))
  go_wp2_with fail
  refine (K2.out _).mono ?_
  rintro q v12 ⟨rfl, hm⟩
  have HN12 : Hid (Mod (fun _ => False) w5 v12) := (HN11.out.alloc _).trans hm
  clear hm HN11 a0 a1 a2 a3 a4 a5 a6 a7 a8
  obtain ⟨a0, a1, a2, a3, a4, a5, a6, a7, a8⟩ := nine_cells (HN12.out.blk HX0.out (fun h => h))
  obtain ⟨b0, b1, b2, b3, b4, b5, b6, b7, b8⟩ := nine_cells (HN12.out.blk HX1.out (fun h => h))
  obtain ⟨d0, d1, d2, d3, d4, d5, d6, d7, d8⟩ := nine_cells (HN12.out.blk HX3.out (fun h => h))
  go_wp2_with fail
  refine (K3.out _).mono ?_
  rintro q v13 ⟨rfl, hm⟩
  have HN13 : Hid (Mod (fun _ => False) w5 v13) := (HN12.out.alloc _).trans hm
  clear hm HN12 a0 a1 a2 a3 a4 a5 a6 a7 a8 b0 b1 b2 b3 b4 b5 b6 b7 b8 d0 d1 d2 d3 d4 d5 d6 d7 d8
  obtain ⟨b0, b1, b2, b3, b4, b5, b6, b7, b8⟩ := nine_cells (HN13.out.blk HX1.out (fun h => h))
  obtain ⟨c0, c1, c2, c3, c4, c5, c6, c7, c8⟩ := nine_cells (HN13.out.blk HX2.out (fun h => h))
  go_wp2_with fail
  refine (K4.out _).mono ?_
  rintro q v14 ⟨rfl, hm⟩
  have HN14 : Hid (Mod (fun _ => False) w5 v14) := (HN13.out.alloc _).trans hm
  clear hm HN13 b0 b1 b2 b3 b4 b5 b6 b7 b8 c0 c1 c2 c3 c4 c5 c6 c7 c8
  go_wp2_with fail
  refine (K5.out _).mono ?_
  rintro q v15 ⟨rfl, hm⟩
  have HN15 : Hid (Mod (fun _ => False) w5 v15) := HN14.out.trans hm
  clear hm HN14 
  go_wp2
  go_ret
  exact ⟨rfl, HM5.out.trans HN15.out⟩
theorem known_walk (W : World) (hL : Tab W) : Calls Tryd.prog 5 #[] W fun e w' => e = .returned (.bool true) ∧ Below W.heap.size W w' :=
  (known_any W hL).mono fun _ _ ⟨x, y⟩ => ⟨x, y.none_below⟩
end Go.Proofs.YtlklbdnlpljaiaaDoor

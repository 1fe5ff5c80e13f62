/-
  Package past: waits, Ahead, To.
-/
import Derived.Test.YteicceikaecfcaaPastC
import Derived.Deep.RegionHeld3
namespace Go.Proofs.Yteicceikaecfcaa
open Go.RowKit Go.Shoal Go.Maps

theorem two_cells {w : World} {z : Nat} {a b : Value} {t : TypeId} (h : w.heap[z]? = some (.cells #[a, b] t (0, 0))) : w.cell? ⟨z, 0, none⟩ = some a ∧ w.cell? ⟨z, 1, none⟩ = some b := ⟨(blk_cell h 0).trans rfl, (blk_cell h 1).trans rfl⟩
/-- A message's cells. -/
theorem PastAt.elem {w : World} {B : Nat} {s : Pa} (h : PastAt w B s) {k : Nat} {m : Ms} (hk : s.all[k]? = some m) :
    ∃ b o cap, s.av = .slice (some ⟨b, o, none⟩) s.all.length cap ∧ b < w.heap.size ∧ w.cell? ⟨b, o + k * 4, none⟩ = some (.int .i64 (m.frm : Int)) ∧ w.cell? ⟨b, o + k * 4 + 1, none⟩ = some (.int .u64 (m.num : Int)) ∧
      w.cell? ⟨b, o + k * 4 + 2, none⟩ = some (.int .u64 (m.to : Int)) ∧ w.cell? ⟨b, o + k * 4 + 3, none⟩ = some (.map (some m.blk)) := by
  obtain ⟨b, o, cap, he, hb, hc⟩ := h.all.elem Ms.len hk
  exact ⟨b, o, cap, he, hb, hc 0 _ rfl, hc 1 _ rfl, hc 2 _ rfl, hc 3 _ rfl⟩
theorem Pa.there_nat (s : Pa) (p : Nat) : s.there (p : Int) = decide (p < s.n) := by
  unfold Pa.there
  rw [decide_eq_true (by omega : (0 : Int) ≤ (p : Int)), Bool.true_and]
  by_cases h : p < s.n
  · rw [decide_eq_true h, decide_eq_true (by omega)]
  · rw [decide_eq_false h, decide_eq_false (by omega)]
set_option maxHeartbeats 1000000 in
theorem waits_no (B : Nat) (s : Pa) (p f x : Int) (w : World) (h : PastAt w B s) (hno : s.there p = false ∨ findI s.all f x < 0) :
    Calls Try.prog 30 #[.pointer (some ⟨B, 0, none⟩), .int .i64 p, .agg #[.int .i64 f, .int .u64 x]] w (Told w (.tuple #[.int .i64 0, .bool false])) := by
  have hA := h.same (w' := w.alloc (.cells #[.int .i64 f, .int .u64 x] 34)) ((Mod.refl _ _).alloc _)
  have HA := Lib.hid hA
  have HM : Hid (Mod (fun _ => False) w (w.alloc (.cells #[.int .i64 f, .int .u64 x] 34))) := (Mod.refl _ w).alloc _
  have HF := Lib.hid (find_any B s f x _ hA)
  clear h hA
  cases ht : s.there p
  · clear hno
    go_enter Try.func30, Try.ntmps30
    go_wp2_with fail
    refine HF.out.mono ?_
    rintro e w1 ⟨rfl, hm⟩
    have HH := Lib.hid (has_past B s p w1 (HA.out.same hm))
    rw [ht] at HH
    have HE := Lib.hid (HM.out.trans hm)
    clear hm HF
    go_wp2_with fail
    refine HH.out.mono ?_
    rintro e w2 ⟨rfl, rfl⟩
    go_wp2
    go_ret2
    exact ⟨rfl, HE.out⟩
  · have hneg : findI s.all f x < 0 := hno.resolve_left (by rw [ht]; decide)
    have t1 : decide (findI s.all f x < 0) = true := decide_eq_true hneg
    generalize findI s.all f x = r at *
    clear hno hneg
    go_enter Try.func30, Try.ntmps30
    go_wp2_with fail
    refine HF.out.mono ?_
    rintro e w1 ⟨rfl, hm⟩
    have HH := Lib.hid (has_past B s p w1 (HA.out.same hm))
    rw [ht] at HH
    have HE := Lib.hid (HM.out.trans hm)
    clear hm HF
    go_wp2_with fail
    refine HH.out.mono ?_
    rintro e w2 ⟨rfl, rfl⟩
    go_wp2
    go_ret2
    exact ⟨rfl, HE.out⟩
/-- May it be taken, but for what came ahead? -/
def Pa.open (s : Pa) (m : Ms) (k p : Nat) : Bool := inSet m.to (p : Int) && !inSet (s.had k) (p : Int)
set_option maxHeartbeats 2000000 in
theorem waits_at (B : Nat) (s : Pa) (p k : Nat) (m : Ms) (w : World) (h : PastAt w B s) (hp : p < s.n) (hk : s.all[k]? = some m) :
    Calls Try.prog 30 #[.pointer (some ⟨B, 0, none⟩), .int .i64 p, .agg #[.int .i64 (m.frm : Int), .int .u64 (m.num : Int)]] w (Told w (.tuple #[.int .i64 k, .bool (s.open m k p)])) := by
  have hA := h.same (w' := w.alloc (.cells #[.int .i64 (m.frm : Int), .int .u64 (m.num : Int)] 34)) ((Mod.refl _ _).alloc _)
  have HA := Lib.hid hA
  have HM : Hid (Mod (fun _ => False) w (w.alloc (.cells #[.int .i64 (m.frm : Int), .int .u64 (m.num : Int)] 34))) := (Mod.refl _ w).alloc _
  have HF := Lib.hid (find_any B s (m.frm : Int) (m.num : Int) _ hA)
  rw [h.ok.find hk] at HF
  have ht := s.there_nat p
  rw [decide_eq_true hp] at ht
  have hlen := h.ok.len
  have hlt := (List.getElem?_eq_some_iff.1 hk).1
  have HT1 := Lib.hid (fun w => has_any m.to (p : Int) w (h.ok.to m (List.mem_of_getElem? hk)))
  have HT2 := Lib.hid (fun w => has_any (s.had k) (p : Int) w (h.ok.hlt k))
  have HX := Lib.hid hk
  have HO : Hid (s.open m k p = (inSet m.to (p : Int) && !inSet (s.had k) (p : Int))) := rfl
  have hi0 : (0 : Int) ≤ (k : Int) := by omega
  have hi1 : (k : Int) < (s.all.length : Int) := by omega
  have hk1000 : (k : Int) < 1000 := by omega
  have tk : decide ((k : Int) < 0) = false := decide_eq_false (by omega)
  clear h hA hk
  generalize s.open m k p = r at *
  cases h1 : inSet m.to (p : Int)
  · rw [h1] at HO
    go_enter Try.func30, Try.ntmps30
    go_wp2_with fail
    refine HF.out.mono ?_
    rintro e w1 ⟨rfl, hm⟩
    have hP := HA.out.same hm
    obtain ⟨c0, _, _, _, c4⟩ := hP.cells
    obtain ⟨b, o, cap, he, hb, k0, k1, k2, k3⟩ := hP.elem HX.out
    rw [he] at c0
    have HH := Lib.hid (has_past B s (p : Int) w1 hP)
    rw [ht] at HH
    have HE := Lib.hid (HM.out.trans hm)
    clear hm HF hP k0 k1 k3 he
    go_wp2_with fail
    refine HH.out.mono ?_
    rintro e w2 ⟨rfl, rfl⟩
    go_wp2_with fail
    refine (HT1.out _).mono ?_
    rintro e w2 ⟨rfl, rfl⟩
    rw [h1]
    go_wp2
    go_ret2
    exact ⟨by rw [HO.out]; rfl, HE.out⟩
  · rw [h1] at HO
    go_enter Try.func30, Try.ntmps30
    go_wp2_with fail
    refine HF.out.mono ?_
    rintro e w1 ⟨rfl, hm⟩
    have hP := HA.out.same hm
    obtain ⟨c0, _, _, _, c4⟩ := hP.cells
    obtain ⟨b, o, cap, he, hb, k0, k1, k2, k3⟩ := hP.elem HX.out
    rw [he] at c0
    have HH := Lib.hid (has_past B s (p : Int) w1 hP)
    rw [ht] at HH
    have hlk := look_had hP.had k (by omega)
    have HE := Lib.hid (HM.out.trans hm)
    clear hm HF hP k0 k1 k3 he
    go_wp2_with fail
    refine HH.out.mono ?_
    rintro e w2 ⟨rfl, rfl⟩
    go_wp2_with fail
    refine (HT1.out _).mono ?_
    rintro e w2 ⟨rfl, rfl⟩
    rw [h1]
    go_wp2_with fail
    refine (HT2.out _).mono ?_
    rintro e w2 ⟨rfl, rfl⟩
    go_wp2
    go_ret2
    exact ⟨by rw [HO.out]; rfl, HE.out⟩
theorem to_no (B : Nat) (s : Pa) (f x : Int) (w : World) (h : PastAt w B s) (hno : findI s.all f x < 0) :
    Calls Try.prog 18 #[.pointer (some ⟨B, 0, none⟩), .agg #[.int .i64 f, .int .u64 x]] w (Told w (.int .u64 0)) := by
  have hA := h.same (w' := w.alloc (.cells #[.int .i64 f, .int .u64 x] 34)) ((Mod.refl _ _).alloc _)
  have HM : Hid (Mod (fun _ => False) w (w.alloc (.cells #[.int .i64 f, .int .u64 x] 34))) := (Mod.refl _ w).alloc _
  have HF := Lib.hid (find_any B s f x _ hA)
  have t1 : decide (findI s.all f x < 0) = true := decide_eq_true hno
  generalize findI s.all f x = r at *
  clear h hA hno
  go_enter Try.func18, Try.ntmps18
  go_wp2_with fail
  refine HF.out.mono ?_
  rintro e w1 ⟨rfl, hm⟩
  have HE := Lib.hid (HM.out.trans hm)
  clear hm HF
  go_wp2
  go_ret
  exact ⟨rfl, HE.out⟩
theorem to_at (B : Nat) (s : Pa) (k : Nat) (m : Ms) (w : World) (h : PastAt w B s) (hk : s.all[k]? = some m) :
    Calls Try.prog 18 #[.pointer (some ⟨B, 0, none⟩), .agg #[.int .i64 (m.frm : Int), .int .u64 (m.num : Int)]] w (Told w (.int .u64 (m.to : Int))) := by
  have hA := h.same (w' := w.alloc (.cells #[.int .i64 (m.frm : Int), .int .u64 (m.num : Int)] 34)) ((Mod.refl _ _).alloc _)
  have HA := Lib.hid hA
  have HM : Hid (Mod (fun _ => False) w (w.alloc (.cells #[.int .i64 (m.frm : Int), .int .u64 (m.num : Int)] 34))) := (Mod.refl _ w).alloc _
  have HF := Lib.hid (find_any B s (m.frm : Int) (m.num : Int) _ hA)
  rw [h.ok.find hk] at HF
  have hlen := h.ok.len
  have hlt := (List.getElem?_eq_some_iff.1 hk).1
  have HX := Lib.hid hk
  have hi0 : (0 : Int) ≤ (k : Int) := by omega
  have hi1 : (k : Int) < (s.all.length : Int) := by omega
  have tk : decide ((k : Int) < 0) = false := decide_eq_false (by omega)
  clear h hA hk
  go_enter Try.func18, Try.ntmps18
  go_wp2_with fail
  refine HF.out.mono ?_
  rintro e w1 ⟨rfl, hm⟩
  have hP := HA.out.same hm
  obtain ⟨c0, _, _, _, _⟩ := hP.cells
  obtain ⟨b, o, cap, he, hb, k0, k1, k2, k3⟩ := hP.elem HX.out
  rw [he] at c0
  have HE := Lib.hid (HM.out.trans hm)
  clear hm HF hP k0 k1 k3 he
  go_wp2
  go_ret
  exact ⟨rfl, HE.out⟩
/-- The world of Ahead when its names are laid. -/
abbrev twoNames (w : World) (f x g y : Int) : World := (w.alloc (.cells #[.int .i64 f, .int .u64 x] 34)).alloc (.cells #[.int .i64 g, .int .u64 y] 34)
theorem twoNames_mod (w : World) (f x g y : Int) : Mod (fun _ => False) w (twoNames w f x g y) := ((Mod.refl _ w).alloc _).alloc _
theorem twoNames_cells {w W : World} {f x g y : Int} (hm : Mod (fun _ => False) (twoNames w f x g y) W) :
    W.cell? ⟨w.heap.size, 0, none⟩ = some (.int .i64 f) ∧ W.cell? ⟨w.heap.size, 1, none⟩ = some (.int .u64 x) ∧ W.cell? ⟨w.heap.size + 1, 0, none⟩ = some (.int .i64 g) ∧ W.cell? ⟨w.heap.size + 1, 1, none⟩ = some (.int .u64 y) := by
  have h1 := hm.blk (blk_alloc (blk_new w (.cells #[.int .i64 f, .int .u64 x] 34)) (.cells #[.int .i64 g, .int .u64 y] 34)) (fun x => x)
  have h2 := hm.blk (blk_new (w.alloc (.cells #[.int .i64 f, .int .u64 x] 34)) (.cells #[.int .i64 g, .int .u64 y] 34)) (fun x => x)
  have e : (w.alloc (.cells #[.int .i64 f, .int .u64 x] 34)).heap.size = w.heap.size + 1 := by simp
  rw [e] at h2
  obtain ⟨a, b⟩ := two_cells h1
  obtain ⟨c, d⟩ := two_cells h2
  exact ⟨a, b, c, d⟩
set_option maxHeartbeats 2000000 in
theorem ahead_at (B : Nat) (s : Pa) (i k : Nat) (m m' : Ms) (w : World) (h : PastAt w B s) (hi : s.all[i]? = some m) (hk : s.all[k]? = some m') :
    Calls Try.prog 13 #[.pointer (some ⟨B, 0, none⟩), .agg #[.int .i64 (m.frm : Int), .int .u64 (m.num : Int)], .agg #[.int .i64 (m'.frm : Int), .int .u64 (m'.num : Int)]] w (Told w (.bool (m'.ahead i))) := by
  have HA : Hid (∀ W, Mod (fun _ => False) (twoNames w (m.frm : Int) (m.num : Int) (m'.frm : Int) (m'.num : Int)) W → PastAt W B s) := fun W hm => (h.same (twoNames_mod w _ _ _ _)).same hm
  have HF : Hid (∀ f x W, Mod (fun _ => False) (twoNames w (m.frm : Int) (m.num : Int) (m'.frm : Int) (m'.num : Int)) W → Calls Try.prog 31 #[.pointer (some ⟨B, 0, none⟩), .agg #[.int .i64 f, .int .u64 x]] W fun e w' => e = .returned (.int .i64 (findI s.all f x)) ∧ Mod (fun _ => False) (twoNames w (m.frm : Int) (m.num : Int) (m'.frm : Int) (m'.num : Int)) w') := fun f x W hm =>
    (find_any B s f x W (HA.out W hm)).mono fun e w' ⟨h1, h2⟩ => ⟨h1, hm.trans h2⟩
  have HI1 := Lib.hid (h.ok.find hi)
  have HI2 := Lib.hid (h.ok.find hk)
  have hlen := h.ok.len
  have hltk := (List.getElem?_eq_some_iff.1 hk).1
  have hlti := (List.getElem?_eq_some_iff.1 hi).1
  have HX := Lib.hid hk
  have hi0 : (0 : Int) ≤ (k : Int) := by omega
  have hi1 : (k : Int) < (s.all.length : Int) := by omega
  have hi2 : (0 : Int) ≤ (i : Int) := by omega
  have HM2 := Lib.hid (twoNames_mod w (m.frm : Int) (m.num : Int) (m'.frm : Int) (m'.num : Int))
  have hM0 : Mod (fun _ => False) (twoNames w (m.frm : Int) (m.num : Int) (m'.frm : Int) (m'.num : Int)) (twoNames w (m.frm : Int) (m.num : Int) (m'.frm : Int) (m'.num : Int)).drew := (Mod.refl _ _).drew
  clear h hi hk
  go_enter Try.func13, Try.ntmps13
  go_wp2_with fail
  go_region_held3 (fun w' => w'.cell? ⟨w.heap.size, 0, none⟩ = some (.int .i64 (m.frm : Int)) ∧ w'.cell? ⟨w.heap.size, 1, none⟩ = some (.int .u64 (m.num : Int)) ∧ w'.cell? ⟨w.heap.size + 1, 0, none⟩ = some (.int .i64 (m'.frm : Int)) ∧ w'.cell? ⟨w.heap.size + 1, 1, none⟩ = some (.int .u64 (m'.num : Int))) (first | exact twoNames_cells hM0 | exact twoNames_cells (by assumption)) (first | (go_at_call 31; refine (HF.out _ _ _ (by first | exact hM0 | assumption)).mono ?_; rintro e w1 ⟨rfl, hm⟩))
  all_goals
    have hP := HA.out _ hm
    obtain ⟨c0, _, _, _, _⟩ := hP.cells
    obtain ⟨b, o, cap, he, hb, k0, k1, k2, k3⟩ := hP.elem HX.out
    rw [he] at c0
    have hlk := look_set (hP.sets _ (List.mem_of_getElem? HX.out)) i (by omega)
    have HE := Lib.hid (HM2.out.trans hm)
    rw [HI1.out, HI2.out]
    clear hP k0 k1 k2 he HF hM0 hm
    go_wp2
    go_ret
    exact ⟨rfl, HE.out⟩
set_option maxHeartbeats 2000000 in
theorem ahead_no (B : Nat) (s : Pa) (f x g y : Int) (w : World) (h : PastAt w B s) (hno : findI s.all f x < 0) :
    Calls Try.prog 13 #[.pointer (some ⟨B, 0, none⟩), .agg #[.int .i64 f, .int .u64 x], .agg #[.int .i64 g, .int .u64 y]] w (Told w (.bool false)) := by
  have HA : Hid (∀ W, Mod (fun _ => False) (twoNames w f x g y) W → PastAt W B s) := fun W hm => (h.same (twoNames_mod w _ _ _ _)).same hm
  have HF : Hid (∀ f' x' W, Mod (fun _ => False) (twoNames w f x g y) W → Calls Try.prog 31 #[.pointer (some ⟨B, 0, none⟩), .agg #[.int .i64 f', .int .u64 x']] W fun e w' => e = .returned (.int .i64 (findI s.all f' x')) ∧ Mod (fun _ => False) (twoNames w f x g y) w') := fun f' x' W hm =>
    (find_any B s f' x' W (HA.out W hm)).mono fun e w' ⟨h1, h2⟩ => ⟨h1, hm.trans h2⟩
  have HM2 := Lib.hid (twoNames_mod w f x g y)
  have HN := Lib.hid hno
  have hM0 : Mod (fun _ => False) (twoNames w f x g y) (twoNames w f x g y).drew := (Mod.refl _ _).drew
  clear h hno
  go_enter Try.func13, Try.ntmps13
  go_wp2_with fail
  go_region_held3 (fun w' => w'.cell? ⟨w.heap.size, 0, none⟩ = some (.int .i64 f) ∧ w'.cell? ⟨w.heap.size, 1, none⟩ = some (.int .u64 x) ∧ w'.cell? ⟨w.heap.size + 1, 0, none⟩ = some (.int .i64 g) ∧ w'.cell? ⟨w.heap.size + 1, 1, none⟩ = some (.int .u64 y)) (first | exact twoNames_cells hM0 | exact twoNames_cells (by assumption)) (first | (go_at_call 31; refine (HF.out _ _ _ (by first | exact hM0 | assumption)).mono ?_; rintro e w1 ⟨rfl, hm⟩))
  all_goals
    have HE := Lib.hid (HM2.out.trans hm)
    have t1 : decide (0 ≤ findI s.all f x) = false := decide_eq_false (by have := HN.out; omega)
    generalize findI s.all f x = r at *
    generalize findI s.all g y = r2 at *
    clear HF hM0 hm HN
    go_wp2
    go_ret
    exact ⟨rfl, HE.out⟩
end Go.Proofs.Yteicceikaecfcaa

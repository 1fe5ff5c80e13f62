/-
  DsetOrder's walk.
-/
import Derived.Test.YtkmfbddiebigfaaDoorDsH
import Derived.Test.YtkmfbddiebigfaaDoorDsR
import Derived.Deep.RegionHeld3
import Derived.Test.YtkmfbddiebigfaaDoorOpen
namespace Go.Proofs.YtkmfbddiebigfaaDoor
open Go.RowKit Go.Shoal

def intV (l : List Int) : List Value := l.map (Value.int .i64)
theorem intV_one (l : List Int) : ∀ u ∈ intV l, u.oneCell' = true := by
  intro u hu
  obtain ⟨k, _, rfl⟩ := List.mem_map.1 hu
  rfl
def IRow (w : World) (v : Value) (l : List Int) : Prop := RowOf w 3 1 v l.length (intV l)
theorem IRow.ints {w : World} {v : Value} {l : List Int} (h : IRow w v l) : Ints w v l := by
  obtain ⟨A, c, rfl⟩ := RowOf.form h
  refine ⟨A, c, rfl, ?_⟩
  cases l with
  | nil => exact .inl rfl
  | cons x r =>
    obtain ⟨b, o, cap, cur, he, hcur, _, hcells⟩ := RowOf.at h (by simp)
    cases he
    refine .inr ⟨b, o, rfl, fun i hi => ?_⟩
    rw [blk_cell hcur, hcells i (by omega)]
    unfold intV
    rw [List.getElem?_map, List.getD_eq_getElem?_getD, List.getElem?_eq_getElem hi]
    rfl
def IRel (w : World) (l : List Int) (v : Value) (wr : World) : Prop := IRow wr v l ∧ Mod (fun _ => False) w wr ∧ ∀ q, v.ownBlock = some q → w.heap.size ≤ q
theorem IRel.put2 {w wr w' : World} {l : List Int} {v v' : Value} {x : Int} (h : IRel w l v wr) (hr : RowOf w' 3 1 v' (l.length + 2) (intV l ++ [.int .i64 x, .int .i64 x])) (hg : (wr.drew.alloc (.cells #[.int .i64 x, .int .i64 x] 3)).grownBy w' v.ownBlock)
    (ho : v'.ownBlock = v.ownBlock ∨ v'.ownBlock = some (wr.heap.size + 1)) : IRel w (l ++ [x, x]) v' w' := by
  refine ⟨?_, ((h.2.1.drew).alloc _).grown hg (fun k hk => h.2.2 k hk), fun q hq => ?_⟩
  · have e1 : (l ++ [x, x]).length = l.length + 2 := by simp
    have e2 : intV (l ++ [x, x]) = intV l ++ [.int .i64 x, .int .i64 x] := by simp [intV]
    unfold IRow
    rw [e1, e2]
    exact hr
  · have := h.2.1.size
    rcases ho with ho | ho
    · exact h.2.2 q (ho ▸ hq)
    · rw [ho] at hq
      have := Option.some.inj hq
      omega
set_option maxRecDepth 100000 in
set_option maxHeartbeats 4000000 in
theorem order_any (v : Value) (l : List Int) (w : World) (h : Ints w v l) (hT : Tab w) (hE : Errs w) :
    Calls Tryd.prog 5 #[v] w fun e w' => e = .returned (.bool true) ∧ Mod (fun _ => False) w w' := by
  obtain ⟨i0, hii, hz0, hz1, hz2⟩ := info_parts Tryd.infoInt
  have HA := Lib.hid (awake_any w hT hE)
  have HT := Lib.hid hT
  have HI := Lib.hid h
  obtain ⟨A0, c0, rfl, -⟩ := h
  clear hT hE
  by_cases h70 : 70 < l.length
  · have t70 : decide (70 < (l.length : Int)) = true := decide_eq_true (by omega)
    go_enter Tryd.func5, Tryd.ntmps5
    go_wp2_with fail
    refine HA.out.mono ?_
    rintro e w1 ⟨rfl, hm⟩
    have HM := Lib.hid hm
    clear hm
    go_wp2
    go_ret
    exact ⟨rfl, HM.out⟩
  have t70 : decide (70 < (l.length : Int)) = false := decide_eq_false (by omega)
  have HO1 : Hid (∀ W, Mod (fun _ => False) w W → Calls Tryd.prog 11 #[.slice A0 l.length c0] W fun e w' => e = .returned (.int .u64 ((setOf l : Nat) : Int)) ∧ W = w') := fun W hW => of_any _ l W (HI.out.mod hW (fun _ _ h => h)) (by omega)
  have HO2 : Hid (∀ W v, Ints W v (twice l) → Calls Tryd.prog 11 #[v] W fun e w' => e = .returned (.int .u64 ((setOf l : Nat) : Int)) ∧ W = w') := fun W v hv => by
    have := of_any v (twice l) W hv (by rw [twice_len]; omega)
    rw [set_twice] at this
    exact this
  have hs := setOf_lt l
  have HF : Hid (∀ W, Tab W → Calls Tryd.prog 10 #[.int .u64 ((setOf l : Nat) : Int)] W fun e w' => e = .returned (pairV (firstOf (setOf l))) ∧ W = w') := fun W hW => first_any _ W hs hW
  have HH : Hid (∀ W, setOf l ≠ 0 → Calls Tryd.prog 13 #[.int .u64 ((setOf l : Nat) : Int), .int .i64 ((Lib.ctz 64 (setOf l) : Nat) : Int)] W fun e w' => e = .returned (.bool true) ∧ W = w') := fun W h0 => by
    have := has_any (setOf l) (Lib.ctz 64 (setOf l) : Nat) W hs
    rw [first_in _ hs h0] at this
    exact this
  have HAL : Hid (∀ W, Calls Tryd.prog 12 #[.int .i64 64] W fun e w' => e = .returned (.int .u64 ((allOf 64 : Nat) : Int)) ∧ W = w') := fun W => all_any 64 W
  have HAF : Hid (∀ W, Calls Tryd.prog 12 #[.int .i64 ((Lib.ctz 64 (setOf l) : Nat) : Int)] W fun e w' => e = .returned (.int .u64 ((allOf (Lib.ctz 64 (setOf l) : Nat) : Nat) : Int)) ∧ W = w') := fun W => all_any _ W
  have HWI : Hid (∀ W, setOf l ≠ 0 → Calls Tryd.prog 15 #[.int .u64 ((setOf l : Nat) : Int), .int .u64 (bits .andNot .u64 ((allOf 64 : Nat) : Int) ((allOf (Lib.ctz 64 (setOf l) : Nat) : Nat) : Int))] W fun e w' => e = .returned (.bool true) ∧ W = w') := fun W h0 => by
    rw [less_bits64 _ _ (allOf_lt _) (allOf_lt _)]
    have := within_any (setOf l) _ W hs (less_lt (allOf 64) (allOf (Lib.ctz 64 (setOf l) : Nat)) (allOf_lt _))
    rw [decide_eq_true (first_least _ hs h0)] at this
    exact this
  have HFZ : Hid (setOf l = 0 → firstOf (setOf l) = (0, false)) := fun h0 => by unfold firstOf; rw [if_pos h0]
  have HFN : Hid (setOf l ≠ 0 → firstOf (setOf l) = (((Lib.ctz 64 (setOf l) : Nat) : Int), true)) := fun h0 => by unfold firstOf; rw [if_neg h0]
  have HTD : Hid (∀ k, k < l.length → twice (l.drop k) = twice (l.drop (k + 1)) ++ [l.getD k 0, l.getD k 0]) := fun k hk => twice_drop l k hk
  have HTL : Hid (∀ k, (twice (l.drop k)).length ≤ 140) := fun k => by rw [twice_len, List.length_drop]; omega
  generalize firstOf (setOf l) = fo at *
  generalize allOf 64 = a64 at *
  generalize allOf (Lib.ctz 64 (setOf l) : Nat) = af at *
  generalize Lib.ctz 64 (setOf l) = kf at *
  generalize setOf l = s at *
  have hl70 : l.length ≤ 70 := by omega
  clear hs h70
  go_enter Tryd.func5, Tryd.ntmps5
  go_wp2_with fail
  refine HA.out.mono ?_
  rintro e w1 ⟨rfl, hm⟩
  have HM := Lib.hid hm
  have H0 : Hid (IRel w1 (twice (l.drop l.length)) (.slice none 0 0) w1) := by
    show IRel _ _ _ _
    rw [List.drop_length]
    exact ⟨RowOf.nil _ _ _, Mod.refl _ _, fun q hq => by cases hq⟩
  clear hm HA
  have hw0 : wrap64 ((l.length : Int) - 1) = (l.length : Int) - 1 := by simp only [wrap64]; omega
  go_wp2
  go_loopw [3, 4] (fun m i wr => ∃ (k : Nat) (x : Int) (v : Value), k ≤ l.length ∧ x + 1 = (k : Int) ∧ i = .int .i64 x ∧ v = m ∧ Hid (IRel w1 (twice (l.drop k)) v wr)) (fun _ i _ => (intOf i + 1).toNat)
  case atStart => exact ⟨l.length, _, _, Nat.le_refl _, by omega, rfl, rfl, H0⟩
  case round =>
    obtain ⟨k, x, v, hk, hx, rfl, rfl, hD⟩ := hrel
    cases k with
    | succ j =>
      obtain rfl : x = (j : Int) := by omega
      have hlt : j < l.length := by omega
      have hbW : ∀ {b o c}, Value.slice A0 l.length c0 = .slice (some ⟨b, o, none⟩) l.length c → b < w.heap.size := fun {b o c} e => by
        obtain ⟨A2, c2, e2, h2⟩ := HI.out
        obtain ⟨b2, o2, rfl, h4⟩ := h2.resolve_left (fun e => by rw [e] at hlt; simp at hlt)
        rw [e2] at e
        cases e
        have h3 := h4 j hlt
        exact Classical.byContradiction fun hh => by
          unfold World.cell? at h3
          rw [Array.getElem?_eq_none (show w.heap.size ≤ b by omega)] at h3
          cases h3
      have hIw : Ints wr (.slice A0 l.length c0) l := HI.out.mod (HM.out.trans hD.out.2.1) (fun _ _ h => h)
      obtain ⟨A1, c1, e1, hc⟩ := hIw
      cases e1
      obtain ⟨b, o, rfl, hc'⟩ := hc.resolve_left (fun e => by rw [e] at hlt; simp at hlt)
      have hcj := hc' j hlt
      have HTS : Hid (twice (l.drop j) = twice (l.drop (j + 1)) ++ [l.getD j 0, l.getD j 0]) := HTD.out j hlt
      have hi : (j : Int) < l.length := by omega
      have hi0 : (0 : Int) ≤ (j : Int) := by omega
      generalize l.getD j 0 = y at *
      generalize hdone : twice (l.drop (j + 1)) = done at *
      have HDL : Hid (done.length ≤ 140) := by rw [← hdone]; exact HTL.out _
      clear hdone hc hc' hx
      have HRW : Hid (RowOf (wr.drew.alloc (.cells #[.int .i64 y, .int .i64 y] 3)) 3 1 v done.length (intV done)) := RowOf.alloc (RowOf.mod hD.out.1 ((Mod.refl (fun _ => False) _).drew) (fun _ _ x => x)) _
      have HX : Hid (SrcOk (wr.drew.alloc (.cells #[.int .i64 y, .int .i64 y] 3)) (.slice (some ⟨wr.heap.size, 0, none⟩) 2 2) 2 1 [.int .i64 y, .int .i64 y]) := SrcOk.block (blk_new wr.drew _) rfl (fun j u hu => by rw [Nat.zero_add]; simpa using hu) (by simp [Value.oneCell'])
      have HDD := Lib.hid hD.out
      have hbz : b < wr.heap.size := Nat.lt_of_lt_of_le (hbW rfl) (HM.out.trans hD.out.2.1).size
      have HOB : Hid (v.ownBlock = some b → False) := fun e => by
        have h1 := hD.out.2.2 b e
        have h2 := HM.out.size
        have h3 := hbW rfl
        omega
      have hcA : (wr.drew.alloc (.cells #[.int .i64 y, .int .i64 y] 3)).cell? ⟨b, o + j, none⟩ = some (.int .i64 y) := (World.cell?_of_block (Below.heap_alloc wr.drew _ b hbz)).trans hcj
      clear hD
      go_wp2_with fail
      go_region_held3 (fun w' => w'.cell? ⟨b, o + j, none⟩ = some (.int .i64 y)) (first | exact hcA | exact hcB | assumption) (first | (refine step_append_row (by rfl) _ _ 35 (by rfl) i0 (.int .i64 0) 8 Tryd.underlying35 hii hz0 hz1 hz2 (by rfl) (by omega) (by rfl) HRW.out (intV_one _) _ 2 [.int .i64 y, .int .i64 y] (by rfl) HX.out (by have := HDL.out; unfold maxLen; omega) (by have := HDL.out; omega) ?_; intro v' w' hv1 hv2 hv3; have HE := Lib.hid (HDD.out.put2 hv1 hv2 (by simpa using hv3)); have hcB : w'.cell? ⟨b, o + j, none⟩ = some (.int .i64 y) := (World.cell?_of_block (hv2.block b (by show b < (wr.heap.push _).size; rw [Array.size_push]; omega) (fun e => HOB.out e.symm))).trans hcA; clear hv1 hv2 hv3))
      all_goals go_wp2
      all_goals go_roundw
      all_goals first
        | exact ⟨j, (j : Int) - 1, _, by omega, by omega, by go_num, rfl, by show IRel _ _ _ _; rw [HTS.out]; exact HE.out⟩
        | (simp [intOf] <;> omega)
    | zero =>
      obtain rfl : x = -1 := by omega
      have hD0 := hD.out
      rw [List.drop_zero] at hD0
      have HMW : Hid (Mod (fun _ => False) w wr) := HM.out.trans hD0.2.1
      have HOA := Lib.hid (HO1.out wr HMW.out)
      have HOB := Lib.hid (HO2.out wr v hD0.1.ints)
      have HFI := Lib.hid (HF.out wr (HT.out.mod HMW.out (fun h => h)))
      clear hD0 hD hx hk HTD HTL
      by_cases h0 : s = 0
      · subst h0
        obtain rfl := HFZ.out rfl
        have HFJ : Hid (Calls Tryd.prog 10 #[.int .u64 ((0 : Nat) : Int)] wr fun e w' => e = .returned (.tuple #[.int .i64 0, .bool false]) ∧ wr = w') := HFI.out
        go_wp2_with fail
        refine HOA.out.mono ?_
        rintro e w2 ⟨rfl, rfl⟩
        go_wp2_with fail
        refine HFJ.out.mono ?_
        rintro e w2 ⟨rfl, rfl⟩
        go_wp2_with fail
        refine HOB.out.mono ?_
        rintro e w2 ⟨rfl, rfl⟩
        go_wp2
        go_ret
        exact ⟨rfl, HMW.out⟩
      · obtain rfl := HFN.out h0
        have HFJ : Hid (Calls Tryd.prog 10 #[.int .u64 (s : Int)] wr fun e w' => e = .returned (.tuple #[.int .i64 (kf : Int), .bool true]) ∧ wr = w') := HFI.out
        have HH1 := Lib.hid (HH.out wr h0)
        have HWI1 := Lib.hid (HWI.out wr h0)
        have t0 : ((s : Int) != 0) = true := by rw [bne_iff_ne]; omega
        clear h0 HFZ HFN
        go_wp2_with fail
        refine HOA.out.mono ?_
        rintro e w2 ⟨rfl, rfl⟩
        go_wp2_with fail
        refine HFJ.out.mono ?_
        rintro e w2 ⟨rfl, rfl⟩
        go_wp2_with fail
        refine HOB.out.mono ?_
        rintro e w2 ⟨rfl, rfl⟩
        go_wp2_with fail
        refine HH1.out.mono ?_
        rintro e w2 ⟨rfl, rfl⟩
        go_wp2_with fail
        refine (HAL.out _).mono ?_
        rintro e w2 ⟨rfl, rfl⟩
        go_wp2_with fail
        refine (HAF.out _).mono ?_
        rintro e w2 ⟨rfl, rfl⟩
        go_wp2_with fail
        refine HWI1.out.mono ?_
        rintro e w2 ⟨rfl, rfl⟩
        go_wp2
        go_ret
        exact ⟨rfl, HMW.out⟩
theorem nums_ints {w : World} {v : Value} {l : List Int} (h : NumsIn .i64 w v l) : Ints w v l := by
  obtain ⟨A, c, rfl, _, h, _⟩ := h
  exact ⟨A, c, rfl, h.imp id fun ⟨b, o, e, _, hc⟩ => ⟨b, o, e, hc⟩⟩
theorem cellsInt : Tryd.prog.cellsOf 3 = 1 := by kernel_rfl
set_option maxRecDepth 100000 in
theorem order_walk {H : Type} {enc : TypeId × Value → H} {b0 : Nat} {d : DataW H} {ps : List MemPlace} (W : World) (hL : Tab W ∧ Errs W) (v : Value) (hok : Value.okWide Tryd.prog W .any b0 35 v)
    (h : DataW.Trod enc Tryd.prog W 0 (fun _ => true) true 35 v d ps) : Calls Tryd.prog 5 #[v] W fun e w' => e = .returned (.bool true) ∧ Below W.heap.size W w' := by
  obtain ⟨l, hz⟩ := open_nums (k := .i64) Tryd.underlying35 Tryd.underlying3 cellsInt hok h
  exact (order_any v l W (nums_ints hz) hL.1 hL.2).mono fun _ _ ⟨x, y⟩ => ⟨x, y.none_below⟩
end Go.Proofs.YtkmfbddiebigfaaDoor

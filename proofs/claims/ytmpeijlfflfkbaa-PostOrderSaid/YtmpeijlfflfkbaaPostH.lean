/-
  The walk of PostOrder.
-/
import Derived.Test.YtmpeijlfflfkbaaPostG
import Derived.StillTailTactics
import Derived.IntWalk
import Derived.Outline
namespace Go.Proofs.Ytmpeijlfflfkbaa
open Go.RowKit Go.Shoal Go.Conc

/-- The numbers at lo, lo + B, .. below hi. -/
def colv (zs : List Int) (B hi lo : Nat) : List Value := if _h : lo < hi then .int .i64 (zs.getD lo 0) :: colv zs B hi (lo + (B - 1) + 1) else []
termination_by hi - lo
theorem colv_in {zs : List Int} {B hi lo : Nat} (hB : 1 ≤ B) (h : lo < hi) : colv zs B hi lo = .int .i64 (zs.getD lo 0) :: colv zs B hi (lo + B) := by
  rw [colv, dif_pos h, show lo + (B - 1) + 1 = lo + B by omega]
theorem colv_end {zs : List Int} {B hi lo : Nat} (h : hi ≤ lo) : colv zs B hi lo = [] := by
  rw [colv, dif_neg (by omega)]
theorem colv_snoc (zs : List Int) (B hi : Nat) (hB : 1 ≤ B) : ∀ (m lo : Nat), hi + 1 - lo ≤ m → colv zs B (hi + 1) lo = if lo ≤ hi ∧ hi % B = lo % B then colv zs B hi lo ++ [.int .i64 (zs.getD hi 0)] else colv zs B hi lo := by
  intro m
  induction m with
  | zero => intro lo h; rw [colv_end (by omega), colv_end (by omega), if_neg (by omega)]
  | succ m ih =>
    intro lo h
    rcases Nat.lt_trichotomy lo hi with hl | rfl | hl
    · rw [colv_in hB (by omega), colv_in hB hl, ih (lo + B) (by omega)]
      have hm : (lo + B) % B = lo % B := Nat.add_mod_right lo B
      rw [hm]
      by_cases hc : hi % B = lo % B
      · have hle : lo + B ≤ hi := by
          have hd : (hi - lo) % B = 0 := Nat.sub_mod_eq_zero_of_mod_eq hc
          have := Nat.le_of_dvd (by omega) (Nat.dvd_of_mod_eq_zero hd)
          omega
        rw [if_pos ⟨hle, hc⟩, if_pos ⟨by omega, hc⟩]
        rfl
      · rw [if_neg (fun h => hc h.2), if_neg (fun h => hc h.2)]
    · rw [colv_in hB (by omega), colv_end (by omega), colv_end (Nat.le_refl _), if_pos ⟨Nat.le_refl _, rfl⟩]
      rfl
    · rw [colv_end (by omega), colv_end (by omega), if_neg (by omega)]
theorem colv_len (zs : List Int) (B hi : Nat) (hB : 1 ≤ B) : ∀ (m lo : Nat), hi - lo ≤ m → (colv zs B hi lo).length ≤ hi - lo := by
  intro m
  induction m with
  | zero => intro lo h; rw [colv_end (by omega)]; simp
  | succ m ih =>
    intro lo h
    by_cases hl : lo < hi
    · rw [colv_in hB hl]
      have := ih (lo + B) (by omega)
      simp only [List.length_cons]
      omega
    · rw [colv_end (by omega)]; simp
theorem BoxesI.congr {base : Nat} {w : World} {p n room : Nat} {ls ls' : Nat → List Value} (h : BoxesI base w p n room ls) (e : ∀ i, i < n → ls i = ls' i) : BoxesI base w p n room ls' := by
  obtain ⟨g, c, h0, h1, h2, h3, h4, h5⟩ := h
  exact ⟨g, c, h0, h1, h2, h3, fun i hi => by rw [← e i hi]; exact h4 i hi, h5⟩
theorem BoxesI.drew {base : Nat} {w : World} {p n room : Nat} {ls : Nat → List Value} (h : BoxesI base w p n room ls) : BoxesI base w.drew p n room ls := h
/-- While PostOrder puts. -/
def FillRel (w : World) (base p : Nat) (zs : List Int) (B i : Nat) (wr : World) : Prop := BoxesI base wr p B 64 (fun b => colv zs B i b) ∧ Below w.heap.size w wr
theorem FillRel.step {w w1 : World} {base p B i : Nat} {zs : List Int} (hB : 1 ≤ B) (hb : BoxesI base w1 p B 64 (setLs (fun b => colv zs B i b) (i % B) (colv zs B i (i % B) ++ [.int .i64 (zs.getD i 0)]))) (hW : Below w.heap.size w w1) : FillRel w base p zs B (i + 1) w1 := by
  refine ⟨hb.congr (fun b hlt => ?_), hW⟩
  have hm : b % B = b := Nat.mod_eq_of_lt hlt
  show setLs _ _ _ b = colv zs B (i + 1) b
  rw [colv_snoc zs B i hB _ b (Nat.le_refl _)]
  unfold setLs
  by_cases hc : b = i % B
  · have := Nat.mod_le i B
    rw [if_pos hc, if_pos ⟨by omega, by rw [hm, hc]⟩, hc]
  · rw [if_neg hc, if_neg (fun h => hc (by rw [← hm]; exact h.2.symm))]
/-- The boxes while PostOrder takes. -/
def drainLs (zs : List Int) (B b i : Nat) : Nat → List Value := fun c => if c < b then [] else if c = b then colv zs B zs.length i else colv zs B zs.length c
def DrainRel (w : World) (base p : Nat) (zs : List Int) (B b i : Nat) (wr : World) : Prop := BoxesI base wr p B 64 (drainLs zs B b i) ∧ Below w.heap.size w wr
theorem DrainRel.first {w wr : World} {base p B : Nat} {zs : List Int} (h : FillRel w base p zs B zs.length wr) : DrainRel w base p zs B 0 0 wr :=
  ⟨h.1.congr (fun b _ => by unfold drainLs; rw [if_neg (by omega)]; split; (next e => rw [e]); rfl), h.2⟩
theorem DrainRel.next {w wr : World} {base p B b i : Nat} {zs : List Int} (h : DrainRel w base p zs B b i wr) (hi : zs.length ≤ i) : DrainRel w base p zs B (b + 1) (b + 1) wr := by
  refine ⟨h.1.congr (fun c _ => ?_), h.2⟩
  unfold drainLs
  rcases Nat.lt_trichotomy c b with hc | hc | hc
  · rw [if_pos hc, if_pos (by omega)]
  · rw [if_neg (by omega), if_pos hc, if_pos (by omega), colv_end hi]
  · rw [if_neg (by omega), if_neg (by omega), if_neg (by omega)]
    split
    · next e => rw [e]
    · rfl
theorem DrainRel.take {w w1 : World} {base p B b i : Nat} {zs : List Int} (hb : BoxesI base w1 p B 64 (setLs (drainLs zs B b i) b (colv zs B zs.length (i + B)))) (hW : Below w.heap.size w w1) : DrainRel w base p zs B b (i + B) w1 := by
  refine ⟨hb.congr (fun c _ => ?_), hW⟩
  unfold setLs drainLs
  by_cases hc : c = b
  · rw [if_pos hc, if_neg (by omega), if_pos hc]
  · rw [if_neg hc, if_neg hc, if_neg hc]

set_option maxHeartbeats 1000000 in
theorem order_out (v : Value) (zs : List Int) (B : Int) (w : World) (hz : NumsIn .i64 w v zs) (h : 60 < zs.length ∨ (zs.length ≤ 60 ∧ B < 1) ∨ (zs.length ≤ 60 ∧ 1 ≤ B ∧ 16 < B)) :
    Calls Try.prog 3 #[v, .int .i64 B] w fun e w' => e = .returned (.bool true) ∧ Below w.heap.size w w' := by
  obtain ⟨A, c, rfl, hl, hz⟩ := hz
  unfold maxLen at hl
  clear hz
  have HA := Lib.hid (awake_any w)
  rcases h with h | ⟨h, h1⟩ | ⟨h, h1, h2⟩
  · have t1 : decide (60 < (zs.length : Int)) = true := decide_eq_true (by omega)
    go_enter Try.func3, Try.ntmps3
    go_wp2_with fail
    refine HA.out.mono ?_
    rintro e w1 ⟨rfl, hm⟩
    have HM := Lib.hid hm
    clear hm
    go_wp2
    go_ret
    exact ⟨rfl, HM.out⟩
  all_goals
    have t1 : decide (60 < (zs.length : Int)) = false := decide_eq_false (by omega)
    go_enter Try.func3, Try.ntmps3
    go_wp2_with fail
    refine HA.out.mono ?_
    rintro e w1 ⟨rfl, hm⟩
    have HM := Lib.hid hm
    clear hm
    go_wp2
    go_ret
    exact ⟨rfl, HM.out⟩

set_option maxRecDepth 100000 in
set_option maxHeartbeats 4000000 in
theorem order_in (v : Value) (zs : List Int) (B : Nat) (w : World) (hz : NumsIn .i64 w v zs) (h1 : 1 ≤ B) (h2 : B ≤ 16) (h3 : zs.length ≤ 60) :
    Calls Try.prog 3 #[v, .int .i64 B] w fun e w' => e = .returned (.bool true) ∧ Below w.heap.size w w' := by
  obtain ⟨A, c, rfl, hl, hz, hwf⟩ := hz
  have t1 : decide ((B : Int) < 1) = false := decide_eq_false (by omega)
  have t2 : decide (16 < (B : Int)) = false := decide_eq_false (by omega)
  have t3 : decide (60 < (zs.length : Int)) = false := decide_eq_false (by omega)
  have HZ := Lib.hid hz
  have HA := Lib.hid (awake_any w)
  clear hz hl hwf
  go_enter Try.func3, Try.ntmps3
  go_wp2_with fail
  refine HA.out.mono ?_
  rintro e w1 ⟨rfl, hm⟩
  have HM := Lib.hid hm
  have HN := Lib.hid (new_ok_I B 64 w1 h1 h2 (by omega) (by omega))
  clear hm
  go_wp2_with fail
  refine HN.out.mono ?_
  rintro e w2 ⟨rfl, hb, hw⟩
  have H0 : Hid (FillRel w w1.heap.size (w1.heap.size + 1) zs B 0 w2) := ⟨hb.congr (fun b _ => (colv_end (Nat.zero_le _)).symm), below_of HM.out hw⟩
  have HW : Hid (w.heap.size ≤ w1.heap.size) := HM.out.size
  generalize w1.heap.size + 1 = p at *
  generalize w1.heap.size = base at *
  clear hb hw
  go_wp2
  go_loopw [7] (fun i wr => ∃ j : Nat, j ≤ zs.length ∧ i = .int .i64 j ∧ Hid (FillRel w base p zs B j wr)) (fun i _ => zs.length - (intOf i).toNat)
  case atStart => exact ⟨0, Nat.zero_le _, rfl, H0⟩
  case round =>
    obtain ⟨j, hj, rfl, hR⟩ := hrel
    by_cases hlt : j < zs.length
    · obtain ⟨b, o, rfl, hc⟩ := nums_cell HZ.out hR.out.2 j hlt
      have hi : (j : Int) < zs.length := by omega
      have hmlt := Nat.mod_lt j (show 0 < B by omega)
      have hBne : ¬ B = 0 := by omega
      have hC := (putt_I base p B 64 _ (j % B) (.int .i64 (zs.getD j 0)) wr.drew hR.out.1.drew hmlt (by have := colv_len zs B j h1 _ (j % B) (Nat.le_refl _); show (colv zs B j (j % B)).length < 64; omega))
      rw [show ((j % B : Nat) : Int) = (j : Int).tmod (B : Int) from rfl] at hC
      have HC := Lib.hid hC
      clear hC
      have HR : Hid (∀ w5, BoxesI base w5 p B 64 (setLs (fun b => colv zs B j b) (j % B) (colv zs B j (j % B) ++ [.int .i64 (zs.getD j 0)])) → Below base wr.drew w5 → FillRel w base p zs B (j + 1) w5) := fun w5 h5 h6 => FillRel.step h1 h5 ((hR.out.2.drew).trans (h6.mono HW.out))
      generalize zs.getD j 0 = x at *
      clear hmlt
      have hB0 : (0 : Int) < (B : Int) := by omega
      have hj0 : (0 : Int) ≤ (j : Int) := by omega
      go_wp2_with fail
      go_still_tail 8, (by kernel_rfl)
      change wpList _ _ _ _ _ wr.drew
      go_wp2_with fail
      refine HC.out.mono ?_
      rintro e w5 ⟨rfl, hb, hw⟩
      have HR5 := Lib.hid (HR.out w5 hb hw)
      clear hb hw
      go_wp2
      go_roundw
      case rel => exact ⟨j + 1, by omega, by go_num, HR5⟩
      case measure => simp [intOf]; omega
    · obtain rfl : j = zs.length := by omega
      have hi : decide ((zs.length : Int) < (zs.length : Int)) = false := decide_eq_false (by omega)
      have HD := Lib.hid (DrainRel.first hR.out)
      go_wp2
      go_loopw [8] (fun b wr => ∃ q : Nat, q ≤ B ∧ b = .int .i64 q ∧ Hid (DrainRel w base p zs B q q wr)) (fun b _ => B - (intOf b).toNat)
      case atStart => exact ⟨0, Nat.zero_le _, rfl, HD⟩
      case round =>
        obtain ⟨q, hq, rfl, hE⟩ := hrel
        by_cases hqB : q < B
        · have tq : decide ((q : Int) < (B : Int)) = true := decide_eq_true (by omega)
          clear hi
          go_wp2
          go_loopw [9] (fun i wr => ∃ r : Nat, r ≤ zs.length + B ∧ i = .int .i64 r ∧ Hid (DrainRel w base p zs B q r wr)) (fun i _ => zs.length + B - (intOf i).toNat)
          case atStart => exact ⟨q, by omega, rfl, hE⟩
          case round =>
            obtain ⟨r, hr, rfl, hF⟩ := hrel
            by_cases hrl : r < zs.length
            · have tr : decide ((r : Int) < (zs.length : Int)) = true := decide_eq_true (by omega)
              have hr0 : (0 : Int) ≤ (r : Int) := by omega
              have hri : (r : Int) < (zs.length : Int) := by omega
              have HC := Lib.hid (anyc_I base p B 64 _ q (.int .i64 (zs.getD r 0)) (colv zs B zs.length (r + B)) _ hF.out.1 h2 hqB (fun j hj => by unfold drainLs; rw [if_pos hj]) (by unfold drainLs; rw [if_neg (by omega), if_pos rfl, colv_in h1 hrl]))
              have HX : Hid (r < zs.length) := hrl
              have HK : Hid (∀ w5, BoxesI base w5 p B 64 (setLs (drainLs zs B q r) q (colv zs B zs.length (r + B))) → Below base _ w5 → DrainRel w base p zs B q (r + B) w5) := fun w5 h5 h6 => DrainRel.take h5 (hF.out.2.trans (h6.mono HW.out))
              have HZ2 : Hid (∀ w5, Below w.heap.size w w5 → ∃ b o, A = some ⟨b, o, none⟩ ∧ w5.cell? ⟨b, o + r, none⟩ = some (.int .i64 (zs.getD r 0))) := fun w5 h5 => nums_cell HZ.out h5 r hrl
              generalize zs.getD r 0 = x at *
              go_wp2_with fail
              refine HC.out.mono ?_
              rintro e w5 ⟨rfl, hb, hw⟩
              have HR5 := Lib.hid (HK.out w5 hb hw)
              obtain ⟨b, o, rfl, hc⟩ := HZ2.out w5 HR5.out.2
              clear hb hw
              go_wp2
              go_roundw
              case rel => exact ⟨r + B, by omega, by go_num, HR5⟩
              case measure => simp [intOf]; omega
            · have tr : decide ((r : Int) < (zs.length : Int)) = false := decide_eq_false (by omega)
              have HG := Lib.hid (DrainRel.next hF.out (by omega))
              go_wp2
              go_roundw
              case rel => exact ⟨q + 1, by omega, by go_num, HG⟩
              case measure => simp [intOf]; omega
        · obtain rfl : q = B := by omega
          have tq : decide ((q : Int) < (q : Int)) = false := decide_eq_false (by omega)
          clear hi
          have HC := Lib.hid (anyn_I base p q 64 _ _ hE.out.1 h2 (fun j hj => by unfold drainLs; rw [if_pos hj]))
          go_wp2_with fail
          refine HC.out.mono ?_
          rintro e w5 ⟨rfl, hb, hw⟩
          have HW5 := Lib.hid (hE.out.2.trans (hw.mono HW.out))
          clear hb hw
          go_wp2
          go_ret
          exact ⟨rfl, HW5.out⟩
theorem order_any (v : Value) (zs : List Int) (B : Int) (w : World) (hz : NumsIn .i64 w v zs) :
    Calls Try.prog 3 #[v, .int .i64 B] w fun e w' => e = .returned (.bool true) ∧ Below w.heap.size w w' := by
  by_cases h : 60 < zs.length ∨ (zs.length ≤ 60 ∧ B < 1) ∨ (zs.length ≤ 60 ∧ 1 ≤ B ∧ 16 < B)
  · exact order_out v zs B w hz h
  · obtain ⟨r, rfl⟩ := Int.eq_ofNat_of_zero_le (show 0 ≤ B by omega)
    exact order_in v zs r w hz (by omega) (by omega) (by omega)
theorem order_walk {H : Type} {enc : TypeId × Value → H} {b0 : Nat} {d : DataW H} {ps : List MemPlace} (W : World) (v : Value) (hok : Value.okWide Try.prog W .any b0 22 v)
    (h : DataW.Trod enc Try.prog W 0 (fun _ => true) true 22 v d ps) (B : Int) (_ : (Lit.int .i64 B).wf = true) : Calls Try.prog 3 #[v, .int .i64 B] W fun e w' => e = .returned (.bool true) ∧ Below W.heap.size W w' := by
  obtain ⟨zs, hz⟩ := open_nums Try.underlying22 Try.underlying3 Try.cellsInt hok h
  exact order_any v zs B W hz
end Go.Proofs.Ytmpeijlfflfkbaa
